/- Models of Go functions and their contracts, printed by a program of this session. -/
import Derived.Test.YtdoaceeakjbgfaaClMFnDatesx0
set_option linter.unusedVariables false
set_option maxRecDepth 100000
namespace Go.Proofs.Ytdoaceeakjbgfaa
open Go Go.Rai
noncomputable section
/-!-/
abbrev T_Z73:=Int→List D→Int→Int→List D→List D→List D→List D→List D→Option (Int×List D×List D×List D)
def c_Z73 {R:Type} (F:T_Z73) (x0:Int) (x1:List D) (x2 x3:Int) (x4 x5 x6 x7 x8:List D) (k:Int×List D×List D×List D→Option R):Option R:=
 bif decide (x3<x2) then
 if 0≤x3∧x3<(↑x1.length:Int) then
 (Z57 x4 x5 (((x1.getD x3.toNat (D.int 0)).fld (0:Nat)).toInt)).bind (fun y0=>
 (Z57 x4 x5 (((x1.getD x3.toNat (D.int 0)).fld (1:Nat)).toInt)).bind (fun y1=>
 if 0≤y0∧y0<(↑x7.length:Int) then
 if y0.toNat+1≤x7.length then
 if y0.toNat+1≤x7.length then
 if 0≤y1∧y1<(↑(x7.getD y0.toNat (D.int 0)).items.length:Int) then
 if y0.toNat+1≤x7.length then
 if y1.toNat+1≤(x7.getD y0.toNat (D.int 0)).items.length then
 if 0≤y0∧y0<(↑x8.length:Int) then
 if y0.toNat+1≤x8.length then
 if y0.toNat+1≤x8.length then
 if 0≤y1∧y1<(↑(x8.getD y0.toNat (D.int 0)).items.length:Int) then
 if y0.toNat+1≤x8.length then
 if y1.toNat+1≤(x8.getD y0.toNat (D.int 0)).items.length then
 (F x0 x1 x2 (IntKind.i64.wrap (x3+1)) x4 x5 x6 (x7.set y0.toNat (D.node ((x7.getD y0.toNat (D.int 0)).items.set y1.toNat (D.bool Bool.true)))) (x8.set y0.toNat (D.node ((x8.getD y0.toNat (D.int 0)).items.set y1.toNat (D.bool Bool.true))))).bind k
 else
 none
 else
 none
 else
 none
 else
 none
 else
 none
 else
 none
 else
 none
 else
 none
 else
 none
 else
 none
 else
 none
 else
 none))
 else
 none
 else
 k (x0,x6,x7,x8)
theorem c_Z73_bind {R:Type} (F:T_Z73) (x0:Int) (x1:List D) (x2 x3:Int) (x4 x5 x6 x7 x8:List D) (k:Int×List D×List D×List D→Option R):c_Z73 F x0 x1 x2 x3 x4 x5 x6 x7 x8 k=(c_Z73 F x0 x1 x2 x3 x4 x5 x6 x7 x8 some).bind k:=by
 unfold c_Z73
 repeat' first
  | exact Jy
  | exact Jx
  | exact Jw
  | apply Jt
  | apply Ju
  | apply Jz
  | (apply Jv; intro _)
  | intro _
def n_Z73:Nat→T_Z73
 | 0,_,_,_,_,_,_,_,_,_=>none
 | n+1,x0,x1,x2,x3,x4,x5,x6,x7,x8=>c_Z73 (n_Z73 n) x0 x1 x2 x3 x4 x5 x6 x7 x8 some
noncomputable def Z73 (x0:Int) (x1:List D) (x2 x3:Int) (x4 x5 x6 x7 x8:List D):Option (Int×List D×List D×List D):=ev (fun n=>n_Z73 n x0 x1 x2 x3 x4 x5 x6 x7 x8)
def m_Z73 (F:T_Z73):JA:=⟨9,⟨(.undef::.ptr 1000 [0]::.undef::.int .i64::.ptr 1001 [0]::uu 38 (.rd (.struct [.int .i64,.int .i64])::.int .i64::.int .i64::uu 89 ([]))),[(1000,.obox (.agg [.rd (.struct [.int .i64,.int .i64]),.rd (.struct [.int .i64,.int .i64])])),(1001,.obox (.agg [.own (.int .i64),.full 1002 [] (.slice (.bool)),.full 1003 [] (.slice (.bool))])),(1002,.own (.slice (.bool))),(1003,.own (.slice (.bool)))]⟩,[(.exit 2,⟨(.undef::.undef::.undef::.int .i64::.ptr 1000 [0]::uu 130 ([])),[(1000,.obox (.agg [.own (.int .i64),.full 1001 [] (.slice (.bool)),.full 1002 [] (.slice (.bool))])),(1001,.own (.slice (.bool))),(1002,.own (.slice (.bool)))]⟩)],fun _ ds k=>dI (fun x0 ds=>dL (fun x1 ds=>dI (fun x2 ds=>dI (fun x3 ds=>dL (fun x4 ds=>dL (fun x5 ds=>dL (fun x6 ds=>dL (fun x7 ds=>dL (fun x8 ds=>dE ((F x0 x1 x2 x3 x4 x5 x6 x7 x8).bind (fun y=>k 0 [.I y.1,.L y.2.1,.L y.2.2.1,.L y.2.2.2])) ds) ds) ds) ds) ds) ds) ds) ds) ds) ds⟩
theorem q_Z73 (F:T_Z73) (x0:Int) (x1:List D) (x2 x3:Int) (x4 x5 x6 x7 x8:List D):JZ (Jp [e_Z57]) (Jq [m_Z73 F]) A 125 (Jj (Jh Try.f125) 9) ((m_Z73 F).sh.mk' [.I x0,.L x1,.I x2,.I x3,.L x4,.L x5,.L x6,.L x7,.L x8]) (fun e σ'=>some (e,σ'))=c_Z73 F x0 x1 x2 x3 x4 x5 x6 x7 x8 (fun y=>some (.exit 2,SSt.mk' ⟨(.undef::.undef::.undef::.int .i64::.ptr 1000 [0]::uu 130 ([])),[(1000,.obox (.agg [.own (.int .i64),.full 1001 [] (.slice (.bool)),.full 1002 [] (.slice (.bool))])),(1001,.own (.slice (.bool))),(1002,.own (.slice (.bool)))]⟩ [.I y.1,.L y.2.1,.L y.2.2.1,.L y.2.2.2])):=by kernel_rfl
theorem m_Z73_ok:∀ n,(m_Z73 (n_Z73 n)).ok Try.prog (Jj (Jh Try.f125) 9):=by
 intro n
 induction n with
 | zero=>
  intro R ds k r h
  unfold m_Z73 at h
  obtain ⟨_,_,rfl,h⟩:=Jb h
  obtain ⟨_,_,rfl,h⟩:=Ja h
  obtain ⟨_,_,rfl,h⟩:=Jb h
  obtain ⟨_,_,rfl,h⟩:=Jb h
  obtain ⟨_,_,rfl,h⟩:=Ja h
  obtain ⟨_,_,rfl,h⟩:=Ja h
  obtain ⟨_,_,rfl,h⟩:=Ja h
  obtain ⟨_,_,rfl,h⟩:=Ja h
  obtain ⟨_,_,rfl,h⟩:=Ja h
  obtain ⟨rfl,hE⟩:=Je h
  obtain ⟨y,hy,hk⟩:=Jf hE
  cases hy
 | succ n ih=>
  intro R ds k r h
  unfold m_Z73 at h
  obtain ⟨_,_,rfl,h⟩:=Jb h
  obtain ⟨_,_,rfl,h⟩:=Ja h
  obtain ⟨_,_,rfl,h⟩:=Jb h
  obtain ⟨_,_,rfl,h⟩:=Jb h
  obtain ⟨_,_,rfl,h⟩:=Ja h
  obtain ⟨_,_,rfl,h⟩:=Ja h
  obtain ⟨_,_,rfl,h⟩:=Ja h
  obtain ⟨_,_,rfl,h⟩:=Ja h
  obtain ⟨_,_,rfl,h⟩:=Ja h
  obtain ⟨rfl,hE⟩:=Je h
  obtain ⟨y,hy,hk⟩:=Jf hE
  exact ⟨0,_,_,_,hk,rfl,JO px (fx:=⟨Try.func125,by kernel_rfl,by kernel_rfl⟩) (Jr e_Z57_ok Jm) (Jo ih Jn) (by kernel_rfl) ((q_Z73 ..).trans ((c_Z73_bind ..).trans (Jg hy)))⟩
noncomputable def e_Z73:JA:=m_Z73 (Z73)
theorem e_Z73_ok:(e_Z73).ok Try.prog (Jj (Jh Try.f125) 9):=by
 intro R ds k r h
 unfold e_Z73 m_Z73 at h
 obtain ⟨_,_,rfl,h⟩:=Jb h
 obtain ⟨_,_,rfl,h⟩:=Ja h
 obtain ⟨_,_,rfl,h⟩:=Jb h
 obtain ⟨_,_,rfl,h⟩:=Jb h
 obtain ⟨_,_,rfl,h⟩:=Ja h
 obtain ⟨_,_,rfl,h⟩:=Ja h
 obtain ⟨_,_,rfl,h⟩:=Ja h
 obtain ⟨_,_,rfl,h⟩:=Ja h
 obtain ⟨_,_,rfl,h⟩:=Ja h
 obtain ⟨rfl,hE⟩:=Je h
 obtain ⟨y,hy,hk⟩:=Jf hE
 obtain ⟨n,hn⟩:=J4 hy
 exact m_Z73_ok n R _ k r ((Jg hn).trans hk)

/-!-/
abbrev T_Z74:=Int→Int→Int→Int→Int→Int→Int→Int→Int→List D→List D→List D→Option (Int×Int×Int×Int×Int×Int×List D×List D×List D)
def c_Z74 {R:Type} (F:T_Z74) (x0 x1 x2 x3 x4 x5 x6 x7 x8:Int) (x9 x10 x11:List D) (k:Int×Int×Int×Int×Int×Int×List D×List D×List D→Option R):Option R:=
 bif decide (x8<x7) then
 if 0≤x2∧x2<(↑x11.length:Int) then
 if x2.toNat+1≤x11.length then
 if 0≤x2∧x2<(↑x11.length:Int) then
 if x2.toNat+1≤x11.length then
 if x2.toNat+1≤x11.length then
 if 0≤x8∧x8<(↑(x11.getD x2.toNat (D.int 0)).items.length:Int) then
 if x2.toNat+1≤x11.length then
 if x8.toNat+1≤(x11.getD x2.toNat (D.int 0)).items.length then
 bif ((x11.getD x2.toNat (D.int 0)).items.getD x8.toNat (D.int 0)).toBool then
 if x2.toNat+1≤x11.length then
 if 0≤x8∧x8<(↑(x11.getD x2.toNat (D.int 0)).items.length:Int) then
 if x2.toNat+1≤x11.length then
 if x8.toNat+1≤(x11.getD x2.toNat (D.int 0)).items.length then
 (F x0 x1 x2 x3 x4 x5 x6 x7 (IntKind.i64.wrap (x8+1)) x9 x10 (x11.set x2.toNat (D.node ((x11.getD x2.toNat (D.int 0)).items.set x8.toNat (D.bool Bool.true))))).bind k
 else
 none
 else
 none
 else
 none
 else
 none
 else
 if 0≤x2∧x2<(↑x11.length:Int) then
 if x2.toNat+1≤x11.length then
 if x2.toNat+1≤x11.length then
 if 0≤x1∧x1<(↑(x11.getD x2.toNat (D.int 0)).items.length:Int) then
 if x2.toNat+1≤x11.length then
 if x1.toNat+1≤(x11.getD x2.toNat (D.int 0)).items.length then
 bif ((x11.getD x2.toNat (D.int 0)).items.getD x1.toNat (D.int 0)).toBool then
 if 0≤x1∧x1<(↑x11.length:Int) then
 if x1.toNat+1≤x11.length then
 if x1.toNat+1≤x11.length then
 if 0≤x8∧x8<(↑(x11.getD x1.toNat (D.int 0)).items.length:Int) then
 if x1.toNat+1≤x11.length then
 if x8.toNat+1≤(x11.getD x1.toNat (D.int 0)).items.length then
 if x2.toNat+1≤x11.length then
 if 0≤x8∧x8<(↑(x11.getD x2.toNat (D.int 0)).items.length:Int) then
 if x2.toNat+1≤x11.length then
 if x8.toNat+1≤(x11.getD x2.toNat (D.int 0)).items.length then
 (F x0 x1 x2 x3 x4 x5 x6 x7 (IntKind.i64.wrap (x8+1)) x9 x10 (x11.set x2.toNat (D.node ((x11.getD x2.toNat (D.int 0)).items.set x8.toNat (D.bool ((x11.getD x1.toNat (D.int 0)).items.getD x8.toNat (D.int 0)).toBool))))).bind k
 else
 none
 else
 none
 else
 none
 else
 none
 else
 none
 else
 none
 else
 none
 else
 none
 else
 none
 else
 none
 else
 if x2.toNat+1≤x11.length then
 if 0≤x8∧x8<(↑(x11.getD x2.toNat (D.int 0)).items.length:Int) then
 if x2.toNat+1≤x11.length then
 if x8.toNat+1≤(x11.getD x2.toNat (D.int 0)).items.length then
 (F x0 x1 x2 x3 x4 x5 x6 x7 (IntKind.i64.wrap (x8+1)) x9 x10 (x11.set x2.toNat (D.node ((x11.getD x2.toNat (D.int 0)).items.set x8.toNat (D.bool Bool.false))))).bind k
 else
 none
 else
 none
 else
 none
 else
 none
 else
 none
 else
 none
 else
 none
 else
 none
 else
 none
 else
 none
 else
 none
 else
 none
 else
 none
 else
 none
 else
 none
 else
 none
 else
 none
 else
 none
 else
 k (x0,x1,x3,x4,x5,x6,x9,x10,x11)
theorem c_Z74_bind {R:Type} (F:T_Z74) (x0 x1 x2 x3 x4 x5 x6 x7 x8:Int) (x9 x10 x11:List D) (k:Int×Int×Int×Int×Int×Int×List D×List D×List D→Option R):c_Z74 F x0 x1 x2 x3 x4 x5 x6 x7 x8 x9 x10 x11 k=(c_Z74 F x0 x1 x2 x3 x4 x5 x6 x7 x8 x9 x10 x11 some).bind k:=by
 unfold c_Z74
 repeat' first
  | exact Jy
  | exact Jx
  | exact Jw
  | apply Jt
  | apply Ju
  | apply Jz
  | (apply Jv; intro _)
  | intro _
def n_Z74:Nat→T_Z74
 | 0,_,_,_,_,_,_,_,_,_,_,_,_=>none
 | n+1,x0,x1,x2,x3,x4,x5,x6,x7,x8,x9,x10,x11=>c_Z74 (n_Z74 n) x0 x1 x2 x3 x4 x5 x6 x7 x8 x9 x10 x11 some
noncomputable def Z74 (x0 x1 x2 x3 x4 x5 x6 x7 x8:Int) (x9 x10 x11:List D):Option (Int×Int×Int×Int×Int×Int×List D×List D×List D):=ev (fun n=>n_Z74 n x0 x1 x2 x3 x4 x5 x6 x7 x8 x9 x10 x11)
def m_Z74 (F:T_Z74):JA:=⟨22,⟨(.undef::.undef::.undef::.int .i64::.ptr 1000 [0]::uu 6 (.int .i64::.int .i64::uu 63 (.int .i64::.int .i64::.undef::.undef::.int .i64::.int .i64::.undef::.undef::.int .i64::.int .i64::uu 49 ([])))),[(1000,.obox (.agg [.own (.int .i64),.full 1001 [] (.slice (.bool)),.full 1002 [] (.slice (.bool))])),(1001,.own (.slice (.bool))),(1002,.own (.slice (.bool)))]⟩,[(.exit 8,⟨(.undef::.undef::.undef::.int .i64::.ptr 1000 [0]::uu 6 (.int .i64::uu 64 (.int .i64::.int .i64::.undef::.undef::.int .i64::.int .i64::uu 53 ([])))),[(1000,.obox (.agg [.own (.int .i64),.full 1001 [] (.slice (.bool)),.full 1002 [] (.slice (.bool))])),(1001,.own (.slice (.bool))),(1002,.own (.slice (.bool)))]⟩)],fun _ ds k=>dI (fun x0 ds=>dI (fun x1 ds=>dI (fun x2 ds=>dI (fun x3 ds=>dI (fun x4 ds=>dI (fun x5 ds=>dI (fun x6 ds=>dI (fun x7 ds=>dI (fun x8 ds=>dL (fun x9 ds=>dL (fun x10 ds=>dL (fun x11 ds=>dE ((F x0 x1 x2 x3 x4 x5 x6 x7 x8 x9 x10 x11).bind (fun y=>k 0 [.I y.1,.I y.2.1,.I y.2.2.1,.I y.2.2.2.1,.I y.2.2.2.2.1,.I y.2.2.2.2.2.1,.L y.2.2.2.2.2.2.1,.L y.2.2.2.2.2.2.2.1,.L y.2.2.2.2.2.2.2.2])) ds) ds) ds) ds) ds) ds) ds) ds) ds) ds) ds) ds) ds⟩
theorem q_Z74 (F:T_Z74) (x0 x1 x2 x3 x4 x5 x6 x7 x8:Int) (x9 x10 x11:List D):JZ (Jp []) (Jq [m_Z74 F]) A 125 (Jj (Jh Try.f125) 22) ((m_Z74 F).sh.mk' [.I x0,.I x1,.I x2,.I x3,.I x4,.I x5,.I x6,.I x7,.I x8,.L x9,.L x10,.L x11]) (fun e σ'=>some (e,σ'))=c_Z74 F x0 x1 x2 x3 x4 x5 x6 x7 x8 x9 x10 x11 (fun y=>some (.exit 8,SSt.mk' ⟨(.undef::.undef::.undef::.int .i64::.ptr 1000 [0]::uu 6 (.int .i64::uu 64 (.int .i64::.int .i64::.undef::.undef::.int .i64::.int .i64::uu 53 ([])))),[(1000,.obox (.agg [.own (.int .i64),.full 1001 [] (.slice (.bool)),.full 1002 [] (.slice (.bool))])),(1001,.own (.slice (.bool))),(1002,.own (.slice (.bool)))]⟩ [.I y.1,.I y.2.1,.I y.2.2.1,.I y.2.2.2.1,.I y.2.2.2.2.1,.I y.2.2.2.2.2.1,.L y.2.2.2.2.2.2.1,.L y.2.2.2.2.2.2.2.1,.L y.2.2.2.2.2.2.2.2])):=by kernel_rfl
theorem m_Z74_ok:∀ n,(m_Z74 (n_Z74 n)).ok Try.prog (Jj (Jh Try.f125) 22):=by
 intro n
 induction n with
 | zero=>
  intro R ds k r h
  unfold m_Z74 at h
  obtain ⟨_,_,rfl,h⟩:=Jb h
  obtain ⟨_,_,rfl,h⟩:=Jb h
  obtain ⟨_,_,rfl,h⟩:=Jb h
  obtain ⟨_,_,rfl,h⟩:=Jb h
  obtain ⟨_,_,rfl,h⟩:=Jb h
  obtain ⟨_,_,rfl,h⟩:=Jb h
  obtain ⟨_,_,rfl,h⟩:=Jb h
  obtain ⟨_,_,rfl,h⟩:=Jb h
  obtain ⟨_,_,rfl,h⟩:=Jb h
  obtain ⟨_,_,rfl,h⟩:=Ja h
  obtain ⟨_,_,rfl,h⟩:=Ja h
  obtain ⟨_,_,rfl,h⟩:=Ja h
  obtain ⟨rfl,hE⟩:=Je h
  obtain ⟨y,hy,hk⟩:=Jf hE
  cases hy
 | succ n ih=>
  intro R ds k r h
  unfold m_Z74 at h
  obtain ⟨_,_,rfl,h⟩:=Jb h
  obtain ⟨_,_,rfl,h⟩:=Jb h
  obtain ⟨_,_,rfl,h⟩:=Jb h
  obtain ⟨_,_,rfl,h⟩:=Jb h
  obtain ⟨_,_,rfl,h⟩:=Jb h
  obtain ⟨_,_,rfl,h⟩:=Jb h
  obtain ⟨_,_,rfl,h⟩:=Jb h
  obtain ⟨_,_,rfl,h⟩:=Jb h
  obtain ⟨_,_,rfl,h⟩:=Jb h
  obtain ⟨_,_,rfl,h⟩:=Ja h
  obtain ⟨_,_,rfl,h⟩:=Ja h
  obtain ⟨_,_,rfl,h⟩:=Ja h
  obtain ⟨rfl,hE⟩:=Je h
  obtain ⟨y,hy,hk⟩:=Jf hE
  exact ⟨0,_,_,_,hk,rfl,JO px (fx:=⟨Try.func125,by kernel_rfl,by kernel_rfl⟩) Jm (Jo ih Jn) (by kernel_rfl) ((q_Z74 ..).trans ((c_Z74_bind ..).trans (Jg hy)))⟩
noncomputable def e_Z74:JA:=m_Z74 (Z74)
theorem e_Z74_ok:(e_Z74).ok Try.prog (Jj (Jh Try.f125) 22):=by
 intro R ds k r h
 unfold e_Z74 m_Z74 at h
 obtain ⟨_,_,rfl,h⟩:=Jb h
 obtain ⟨_,_,rfl,h⟩:=Jb h
 obtain ⟨_,_,rfl,h⟩:=Jb h
 obtain ⟨_,_,rfl,h⟩:=Jb h
 obtain ⟨_,_,rfl,h⟩:=Jb h
 obtain ⟨_,_,rfl,h⟩:=Jb h
 obtain ⟨_,_,rfl,h⟩:=Jb h
 obtain ⟨_,_,rfl,h⟩:=Jb h
 obtain ⟨_,_,rfl,h⟩:=Jb h
 obtain ⟨_,_,rfl,h⟩:=Ja h
 obtain ⟨_,_,rfl,h⟩:=Ja h
 obtain ⟨_,_,rfl,h⟩:=Ja h
 obtain ⟨rfl,hE⟩:=Je h
 obtain ⟨y,hy,hk⟩:=Jf hE
 obtain ⟨n,hn⟩:=J4 hy
 exact m_Z74_ok n R _ k r ((Jg hn).trans hk)

/-!-/
abbrev T_Z75:=Int→Int→Int→Int→Int→Int→List D→List D→List D→Option (Int×Int×Int×List D×List D×List D)
def c_Z75 {R:Type} (F:T_Z75) (x0 x1 x2 x3 x4 x5:Int) (x6 x7 x8:List D) (k:Int×Int×Int×List D×List D×List D→Option R):Option R:=
 bif decide (x5<x4) then
 (Z74 x0 x1 x5 x2 x3 x4 x5 x0 (0:Int) x6 x7 x8).bind (fun y0=>
 (F y0.fst y0.snd.fst y0.snd.snd.fst y0.snd.snd.snd.fst y0.snd.snd.snd.snd.fst (IntKind.i64.wrap (y0.snd.snd.snd.snd.snd.fst+1)) y0.snd.snd.snd.snd.snd.snd.fst y0.snd.snd.snd.snd.snd.snd.snd.fst y0.snd.snd.snd.snd.snd.snd.snd.snd).bind k)
 else
 k (x0,x2,x3,x6,x7,x8)
theorem c_Z75_bind {R:Type} (F:T_Z75) (x0 x1 x2 x3 x4 x5:Int) (x6 x7 x8:List D) (k:Int×Int×Int×List D×List D×List D→Option R):c_Z75 F x0 x1 x2 x3 x4 x5 x6 x7 x8 k=(c_Z75 F x0 x1 x2 x3 x4 x5 x6 x7 x8 some).bind k:=by
 unfold c_Z75
 repeat' first
  | exact Jy
  | exact Jx
  | exact Jw
  | apply Jt
  | apply Ju
  | apply Jz
  | (apply Jv; intro _)
  | intro _
def n_Z75:Nat→T_Z75
 | 0,_,_,_,_,_,_,_,_,_=>none
 | n+1,x0,x1,x2,x3,x4,x5,x6,x7,x8=>c_Z75 (n_Z75 n) x0 x1 x2 x3 x4 x5 x6 x7 x8 some
noncomputable def Z75 (x0 x1 x2 x3 x4 x5:Int) (x6 x7 x8:List D):Option (Int×Int×Int×List D×List D×List D):=ev (fun n=>n_Z75 n x0 x1 x2 x3 x4 x5 x6 x7 x8)
def m_Z75 (F:T_Z75):JA:=⟨19,⟨(.undef::.undef::.undef::.int .i64::.ptr 1000 [0]::uu 6 (.int .i64::uu 64 (.int .i64::.int .i64::.undef::.undef::.int .i64::.int .i64::uu 53 ([])))),[(1000,.obox (.agg [.own (.int .i64),.full 1001 [] (.slice (.bool)),.full 1002 [] (.slice (.bool))])),(1001,.own (.slice (.bool))),(1002,.own (.slice (.bool)))]⟩,[(.exit 6,⟨(.undef::.undef::.undef::.int .i64::.ptr 1000 [0]::uu 71 (.int .i64::.int .i64::uu 57 ([]))),[(1000,.obox (.agg [.own (.int .i64),.full 1001 [] (.slice (.bool)),.full 1002 [] (.slice (.bool))])),(1001,.own (.slice (.bool))),(1002,.own (.slice (.bool)))]⟩)],fun _ ds k=>dI (fun x0 ds=>dI (fun x1 ds=>dI (fun x2 ds=>dI (fun x3 ds=>dI (fun x4 ds=>dI (fun x5 ds=>dL (fun x6 ds=>dL (fun x7 ds=>dL (fun x8 ds=>dE ((F x0 x1 x2 x3 x4 x5 x6 x7 x8).bind (fun y=>k 0 [.I y.1,.I y.2.1,.I y.2.2.1,.L y.2.2.2.1,.L y.2.2.2.2.1,.L y.2.2.2.2.2])) ds) ds) ds) ds) ds) ds) ds) ds) ds) ds⟩
theorem q_Z75 (F:T_Z75) (x0 x1 x2 x3 x4 x5:Int) (x6 x7 x8:List D):JZ (Jp []) (Jq [m_Z75 F,e_Z74]) A 125 (Jj (Jh Try.f125) 19) ((m_Z75 F).sh.mk' [.I x0,.I x1,.I x2,.I x3,.I x4,.I x5,.L x6,.L x7,.L x8]) (fun e σ'=>some (e,σ'))=c_Z75 F x0 x1 x2 x3 x4 x5 x6 x7 x8 (fun y=>some (.exit 6,SSt.mk' ⟨(.undef::.undef::.undef::.int .i64::.ptr 1000 [0]::uu 71 (.int .i64::.int .i64::uu 57 ([]))),[(1000,.obox (.agg [.own (.int .i64),.full 1001 [] (.slice (.bool)),.full 1002 [] (.slice (.bool))])),(1001,.own (.slice (.bool))),(1002,.own (.slice (.bool)))]⟩ [.I y.1,.I y.2.1,.I y.2.2.1,.L y.2.2.2.1,.L y.2.2.2.2.1,.L y.2.2.2.2.2])):=by kernel_rfl
theorem m_Z75_ok:∀ n,(m_Z75 (n_Z75 n)).ok Try.prog (Jj (Jh Try.f125) 19):=by
 intro n
 induction n with
 | zero=>
  intro R ds k r h
  unfold m_Z75 at h
  obtain ⟨_,_,rfl,h⟩:=Jb h
  obtain ⟨_,_,rfl,h⟩:=Jb h
  obtain ⟨_,_,rfl,h⟩:=Jb h
  obtain ⟨_,_,rfl,h⟩:=Jb h
  obtain ⟨_,_,rfl,h⟩:=Jb h
  obtain ⟨_,_,rfl,h⟩:=Jb h
  obtain ⟨_,_,rfl,h⟩:=Ja h
  obtain ⟨_,_,rfl,h⟩:=Ja h
  obtain ⟨_,_,rfl,h⟩:=Ja h
  obtain ⟨rfl,hE⟩:=Je h
  obtain ⟨y,hy,hk⟩:=Jf hE
  cases hy
 | succ n ih=>
  intro R ds k r h
  unfold m_Z75 at h
  obtain ⟨_,_,rfl,h⟩:=Jb h
  obtain ⟨_,_,rfl,h⟩:=Jb h
  obtain ⟨_,_,rfl,h⟩:=Jb h
  obtain ⟨_,_,rfl,h⟩:=Jb h
  obtain ⟨_,_,rfl,h⟩:=Jb h
  obtain ⟨_,_,rfl,h⟩:=Jb h
  obtain ⟨_,_,rfl,h⟩:=Ja h
  obtain ⟨_,_,rfl,h⟩:=Ja h
  obtain ⟨_,_,rfl,h⟩:=Ja h
  obtain ⟨rfl,hE⟩:=Je h
  obtain ⟨y,hy,hk⟩:=Jf hE
  exact ⟨0,_,_,_,hk,rfl,JO px (fx:=⟨Try.func125,by kernel_rfl,by kernel_rfl⟩) Jm (Jo ih (Jo e_Z74_ok Jn)) (by kernel_rfl) ((q_Z75 ..).trans ((c_Z75_bind ..).trans (Jg hy)))⟩
noncomputable def e_Z75:JA:=m_Z75 (Z75)
theorem e_Z75_ok:(e_Z75).ok Try.prog (Jj (Jh Try.f125) 19):=by
 intro R ds k r h
 unfold e_Z75 m_Z75 at h
 obtain ⟨_,_,rfl,h⟩:=Jb h
 obtain ⟨_,_,rfl,h⟩:=Jb h
 obtain ⟨_,_,rfl,h⟩:=Jb h
 obtain ⟨_,_,rfl,h⟩:=Jb h
 obtain ⟨_,_,rfl,h⟩:=Jb h
 obtain ⟨_,_,rfl,h⟩:=Jb h
 obtain ⟨_,_,rfl,h⟩:=Ja h
 obtain ⟨_,_,rfl,h⟩:=Ja h
 obtain ⟨_,_,rfl,h⟩:=Ja h
 obtain ⟨rfl,hE⟩:=Je h
 obtain ⟨y,hy,hk⟩:=Jf hE
 obtain ⟨n,hn⟩:=J4 hy
 exact m_Z75_ok n R _ k r ((Jg hn).trans hk)

/-!-/
abbrev T_Z76:=Int→Int→Int→List D→List D→List D→Option (List D×List D×List D)
def c_Z76 {R:Type} (F:T_Z76) (x0 x1 x2:Int) (x3 x4 x5:List D) (k:List D×List D×List D→Option R):Option R:=
 bif decide (x2<x1) then
 (Z75 x0 x2 x1 x2 x0 (0:Int) x3 x4 x5).bind (fun y0=>
 (F y0.fst y0.snd.fst (IntKind.i64.wrap (y0.snd.snd.fst+1)) y0.snd.snd.snd.fst y0.snd.snd.snd.snd.fst y0.snd.snd.snd.snd.snd).bind k)
 else
 k (x3,x4,x5)
theorem c_Z76_bind {R:Type} (F:T_Z76) (x0 x1 x2:Int) (x3 x4 x5:List D) (k:List D×List D×List D→Option R):c_Z76 F x0 x1 x2 x3 x4 x5 k=(c_Z76 F x0 x1 x2 x3 x4 x5 some).bind k:=by
 unfold c_Z76
 repeat' first
  | exact Jy
  | exact Jx
  | exact Jw
  | apply Jt
  | apply Ju
  | apply Jz
  | (apply Jv; intro _)
  | intro _
def n_Z76:Nat→T_Z76
 | 0,_,_,_,_,_,_=>none
 | n+1,x0,x1,x2,x3,x4,x5=>c_Z76 (n_Z76 n) x0 x1 x2 x3 x4 x5 some
noncomputable def Z76 (x0 x1 x2:Int) (x3 x4 x5:List D):Option (List D×List D×List D):=ev (fun n=>n_Z76 n x0 x1 x2 x3 x4 x5)
def m_Z76 (F:T_Z76):JA:=⟨16,⟨(.undef::.undef::.undef::.int .i64::.ptr 1000 [0]::uu 71 (.int .i64::.int .i64::uu 57 ([]))),[(1000,.obox (.agg [.own (.int .i64),.full 1001 [] (.slice (.bool)),.full 1002 [] (.slice (.bool))])),(1001,.own (.slice (.bool))),(1002,.own (.slice (.bool)))]⟩,[(.exit 4,⟨(uu 4 (.ptr 1000 [0]::uu 130 ([]))),[(1000,.obox (.agg [.own (.int .i64),.full 1001 [] (.slice (.bool)),.full 1002 [] (.slice (.bool))])),(1001,.own (.slice (.bool))),(1002,.own (.slice (.bool)))]⟩)],fun _ ds k=>dI (fun x0 ds=>dI (fun x1 ds=>dI (fun x2 ds=>dL (fun x3 ds=>dL (fun x4 ds=>dL (fun x5 ds=>dE ((F x0 x1 x2 x3 x4 x5).bind (fun y=>k 0 [.L y.1,.L y.2.1,.L y.2.2])) ds) ds) ds) ds) ds) ds) ds⟩
theorem q_Z76 (F:T_Z76) (x0 x1 x2:Int) (x3 x4 x5:List D):JZ (Jp []) (Jq [m_Z76 F,e_Z75]) A 125 (Jj (Jh Try.f125) 16) ((m_Z76 F).sh.mk' [.I x0,.I x1,.I x2,.L x3,.L x4,.L x5]) (fun e σ'=>some (e,σ'))=c_Z76 F x0 x1 x2 x3 x4 x5 (fun y=>some (.exit 4,SSt.mk' ⟨(uu 4 (.ptr 1000 [0]::uu 130 ([]))),[(1000,.obox (.agg [.own (.int .i64),.full 1001 [] (.slice (.bool)),.full 1002 [] (.slice (.bool))])),(1001,.own (.slice (.bool))),(1002,.own (.slice (.bool)))]⟩ [.L y.1,.L y.2.1,.L y.2.2])):=by kernel_rfl
theorem m_Z76_ok:∀ n,(m_Z76 (n_Z76 n)).ok Try.prog (Jj (Jh Try.f125) 16):=by
 intro n
 induction n with
 | zero=>
  intro R ds k r h
  unfold m_Z76 at h
  obtain ⟨_,_,rfl,h⟩:=Jb h
  obtain ⟨_,_,rfl,h⟩:=Jb h
  obtain ⟨_,_,rfl,h⟩:=Jb h
  obtain ⟨_,_,rfl,h⟩:=Ja h
  obtain ⟨_,_,rfl,h⟩:=Ja h
  obtain ⟨_,_,rfl,h⟩:=Ja h
  obtain ⟨rfl,hE⟩:=Je h
  obtain ⟨y,hy,hk⟩:=Jf hE
  cases hy
 | succ n ih=>
  intro R ds k r h
  unfold m_Z76 at h
  obtain ⟨_,_,rfl,h⟩:=Jb h
  obtain ⟨_,_,rfl,h⟩:=Jb h
  obtain ⟨_,_,rfl,h⟩:=Jb h
  obtain ⟨_,_,rfl,h⟩:=Ja h
  obtain ⟨_,_,rfl,h⟩:=Ja h
  obtain ⟨_,_,rfl,h⟩:=Ja h
  obtain ⟨rfl,hE⟩:=Je h
  obtain ⟨y,hy,hk⟩:=Jf hE
  exact ⟨0,_,_,_,hk,rfl,JO px (fx:=⟨Try.func125,by kernel_rfl,by kernel_rfl⟩) Jm (Jo ih (Jo e_Z75_ok Jn)) (by kernel_rfl) ((q_Z76 ..).trans ((c_Z76_bind ..).trans (Jg hy)))⟩
noncomputable def e_Z76:JA:=m_Z76 (Z76)
theorem e_Z76_ok:(e_Z76).ok Try.prog (Jj (Jh Try.f125) 16):=by
 intro R ds k r h
 unfold e_Z76 m_Z76 at h
 obtain ⟨_,_,rfl,h⟩:=Jb h
 obtain ⟨_,_,rfl,h⟩:=Jb h
 obtain ⟨_,_,rfl,h⟩:=Jb h
 obtain ⟨_,_,rfl,h⟩:=Ja h
 obtain ⟨_,_,rfl,h⟩:=Ja h
 obtain ⟨_,_,rfl,h⟩:=Ja h
 obtain ⟨rfl,hE⟩:=Je h
 obtain ⟨y,hy,hk⟩:=Jf hE
 obtain ⟨n,hn⟩:=J4 hy
 exact m_Z76_ok n R _ k r ((Jg hn).trans hk)

/-!-/
def c_Z77 {R:Type} (x0 x1:List D) (k:List D×List D×List D→Option R):Option R:=
 (Z66 (↑x0.length:Int)).bind (fun y0=>
 (Z66 (↑x0.length:Int)).bind (fun y1=>
 (Z68 (↑x0.length:Int) x0 (↑x0.length:Int) (0:Int) x0 x1 [] y0 y1).bind (Sum.elim (fun y2=>
 (Z69 y2.fst y2.snd.snd.fst (↑y2.snd.snd.fst.length:Int) (0:Int) y2.snd.fst y2.snd.snd.fst y2.snd.snd.snd.fst y2.snd.snd.snd.snd.fst y2.snd.snd.snd.snd.snd).bind (fun y3=>
 (Z72 y3.fst y3.fst (0:Int) y3.snd.fst y3.snd.snd.fst y3.snd.snd.snd).bind (fun y4=>
 k (y4.fst,y4.snd.fst,y4.snd.snd)))) (fun y5=>
 (Z73 y5.fst y5.snd.snd.fst (↑y5.snd.snd.fst.length:Int) (0:Int) y5.snd.fst y5.snd.snd.fst y5.snd.snd.snd.fst y5.snd.snd.snd.snd.fst y5.snd.snd.snd.snd.snd).bind (fun y6=>
 (Z76 y6.fst y6.fst (0:Int) y6.snd.fst y6.snd.snd.fst y6.snd.snd.snd).bind (fun y7=>
 k (y7.fst,y7.snd.fst,y7.snd.snd)))))))
theorem c_Z77_bind {R:Type} (x0 x1:List D) (k:List D×List D×List D→Option R):c_Z77 x0 x1 k=(c_Z77 x0 x1 some).bind k:=by
 unfold c_Z77
 repeat' first
  | exact Jy
  | exact Jx
  | exact Jw
  | apply Jt
  | apply Ju
  | apply Jz
  | (apply Jv; intro _)
  | intro _
def Z77 (x0 x1:List D):Option (List D×List D×List D):=c_Z77 x0 x1 some
def e_Z77:Ent:=⟨125,[.agg [.rd (.struct [.int .i64,.int .i64]),.rd (.struct [.int .i64,.int .i64])]],[(.obox (.agg [.own (.int .i64),.own (.slice (.bool)),.own (.slice (.bool))]),[.undef])],fun _ ds k=>dL (fun x0 ds=>dL (fun x1 ds=>dE ((Z77 x0 x1).bind (fun y=>k 0 [.L y.1,.L y.2.1,.L y.2.2])) ds) ds) ds⟩
theorem q_Z77 (x0 x1:List D):JR (Jp [e_Z66]) (Jq [e_Z68,e_Z69,e_Z72,e_Z73,e_Z76]) A 125 Try.f125 (Sh.mks e_Z77.sh [.L x0,.L x1]).1 (fun v os=>some (v,os))=c_Z77 x0 x1 (fun y=>JT e_Z77 0 [.L y.1,.L y.2.1,.L y.2.2]):=by kernel_rfl
theorem e_Z77_ok:e_Z77.ok Try.prog A:=by
 intro R ds k r h
 unfold e_Z77 at h
 obtain ⟨_,_,rfl,h⟩:=Ja h
 obtain ⟨_,_,rfl,h⟩:=Ja h
 obtain ⟨rfl,hE⟩:=Je h
 obtain ⟨y,hy,hk⟩:=Jf hE
 exact ⟨0,_,_,_,hk,rfl,JU px (fx:=⟨Try.func125,by kernel_rfl,by kernel_rfl⟩) (Jr e_Z66_ok Jm) (Jo e_Z68_ok (Jo e_Z69_ok (Jo e_Z72_ok (Jo e_Z73_ok (Jo e_Z76_ok Jn))))) ((q_Z77 ..).trans ((c_Z77_bind ..).trans (Jg hy)))⟩

/-!-/
abbrev T_Z78:=List D→List D→List D→Int→Int→Option ((Bool)⊕(Unit))
def c_Z78 {R:Type} (F:T_Z78) (x0 x1 x2:List D) (x3 x4:Int) (k:(Bool)⊕(Unit)→Option R):Option R:=
 bif decide (x4<x3) then
 if 0≤x4∧x4<(↑x2.length:Int) then
 if 0≤x4∧x4<(↑(x2.getD x4.toNat (D.int 0)).items.length:Int) then
 bif ((x2.getD x4.toNat (D.int 0)).items.getD x4.toNat (D.int 0)).toBool then
 k (.inl Bool.false)
 else
 (F x0 x1 x2 x3 (IntKind.i64.wrap (x4+1))).bind k
 else
 none
 else
 none
 else
 k (.inr ())
theorem c_Z78_bind {R:Type} (F:T_Z78) (x0 x1 x2:List D) (x3 x4:Int) (k:(Bool)⊕(Unit)→Option R):c_Z78 F x0 x1 x2 x3 x4 k=(c_Z78 F x0 x1 x2 x3 x4 some).bind k:=by
 unfold c_Z78
 repeat' first
  | exact Jy
  | exact Jx
  | exact Jw
  | apply Jt
  | apply Ju
  | apply Jz
  | (apply Jv; intro _)
  | intro _
def n_Z78:Nat→T_Z78
 | 0,_,_,_,_,_=>none
 | n+1,x0,x1,x2,x3,x4=>c_Z78 (n_Z78 n) x0 x1 x2 x3 x4 some
noncomputable def Z78 (x0 x1 x2:List D) (x3 x4:Int):Option ((Bool)⊕(Unit)):=ev (fun n=>n_Z78 n x0 x1 x2 x3 x4)
def m_Z78 (F:T_Z78):JA:=⟨2,⟨(.rp (.agg [.rd (.int .i64),.rd (.slice (.bool)),.rd (.slice (.bool))])::uu 7 (.int .i64::.int .i64::uu 13 ([]))),[]⟩,[(.ret,⟨(.undef::.undef::.bool::uu 20 ([])),[]⟩),(.exit 0,⟨(uu 23 ([])),[]⟩)],fun _ ds k=>dL (fun x0 ds=>dL (fun x1 ds=>dL (fun x2 ds=>dI (fun x3 ds=>dI (fun x4 ds=>dE ((F x0 x1 x2 x3 x4).bind (Sum.elim (fun y=>k 0 [.B y]) (fun y=>k 1 []))) ds) ds) ds) ds) ds) ds⟩
theorem q_Z78 (F:T_Z78) (x0 x1 x2:List D) (x3 x4:Int):JZ (Jp []) (Jq [m_Z78 F]) A 136 (Jj (Jh Try.f136) 2) ((m_Z78 F).sh.mk' [.L x0,.L x1,.L x2,.I x3,.I x4]) (fun e σ'=>some (e,σ'))=c_Z78 F x0 x1 x2 x3 x4 (Sum.elim (fun y=>some (.ret,SSt.mk' ⟨(.undef::.undef::.bool::uu 20 ([])),[]⟩ [.B y])) (fun y=>some (.exit 0,SSt.mk' ⟨(uu 23 ([])),[]⟩ []))):=by kernel_rfl
theorem m_Z78_ok:∀ n,(m_Z78 (n_Z78 n)).ok Try.prog (Jj (Jh Try.f136) 2):=by
 intro n
 induction n with
 | zero=>
  intro R ds k r h
  unfold m_Z78 at h
  obtain ⟨_,_,rfl,h⟩:=Ja h
  obtain ⟨_,_,rfl,h⟩:=Ja h
  obtain ⟨_,_,rfl,h⟩:=Ja h
  obtain ⟨_,_,rfl,h⟩:=Jb h
  obtain ⟨_,_,rfl,h⟩:=Jb h
  obtain ⟨rfl,hE⟩:=Je h
  obtain ⟨y,hy,hk⟩:=Jf hE
  cases hy
 | succ n ih=>
  intro R ds k r h
  unfold m_Z78 at h
  obtain ⟨_,_,rfl,h⟩:=Ja h
  obtain ⟨_,_,rfl,h⟩:=Ja h
  obtain ⟨_,_,rfl,h⟩:=Ja h
  obtain ⟨_,_,rfl,h⟩:=Jb h
  obtain ⟨_,_,rfl,h⟩:=Jb h
  obtain ⟨rfl,hE⟩:=Je h
  obtain ⟨y,hy,hk⟩:=Jf hE
  cases y with
  | inl y=>
   exact ⟨0,_,_,_,hk,rfl,JO px (fx:=⟨Try.func136,by kernel_rfl,by kernel_rfl⟩) Jm (Jo ih Jn) (by kernel_rfl) ((q_Z78 ..).trans ((c_Z78_bind ..).trans (Jg hy)))⟩
  | inr y=>
   exact ⟨1,_,_,_,hk,rfl,JO px (fx:=⟨Try.func136,by kernel_rfl,by kernel_rfl⟩) Jm (Jo ih Jn) (by kernel_rfl) ((q_Z78 ..).trans ((c_Z78_bind ..).trans (Jg hy)))⟩
noncomputable def e_Z78:JA:=m_Z78 (Z78)
theorem e_Z78_ok:(e_Z78).ok Try.prog (Jj (Jh Try.f136) 2):=by
 intro R ds k r h
 unfold e_Z78 m_Z78 at h
 obtain ⟨_,_,rfl,h⟩:=Ja h
 obtain ⟨_,_,rfl,h⟩:=Ja h
 obtain ⟨_,_,rfl,h⟩:=Ja h
 obtain ⟨_,_,rfl,h⟩:=Jb h
 obtain ⟨_,_,rfl,h⟩:=Jb h
 obtain ⟨rfl,hE⟩:=Je h
 obtain ⟨y,hy,hk⟩:=Jf hE
 obtain ⟨n,hn⟩:=J4 hy
 exact m_Z78_ok n R _ k r ((Jg hn).trans hk)

/-!-/
def c_Z79 {R:Type} (x0 x1 x2:List D) (k:Bool→Option R):Option R:=
 (Z78 x0 x1 x2 (↑x0.length:Int) (0:Int)).bind (Sum.elim (fun y0=>
 k y0) (fun y1=>
 k Bool.true))
theorem c_Z79_bind {R:Type} (x0 x1 x2:List D) (k:Bool→Option R):c_Z79 x0 x1 x2 k=(c_Z79 x0 x1 x2 some).bind k:=by
 unfold c_Z79
 repeat' first
  | exact Jy
  | exact Jx
  | exact Jw
  | apply Jt
  | apply Ju
  | apply Jz
  | (apply Jv; intro _)
  | intro _
def Z79 (x0 x1 x2:List D):Option (Bool):=c_Z79 x0 x1 x2 some
def e_Z79:Ent:=⟨136,[.rp (.agg [.rd (.int .i64),.rd (.slice (.bool)),.rd (.slice (.bool))])],[(.bool,[.undef])],fun _ ds k=>dL (fun x0 ds=>dL (fun x1 ds=>dL (fun x2 ds=>dE ((Z79 x0 x1 x2).bind (fun y=>k 0 [.B y])) ds) ds) ds) ds⟩
theorem q_Z79 (x0 x1 x2:List D):JR (Jp []) (Jq [e_Z78]) A 136 Try.f136 (Sh.mks e_Z79.sh [.L x0,.L x1,.L x2]).1 (fun v os=>some (v,os))=c_Z79 x0 x1 x2 (fun y=>JT e_Z79 0 [.B y]):=by kernel_rfl
theorem e_Z79_ok:e_Z79.ok Try.prog A:=by
 intro R ds k r h
 unfold e_Z79 at h
 obtain ⟨_,_,rfl,h⟩:=Ja h
 obtain ⟨_,_,rfl,h⟩:=Ja h
 obtain ⟨_,_,rfl,h⟩:=Ja h
 obtain ⟨rfl,hE⟩:=Je h
 obtain ⟨y,hy,hk⟩:=Jf hE
 exact ⟨0,_,_,_,hk,rfl,JU px (fx:=⟨Try.func136,by kernel_rfl,by kernel_rfl⟩) Jm (Jo e_Z78_ok Jn) ((q_Z79 ..).trans ((c_Z79_bind ..).trans (Jg hy)))⟩

/-!-/
def c_Z80 {R:Type} (x0 x1:List D) (k:(Bool)⊕(List D×List D×List D×Bool)→Option R):Option R:=
 (Z64 x0 x1).bind (fun y0=>
 bif !y0 then
 k (.inl Bool.false)
 else
 (Z77 x0 x1).bind (fun y1=>
 (Z79 y1.fst y1.snd.fst y1.snd.snd).bind (fun y2=>
 k (.inr (y1.fst,y1.snd.fst,y1.snd.snd,y2)))))
theorem c_Z80_bind {R:Type} (x0 x1:List D) (k:(Bool)⊕(List D×List D×List D×Bool)→Option R):c_Z80 x0 x1 k=(c_Z80 x0 x1 some).bind k:=by
 unfold c_Z80
 repeat' first
  | exact Jy
  | exact Jx
  | exact Jw
  | apply Jt
  | apply Ju
  | apply Jz
  | (apply Jv; intro _)
  | intro _
def Z80 (x0 x1:List D):Option ((Bool)⊕(List D×List D×List D×Bool)):=c_Z80 x0 x1 some
def e_Z80:Ent:=⟨95,[.agg [.rd (.struct [.int .i64,.int .i64]),.rd (.struct [.int .i64,.int .i64])]],[(.tup [.nilptr,.bool],[.undef]),(.tup [.obox (.agg [.own (.int .i64),.own (.slice (.bool)),.own (.slice (.bool))]),.bool],[.undef])],fun _ ds k=>dL (fun x0 ds=>dL (fun x1 ds=>dE ((Z80 x0 x1).bind (Sum.elim (fun y=>k 0 [.B y]) (fun y=>k 1 [.L y.1,.L y.2.1,.L y.2.2.1,.B y.2.2.2]))) ds) ds) ds⟩
theorem q_Z80 (x0 x1:List D):JR (Jp [e_Z64,e_Z77,e_Z79]) (Jq []) A 95 Try.f95 (Sh.mks e_Z80.sh [.L x0,.L x1]).1 (fun v os=>some (v,os))=c_Z80 x0 x1 (Sum.elim (fun y=>JT e_Z80 0 [.B y]) (fun y=>JT e_Z80 1 [.L y.1,.L y.2.1,.L y.2.2.1,.B y.2.2.2])):=by kernel_rfl
theorem e_Z80_ok:e_Z80.ok Try.prog A:=by
 intro R ds k r h
 unfold e_Z80 at h
 obtain ⟨_,_,rfl,h⟩:=Ja h
 obtain ⟨_,_,rfl,h⟩:=Ja h
 obtain ⟨rfl,hE⟩:=Je h
 obtain ⟨y,hy,hk⟩:=Jf hE
 cases y with
 | inl y=>
  exact ⟨0,_,_,_,hk,rfl,JU px (fx:=⟨Try.func95,by kernel_rfl,by kernel_rfl⟩) (Jr e_Z64_ok (Jr e_Z77_ok (Jr e_Z79_ok Jm))) Jn ((q_Z80 ..).trans ((c_Z80_bind ..).trans (Jg hy)))⟩
 | inr y=>
  exact ⟨1,_,_,_,hk,rfl,JU px (fx:=⟨Try.func95,by kernel_rfl,by kernel_rfl⟩) (Jr e_Z64_ok (Jr e_Z77_ok (Jr e_Z79_ok Jm))) Jn ((q_Z80 ..).trans ((c_Z80_bind ..).trans (Jg hy)))⟩

/-!-/
def c_Z81 {R:Type} (x0 x1:Int) (k:Int×Int→Option R):Option R:=
 if (0:Int)≤(32:Int) then
 if (0:Int)≤(32:Int) then
 if (0:Int)≤(32:Int) then
 if (0:Int)≤(32:Int) then
 if (0:Int)≤(32:Int) then
 k (IntKind.u64.wrap (IntKind.u64.wrap (IntKind.u64.wrap (x0.fdiv ((2:Int) ^ Min.min (Int.toNat (32:Int)) IntKind.u64.bits) * x1.fdiv ((2:Int) ^ Min.min (Int.toNat (32:Int)) IntKind.u64.bits))+(IntKind.u64.wrap (IntKind.u64.wrap (x0.fdiv ((2:Int) ^ Min.min (Int.toNat (32:Int)) IntKind.u64.bits) * IntKind.u64.wrap (↑(BitVec.ofInt IntKind.u64.bits x1 &&& BitVec.ofInt IntKind.u64.bits (4294967295:Int)).toNat:Int))+(IntKind.u64.wrap (IntKind.u64.wrap (↑(BitVec.ofInt IntKind.u64.bits x0 &&& BitVec.ofInt IntKind.u64.bits (4294967295:Int)).toNat:Int) * IntKind.u64.wrap (↑(BitVec.ofInt IntKind.u64.bits x1 &&& BitVec.ofInt IntKind.u64.bits (4294967295:Int)).toNat:Int))).fdiv ((2:Int) ^ Min.min (Int.toNat (32:Int)) IntKind.u64.bits))).fdiv ((2:Int) ^ Min.min (Int.toNat (32:Int)) IntKind.u64.bits))+(IntKind.u64.wrap (IntKind.u64.wrap (↑(BitVec.ofInt IntKind.u64.bits (IntKind.u64.wrap (IntKind.u64.wrap (x0.fdiv ((2:Int) ^ Min.min (Int.toNat (32:Int)) IntKind.u64.bits) * IntKind.u64.wrap (↑(BitVec.ofInt IntKind.u64.bits x1 &&& BitVec.ofInt IntKind.u64.bits (4294967295:Int)).toNat:Int))+(IntKind.u64.wrap (IntKind.u64.wrap (↑(BitVec.ofInt IntKind.u64.bits x0 &&& BitVec.ofInt IntKind.u64.bits (4294967295:Int)).toNat:Int) * IntKind.u64.wrap (↑(BitVec.ofInt IntKind.u64.bits x1 &&& BitVec.ofInt IntKind.u64.bits (4294967295:Int)).toNat:Int))).fdiv ((2:Int) ^ Min.min (Int.toNat (32:Int)) IntKind.u64.bits))) &&& BitVec.ofInt IntKind.u64.bits (4294967295:Int)).toNat:Int)+IntKind.u64.wrap (IntKind.u64.wrap (↑(BitVec.ofInt IntKind.u64.bits x0 &&& BitVec.ofInt IntKind.u64.bits (4294967295:Int)).toNat:Int) * x1.fdiv ((2:Int) ^ Min.min (Int.toNat (32:Int)) IntKind.u64.bits)))).fdiv ((2:Int) ^ Min.min (Int.toNat (32:Int)) IntKind.u64.bits)),IntKind.u64.wrap (x0 * x1))
 else
 none
 else
 none
 else
 none
 else
 none
 else
 none
theorem c_Z81_bind {R:Type} (x0 x1:Int) (k:Int×Int→Option R):c_Z81 x0 x1 k=(c_Z81 x0 x1 some).bind k:=by
 unfold c_Z81
 repeat' first
  | exact Jy
  | exact Jx
  | exact Jw
  | apply Jt
  | apply Ju
  | apply Jz
  | (apply Jv; intro _)
  | intro _
def Z81 (x0 x1:Int):Option (Int×Int):=c_Z81 x0 x1 some
def e_Z81:Ent:=⟨234,[.int .u64,.int .u64],[(.tup [.int .u64,.int .u64],[.undef,.undef])],fun _ ds k=>dI (fun x0 ds=>dI (fun x1 ds=>dE ((Z81 x0 x1).bind (fun y=>k 0 [.I y.1,.I y.2])) ds) ds) ds⟩
theorem q_Z81 (x0 x1:Int):JR (Jp []) (Jq []) A 234 Try.f234 (Sh.mks e_Z81.sh [.I x0,.I x1]).1 (fun v os=>some (v,os))=c_Z81 x0 x1 (fun y=>JT e_Z81 0 [.I y.1,.I y.2]):=by kernel_rfl
theorem e_Z81_ok:e_Z81.ok Try.prog A:=by
 intro R ds k r h
 unfold e_Z81 at h
 obtain ⟨_,_,rfl,h⟩:=Jb h
 obtain ⟨_,_,rfl,h⟩:=Jb h
 obtain ⟨rfl,hE⟩:=Je h
 obtain ⟨y,hy,hk⟩:=Jf hE
 exact ⟨0,_,_,_,hk,rfl,JU px (fx:=⟨Try.func234,by kernel_rfl,by kernel_rfl⟩) Jm Jn ((q_Z81 ..).trans ((c_Z81_bind ..).trans (Jg hy)))⟩

/-!-/
def c_Z82 {R:Type} (x0 x1:Int) (k:Int×Int→Option R):Option R:=
 (Z81 x0 x1).bind (fun y0=>
 k (y0.fst,y0.snd))
theorem c_Z82_bind {R:Type} (x0 x1:Int) (k:Int×Int→Option R):c_Z82 x0 x1 k=(c_Z82 x0 x1 some).bind k:=by
 unfold c_Z82
 repeat' first
  | exact Jy
  | exact Jx
  | exact Jw
  | apply Jt
  | apply Ju
  | apply Jz
  | (apply Jv; intro _)
  | intro _
def Z82 (x0 x1:Int):Option (Int×Int):=c_Z82 x0 x1 some
def e_Z82:Ent:=⟨223,[.int .u64,.int .u64],[(.tup [.int .u64,.int .u64],[.undef,.undef])],fun _ ds k=>dI (fun x0 ds=>dI (fun x1 ds=>dE ((Z82 x0 x1).bind (fun y=>k 0 [.I y.1,.I y.2])) ds) ds) ds⟩
theorem q_Z82 (x0 x1:Int):JR (Jp [e_Z81]) (Jq []) A 223 Try.f223 (Sh.mks e_Z82.sh [.I x0,.I x1]).1 (fun v os=>some (v,os))=c_Z82 x0 x1 (fun y=>JT e_Z82 0 [.I y.1,.I y.2]):=by kernel_rfl
theorem e_Z82_ok:e_Z82.ok Try.prog A:=by
 intro R ds k r h
 unfold e_Z82 at h
 obtain ⟨_,_,rfl,h⟩:=Jb h
 obtain ⟨_,_,rfl,h⟩:=Jb h
 obtain ⟨rfl,hE⟩:=Je h
 obtain ⟨y,hy,hk⟩:=Jf hE
 exact ⟨0,_,_,_,hk,rfl,JU px (fx:=⟨Try.func223,by kernel_rfl,by kernel_rfl⟩) (Jr e_Z81_ok Jm) Jn ((q_Z82 ..).trans ((c_Z82_bind ..).trans (Jg hy)))⟩

/-!-/
abbrev T_Z83:=Int→List D→Option (List D)
def c_Z83 {R:Type} (F:T_Z83) (x0:Int) (x1:List D) (k:List D→Option R):Option R:=
 bif decide (x0<(↑x1.length:Int)) then
 if 0≤x0∧x0≤(↑x1.length:Int)∧(↑x1.length:Int)≤(↑x1.length:Int) then
 if (0:Int)≤(0:Int)∧0≤x0∧x0≤(↑x1.length:Int) then
 if (0:Nat)+(x0.toNat - (0:Nat))≤x1.length then
 if x0.toNat+(x1.length - x0.toNat)≤x1.length then
 (F (IntKind.i64.wrap (x0+(↑(List.take (x1.length - x0.toNat) (List.take (x0.toNat - (0:Nat)) (List.drop (0:Nat) x1))).length:Int))) (List.take x0.toNat x1++List.take (x1.length - x0.toNat) (List.take (x0.toNat - (0:Nat)) (List.drop (0:Nat) x1))++List.drop (x0.toNat+(List.take (x1.length - x0.toNat) (List.take (x0.toNat - (0:Nat)) (List.drop (0:Nat) x1))).length) x1)).bind k
 else
 none
 else
 none
 else
 none
 else
 none
 else
 k x1
theorem c_Z83_bind {R:Type} (F:T_Z83) (x0:Int) (x1:List D) (k:List D→Option R):c_Z83 F x0 x1 k=(c_Z83 F x0 x1 some).bind k:=by
 unfold c_Z83
 repeat' first
  | exact Jy
  | exact Jx
  | exact Jw
  | apply Jt
  | apply Ju
  | apply Jz
  | (apply Jv; intro _)
  | intro _
def n_Z83:Nat→T_Z83
 | 0,_,_=>none
 | n+1,x0,x1=>c_Z83 (n_Z83 n) x0 x1 some
noncomputable def Z83 (x0:Int) (x1:List D):Option (List D):=ev (fun n=>n_Z83 n x0 x1)
def m_Z83 (F:T_Z83):JA:=⟨8,⟨(uu 7 (.full 1000 [] (.struct [.int .i64,.int .i64])::.int .i64::uu 39 ([]))),[(1000,.own (.struct [.int .i64,.int .i64]))]⟩,[(.exit 0,⟨(uu 7 (.full 1000 [] (.struct [.int .i64,.int .i64])::uu 40 ([]))),[(1000,.own (.struct [.int .i64,.int .i64]))]⟩)],fun _ ds k=>dI (fun x0 ds=>dL (fun x1 ds=>dE ((F x0 x1).bind (fun y=>k 0 [.L y])) ds) ds) ds⟩
theorem q_Z83 (F:T_Z83) (x0:Int) (x1:List D):JZ (Jp []) (Jq [m_Z83 F]) A 186 (Jj (Jh Try.f186) 8) ((m_Z83 F).sh.mk' [.I x0,.L x1]) (fun e σ'=>some (e,σ'))=c_Z83 F x0 x1 (fun y=>some (.exit 0,SSt.mk' ⟨(uu 7 (.full 1000 [] (.struct [.int .i64,.int .i64])::uu 40 ([]))),[(1000,.own (.struct [.int .i64,.int .i64]))]⟩ [.L y])):=by kernel_rfl
theorem m_Z83_ok:∀ n,(m_Z83 (n_Z83 n)).ok Try.prog (Jj (Jh Try.f186) 8):=by
 intro n
 induction n with
 | zero=>
  intro R ds k r h
  unfold m_Z83 at h
  obtain ⟨_,_,rfl,h⟩:=Jb h
  obtain ⟨_,_,rfl,h⟩:=Ja h
  obtain ⟨rfl,hE⟩:=Je h
  obtain ⟨y,hy,hk⟩:=Jf hE
  cases hy
 | succ n ih=>
  intro R ds k r h
  unfold m_Z83 at h
  obtain ⟨_,_,rfl,h⟩:=Jb h
  obtain ⟨_,_,rfl,h⟩:=Ja h
  obtain ⟨rfl,hE⟩:=Je h
  obtain ⟨y,hy,hk⟩:=Jf hE
  exact ⟨0,_,_,_,hk,rfl,JO px (fx:=⟨Try.func186,by kernel_rfl,by kernel_rfl⟩) Jm (Jo ih Jn) (by kernel_rfl) ((q_Z83 ..).trans ((c_Z83_bind ..).trans (Jg hy)))⟩
noncomputable def e_Z83:JA:=m_Z83 (Z83)
theorem e_Z83_ok:(e_Z83).ok Try.prog (Jj (Jh Try.f186) 8):=by
 intro R ds k r h
 unfold e_Z83 m_Z83 at h
 obtain ⟨_,_,rfl,h⟩:=Jb h
 obtain ⟨_,_,rfl,h⟩:=Ja h
 obtain ⟨rfl,hE⟩:=Je h
 obtain ⟨y,hy,hk⟩:=Jf hE
 obtain ⟨n,hn⟩:=J4 hy
 exact m_Z83_ok n R _ k r ((Jg hn).trans hk)

/-!-/
def c_Z84 {R:Type} (x0:List D) (x1:Int) (k:List D→Option R):Option R:=
 bif decide (x1<(0:Int)) then
 none
 else
 (Z82 (IntKind.u64.wrap (↑x0.length:Int)) (IntKind.u64.wrap x1)).bind (fun y0=>
 bif decide ((0:Int)<y0.fst) then
 none
 else
 bif decide ((9223372036854775807:Int)<y0.snd) then
 none
 else
 if (0:Int)≤IntKind.i64.wrap y0.snd∧IntKind.i64.wrap y0.snd≤IntKind.i64.wrap y0.snd∧IntKind.i64.wrap y0.snd≤(4294967296:Int) then
 (Z83 (↑(List.take (List.replicate (IntKind.i64.wrap y0.snd).toNat (D.node [D.int 0,D.int 0])).length x0).length:Int) (List.take (0:Nat) (List.replicate (IntKind.i64.wrap y0.snd).toNat (D.node [D.int 0,D.int 0]))++List.take (List.replicate (IntKind.i64.wrap y0.snd).toNat (D.node [D.int 0,D.int 0])).length x0++List.drop ((0:Nat)+(List.take (List.replicate (IntKind.i64.wrap y0.snd).toNat (D.node [D.int 0,D.int 0])).length x0).length) (List.replicate (IntKind.i64.wrap y0.snd).toNat (D.node [D.int 0,D.int 0])))).bind (fun y1=>
 k y1)
 else
 none)
theorem c_Z84_bind {R:Type} (x0:List D) (x1:Int) (k:List D→Option R):c_Z84 x0 x1 k=(c_Z84 x0 x1 some).bind k:=by
 unfold c_Z84
 repeat' first
  | exact Jy
  | exact Jx
  | exact Jw
  | apply Jt
  | apply Ju
  | apply Jz
  | (apply Jv; intro _)
  | intro _
def Z84 (x0:List D) (x1:Int):Option (List D):=c_Z84 x0 x1 some
def e_Z84:Ent:=⟨186,[.rd (.struct [.int .i64,.int .i64]),.int .i64],[(.own (.struct [.int .i64,.int .i64]),[.undef,.undef])],fun _ ds k=>dL (fun x0 ds=>dI (fun x1 ds=>dE ((Z84 x0 x1).bind (fun y=>k 0 [.L y])) ds) ds) ds⟩
theorem q_Z84 (x0:List D) (x1:Int):JR (Jp [e_Z82]) (Jq [e_Z83]) A 186 Try.f186 (Sh.mks e_Z84.sh [.L x0,.I x1]).1 (fun v os=>some (v,os))=c_Z84 x0 x1 (fun y=>JT e_Z84 0 [.L y]):=by kernel_rfl
theorem e_Z84_ok:e_Z84.ok Try.prog A:=by
 intro R ds k r h
 unfold e_Z84 at h
 obtain ⟨_,_,rfl,h⟩:=Ja h
 obtain ⟨_,_,rfl,h⟩:=Jb h
 obtain ⟨rfl,hE⟩:=Je h
 obtain ⟨y,hy,hk⟩:=Jf hE
 exact ⟨0,_,_,_,hk,rfl,JU px (fx:=⟨Try.func186,by kernel_rfl,by kernel_rfl⟩) (Jr e_Z82_ok Jm) (Jo e_Z83_ok Jn) ((q_Z84 ..).trans ((c_Z84_bind ..).trans (Jg hy)))⟩

/-!-/
def c_Z85 {R:Type} (x0:Int) (k:Bool→Option R):Option R:=
 (Z50 x0 (-20000:Int) (2100:Int)).bind (fun y0=>
 k y0)
theorem c_Z85_bind {R:Type} (x0:Int) (k:Bool→Option R):c_Z85 x0 k=(c_Z85 x0 some).bind k:=by
 unfold c_Z85
 repeat' first
  | exact Jy
  | exact Jx
  | exact Jw
  | apply Jt
  | apply Ju
  | apply Jz
  | (apply Jv; intro _)
  | intro _
def Z85 (x0:Int):Option (Bool):=c_Z85 x0 some
def e_Z85:Ent:=⟨120,[.int .i64],[(.bool,[.undef])],fun _ ds k=>dI (fun x0 ds=>dE ((Z85 x0).bind (fun y=>k 0 [.B y])) ds) ds⟩
theorem q_Z85 (x0:Int):JR (Jp [e_Z50]) (Jq []) A 120 Try.f120 (Sh.mks e_Z85.sh [.I x0]).1 (fun v os=>some (v,os))=c_Z85 x0 (fun y=>JT e_Z85 0 [.B y]):=by kernel_rfl
theorem e_Z85_ok:e_Z85.ok Try.prog A:=by
 intro R ds k r h
 unfold e_Z85 at h
 obtain ⟨_,_,rfl,h⟩:=Jb h
 obtain ⟨rfl,hE⟩:=Je h
 obtain ⟨y,hy,hk⟩:=Jf hE
 exact ⟨0,_,_,_,hk,rfl,JU px (fx:=⟨Try.func120,by kernel_rfl,by kernel_rfl⟩) (Jr e_Z50_ok Jm) Jn ((q_Z85 ..).trans ((c_Z85_bind ..).trans (Jg hy)))⟩

/-!-/
def c_Z86 {R:Type} (x0 x1:Int) (k:Bool→Option R):Option R:=
 (Z85 x0).bind (fun y0=>
 bif y0 then
 (Z85 x1).bind (fun y1=>
 bif y1 then
 k (decide (x0≤x1))
 else
 k Bool.false)
 else
 k Bool.false)
theorem c_Z86_bind {R:Type} (x0 x1:Int) (k:Bool→Option R):c_Z86 x0 x1 k=(c_Z86 x0 x1 some).bind k:=by
 unfold c_Z86
 repeat' first
  | exact Jy
  | exact Jx
  | exact Jw
  | apply Jt
  | apply Ju
  | apply Jz
  | (apply Jv; intro _)
  | intro _
def Z86 (x0 x1:Int):Option (Bool):=c_Z86 x0 x1 some
def e_Z86:Ent:=⟨187,[.agg [.int .i64,.int .i64]],[(.bool,[.undef])],fun _ ds k=>dI (fun x0 ds=>dI (fun x1 ds=>dE ((Z86 x0 x1).bind (fun y=>k 0 [.B y])) ds) ds) ds⟩
theorem q_Z86 (x0 x1:Int):JR (Jp [e_Z85]) (Jq []) A 187 Try.f187 (Sh.mks e_Z86.sh [.I x0,.I x1]).1 (fun v os=>some (v,os))=c_Z86 x0 x1 (fun y=>JT e_Z86 0 [.B y]):=by kernel_rfl
theorem e_Z86_ok:e_Z86.ok Try.prog A:=by
 intro R ds k r h
 unfold e_Z86 at h
 obtain ⟨_,_,rfl,h⟩:=Jb h
 obtain ⟨_,_,rfl,h⟩:=Jb h
 obtain ⟨rfl,hE⟩:=Je h
 obtain ⟨y,hy,hk⟩:=Jf hE
 exact ⟨0,_,_,_,hk,rfl,JU px (fx:=⟨Try.func187,by kernel_rfl,by kernel_rfl⟩) (Jr e_Z85_ok Jm) Jn ((q_Z86 ..).trans ((c_Z86_bind ..).trans (Jg hy)))⟩

/-!-/
abbrev T_Z87:=List D→List D→Int→Int→List D→List D→List D→List D→List D→List D→Option ((Bool×List D×List D×List D×List D)⊕(List D×List D×List D×List D))
def c_Z87 {R:Type} (F:T_Z87) (x0 x1:List D) (x2 x3:Int) (x4 x5 x6 x7 x8 x9:List D) (k:(Bool×List D×List D×List D×List D)⊕(List D×List D×List D×List D)→Option R):Option R:=
 bif decide (x3<x2) then
 if 0≤x3∧x3<(↑x1.length:Int) then
 (Z57 x4 x5 (((x1.getD x3.toNat (D.int 0)).fld (0:Nat)).toInt)).bind (fun y0=>
 bif decide (y0<(0:Int)) then
 k (.inl (Bool.false,x6,x7,x8,x9))
 else
 (Z86 ((((x1.getD x3.toNat (D.int 0)).fld (1:Nat)).fld (0:Nat)).toInt) ((((x1.getD x3.toNat (D.int 0)).fld (1:Nat)).fld (1:Nat)).toInt)).bind (fun y1=>
 bif !y1 then
 k (.inl (Bool.false,x6,x7,x8,x9))
 else
 bif decide ((0:Int)<x3) then
 if (0:Int)≤IntKind.i64.wrap (x3 - 1)∧IntKind.i64.wrap (x3 - 1)<(↑x0.length:Int) then
 bif decide (((x1.getD x3.toNat (D.int 0)).fld (0:Nat)).toInt≤((x0.getD (IntKind.i64.wrap (x3 - 1)).toNat (D.int 0)).fld (0:Nat)).toInt) then
 k (.inl (Bool.false,x6,x7,x8,x9))
 else
 if 0≤y0∧y0<(↑x9.length:Int) then
 if y0.toNat+1≤x9.length then
 (F x0 x1 x2 (IntKind.i64.wrap (x3+1)) x4 x5 x6 x7 x8 (x9.set y0.toNat (D.node [D.int (((x1.getD x3.toNat (D.int 0)).fld (1:Nat)).fld (0:Nat)).toInt,D.int (((x1.getD x3.toNat (D.int 0)).fld (1:Nat)).fld (1:Nat)).toInt]))).bind k
 else
 none
 else
 none
 else
 none
 else
 if 0≤y0∧y0<(↑x9.length:Int) then
 if y0.toNat+1≤x9.length then
 (F x0 x1 x2 (IntKind.i64.wrap (x3+1)) x4 x5 x6 x7 x8 (x9.set y0.toNat (D.node [D.int (((x1.getD x3.toNat (D.int 0)).fld (1:Nat)).fld (0:Nat)).toInt,D.int (((x1.getD x3.toNat (D.int 0)).fld (1:Nat)).fld (1:Nat)).toInt]))).bind k
 else
 none
 else
 none))
 else
 none
 else
 k (.inr (x6,x7,x8,x9))
theorem c_Z87_bind {R:Type} (F:T_Z87) (x0 x1:List D) (x2 x3:Int) (x4 x5 x6 x7 x8 x9:List D) (k:(Bool×List D×List D×List D×List D)⊕(List D×List D×List D×List D)→Option R):c_Z87 F x0 x1 x2 x3 x4 x5 x6 x7 x8 x9 k=(c_Z87 F x0 x1 x2 x3 x4 x5 x6 x7 x8 x9 some).bind k:=by
 unfold c_Z87
 repeat' first
  | exact Jy
  | exact Jx
  | exact Jw
  | apply Jt
  | apply Ju
  | apply Jz
  | (apply Jv; intro _)
  | intro _
def n_Z87:Nat→T_Z87
 | 0,_,_,_,_,_,_,_,_,_,_=>none
 | n+1,x0,x1,x2,x3,x4,x5,x6,x7,x8,x9=>c_Z87 (n_Z87 n) x0 x1 x2 x3 x4 x5 x6 x7 x8 x9 some
noncomputable def Z87 (x0 x1:List D) (x2 x3:Int) (x4 x5 x6 x7 x8 x9:List D):Option ((Bool×List D×List D×List D×List D)⊕(List D×List D×List D×List D)):=ev (fun n=>n_Z87 n x0 x1 x2 x3 x4 x5 x6 x7 x8 x9)
def m_Z87 (F:T_Z87):JA:=⟨6,⟨(.undef::.rd (.struct [.int .i64,.struct [.int .i64,.int .i64]])::.ptr 1000 [0]::uu 4 (.ptr 1001 [0]::.undef::.full 1002 [] (.struct [.int .i64,.int .i64])::uu 18 (.rd (.struct [.int .i64,.struct [.int .i64,.int .i64]])::.int .i64::.int .i64::uu 39 ([])))),[(1000,.obox (.agg [.rd (.struct [.int .i64,.int .i64]),.rd (.struct [.int .i64,.int .i64])])),(1001,.obox (.agg [.own (.int .i64),.own (.slice (.bool)),.own (.slice (.bool))])),(1002,.own (.struct [.int .i64,.int .i64]))]⟩,[(.ret,⟨(uu 4 (.nilptr::.nilsl::.bool::.ptr 1000 [0]::.undef::.full 1001 [] (.struct [.int .i64,.int .i64])::uu 60 ([]))),[(1000,.obox (.agg [.own (.int .i64),.own (.slice (.bool)),.own (.slice (.bool))])),(1001,.own (.struct [.int .i64,.int .i64]))]⟩),(.exit 0,⟨(uu 7 (.ptr 1000 [0]::.undef::.full 1001 [] (.struct [.int .i64,.int .i64])::uu 60 ([]))),[(1000,.obox (.agg [.own (.int .i64),.own (.slice (.bool)),.own (.slice (.bool))])),(1001,.own (.struct [.int .i64,.int .i64]))]⟩)],fun _ ds k=>dL (fun x0 ds=>dL (fun x1 ds=>dI (fun x2 ds=>dI (fun x3 ds=>dL (fun x4 ds=>dL (fun x5 ds=>dL (fun x6 ds=>dL (fun x7 ds=>dL (fun x8 ds=>dL (fun x9 ds=>dE ((F x0 x1 x2 x3 x4 x5 x6 x7 x8 x9).bind (Sum.elim (fun y=>k 0 [.B y.1,.L y.2.1,.L y.2.2.1,.L y.2.2.2.1,.L y.2.2.2.2]) (fun y=>k 1 [.L y.1,.L y.2.1,.L y.2.2.1,.L y.2.2.2]))) ds) ds) ds) ds) ds) ds) ds) ds) ds) ds) ds⟩
theorem q_Z87 (F:T_Z87) (x0 x1:List D) (x2 x3:Int) (x4 x5 x6 x7 x8 x9:List D):JZ (Jp [e_Z57,e_Z86]) (Jq [m_Z87 F]) A 111 (Jj (Jh Try.f111) 6) ((m_Z87 F).sh.mk' [.L x0,.L x1,.I x2,.I x3,.L x4,.L x5,.L x6,.L x7,.L x8,.L x9]) (fun e σ'=>some (e,σ'))=c_Z87 F x0 x1 x2 x3 x4 x5 x6 x7 x8 x9 (Sum.elim (fun y=>some (.ret,SSt.mk' ⟨(uu 4 (.nilptr::.nilsl::.bool::.ptr 1000 [0]::.undef::.full 1001 [] (.struct [.int .i64,.int .i64])::uu 60 ([]))),[(1000,.obox (.agg [.own (.int .i64),.own (.slice (.bool)),.own (.slice (.bool))])),(1001,.own (.struct [.int .i64,.int .i64]))]⟩ [.B y.1,.L y.2.1,.L y.2.2.1,.L y.2.2.2.1,.L y.2.2.2.2])) (fun y=>some (.exit 0,SSt.mk' ⟨(uu 7 (.ptr 1000 [0]::.undef::.full 1001 [] (.struct [.int .i64,.int .i64])::uu 60 ([]))),[(1000,.obox (.agg [.own (.int .i64),.own (.slice (.bool)),.own (.slice (.bool))])),(1001,.own (.struct [.int .i64,.int .i64]))]⟩ [.L y.1,.L y.2.1,.L y.2.2.1,.L y.2.2.2]))):=by kernel_rfl
theorem m_Z87_ok:∀ n,(m_Z87 (n_Z87 n)).ok Try.prog (Jj (Jh Try.f111) 6):=by
 intro n
 induction n with
 | zero=>
  intro R ds k r h
  unfold m_Z87 at h
  obtain ⟨_,_,rfl,h⟩:=Ja h
  obtain ⟨_,_,rfl,h⟩:=Ja h
  obtain ⟨_,_,rfl,h⟩:=Jb h
  obtain ⟨_,_,rfl,h⟩:=Jb h
  obtain ⟨_,_,rfl,h⟩:=Ja h
  obtain ⟨_,_,rfl,h⟩:=Ja h
  obtain ⟨_,_,rfl,h⟩:=Ja h
  obtain ⟨_,_,rfl,h⟩:=Ja h
  obtain ⟨_,_,rfl,h⟩:=Ja h
  obtain ⟨_,_,rfl,h⟩:=Ja h
  obtain ⟨rfl,hE⟩:=Je h
  obtain ⟨y,hy,hk⟩:=Jf hE
  cases hy
 | succ n ih=>
  intro R ds k r h
  unfold m_Z87 at h
  obtain ⟨_,_,rfl,h⟩:=Ja h
  obtain ⟨_,_,rfl,h⟩:=Ja h
  obtain ⟨_,_,rfl,h⟩:=Jb h
  obtain ⟨_,_,rfl,h⟩:=Jb h
  obtain ⟨_,_,rfl,h⟩:=Ja h
  obtain ⟨_,_,rfl,h⟩:=Ja h
  obtain ⟨_,_,rfl,h⟩:=Ja h
  obtain ⟨_,_,rfl,h⟩:=Ja h
  obtain ⟨_,_,rfl,h⟩:=Ja h
  obtain ⟨_,_,rfl,h⟩:=Ja h
  obtain ⟨rfl,hE⟩:=Je h
  obtain ⟨y,hy,hk⟩:=Jf hE
  cases y with
  | inl y=>
   exact ⟨0,_,_,_,hk,rfl,JO px (fx:=⟨Try.func111,by kernel_rfl,by kernel_rfl⟩) (Jr e_Z57_ok (Jr e_Z86_ok Jm)) (Jo ih Jn) (by kernel_rfl) ((q_Z87 ..).trans ((c_Z87_bind ..).trans (Jg hy)))⟩
  | inr y=>
   exact ⟨1,_,_,_,hk,rfl,JO px (fx:=⟨Try.func111,by kernel_rfl,by kernel_rfl⟩) (Jr e_Z57_ok (Jr e_Z86_ok Jm)) (Jo ih Jn) (by kernel_rfl) ((q_Z87 ..).trans ((c_Z87_bind ..).trans (Jg hy)))⟩
noncomputable def e_Z87:JA:=m_Z87 (Z87)
theorem e_Z87_ok:(e_Z87).ok Try.prog (Jj (Jh Try.f111) 6):=by
 intro R ds k r h
 unfold e_Z87 m_Z87 at h
 obtain ⟨_,_,rfl,h⟩:=Ja h
 obtain ⟨_,_,rfl,h⟩:=Ja h
 obtain ⟨_,_,rfl,h⟩:=Jb h
 obtain ⟨_,_,rfl,h⟩:=Jb h
 obtain ⟨_,_,rfl,h⟩:=Ja h
 obtain ⟨_,_,rfl,h⟩:=Ja h
 obtain ⟨_,_,rfl,h⟩:=Ja h
 obtain ⟨_,_,rfl,h⟩:=Ja h
 obtain ⟨_,_,rfl,h⟩:=Ja h
 obtain ⟨_,_,rfl,h⟩:=Ja h
 obtain ⟨rfl,hE⟩:=Je h
 obtain ⟨y,hy,hk⟩:=Jf hE
 obtain ⟨n,hn⟩:=J4 hy
 exact m_Z87_ok n R _ k r ((Jg hn).trans hk)

/-!-/
def c_Z88 {R:Type} (x0 x1 x2:List D) (k:(List D×Bool)⊕(List D×List D×List D×List D×Bool)→Option R):Option R:=
 (Z80 x0 x1).bind (Sum.elim (fun y0=>
 bif !y0 then
 k (.inl ([],Bool.false))
 else
 none) (fun y1=>
 bif !y1.snd.snd.snd then
 k (.inl ([],Bool.false))
 else
 (Z84 ([D.node [D.int (-20000:Int),D.int (2100:Int)]]) (↑y1.fst.length:Int)).bind (fun y2=>
 (Z87 x2 x2 (↑x2.length:Int) (0:Int) x0 x1 y1.fst y1.snd.fst y1.snd.snd.fst y2).bind (Sum.elim (fun y3=>
 k (.inl ([],y3.fst))) (fun y4=>
 k (.inr (y4.fst,y4.snd.fst,y4.snd.snd.fst,y4.snd.snd.snd,Bool.true)))))))
theorem c_Z88_bind {R:Type} (x0 x1 x2:List D) (k:(List D×Bool)⊕(List D×List D×List D×List D×Bool)→Option R):c_Z88 x0 x1 x2 k=(c_Z88 x0 x1 x2 some).bind k:=by
 unfold c_Z88
 repeat' first
  | exact Jy
  | exact Jx
  | exact Jw
  | apply Jt
  | apply Ju
  | apply Jz
  | (apply Jv; intro _)
  | intro _
def Z88 (x0 x1 x2:List D):Option ((List D×Bool)⊕(List D×List D×List D×List D×Bool)):=c_Z88 x0 x1 x2 some
def e_Z88:Ent:=⟨111,[.agg [.rd (.struct [.int .i64,.int .i64]),.rd (.struct [.int .i64,.int .i64])],.rd (.struct [.int .i64,.struct [.int .i64,.int .i64]])],[(.tup [.nilptr,.own (.struct [.int .i64,.int .i64]),.bool],[.undef,.undef]),(.tup [.obox (.agg [.own (.int .i64),.own (.slice (.bool)),.own (.slice (.bool))]),.own (.struct [.int .i64,.int .i64]),.bool],[.undef,.undef])],fun _ ds k=>dL (fun x0 ds=>dL (fun x1 ds=>dL (fun x2 ds=>dE ((Z88 x0 x1 x2).bind (Sum.elim (fun y=>k 0 [.L y.1,.B y.2]) (fun y=>k 1 [.L y.1,.L y.2.1,.L y.2.2.1,.L y.2.2.2.1,.B y.2.2.2.2]))) ds) ds) ds) ds⟩
theorem q_Z88 (x0 x1 x2:List D):JR (Jp [e_Z80,e_Z84]) (Jq [e_Z87]) A 111 Try.f111 (Sh.mks e_Z88.sh [.L x0,.L x1,.L x2]).1 (fun v os=>some (v,os))=c_Z88 x0 x1 x2 (Sum.elim (fun y=>JT e_Z88 0 [.L y.1,.B y.2]) (fun y=>JT e_Z88 1 [.L y.1,.L y.2.1,.L y.2.2.1,.L y.2.2.2.1,.B y.2.2.2.2])):=by kernel_rfl
theorem e_Z88_ok:e_Z88.ok Try.prog A:=by
 intro R ds k r h
 unfold e_Z88 at h
 obtain ⟨_,_,rfl,h⟩:=Ja h
 obtain ⟨_,_,rfl,h⟩:=Ja h
 obtain ⟨_,_,rfl,h⟩:=Ja h
 obtain ⟨rfl,hE⟩:=Je h
 obtain ⟨y,hy,hk⟩:=Jf hE
 cases y with
 | inl y=>
  exact ⟨0,_,_,_,hk,rfl,JU px (fx:=⟨Try.func111,by kernel_rfl,by kernel_rfl⟩) (Jr e_Z80_ok (Jr e_Z84_ok Jm)) (Jo e_Z87_ok Jn) ((q_Z88 ..).trans ((c_Z88_bind ..).trans (Jg hy)))⟩
 | inr y=>
  exact ⟨1,_,_,_,hk,rfl,JU px (fx:=⟨Try.func111,by kernel_rfl,by kernel_rfl⟩) (Jr e_Z80_ok (Jr e_Z84_ok Jm)) (Jo e_Z87_ok Jn) ((q_Z88 ..).trans ((c_Z88_bind ..).trans (Jg hy)))⟩

/-!-/
def c_Z89 {R:Type} (x0:List D) (k:List D→Option R):Option R:=
 if (1:Nat)≤x0.length then
 if ([]:List D).length+x0.length≤(4294967296:Nat) then
 k ([]++x0)
 else
 none
 else
 C4 (
 if ([]:List D).length+x0.length≤(4294967296:Nat) then
 k ([]++x0)
 else
 none) (
 k [])
theorem c_Z89_imp {R:Type} (x0:List D) (k:List D→Option R) (y:List D) (hy:c_Z89 x0 some=some y):c_Z89 x0 k=k y:=by
 revert hy
 unfold c_Z89
 repeat' first
  | exact qt
  | exact qu
  | exact qv
  | apply qA
  | apply qw
  | apply qx
  | apply qz
  | (apply qy; intro _)
  | intro _
def Z89 (x0:List D):Option (List D):=c_Z89 x0 some
def e_Z89:Ent:=⟨188,[.rd (.struct [.int .i64,.int .i64])],[(.own (.struct [.int .i64,.int .i64]),[.undef])],fun _ ds k=>dL (fun x0 ds=>dE ((Z89 x0).bind (fun y=>k 0 [.L y])) ds) ds⟩
theorem q_Z89 (x0:List D):JR (Jp []) (Jq []) A 188 Try.f188 (Sh.mks e_Z89.sh [.L x0]).1 (fun v os=>some (v,os))=c_Z89 x0 (fun y=>JT e_Z89 0 [.L y]):=by kernel_rfl
theorem e_Z89_ok:e_Z89.ok Try.prog A:=by
 intro R ds k r h
 unfold e_Z89 at h
 obtain ⟨_,_,rfl,h⟩:=Ja h
 obtain ⟨rfl,hE⟩:=Je h
 obtain ⟨y,hy,hk⟩:=Jf hE
 exact ⟨0,_,_,_,hk,rfl,JU px (fx:=⟨Try.func188,by kernel_rfl,by kernel_rfl⟩) Jm Jn ((q_Z89 ..).trans (c_Z89_imp (hy:=hy) ..))⟩

/-!-/
def c_Z90 {R:Type} (x0:List D) (k:List D×Bool→Option R):Option R:=
 (Z89 x0).bind (fun y0=>
 none)
theorem c_Z90_bind {R:Type} (x0:List D) (k:List D×Bool→Option R):c_Z90 x0 k=(c_Z90 x0 some).bind k:=by
 unfold c_Z90
 repeat' first
  | exact Jy
  | exact Jx
  | exact Jw
  | apply Jt
  | apply Ju
  | apply Jz
  | (apply Jv; intro _)
  | intro _
def Z90 (x0:List D):Option (List D×Bool):=c_Z90 x0 some
def e_Z90:Ent:=⟨112,[.nilptr,.rd (.struct [.int .i64,.int .i64])],[(.tup [.own (.struct [.int .i64,.int .i64]),.bool],[.undef,.undef])],fun _ ds k=>dL (fun x0 ds=>dE ((Z90 x0).bind (fun y=>k 0 [.L y.1,.B y.2])) ds) ds⟩
theorem q_Z90 (x0:List D):JR (Jp [e_Z89]) (Jq []) A 112 Try.f112 (Sh.mks e_Z90.sh [.L x0]).1 (fun v os=>some (v,os))=c_Z90 x0 (fun y=>JT e_Z90 0 [.L y.1,.B y.2]):=by kernel_rfl
theorem e_Z90_ok:e_Z90.ok Try.prog A:=by
 intro R ds k r h
 unfold e_Z90 at h
 obtain ⟨_,_,rfl,h⟩:=Ja h
 obtain ⟨rfl,hE⟩:=Je h
 obtain ⟨y,hy,hk⟩:=Jf hE
 exact ⟨0,_,_,_,hk,rfl,JU px (fx:=⟨Try.func112,by kernel_rfl,by kernel_rfl⟩) (Jr e_Z89_ok Jm) Jn ((q_Z90 ..).trans ((c_Z90_bind ..).trans (Jg hy)))⟩

/-!-/
abbrev T_Z91:=List D→Int→List D→Int→Int→List D→Int→Int→List D→Option (List D×List D×Int×Int×List D)
def c_Z91 {R:Type} (F:T_Z91) (x0:List D) (x1:Int) (x2:List D) (x3 x4:Int) (x5:List D) (x6 x7:Int) (x8:List D) (k:List D×List D×Int×Int×List D→Option R):Option R:=
 bif decide (x7<x6) then
 if 0≤x7∧x7<(↑x5.length:Int) then
 bif (x5.getD x7.toNat (D.int 0)).toBool then
 if 0≤x1∧x1<(↑x8.length:Int) then
 if x1.toNat+1≤x8.length then
 if x1.toNat+1≤x8.length then
 if 0≤x7∧x7<(↑x0.length:Int) then
 if 0≤x1∧x1<(↑x8.length:Int) then
 if x1.toNat+1≤x8.length then
 if x1.toNat+1≤x8.length then
 Z0 (x8.set x1.toNat (D.node [D.int (if ((x0.getD x7.toNat (D.int 0)).fld (0:Nat)).toInt > ((x8.getD x1.toNat (D.int 0)).fld (0:Nat)).toInt then ((x0.getD x7.toNat (D.int 0)).fld (0:Nat)).toInt else ((x8.getD x1.toNat (D.int 0)).fld (0:Nat)).toInt),D.int ((x8.getD x1.toNat (D.int 0)).fld (1:Nat)).toInt])) (fun s1=>
 if 0≤x7∧x7<(↑s1.length:Int) then
 if x7.toNat+1≤s1.length then
 if x7.toNat+1≤s1.length then
 if 0≤x1∧x1<(↑x0.length:Int) then
 if 0≤x7∧x7<(↑s1.length:Int) then
 if x7.toNat+1≤s1.length then
 if x7.toNat+1≤s1.length then
 (F x0 x1 x2 x3 x4 x5 x6 (IntKind.i64.wrap (x7+1)) (s1.set x7.toNat (D.node [D.int ((s1.getD x7.toNat (D.int 0)).fld (0:Nat)).toInt,D.int (if ((x0.getD x1.toNat (D.int 0)).fld (1:Nat)).toInt<((s1.getD x7.toNat (D.int 0)).fld (1:Nat)).toInt then ((x0.getD x1.toNat (D.int 0)).fld (1:Nat)).toInt else ((s1.getD x7.toNat (D.int 0)).fld (1:Nat)).toInt)]))).bind k
 else
 none
 else
 none
 else
 none
 else
 none
 else
 none
 else
 none
 else
 none)
 else
 none
 else
 none
 else
 none
 else
 none
 else
 none
 else
 none
 else
 none
 else
 (F x0 x1 x2 x3 x4 x5 x6 (IntKind.i64.wrap (x7+1)) x8).bind k
 else
 none
 else
 k (x0,x2,x3,x4,x8)
theorem c_Z91_bind {R:Type} (F:T_Z91) (x0:List D) (x1:Int) (x2:List D) (x3 x4:Int) (x5:List D) (x6 x7:Int) (x8:List D) (k:List D×List D×Int×Int×List D→Option R):c_Z91 F x0 x1 x2 x3 x4 x5 x6 x7 x8 k=(c_Z91 F x0 x1 x2 x3 x4 x5 x6 x7 x8 some).bind k:=by
 unfold c_Z91
 repeat' first
  | exact Jy
  | exact Jx
  | exact Jw
  | apply Jt
  | apply bnd_lt
  | apply Ju
  | apply Jz
  | (apply Jv; intro _)
  | intro _
def n_Z91:Nat→T_Z91
 | 0,_,_,_,_,_,_,_,_,_=>none
 | n+1,x0,x1,x2,x3,x4,x5,x6,x7,x8=>c_Z91 (n_Z91 n) x0 x1 x2 x3 x4 x5 x6 x7 x8 some
noncomputable def Z91 (x0:List D) (x1:Int) (x2:List D) (x3 x4:Int) (x5:List D) (x6 x7:Int) (x8:List D):Option (List D×List D×Int×Int×List D):=ev (fun n=>n_Z91 n x0 x1 x2 x3 x4 x5 x6 x7 x8)
def m_Z91 (F:T_Z91):JA:=⟨6,⟨(.undef::.rd (.struct [.int .i64,.int .i64])::uu 4 (.full 1000 [] (.struct [.int .i64,.int .i64])::.int .i64::uu 8 (.rd (.slice (.bool))::.int .i64::.int .i64::uu 4 (.rd (.bool)::.int .i64::.int .i64::uu 41 ([]))))),[(1000,.own (.struct [.int .i64,.int .i64]))]⟩,[(.exit 2,⟨(.undef::.rd (.struct [.int .i64,.int .i64])::uu 4 (.full 1000 [] (.struct [.int .i64,.int .i64])::uu 9 (.rd (.slice (.bool))::.int .i64::.int .i64::uu 48 ([])))),[(1000,.own (.struct [.int .i64,.int .i64]))]⟩)],fun _ ds k=>dL (fun x0 ds=>dI (fun x1 ds=>dL (fun x2 ds=>dI (fun x3 ds=>dI (fun x4 ds=>dL (fun x5 ds=>dI (fun x6 ds=>dI (fun x7 ds=>dL (fun x8 ds=>dE ((F x0 x1 x2 x3 x4 x5 x6 x7 x8).bind (fun y=>k 0 [.L y.1,.L y.2.1,.I y.2.2.1,.I y.2.2.2.1,.L y.2.2.2.2])) ds) ds) ds) ds) ds) ds) ds) ds) ds) ds⟩
theorem q_Z91 (F:T_Z91) (x0:List D) (x1:Int) (x2:List D) (x3 x4:Int) (x5:List D) (x6 x7:Int) (x8:List D):JZ (Jp []) (Jq [m_Z91 F]) A 112 (Jj (Jh Try.f112) 6) ((m_Z91 F).sh.mk' [.L x0,.I x1,.L x2,.I x3,.I x4,.L x5,.I x6,.I x7,.L x8]) (fun e σ'=>some (e,σ'))=c_Z91 F x0 x1 x2 x3 x4 x5 x6 x7 x8 (fun y=>some (.exit 2,SSt.mk' ⟨(.undef::.rd (.struct [.int .i64,.int .i64])::uu 4 (.full 1000 [] (.struct [.int .i64,.int .i64])::uu 9 (.rd (.slice (.bool))::.int .i64::.int .i64::uu 48 ([])))),[(1000,.own (.struct [.int .i64,.int .i64]))]⟩ [.L y.1,.L y.2.1,.I y.2.2.1,.I y.2.2.2.1,.L y.2.2.2.2])):=by kernel_rfl
theorem m_Z91_ok:∀ n,(m_Z91 (n_Z91 n)).ok Try.prog (Jj (Jh Try.f112) 6):=by
 intro n
 induction n with
 | zero=>
  intro R ds k r h
  unfold m_Z91 at h
  obtain ⟨_,_,rfl,h⟩:=Ja h
  obtain ⟨_,_,rfl,h⟩:=Jb h
  obtain ⟨_,_,rfl,h⟩:=Ja h
  obtain ⟨_,_,rfl,h⟩:=Jb h
  obtain ⟨_,_,rfl,h⟩:=Jb h
  obtain ⟨_,_,rfl,h⟩:=Ja h
  obtain ⟨_,_,rfl,h⟩:=Jb h
  obtain ⟨_,_,rfl,h⟩:=Jb h
  obtain ⟨_,_,rfl,h⟩:=Ja h
  obtain ⟨rfl,hE⟩:=Je h
  obtain ⟨y,hy,hk⟩:=Jf hE
  cases hy
 | succ n ih=>
  intro R ds k r h
  unfold m_Z91 at h
  obtain ⟨_,_,rfl,h⟩:=Ja h
  obtain ⟨_,_,rfl,h⟩:=Jb h
  obtain ⟨_,_,rfl,h⟩:=Ja h
  obtain ⟨_,_,rfl,h⟩:=Jb h
  obtain ⟨_,_,rfl,h⟩:=Jb h
  obtain ⟨_,_,rfl,h⟩:=Ja h
  obtain ⟨_,_,rfl,h⟩:=Jb h
  obtain ⟨_,_,rfl,h⟩:=Jb h
  obtain ⟨_,_,rfl,h⟩:=Ja h
  obtain ⟨rfl,hE⟩:=Je h
  obtain ⟨y,hy,hk⟩:=Jf hE
  exact ⟨0,_,_,_,hk,rfl,JO px (fx:=⟨Try.func112,by kernel_rfl,by kernel_rfl⟩) Jm (Jo ih Jn) (by kernel_rfl) ((q_Z91 ..).trans ((c_Z91_bind ..).trans (Jg hy)))⟩
noncomputable def e_Z91:JA:=m_Z91 (Z91)
theorem e_Z91_ok:(e_Z91).ok Try.prog (Jj (Jh Try.f112) 6):=by
 intro R ds k r h
 unfold e_Z91 m_Z91 at h
 obtain ⟨_,_,rfl,h⟩:=Ja h
 obtain ⟨_,_,rfl,h⟩:=Jb h
 obtain ⟨_,_,rfl,h⟩:=Ja h
 obtain ⟨_,_,rfl,h⟩:=Jb h
 obtain ⟨_,_,rfl,h⟩:=Jb h
 obtain ⟨_,_,rfl,h⟩:=Ja h
 obtain ⟨_,_,rfl,h⟩:=Jb h
 obtain ⟨_,_,rfl,h⟩:=Jb h
 obtain ⟨_,_,rfl,h⟩:=Ja h
 obtain ⟨rfl,hE⟩:=Je h
 obtain ⟨y,hy,hk⟩:=Jf hE
 obtain ⟨n,hn⟩:=J4 hy
 exact m_Z91_ok n R _ k r ((Jg hn).trans hk)

/-!-/
abbrev T_Z92:=List D→List D→Int→Int→List D→Option (List D)
def c_Z92 {R:Type} (F:T_Z92) (x0 x1:List D) (x2 x3:Int) (x4:List D) (k:List D→Option R):Option R:=
 bif decide (x3<x2) then
 if 0≤x3∧x3<(↑x1.length:Int) then
 (Z91 x0 x3 x1 x2 x3 ((x1.getD x3.toNat (D.int 0)).items) (↑(x1.getD x3.toNat (D.int 0)).items.length:Int) (0:Int) x4).bind (fun y0=>
 (F y0.fst y0.snd.fst y0.snd.snd.fst (IntKind.i64.wrap (y0.snd.snd.snd.fst+1)) y0.snd.snd.snd.snd).bind k)
 else
 none
 else
 k x4
theorem c_Z92_bind {R:Type} (F:T_Z92) (x0 x1:List D) (x2 x3:Int) (x4:List D) (k:List D→Option R):c_Z92 F x0 x1 x2 x3 x4 k=(c_Z92 F x0 x1 x2 x3 x4 some).bind k:=by
 unfold c_Z92
 repeat' first
  | exact Jy
  | exact Jx
  | exact Jw
  | apply Jt
  | apply Ju
  | apply Jz
  | (apply Jv; intro _)
  | intro _
def n_Z92:Nat→T_Z92
 | 0,_,_,_,_,_=>none
 | n+1,x0,x1,x2,x3,x4=>c_Z92 (n_Z92 n) x0 x1 x2 x3 x4 some
noncomputable def Z92 (x0 x1:List D) (x2 x3:Int) (x4:List D):Option (List D):=ev (fun n=>n_Z92 n x0 x1 x2 x3 x4)
def m_Z92 (F:T_Z92):JA:=⟨3,⟨(.undef::.rd (.struct [.int .i64,.int .i64])::uu 4 (.full 1000 [] (.struct [.int .i64,.int .i64])::uu 9 (.rd (.slice (.bool))::.int .i64::.int .i64::uu 48 ([])))),[(1000,.own (.struct [.int .i64,.int .i64]))]⟩,[(.exit 0,⟨(uu 6 (.full 1000 [] (.struct [.int .i64,.int .i64])::uu 60 ([]))),[(1000,.own (.struct [.int .i64,.int .i64]))]⟩)],fun _ ds k=>dL (fun x0 ds=>dL (fun x1 ds=>dI (fun x2 ds=>dI (fun x3 ds=>dL (fun x4 ds=>dE ((F x0 x1 x2 x3 x4).bind (fun y=>k 0 [.L y])) ds) ds) ds) ds) ds) ds⟩
theorem q_Z92 (F:T_Z92) (x0 x1:List D) (x2 x3:Int) (x4:List D):JZ (Jp []) (Jq [m_Z92 F,e_Z91]) A 112 (Jj (Jh Try.f112) 3) ((m_Z92 F).sh.mk' [.L x0,.L x1,.I x2,.I x3,.L x4]) (fun e σ'=>some (e,σ'))=c_Z92 F x0 x1 x2 x3 x4 (fun y=>some (.exit 0,SSt.mk' ⟨(uu 6 (.full 1000 [] (.struct [.int .i64,.int .i64])::uu 60 ([]))),[(1000,.own (.struct [.int .i64,.int .i64]))]⟩ [.L y])):=by kernel_rfl
theorem m_Z92_ok:∀ n,(m_Z92 (n_Z92 n)).ok Try.prog (Jj (Jh Try.f112) 3):=by
 intro n
 induction n with
 | zero=>
  intro R ds k r h
  unfold m_Z92 at h
  obtain ⟨_,_,rfl,h⟩:=Ja h
  obtain ⟨_,_,rfl,h⟩:=Ja h
  obtain ⟨_,_,rfl,h⟩:=Jb h
  obtain ⟨_,_,rfl,h⟩:=Jb h
  obtain ⟨_,_,rfl,h⟩:=Ja h
  obtain ⟨rfl,hE⟩:=Je h
  obtain ⟨y,hy,hk⟩:=Jf hE
  cases hy
 | succ n ih=>
  intro R ds k r h
  unfold m_Z92 at h
  obtain ⟨_,_,rfl,h⟩:=Ja h
  obtain ⟨_,_,rfl,h⟩:=Ja h
  obtain ⟨_,_,rfl,h⟩:=Jb h
  obtain ⟨_,_,rfl,h⟩:=Jb h
  obtain ⟨_,_,rfl,h⟩:=Ja h
  obtain ⟨rfl,hE⟩:=Je h
  obtain ⟨y,hy,hk⟩:=Jf hE
  exact ⟨0,_,_,_,hk,rfl,JO px (fx:=⟨Try.func112,by kernel_rfl,by kernel_rfl⟩) Jm (Jo ih (Jo e_Z91_ok Jn)) (by kernel_rfl) ((q_Z92 ..).trans ((c_Z92_bind ..).trans (Jg hy)))⟩
noncomputable def e_Z92:JA:=m_Z92 (Z92)
theorem e_Z92_ok:(e_Z92).ok Try.prog (Jj (Jh Try.f112) 3):=by
 intro R ds k r h
 unfold e_Z92 m_Z92 at h
 obtain ⟨_,_,rfl,h⟩:=Ja h
 obtain ⟨_,_,rfl,h⟩:=Ja h
 obtain ⟨_,_,rfl,h⟩:=Jb h
 obtain ⟨_,_,rfl,h⟩:=Jb h
 obtain ⟨_,_,rfl,h⟩:=Ja h
 obtain ⟨rfl,hE⟩:=Je h
 obtain ⟨y,hy,hk⟩:=Jf hE
 obtain ⟨n,hn⟩:=J4 hy
 exact m_Z92_ok n R _ k r ((Jg hn).trans hk)

/-!-/
def c_Z93 {R:Type} (x0 x1:Int) (k:Bool→Option R):Option R:=
 k (decide (x1<x0))
theorem c_Z93_bind {R:Type} (x0 x1:Int) (k:Bool→Option R):c_Z93 x0 x1 k=(c_Z93 x0 x1 some).bind k:=by
 unfold c_Z93
 repeat' first
  | exact Jy
  | exact Jx
  | exact Jw
  | apply Jt
  | apply Ju
  | apply Jz
  | (apply Jv; intro _)
  | intro _
def Z93 (x0 x1:Int):Option (Bool):=c_Z93 x0 x1 some
def e_Z93:Ent:=⟨190,[.agg [.int .i64,.int .i64]],[(.bool,[.undef])],fun _ ds k=>dI (fun x0 ds=>dI (fun x1 ds=>dE ((Z93 x0 x1).bind (fun y=>k 0 [.B y])) ds) ds) ds⟩
theorem q_Z93 (x0 x1:Int):JR (Jp []) (Jq []) A 190 Try.f190 (Sh.mks e_Z93.sh [.I x0,.I x1]).1 (fun v os=>some (v,os))=c_Z93 x0 x1 (fun y=>JT e_Z93 0 [.B y]):=by kernel_rfl
theorem e_Z93_ok:e_Z93.ok Try.prog A:=by
 intro R ds k r h
 unfold e_Z93 at h
 obtain ⟨_,_,rfl,h⟩:=Jb h
 obtain ⟨_,_,rfl,h⟩:=Jb h
 obtain ⟨rfl,hE⟩:=Je h
 obtain ⟨y,hy,hk⟩:=Jf hE
 exact ⟨0,_,_,_,hk,rfl,JU px (fx:=⟨Try.func190,by kernel_rfl,by kernel_rfl⟩) Jm Jn ((q_Z93 ..).trans ((c_Z93_bind ..).trans (Jg hy)))⟩

/-!-/
abbrev T_Z94:=List D→Int→Int→Option ((Int)⊕(Unit))
def c_Z94 {R:Type} (F:T_Z94) (x0:List D) (x1 x2:Int) (k:(Int)⊕(Unit)→Option R):Option R:=
 bif decide (x2<x1) then
 if 0≤x2∧x2<(↑x0.length:Int) then
 (Z93 (((x0.getD x2.toNat (D.int 0)).fld (0:Nat)).toInt) (((x0.getD x2.toNat (D.int 0)).fld (1:Nat)).toInt)).bind (fun y0=>
 bif y0 then
 k (.inl x2)
 else
 (F x0 x1 (IntKind.i64.wrap (x2+1))).bind k)
 else
 none
 else
 k (.inr ())
theorem c_Z94_bind {R:Type} (F:T_Z94) (x0:List D) (x1 x2:Int) (k:(Int)⊕(Unit)→Option R):c_Z94 F x0 x1 x2 k=(c_Z94 F x0 x1 x2 some).bind k:=by
 unfold c_Z94
 repeat' first
  | exact Jy
  | exact Jx
  | exact Jw
  | apply Jt
  | apply Ju
  | apply Jz
  | (apply Jv; intro _)
  | intro _
def n_Z94:Nat→T_Z94
 | 0,_,_,_=>none
 | n+1,x0,x1,x2=>c_Z94 (n_Z94 n) x0 x1 x2 some
noncomputable def Z94 (x0:List D) (x1 x2:Int):Option ((Int)⊕(Unit)):=ev (fun n=>n_Z94 n x0 x1 x2)
def m_Z94 (F:T_Z94):JA:=⟨2,⟨(.rd (.struct [.int .i64,.int .i64])::.fn 190 []::uu 5 (.int .i64::.int .i64::uu 10 ([]))),[]⟩,[(.ret,⟨(uu 4 (.int .i64::uu 14 ([]))),[]⟩),(.exit 0,⟨(uu 19 ([])),[]⟩)],fun _ ds k=>dL (fun x0 ds=>dI (fun x1 ds=>dI (fun x2 ds=>dE ((F x0 x1 x2).bind (Sum.elim (fun y=>k 0 [.I y]) (fun y=>k 1 []))) ds) ds) ds) ds⟩
theorem q_Z94 (F:T_Z94) (x0:List D) (x1 x2:Int):JZ (Jp [e_Z93]) (Jq [m_Z94 F]) A 224 (Jj (Jh Try.f224) 2) ((m_Z94 F).sh.mk' [.L x0,.I x1,.I x2]) (fun e σ'=>some (e,σ'))=c_Z94 F x0 x1 x2 (Sum.elim (fun y=>some (.ret,SSt.mk' ⟨(uu 4 (.int .i64::uu 14 ([]))),[]⟩ [.I y])) (fun y=>some (.exit 0,SSt.mk' ⟨(uu 19 ([])),[]⟩ []))):=by kernel_rfl
theorem m_Z94_ok:∀ n,(m_Z94 (n_Z94 n)).ok Try.prog (Jj (Jh Try.f224) 2):=by
 intro n
 induction n with
 | zero=>
  intro R ds k r h
  unfold m_Z94 at h
  obtain ⟨_,_,rfl,h⟩:=Ja h
  obtain ⟨_,_,rfl,h⟩:=Jb h
  obtain ⟨_,_,rfl,h⟩:=Jb h
  obtain ⟨rfl,hE⟩:=Je h
  obtain ⟨y,hy,hk⟩:=Jf hE
  cases hy
 | succ n ih=>
  intro R ds k r h
  unfold m_Z94 at h
  obtain ⟨_,_,rfl,h⟩:=Ja h
  obtain ⟨_,_,rfl,h⟩:=Jb h
  obtain ⟨_,_,rfl,h⟩:=Jb h
  obtain ⟨rfl,hE⟩:=Je h
  obtain ⟨y,hy,hk⟩:=Jf hE
  cases y with
  | inl y=>
   exact ⟨0,_,_,_,hk,rfl,JO px (fx:=⟨Try.func224,by kernel_rfl,by kernel_rfl⟩) (Jr e_Z93_ok Jm) (Jo ih Jn) (by kernel_rfl) ((q_Z94 ..).trans ((c_Z94_bind ..).trans (Jg hy)))⟩
  | inr y=>
   exact ⟨1,_,_,_,hk,rfl,JO px (fx:=⟨Try.func224,by kernel_rfl,by kernel_rfl⟩) (Jr e_Z93_ok Jm) (Jo ih Jn) (by kernel_rfl) ((q_Z94 ..).trans ((c_Z94_bind ..).trans (Jg hy)))⟩
noncomputable def e_Z94:JA:=m_Z94 (Z94)
theorem e_Z94_ok:(e_Z94).ok Try.prog (Jj (Jh Try.f224) 2):=by
 intro R ds k r h
 unfold e_Z94 m_Z94 at h
 obtain ⟨_,_,rfl,h⟩:=Ja h
 obtain ⟨_,_,rfl,h⟩:=Jb h
 obtain ⟨_,_,rfl,h⟩:=Jb h
 obtain ⟨rfl,hE⟩:=Je h
 obtain ⟨y,hy,hk⟩:=Jf hE
 obtain ⟨n,hn⟩:=J4 hy
 exact m_Z94_ok n R _ k r ((Jg hn).trans hk)

/-!-/
def c_Z95 {R:Type} (x0:List D) (k:Int→Option R):Option R:=
 (Z94 x0 (↑x0.length:Int) (0:Int)).bind (Sum.elim (fun y0=>
 k y0) (fun y1=>
 k (-1:Int)))
theorem c_Z95_bind {R:Type} (x0:List D) (k:Int→Option R):c_Z95 x0 k=(c_Z95 x0 some).bind k:=by
 unfold c_Z95
 repeat' first
  | exact Jy
  | exact Jx
  | exact Jw
  | apply Jt
  | apply Ju
  | apply Jz
  | (apply Jv; intro _)
  | intro _
def Z95 (x0:List D):Option (Int):=c_Z95 x0 some
def e_Z95:Ent:=⟨224,[.rd (.struct [.int .i64,.int .i64]),.fn 190 []],[(.int .i64,[.undef,.undef])],fun _ ds k=>dL (fun x0 ds=>dE ((Z95 x0).bind (fun y=>k 0 [.I y])) ds) ds⟩
theorem q_Z95 (x0:List D):JR (Jp []) (Jq [e_Z94]) A 224 Try.f224 (Sh.mks e_Z95.sh [.L x0]).1 (fun v os=>some (v,os))=c_Z95 x0 (fun y=>JT e_Z95 0 [.I y]):=by kernel_rfl
theorem e_Z95_ok:e_Z95.ok Try.prog A:=by
 intro R ds k r h
 unfold e_Z95 at h
 obtain ⟨_,_,rfl,h⟩:=Ja h
 obtain ⟨rfl,hE⟩:=Je h
 obtain ⟨y,hy,hk⟩:=Jf hE
 exact ⟨0,_,_,_,hk,rfl,JU px (fx:=⟨Try.func224,by kernel_rfl,by kernel_rfl⟩) Jm (Jo e_Z94_ok Jn) ((q_Z95 ..).trans ((c_Z95_bind ..).trans (Jg hy)))⟩

/-!-/
def c_Z96 {R:Type} (x0:List D) (k:Bool→Option R):Option R:=
 (Z95 x0).bind (fun y0=>
 k (decide ((0:Int)≤y0)))
theorem c_Z96_bind {R:Type} (x0:List D) (k:Bool→Option R):c_Z96 x0 k=(c_Z96 x0 some).bind k:=by
 unfold c_Z96
 repeat' first
  | exact Jy
  | exact Jx
  | exact Jw
  | apply Jt
  | apply Ju
  | apply Jz
  | (apply Jv; intro _)
  | intro _
def Z96 (x0:List D):Option (Bool):=c_Z96 x0 some
def e_Z96:Ent:=⟨189,[.rd (.struct [.int .i64,.int .i64]),.fn 190 []],[(.bool,[.undef,.undef])],fun _ ds k=>dL (fun x0 ds=>dE ((Z96 x0).bind (fun y=>k 0 [.B y])) ds) ds⟩
theorem q_Z96 (x0:List D):JR (Jp [e_Z95]) (Jq []) A 189 Try.f189 (Sh.mks e_Z96.sh [.L x0]).1 (fun v os=>some (v,os))=c_Z96 x0 (fun y=>JT e_Z96 0 [.B y]):=by kernel_rfl
theorem e_Z96_ok:e_Z96.ok Try.prog A:=by
 intro R ds k r h
 unfold e_Z96 at h
 obtain ⟨_,_,rfl,h⟩:=Ja h
 obtain ⟨rfl,hE⟩:=Je h
 obtain ⟨y,hy,hk⟩:=Jf hE
 exact ⟨0,_,_,_,hk,rfl,JU px (fx:=⟨Try.func189,by kernel_rfl,by kernel_rfl⟩) (Jr e_Z95_ok Jm) Jn ((q_Z96 ..).trans ((c_Z96_bind ..).trans (Jg hy)))⟩

/-!-/
def c_Z97 {R:Type} (x0 x1 x2 x3:List D) (k:List D×Bool→Option R):Option R:=
 (Z89 x3).bind (fun y0=>
 (Z92 x3 x2 (↑x2.length:Int) (0:Int) y0).bind (fun y1=>
 (Z96 y1).bind (fun y2=>
 k (y1,!y2))))
theorem c_Z97_bind {R:Type} (x0 x1 x2 x3:List D) (k:List D×Bool→Option R):c_Z97 x0 x1 x2 x3 k=(c_Z97 x0 x1 x2 x3 some).bind k:=by
 unfold c_Z97
 repeat' first
  | exact Jy
  | exact Jx
  | exact Jw
  | apply Jt
  | apply Ju
  | apply Jz
  | (apply Jv; intro _)
  | intro _
def Z97 (x0 x1 x2 x3:List D):Option (List D×Bool):=c_Z97 x0 x1 x2 x3 some
def e_Z97:Ent:=⟨112,[.rp (.agg [.rd (.int .i64),.rd (.slice (.bool)),.rd (.slice (.bool))]),.rd (.struct [.int .i64,.int .i64])],[(.tup [.own (.struct [.int .i64,.int .i64]),.bool],[.undef,.undef])],fun _ ds k=>dL (fun x0 ds=>dL (fun x1 ds=>dL (fun x2 ds=>dL (fun x3 ds=>dE ((Z97 x0 x1 x2 x3).bind (fun y=>k 0 [.L y.1,.B y.2])) ds) ds) ds) ds) ds⟩
theorem q_Z97 (x0 x1 x2 x3:List D):JR (Jp [e_Z89,e_Z96]) (Jq [e_Z92]) A 112 Try.f112 (Sh.mks e_Z97.sh [.L x0,.L x1,.L x2,.L x3]).1 (fun v os=>some (v,os))=c_Z97 x0 x1 x2 x3 (fun y=>JT e_Z97 0 [.L y.1,.B y.2]):=by kernel_rfl
theorem e_Z97_ok:e_Z97.ok Try.prog A:=by
 intro R ds k r h
 unfold e_Z97 at h
 obtain ⟨_,_,rfl,h⟩:=Ja h
 obtain ⟨_,_,rfl,h⟩:=Ja h
 obtain ⟨_,_,rfl,h⟩:=Ja h
 obtain ⟨_,_,rfl,h⟩:=Ja h
 obtain ⟨rfl,hE⟩:=Je h
 obtain ⟨y,hy,hk⟩:=Jf hE
 exact ⟨0,_,_,_,hk,rfl,JU px (fx:=⟨Try.func112,by kernel_rfl,by kernel_rfl⟩) (Jr e_Z89_ok (Jr e_Z96_ok Jm)) (Jo e_Z92_ok Jn) ((q_Z97 ..).trans ((c_Z97_bind ..).trans (Jg hy)))⟩

/-!-/
def c_Z98 {R:Type} (x0 x1 x2:List D) (k:List D×Bool→Option R):Option R:=
 (Z88 x0 x1 x2).bind (Sum.elim (fun y0=>
 bif !y0.snd then
 k ([],Bool.false)
 else
 (Z90 y0.fst).bind (fun y1=>
 bif !y1.snd then
 k ([],Bool.false)
 else
 k (y1.fst,Bool.true))) (fun y2=>
 bif !y2.snd.snd.snd.snd then
 k ([],Bool.false)
 else
 (Z97 y2.fst y2.snd.fst y2.snd.snd.fst y2.snd.snd.snd.fst).bind (fun y3=>
 bif !y3.snd then
 k ([],Bool.false)
 else
 k (y3.fst,Bool.true))))
theorem c_Z98_bind {R:Type} (x0 x1 x2:List D) (k:List D×Bool→Option R):c_Z98 x0 x1 x2 k=(c_Z98 x0 x1 x2 some).bind k:=by
 unfold c_Z98
 repeat' first
  | exact Jy
  | exact Jx
  | exact Jw
  | apply Jt
  | apply Ju
  | apply Jz
  | (apply Jv; intro _)
  | intro _
def Z98 (x0 x1 x2:List D):Option (List D×Bool):=c_Z98 x0 x1 x2 some
def e_Z98:Ent:=⟨32,[.agg [.rd (.struct [.int .i64,.int .i64]),.rd (.struct [.int .i64,.int .i64])],.rd (.struct [.int .i64,.struct [.int .i64,.int .i64]])],[(.tup [.own (.struct [.int .i64,.int .i64]),.bool],[.undef,.undef])],fun _ ds k=>dL (fun x0 ds=>dL (fun x1 ds=>dL (fun x2 ds=>dE ((Z98 x0 x1 x2).bind (fun y=>k 0 [.L y.1,.B y.2])) ds) ds) ds) ds⟩
theorem q_Z98 (x0 x1 x2:List D):JR (Jp [e_Z88,e_Z90,e_Z97]) (Jq []) A 32 Try.f32 (Sh.mks e_Z98.sh [.L x0,.L x1,.L x2]).1 (fun v os=>some (v,os))=c_Z98 x0 x1 x2 (fun y=>JT e_Z98 0 [.L y.1,.B y.2]):=by kernel_rfl
theorem e_Z98_ok:e_Z98.ok Try.prog A:=by
 intro R ds k r h
 unfold e_Z98 at h
 obtain ⟨_,_,rfl,h⟩:=Ja h
 obtain ⟨_,_,rfl,h⟩:=Ja h
 obtain ⟨_,_,rfl,h⟩:=Ja h
 obtain ⟨rfl,hE⟩:=Je h
 obtain ⟨y,hy,hk⟩:=Jf hE
 exact ⟨0,_,_,_,hk,rfl,JU px (fx:=⟨Try.func32,by kernel_rfl,by kernel_rfl⟩) (Jr e_Z88_ok (Jr e_Z90_ok (Jr e_Z97_ok Jm))) Jn ((q_Z98 ..).trans ((c_Z98_bind ..).trans (Jg hy)))⟩

/-!-/
abbrev T_Z99:=Int→Int→Int→Nat→Int→Int→List D→List D→List D→List D→Option ((Int×Int×Bool×Bool×Int×Int×List D×List D×List D×List D)⊕(Int×Int×List D×List D×List D×List D))
def c_Z99 {R:Type} (F:T_Z99) (x0 x1 x2:Int) (x3:Nat) (x4 x5:Int) (x6 x7 x8 x9:List D) (k:(Int×Int×Bool×Bool×Int×Int×List D×List D×List D×List D)⊕(Int×Int×List D×List D×List D×List D)→Option R):Option R:=
 bif decide (x5<x4) then
 if x3+(1:Nat)≤x8.length then
 if 0≤x5∧x5<(↑(x8.getD x3 (D.int 0)).items.length:Int) then
 if x3+(1:Nat)≤x8.length then
 if x5.toNat+1≤(x8.getD x3 (D.int 0)).items.length then
 bif ((x8.getD x3 (D.int 0)).items.getD x5.toNat (D.int 0)).toBool then
 if 0≤x0∧x0<(↑x9.length:Int) then
 if x0.toNat+1≤x9.length then
 if x0.toNat+1≤x9.length then
 if 0≤x5∧x5<(↑x9.length:Int) then
 if x5.toNat+1≤x9.length then
 if x5.toNat+1≤x9.length then
 bif decide (((x9.getD x0.toNat (D.int 0)).fld (1:Nat)).toInt<((x9.getD x5.toNat (D.int 0)).fld (0:Nat)).toInt) then
 if 0≤x0∧x0<(↑x6.length:Int) then
 if x0.toNat+1≤x6.length then
 if 0≤x5∧x5<(↑x6.length:Int) then
 if x5.toNat+1≤x6.length then
 k (.inl ((x6.getD x0.toNat (D.int 0)).toInt,(x6.getD x5.toNat (D.int 0)).toInt,Bool.true,Bool.true,x1,x2,x6,x7,x8,x9))
 else
 none
 else
 none
 else
 none
 else
 none
 else
 (F x0 x1 x2 x3 x4 (IntKind.i64.wrap (x5+1)) x6 x7 x8 x9).bind k
 else
 none
 else
 none
 else
 none
 else
 none
 else
 none
 else
 none
 else
 (F x0 x1 x2 x3 x4 (IntKind.i64.wrap (x5+1)) x6 x7 x8 x9).bind k
 else
 none
 else
 none
 else
 none
 else
 none
 else
 k (.inr (x1,x2,x6,x7,x8,x9))
theorem c_Z99_bind {R:Type} (F:T_Z99) (x0 x1 x2:Int) (x3:Nat) (x4 x5:Int) (x6 x7 x8 x9:List D) (k:(Int×Int×Bool×Bool×Int×Int×List D×List D×List D×List D)⊕(Int×Int×List D×List D×List D×List D)→Option R):c_Z99 F x0 x1 x2 x3 x4 x5 x6 x7 x8 x9 k=(c_Z99 F x0 x1 x2 x3 x4 x5 x6 x7 x8 x9 some).bind k:=by
 unfold c_Z99
 repeat' first
  | exact Jy
  | exact Jx
  | exact Jw
  | apply Jt
  | apply Ju
  | apply Jz
  | (apply Jv; intro _)
  | intro _
def n_Z99:Nat→T_Z99
 | 0,_,_,_,_,_,_,_,_,_,_=>none
 | n+1,x0,x1,x2,x3,x4,x5,x6,x7,x8,x9=>c_Z99 (n_Z99 n) x0 x1 x2 x3 x4 x5 x6 x7 x8 x9 some
noncomputable def Z99 (x0 x1 x2:Int) (x3:Nat) (x4 x5:Int) (x6 x7 x8 x9:List D):Option ((Int×Int×Bool×Bool×Int×Int×List D×List D×List D×List D)⊕(Int×Int×List D×List D×List D×List D)):=ev (fun n=>n_Z99 n x0 x1 x2 x3 x4 x5 x6 x7 x8 x9)
def m_Z99 (F:T_Z99):JA:=⟨8,⟨(uu 8 (.ptr 1000 [0]::.full 1001 [] (.struct [.int .i64,.int .i64])::.undef::.int .i64::uu 15 (.full 1000 [0,2] (.slice (.bool))::.int .i64::.int .i64::uu 4 (.full 1000 [0,2,1000000] (.bool)::.int .i64::.int .i64::uu 34 ([]))))),[(1000,.obox (.agg [.own (.int .i64),.own (.slice (.bool)),.own (.slice (.bool))])),(1001,.own (.struct [.int .i64,.int .i64]))]⟩,[(.ret,⟨(uu 4 (.int .i64::.int .i64::.bool::.bool::.ptr 1000 [0]::.full 1001 [] (.struct [.int .i64,.int .i64])::uu 17 (.full 1000 [0,2] (.slice (.bool))::.int .i64::.int .i64::uu 41 ([])))),[(1000,.obox (.agg [.own (.int .i64),.own (.slice (.bool)),.own (.slice (.bool))])),(1001,.own (.struct [.int .i64,.int .i64]))]⟩),(.exit 2,⟨(uu 8 (.ptr 1000 [0]::.full 1001 [] (.struct [.int .i64,.int .i64])::uu 17 (.full 1000 [0,2] (.slice (.bool))::.int .i64::.int .i64::uu 41 ([])))),[(1000,.obox (.agg [.own (.int .i64),.own (.slice (.bool)),.own (.slice (.bool))])),(1001,.own (.struct [.int .i64,.int .i64]))]⟩)],fun _ ds k=>dI (fun x0 ds=>dI (fun x1 ds=>dI (fun x2 ds=>dN (fun x3 ds=>dI (fun x4 ds=>dI (fun x5 ds=>dL (fun x6 ds=>dL (fun x7 ds=>dL (fun x8 ds=>dL (fun x9 ds=>dE ((F x0 x1 x2 x3 x4 x5 x6 x7 x8 x9).bind (Sum.elim (fun y=>k 0 [.I y.1,.I y.2.1,.B y.2.2.1,.B y.2.2.2.1,.I y.2.2.2.2.1,.I y.2.2.2.2.2.1,.L y.2.2.2.2.2.2.1,.L y.2.2.2.2.2.2.2.1,.L y.2.2.2.2.2.2.2.2.1,.L y.2.2.2.2.2.2.2.2.2]) (fun y=>k 1 [.I y.1,.I y.2.1,.L y.2.2.1,.L y.2.2.2.1,.L y.2.2.2.2.1,.L y.2.2.2.2.2]))) ds) ds) ds) ds) ds) ds) ds) ds) ds) ds) ds⟩
theorem q_Z99 (F:T_Z99) (x0 x1 x2:Int) (x3:Nat) (x4 x5:Int) (x6 x7 x8 x9:List D):JZ (Jp []) (Jq [m_Z99 F]) A 33 (Jj (Jh Try.f33) 8) ((m_Z99 F).sh.mk' [.I x0,.I x1,.I x2,.N x3,.I x4,.I x5,.L x6,.L x7,.L x8,.L x9]) (fun e σ'=>some (e,σ'))=c_Z99 F x0 x1 x2 x3 x4 x5 x6 x7 x8 x9 (Sum.elim (fun y=>some (.ret,SSt.mk' ⟨(uu 4 (.int .i64::.int .i64::.bool::.bool::.ptr 1000 [0]::.full 1001 [] (.struct [.int .i64,.int .i64])::uu 17 (.full 1000 [0,2] (.slice (.bool))::.int .i64::.int .i64::uu 41 ([])))),[(1000,.obox (.agg [.own (.int .i64),.own (.slice (.bool)),.own (.slice (.bool))])),(1001,.own (.struct [.int .i64,.int .i64]))]⟩ [.I y.1,.I y.2.1,.B y.2.2.1,.B y.2.2.2.1,.I y.2.2.2.2.1,.I y.2.2.2.2.2.1,.L y.2.2.2.2.2.2.1,.L y.2.2.2.2.2.2.2.1,.L y.2.2.2.2.2.2.2.2.1,.L y.2.2.2.2.2.2.2.2.2])) (fun y=>some (.exit 2,SSt.mk' ⟨(uu 8 (.ptr 1000 [0]::.full 1001 [] (.struct [.int .i64,.int .i64])::uu 17 (.full 1000 [0,2] (.slice (.bool))::.int .i64::.int .i64::uu 41 ([])))),[(1000,.obox (.agg [.own (.int .i64),.own (.slice (.bool)),.own (.slice (.bool))])),(1001,.own (.struct [.int .i64,.int .i64]))]⟩ [.I y.1,.I y.2.1,.L y.2.2.1,.L y.2.2.2.1,.L y.2.2.2.2.1,.L y.2.2.2.2.2]))):=by kernel_rfl
theorem m_Z99_ok:∀ n,(m_Z99 (n_Z99 n)).ok Try.prog (Jj (Jh Try.f33) 8):=by
 intro n
 induction n with
 | zero=>
  intro R ds k r h
  unfold m_Z99 at h
  obtain ⟨_,_,rfl,h⟩:=Jb h
  obtain ⟨_,_,rfl,h⟩:=Jb h
  obtain ⟨_,_,rfl,h⟩:=Jb h
  obtain ⟨_,_,rfl,h⟩:=VD h
  obtain ⟨_,_,rfl,h⟩:=Jb h
  obtain ⟨_,_,rfl,h⟩:=Jb h
  obtain ⟨_,_,rfl,h⟩:=Ja h
  obtain ⟨_,_,rfl,h⟩:=Ja h
  obtain ⟨_,_,rfl,h⟩:=Ja h
  obtain ⟨_,_,rfl,h⟩:=Ja h
  obtain ⟨rfl,hE⟩:=Je h
  obtain ⟨y,hy,hk⟩:=Jf hE
  cases hy
 | succ n ih=>
  intro R ds k r h
  unfold m_Z99 at h
  obtain ⟨_,_,rfl,h⟩:=Jb h
  obtain ⟨_,_,rfl,h⟩:=Jb h
  obtain ⟨_,_,rfl,h⟩:=Jb h
  obtain ⟨_,_,rfl,h⟩:=VD h
  obtain ⟨_,_,rfl,h⟩:=Jb h
  obtain ⟨_,_,rfl,h⟩:=Jb h
  obtain ⟨_,_,rfl,h⟩:=Ja h
  obtain ⟨_,_,rfl,h⟩:=Ja h
  obtain ⟨_,_,rfl,h⟩:=Ja h
  obtain ⟨_,_,rfl,h⟩:=Ja h
  obtain ⟨rfl,hE⟩:=Je h
  obtain ⟨y,hy,hk⟩:=Jf hE
  cases y with
  | inl y=>
   exact ⟨0,_,_,_,hk,rfl,JO px (fx:=⟨Try.func33,by kernel_rfl,by kernel_rfl⟩) Jm (Jo ih Jn) (by kernel_rfl) ((q_Z99 ..).trans ((c_Z99_bind ..).trans (Jg hy)))⟩
  | inr y=>
   exact ⟨1,_,_,_,hk,rfl,JO px (fx:=⟨Try.func33,by kernel_rfl,by kernel_rfl⟩) Jm (Jo ih Jn) (by kernel_rfl) ((q_Z99 ..).trans ((c_Z99_bind ..).trans (Jg hy)))⟩
noncomputable def e_Z99:JA:=m_Z99 (Z99)
theorem e_Z99_ok:(e_Z99).ok Try.prog (Jj (Jh Try.f33) 8):=by
 intro R ds k r h
 unfold e_Z99 m_Z99 at h
 obtain ⟨_,_,rfl,h⟩:=Jb h
 obtain ⟨_,_,rfl,h⟩:=Jb h
 obtain ⟨_,_,rfl,h⟩:=Jb h
 obtain ⟨_,_,rfl,h⟩:=VD h
 obtain ⟨_,_,rfl,h⟩:=Jb h
 obtain ⟨_,_,rfl,h⟩:=Jb h
 obtain ⟨_,_,rfl,h⟩:=Ja h
 obtain ⟨_,_,rfl,h⟩:=Ja h
 obtain ⟨_,_,rfl,h⟩:=Ja h
 obtain ⟨_,_,rfl,h⟩:=Ja h
 obtain ⟨rfl,hE⟩:=Je h
 obtain ⟨y,hy,hk⟩:=Jf hE
 obtain ⟨n,hn⟩:=J4 hy
 exact m_Z99_ok n R _ k r ((Jg hn).trans hk)

/-!-/
abbrev T_Z100:=Int→Int→List D→List D→List D→List D→Option ((Int×Int×Bool×Bool)⊕(Unit))
def c_Z100 {R:Type} (F:T_Z100) (x0 x1:Int) (x2 x3 x4 x5:List D) (k:(Int×Int×Bool×Bool)⊕(Unit)→Option R):Option R:=
 bif decide (x1<x0) then
 if 0≤x1∧x1<(↑x4.length:Int) then
 if x1.toNat+1≤x4.length then
 if x1.toNat+1≤x4.length then
 (Z99 x1 x0 x1 x1.toNat (↑(x4.getD x1.toNat (D.int 0)).items.length:Int) (0:Int) x2 x3 x4 x5).bind (Sum.elim (fun y0=>
 k (.inl (y0.fst,y0.snd.fst,y0.snd.snd.fst,y0.snd.snd.snd.fst))) (fun y1=>
 (F y1.fst (IntKind.i64.wrap (y1.snd.fst+1)) y1.snd.snd.fst y1.snd.snd.snd.fst y1.snd.snd.snd.snd.fst y1.snd.snd.snd.snd.snd).bind k))
 else
 none
 else
 none
 else
 none
 else
 k (.inr ())
theorem c_Z100_bind {R:Type} (F:T_Z100) (x0 x1:Int) (x2 x3 x4 x5:List D) (k:(Int×Int×Bool×Bool)⊕(Unit)→Option R):c_Z100 F x0 x1 x2 x3 x4 x5 k=(c_Z100 F x0 x1 x2 x3 x4 x5 some).bind k:=by
 unfold c_Z100
 repeat' first
  | exact Jy
  | exact Jx
  | exact Jw
  | apply Jt
  | apply Ju
  | apply Jz
  | (apply Jv; intro _)
  | intro _
def n_Z100:Nat→T_Z100
 | 0,_,_,_,_,_,_=>none
 | n+1,x0,x1,x2,x3,x4,x5=>c_Z100 (n_Z100 n) x0 x1 x2 x3 x4 x5 some
noncomputable def Z100 (x0 x1:Int) (x2 x3 x4 x5:List D):Option ((Int×Int×Bool×Bool)⊕(Unit)):=ev (fun n=>n_Z100 n x0 x1 x2 x3 x4 x5)
def m_Z100 (F:T_Z100):JA:=⟨5,⟨(uu 8 (.ptr 1000 [0]::.full 1001 [] (.struct [.int .i64,.int .i64])::uu 17 (.full 1000 [0,2] (.slice (.bool))::.int .i64::.int .i64::uu 41 ([])))),[(1000,.obox (.agg [.own (.int .i64),.own (.slice (.bool)),.own (.slice (.bool))])),(1001,.own (.struct [.int .i64,.int .i64]))]⟩,[(.ret,⟨(uu 4 (.int .i64::.int .i64::.bool::.bool::uu 63 ([]))),[]⟩),(.exit 0,⟨(uu 71 ([])),[]⟩)],fun _ ds k=>dI (fun x0 ds=>dI (fun x1 ds=>dL (fun x2 ds=>dL (fun x3 ds=>dL (fun x4 ds=>dL (fun x5 ds=>dE ((F x0 x1 x2 x3 x4 x5).bind (Sum.elim (fun y=>k 0 [.I y.1,.I y.2.1,.B y.2.2.1,.B y.2.2.2]) (fun y=>k 1 []))) ds) ds) ds) ds) ds) ds) ds⟩
theorem q_Z100 (F:T_Z100) (x0 x1:Int) (x2 x3 x4 x5:List D):JZ (Jp []) (Jq [m_Z100 F,e_Z99]) A 33 (Jj (Jh Try.f33) 5) ((m_Z100 F).sh.mk' [.I x0,.I x1,.L x2,.L x3,.L x4,.L x5]) (fun e σ'=>some (e,σ'))=c_Z100 F x0 x1 x2 x3 x4 x5 (Sum.elim (fun y=>some (.ret,SSt.mk' ⟨(uu 4 (.int .i64::.int .i64::.bool::.bool::uu 63 ([]))),[]⟩ [.I y.1,.I y.2.1,.B y.2.2.1,.B y.2.2.2])) (fun y=>some (.exit 0,SSt.mk' ⟨(uu 71 ([])),[]⟩ []))):=by kernel_rfl
theorem m_Z100_ok:∀ n,(m_Z100 (n_Z100 n)).ok Try.prog (Jj (Jh Try.f33) 5):=by
 intro n
 induction n with
 | zero=>
  intro R ds k r h
  unfold m_Z100 at h
  obtain ⟨_,_,rfl,h⟩:=Jb h
  obtain ⟨_,_,rfl,h⟩:=Jb h
  obtain ⟨_,_,rfl,h⟩:=Ja h
  obtain ⟨_,_,rfl,h⟩:=Ja h
  obtain ⟨_,_,rfl,h⟩:=Ja h
  obtain ⟨_,_,rfl,h⟩:=Ja h
  obtain ⟨rfl,hE⟩:=Je h
  obtain ⟨y,hy,hk⟩:=Jf hE
  cases hy
 | succ n ih=>
  intro R ds k r h
  unfold m_Z100 at h
  obtain ⟨_,_,rfl,h⟩:=Jb h
  obtain ⟨_,_,rfl,h⟩:=Jb h
  obtain ⟨_,_,rfl,h⟩:=Ja h
  obtain ⟨_,_,rfl,h⟩:=Ja h
  obtain ⟨_,_,rfl,h⟩:=Ja h
  obtain ⟨_,_,rfl,h⟩:=Ja h
  obtain ⟨rfl,hE⟩:=Je h
  obtain ⟨y,hy,hk⟩:=Jf hE
  cases y with
  | inl y=>
   exact ⟨0,_,_,_,hk,rfl,JO px (fx:=⟨Try.func33,by kernel_rfl,by kernel_rfl⟩) Jm (Jo ih (Jo e_Z99_ok Jn)) (by kernel_rfl) ((q_Z100 ..).trans ((c_Z100_bind ..).trans (Jg hy)))⟩
  | inr y=>
   exact ⟨1,_,_,_,hk,rfl,JO px (fx:=⟨Try.func33,by kernel_rfl,by kernel_rfl⟩) Jm (Jo ih (Jo e_Z99_ok Jn)) (by kernel_rfl) ((q_Z100 ..).trans ((c_Z100_bind ..).trans (Jg hy)))⟩
noncomputable def e_Z100:JA:=m_Z100 (Z100)
theorem e_Z100_ok:(e_Z100).ok Try.prog (Jj (Jh Try.f33) 5):=by
 intro R ds k r h
 unfold e_Z100 m_Z100 at h
 obtain ⟨_,_,rfl,h⟩:=Jb h
 obtain ⟨_,_,rfl,h⟩:=Jb h
 obtain ⟨_,_,rfl,h⟩:=Ja h
 obtain ⟨_,_,rfl,h⟩:=Ja h
 obtain ⟨_,_,rfl,h⟩:=Ja h
 obtain ⟨_,_,rfl,h⟩:=Ja h
 obtain ⟨rfl,hE⟩:=Je h
 obtain ⟨y,hy,hk⟩:=Jf hE
 obtain ⟨n,hn⟩:=J4 hy
 exact m_Z100_ok n R _ k r ((Jg hn).trans hk)

/-!-/
def c_Z101 {R:Type} (x0 x1 x2:List D) (k:Int×Int×Bool×Bool→Option R):Option R:=
 (Z88 x0 x1 x2).bind (Sum.elim (fun y0=>
 bif !y0.snd then
 k ((0:Int),(0:Int),Bool.false,Bool.false)
 else
 none) (fun y1=>
 bif !y1.snd.snd.snd.snd then
 k ((0:Int),(0:Int),Bool.false,Bool.false)
 else
 (Z100 (↑y1.snd.snd.fst.length:Int) (0:Int) y1.fst y1.snd.fst y1.snd.snd.fst y1.snd.snd.snd.fst).bind (Sum.elim (fun y2=>
 k (y2.fst,y2.snd.fst,y2.snd.snd.fst,y2.snd.snd.snd)) (fun y3=>
 k ((0:Int),(0:Int),Bool.false,Bool.true)))))
theorem c_Z101_bind {R:Type} (x0 x1 x2:List D) (k:Int×Int×Bool×Bool→Option R):c_Z101 x0 x1 x2 k=(c_Z101 x0 x1 x2 some).bind k:=by
 unfold c_Z101
 repeat' first
  | exact Jy
  | exact Jx
  | exact Jw
  | apply Jt
  | apply Ju
  | apply Jz
  | (apply Jv; intro _)
  | intro _
def Z101 (x0 x1 x2:List D):Option (Int×Int×Bool×Bool):=c_Z101 x0 x1 x2 some
def e_Z101:Ent:=⟨33,[.agg [.rd (.struct [.int .i64,.int .i64]),.rd (.struct [.int .i64,.int .i64])],.rd (.struct [.int .i64,.struct [.int .i64,.int .i64]])],[(.tup [.int .i64,.int .i64,.bool,.bool],[.undef,.undef])],fun _ ds k=>dL (fun x0 ds=>dL (fun x1 ds=>dL (fun x2 ds=>dE ((Z101 x0 x1 x2).bind (fun y=>k 0 [.I y.1,.I y.2.1,.B y.2.2.1,.B y.2.2.2])) ds) ds) ds) ds⟩
theorem q_Z101 (x0 x1 x2:List D):JR (Jp [e_Z88]) (Jq [e_Z100]) A 33 Try.f33 (Sh.mks e_Z101.sh [.L x0,.L x1,.L x2]).1 (fun v os=>some (v,os))=c_Z101 x0 x1 x2 (fun y=>JT e_Z101 0 [.I y.1,.I y.2.1,.B y.2.2.1,.B y.2.2.2]):=by kernel_rfl
theorem e_Z101_ok:e_Z101.ok Try.prog A:=by
 intro R ds k r h
 unfold e_Z101 at h
 obtain ⟨_,_,rfl,h⟩:=Ja h
 obtain ⟨_,_,rfl,h⟩:=Ja h
 obtain ⟨_,_,rfl,h⟩:=Ja h
 obtain ⟨rfl,hE⟩:=Je h
 obtain ⟨y,hy,hk⟩:=Jf hE
 exact ⟨0,_,_,_,hk,rfl,JU px (fx:=⟨Try.func33,by kernel_rfl,by kernel_rfl⟩) (Jr e_Z88_ok Jm) (Jo e_Z100_ok Jn) ((q_Z101 ..).trans ((c_Z101_bind ..).trans (Jg hy)))⟩

/-!-/
def c_Z102 {R:Type} (x0:Int) (k:Bool→Option R):Option R:=
 (Z35 x0 (-20000:Int) (2100:Int)).bind (fun y0=>
 k y0)
theorem c_Z102_bind {R:Type} (x0:Int) (k:Bool→Option R):c_Z102 x0 k=(c_Z102 x0 some).bind k:=by
 unfold c_Z102
 repeat' first
  | exact Jy
  | exact Jx
  | exact Jw
  | apply Jt
  | apply Ju
  | apply Jz
  | (apply Jv; intro _)
  | intro _
def Z102 (x0:Int):Option (Bool):=c_Z102 x0 some
def e_Z102:Ent:=⟨225,[.int .i64],[(.bool,[.undef])],fun _ ds k=>dI (fun x0 ds=>dE ((Z102 x0).bind (fun y=>k 0 [.B y])) ds) ds⟩
theorem q_Z102 (x0:Int):JR (Jp [e_Z35]) (Jq []) A 225 Try.f225 (Sh.mks e_Z102.sh [.I x0]).1 (fun v os=>some (v,os))=c_Z102 x0 (fun y=>JT e_Z102 0 [.B y]):=by kernel_rfl
theorem e_Z102_ok:e_Z102.ok Try.prog A:=by
 intro R ds k r h
 unfold e_Z102 at h
 obtain ⟨_,_,rfl,h⟩:=Jb h
 obtain ⟨rfl,hE⟩:=Je h
 obtain ⟨y,hy,hk⟩:=Jf hE
 exact ⟨0,_,_,_,hk,rfl,JU px (fx:=⟨Try.func225,by kernel_rfl,by kernel_rfl⟩) (Jr e_Z35_ok Jm) Jn ((q_Z102 ..).trans ((c_Z102_bind ..).trans (Jg hy)))⟩

/-!-/
def c_Z103 {R:Type} (x0 x1:Int) (k:Bool→Option R):Option R:=
 (Z102 x0).bind (fun y0=>
 bif y0 then
 (Z102 x1).bind (fun y1=>
 bif y1 then
 k (decide (x0≤x1))
 else
 k Bool.false)
 else
 k Bool.false)
theorem c_Z103_bind {R:Type} (x0 x1:Int) (k:Bool→Option R):c_Z103 x0 x1 k=(c_Z103 x0 x1 some).bind k:=by
 unfold c_Z103
 repeat' first
  | exact Jy
  | exact Jx
  | exact Jw
  | apply Jt
  | apply Ju
  | apply Jz
  | (apply Jv; intro _)
  | intro _
def Z103 (x0 x1:Int):Option (Bool):=c_Z103 x0 x1 some
def e_Z103:Ent:=⟨191,[.agg [.int .i64,.int .i64]],[(.bool,[.undef])],fun _ ds k=>dI (fun x0 ds=>dI (fun x1 ds=>dE ((Z103 x0 x1).bind (fun y=>k 0 [.B y])) ds) ds) ds⟩
theorem q_Z103 (x0 x1:Int):JR (Jp [e_Z102]) (Jq []) A 191 Try.f191 (Sh.mks e_Z103.sh [.I x0,.I x1]).1 (fun v os=>some (v,os))=c_Z103 x0 x1 (fun y=>JT e_Z103 0 [.B y]):=by kernel_rfl
theorem e_Z103_ok:e_Z103.ok Try.prog A:=by
 intro R ds k r h
 unfold e_Z103 at h
 obtain ⟨_,_,rfl,h⟩:=Jb h
 obtain ⟨_,_,rfl,h⟩:=Jb h
 obtain ⟨rfl,hE⟩:=Je h
 obtain ⟨y,hy,hk⟩:=Jf hE
 exact ⟨0,_,_,_,hk,rfl,JU px (fx:=⟨Try.func191,by kernel_rfl,by kernel_rfl⟩) (Jr e_Z102_ok Jm) Jn ((q_Z103 ..).trans ((c_Z103_bind ..).trans (Jg hy)))⟩

/-!-/
abbrev T_Z104:=List D→Int→List D→List D→Option ((Bool)⊕(Unit))
def c_Z104 {R:Type} (F:T_Z104) (x0:List D) (x1:Int) (x2 x3:List D) (k:(Bool)⊕(Unit)→Option R):Option R:=
 bif decide (x1<(↑x0.length:Int)) then
 if 0≤x1∧x1<(↑x0.length:Int) then
 (Z25 x2 x3 (((x0.getD x1.toNat (D.int 0)).fld (0:Nat)).toInt)).bind (fun y0=>
 bif decide (y0<(0:Int)) then
 k (.inl Bool.false)
 else
 if 0≤x1∧x1<(↑x0.length:Int) then
 (Z103 ((((x0.getD x1.toNat (D.int 0)).fld (1:Nat)).fld (0:Nat)).toInt) ((((x0.getD x1.toNat (D.int 0)).fld (1:Nat)).fld (1:Nat)).toInt)).bind (fun y1=>
 bif !y1 then
 k (.inl Bool.false)
 else
 bif decide ((0:Int)<x1) then
 if (0:Int)≤IntKind.i64.wrap (x1 - 1)∧IntKind.i64.wrap (x1 - 1)<(↑x0.length:Int) then
 if 0≤x1∧x1<(↑x0.length:Int) then
 bif decide (((x0.getD x1.toNat (D.int 0)).fld (0:Nat)).toInt≤((x0.getD (IntKind.i64.wrap (x1 - 1)).toNat (D.int 0)).fld (0:Nat)).toInt) then
 k (.inl Bool.false)
 else
 (F x0 (IntKind.i64.wrap (x1+1)) x2 x3).bind k
 else
 none
 else
 none
 else
 (F x0 (IntKind.i64.wrap (x1+1)) x2 x3).bind k)
 else
 none)
 else
 none
 else
 k (.inr ())
theorem c_Z104_bind {R:Type} (F:T_Z104) (x0:List D) (x1:Int) (x2 x3:List D) (k:(Bool)⊕(Unit)→Option R):c_Z104 F x0 x1 x2 x3 k=(c_Z104 F x0 x1 x2 x3 some).bind k:=by
 unfold c_Z104
 repeat' first
  | exact Jy
  | exact Jx
  | exact Jw
  | apply Jt
  | apply Ju
  | apply Jz
  | (apply Jv; intro _)
  | intro _
def n_Z104:Nat→T_Z104
 | 0,_,_,_,_=>none
 | n+1,x0,x1,x2,x3=>c_Z104 (n_Z104 n) x0 x1 x2 x3 some
noncomputable def Z104 (x0:List D) (x1:Int) (x2 x3:List D):Option ((Bool)⊕(Unit)):=ev (fun n=>n_Z104 n x0 x1 x2 x3)
def m_Z104 (F:T_Z104):JA:=⟨4,⟨(.undef::.rd (.struct [.int .i64,.struct [.int .i64,.int .i64]])::.ptr 1000 [0]::.undef::.undef::.int .i64::uu 44 ([])),[(1000,.obox (.agg [.rd (.struct [.int .i64,.int .i64]),.rd (.struct [.int .i64,.int .i64])]))]⟩,[(.ret,⟨(uu 4 (.bool::uu 45 ([]))),[]⟩),(.exit 0,⟨(uu 50 ([])),[]⟩)],fun _ ds k=>dL (fun x0 ds=>dI (fun x1 ds=>dL (fun x2 ds=>dL (fun x3 ds=>dE ((F x0 x1 x2 x3).bind (Sum.elim (fun y=>k 0 [.B y]) (fun y=>k 1 []))) ds) ds) ds) ds) ds⟩
theorem q_Z104 (F:T_Z104) (x0:List D) (x1:Int) (x2 x3:List D):JZ (Jp [e_Z25,e_Z103]) (Jq [m_Z104 F]) A 113 (Jj (Jh Try.f113) 4) ((m_Z104 F).sh.mk' [.L x0,.I x1,.L x2,.L x3]) (fun e σ'=>some (e,σ'))=c_Z104 F x0 x1 x2 x3 (Sum.elim (fun y=>some (.ret,SSt.mk' ⟨(uu 4 (.bool::uu 45 ([]))),[]⟩ [.B y])) (fun y=>some (.exit 0,SSt.mk' ⟨(uu 50 ([])),[]⟩ []))):=by kernel_rfl
theorem m_Z104_ok:∀ n,(m_Z104 (n_Z104 n)).ok Try.prog (Jj (Jh Try.f113) 4):=by
 intro n
 induction n with
 | zero=>
  intro R ds k r h
  unfold m_Z104 at h
  obtain ⟨_,_,rfl,h⟩:=Ja h
  obtain ⟨_,_,rfl,h⟩:=Jb h
  obtain ⟨_,_,rfl,h⟩:=Ja h
  obtain ⟨_,_,rfl,h⟩:=Ja h
  obtain ⟨rfl,hE⟩:=Je h
  obtain ⟨y,hy,hk⟩:=Jf hE
  cases hy
 | succ n ih=>
  intro R ds k r h
  unfold m_Z104 at h
  obtain ⟨_,_,rfl,h⟩:=Ja h
  obtain ⟨_,_,rfl,h⟩:=Jb h
  obtain ⟨_,_,rfl,h⟩:=Ja h
  obtain ⟨_,_,rfl,h⟩:=Ja h
  obtain ⟨rfl,hE⟩:=Je h
  obtain ⟨y,hy,hk⟩:=Jf hE
  cases y with
  | inl y=>
   exact ⟨0,_,_,_,hk,rfl,JO px (fx:=⟨Try.func113,by kernel_rfl,by kernel_rfl⟩) (Jr e_Z25_ok (Jr e_Z103_ok Jm)) (Jo ih Jn) (by kernel_rfl) ((q_Z104 ..).trans ((c_Z104_bind ..).trans (Jg hy)))⟩
  | inr y=>
   exact ⟨1,_,_,_,hk,rfl,JO px (fx:=⟨Try.func113,by kernel_rfl,by kernel_rfl⟩) (Jr e_Z25_ok (Jr e_Z103_ok Jm)) (Jo ih Jn) (by kernel_rfl) ((q_Z104 ..).trans ((c_Z104_bind ..).trans (Jg hy)))⟩
noncomputable def e_Z104:JA:=m_Z104 (Z104)
theorem e_Z104_ok:(e_Z104).ok Try.prog (Jj (Jh Try.f113) 4):=by
 intro R ds k r h
 unfold e_Z104 m_Z104 at h
 obtain ⟨_,_,rfl,h⟩:=Ja h
 obtain ⟨_,_,rfl,h⟩:=Jb h
 obtain ⟨_,_,rfl,h⟩:=Ja h
 obtain ⟨_,_,rfl,h⟩:=Ja h
 obtain ⟨rfl,hE⟩:=Je h
 obtain ⟨y,hy,hk⟩:=Jf hE
 obtain ⟨n,hn⟩:=J4 hy
 exact m_Z104_ok n R _ k r ((Jg hn).trans hk)

/-!-/
def c_Z105 {R:Type} (x0 x1 x2:List D) (k:Bool→Option R):Option R:=
 (Z39 x0 x1).bind (fun y0=>
 bif !y0 then
 k Bool.false
 else
 (Z104 x2 (0:Int) x0 x1).bind (Sum.elim (fun y1=>
 k y1) (fun y2=>
 k Bool.true)))
theorem c_Z105_bind {R:Type} (x0 x1 x2:List D) (k:Bool→Option R):c_Z105 x0 x1 x2 k=(c_Z105 x0 x1 x2 some).bind k:=by
 unfold c_Z105
 repeat' first
  | exact Jy
  | exact Jx
  | exact Jw
  | apply Jt
  | apply Ju
  | apply Jz
  | (apply Jv; intro _)
  | intro _
def Z105 (x0 x1 x2:List D):Option (Bool):=c_Z105 x0 x1 x2 some
def e_Z105:Ent:=⟨113,[.agg [.rd (.struct [.int .i64,.int .i64]),.rd (.struct [.int .i64,.int .i64])],.rd (.struct [.int .i64,.struct [.int .i64,.int .i64]])],[(.bool,[.undef,.undef])],fun _ ds k=>dL (fun x0 ds=>dL (fun x1 ds=>dL (fun x2 ds=>dE ((Z105 x0 x1 x2).bind (fun y=>k 0 [.B y])) ds) ds) ds) ds⟩
theorem q_Z105 (x0 x1 x2:List D):JR (Jp [e_Z39]) (Jq [e_Z104]) A 113 Try.f113 (Sh.mks e_Z105.sh [.L x0,.L x1,.L x2]).1 (fun v os=>some (v,os))=c_Z105 x0 x1 x2 (fun y=>JT e_Z105 0 [.B y]):=by kernel_rfl
theorem e_Z105_ok:e_Z105.ok Try.prog A:=by
 intro R ds k r h
 unfold e_Z105 at h
 obtain ⟨_,_,rfl,h⟩:=Ja h
 obtain ⟨_,_,rfl,h⟩:=Ja h
 obtain ⟨_,_,rfl,h⟩:=Ja h
 obtain ⟨rfl,hE⟩:=Je h
 obtain ⟨y,hy,hk⟩:=Jf hE
 exact ⟨0,_,_,_,hk,rfl,JU px (fx:=⟨Try.func113,by kernel_rfl,by kernel_rfl⟩) (Jr e_Z39_ok Jm) (Jo e_Z104_ok Jn) ((q_Z105 ..).trans ((c_Z105_bind ..).trans (Jg hy)))⟩

/-!-/
abbrev T_Z106:=List D→Int→Int→List D→List D→List D→Int→Int→Option (List D×Int×List D×List D×List D×Int×Int)
def c_Z106 {R:Type} (F:T_Z106) (x0:List D) (x1 x2:Int) (x3 x4 x5:List D) (x6 x7:Int) (k:List D×Int×List D×List D×List D×Int×Int→Option R):Option R:=
 bif decide (x2<(↑x0.length:Int)) then
 if 0≤x2∧x2<(↑x0.length:Int) then
 if 0≤x1∧x1<(↑x3.length:Int) then
 bif decide (((x0.getD x2.toNat (D.int 0)).fld (0:Nat)).toInt=((x3.getD x1.toNat (D.int 0)).fld (0:Nat)).toInt) then
 if 0≤x2∧x2<(↑x0.length:Int) then
 (F x0 x1 (IntKind.i64.wrap (x2+1)) x3 x4 x5 ((((x0.getD x2.toNat (D.int 0)).fld (1:Nat)).fld (0:Nat)).toInt) ((((x0.getD x2.toNat (D.int 0)).fld (1:Nat)).fld (1:Nat)).toInt)).bind k
 else
 none
 else
 (F x0 x1 (IntKind.i64.wrap (x2+1)) x3 x4 x5 x6 x7).bind k
 else
 none
 else
 none
 else
 k (x0,x1,x3,x4,x5,x6,x7)
theorem c_Z106_bind {R:Type} (F:T_Z106) (x0:List D) (x1 x2:Int) (x3 x4 x5:List D) (x6 x7:Int) (k:List D×Int×List D×List D×List D×Int×Int→Option R):c_Z106 F x0 x1 x2 x3 x4 x5 x6 x7 k=(c_Z106 F x0 x1 x2 x3 x4 x5 x6 x7 some).bind k:=by
 unfold c_Z106
 repeat' first
  | exact Jy
  | exact Jx
  | exact Jw
  | apply Jt
  | apply Ju
  | apply Jz
  | (apply Jv; intro _)
  | intro _
def n_Z106:Nat→T_Z106
 | 0,_,_,_,_,_,_,_,_=>none
 | n+1,x0,x1,x2,x3,x4,x5,x6,x7=>c_Z106 (n_Z106 n) x0 x1 x2 x3 x4 x5 x6 x7 some
noncomputable def Z106 (x0:List D) (x1 x2:Int) (x3 x4 x5:List D) (x6 x7:Int):Option (List D×Int×List D×List D×List D×Int×Int):=ev (fun n=>n_Z106 n x0 x1 x2 x3 x4 x5 x6 x7)
def m_Z106 (F:T_Z106):JA:=⟨7,⟨(.undef::.rd (.struct [.int .i64,.struct [.int .i64,.int .i64]])::.ptr 1000 [0]::.undef::.undef::.full 1001 [] (.struct [.int .i64,.int .i64])::.int .i64::.ptr 1002 [0]::.int .i64::uu 37 ([])),[(1000,.obox (.agg [.rd (.struct [.int .i64,.int .i64]),.rd (.struct [.int .i64,.int .i64])])),(1001,.own (.struct [.int .i64,.int .i64])),(1002,.obox (.agg [.int .i64,.int .i64]))]⟩,[(.exit 2,⟨(.undef::.rd (.struct [.int .i64,.struct [.int .i64,.int .i64]])::.ptr 1000 [0]::.undef::.undef::.full 1001 [] (.struct [.int .i64,.int .i64])::.int .i64::.ptr 1002 [0]::uu 38 ([])),[(1000,.obox (.agg [.rd (.struct [.int .i64,.int .i64]),.rd (.struct [.int .i64,.int .i64])])),(1001,.own (.struct [.int .i64,.int .i64])),(1002,.obox (.agg [.int .i64,.int .i64]))]⟩)],fun _ ds k=>dL (fun x0 ds=>dI (fun x1 ds=>dI (fun x2 ds=>dL (fun x3 ds=>dL (fun x4 ds=>dL (fun x5 ds=>dI (fun x6 ds=>dI (fun x7 ds=>dE ((F x0 x1 x2 x3 x4 x5 x6 x7).bind (fun y=>k 0 [.L y.1,.I y.2.1,.L y.2.2.1,.L y.2.2.2.1,.L y.2.2.2.2.1,.I y.2.2.2.2.2.1,.I y.2.2.2.2.2.2])) ds) ds) ds) ds) ds) ds) ds) ds) ds⟩
theorem q_Z106 (F:T_Z106) (x0:List D) (x1 x2:Int) (x3 x4 x5:List D) (x6 x7:Int):JZ (Jp []) (Jq [m_Z106 F]) A 192 (Jj (Jh Try.f192) 7) ((m_Z106 F).sh.mk' [.L x0,.I x1,.I x2,.L x3,.L x4,.L x5,.I x6,.I x7]) (fun e σ'=>some (e,σ'))=c_Z106 F x0 x1 x2 x3 x4 x5 x6 x7 (fun y=>some (.exit 2,SSt.mk' ⟨(.undef::.rd (.struct [.int .i64,.struct [.int .i64,.int .i64]])::.ptr 1000 [0]::.undef::.undef::.full 1001 [] (.struct [.int .i64,.int .i64])::.int .i64::.ptr 1002 [0]::uu 38 ([])),[(1000,.obox (.agg [.rd (.struct [.int .i64,.int .i64]),.rd (.struct [.int .i64,.int .i64])])),(1001,.own (.struct [.int .i64,.int .i64])),(1002,.obox (.agg [.int .i64,.int .i64]))]⟩ [.L y.1,.I y.2.1,.L y.2.2.1,.L y.2.2.2.1,.L y.2.2.2.2.1,.I y.2.2.2.2.2.1,.I y.2.2.2.2.2.2])):=by kernel_rfl
theorem m_Z106_ok:∀ n,(m_Z106 (n_Z106 n)).ok Try.prog (Jj (Jh Try.f192) 7):=by
 intro n
 induction n with
 | zero=>
  intro R ds k r h
  unfold m_Z106 at h
  obtain ⟨_,_,rfl,h⟩:=Ja h
  obtain ⟨_,_,rfl,h⟩:=Jb h
  obtain ⟨_,_,rfl,h⟩:=Jb h
  obtain ⟨_,_,rfl,h⟩:=Ja h
  obtain ⟨_,_,rfl,h⟩:=Ja h
  obtain ⟨_,_,rfl,h⟩:=Ja h
  obtain ⟨_,_,rfl,h⟩:=Jb h
  obtain ⟨_,_,rfl,h⟩:=Jb h
  obtain ⟨rfl,hE⟩:=Je h
  obtain ⟨y,hy,hk⟩:=Jf hE
  cases hy
 | succ n ih=>
  intro R ds k r h
  unfold m_Z106 at h
  obtain ⟨_,_,rfl,h⟩:=Ja h
  obtain ⟨_,_,rfl,h⟩:=Jb h
  obtain ⟨_,_,rfl,h⟩:=Jb h
  obtain ⟨_,_,rfl,h⟩:=Ja h
  obtain ⟨_,_,rfl,h⟩:=Ja h
  obtain ⟨_,_,rfl,h⟩:=Ja h
  obtain ⟨_,_,rfl,h⟩:=Jb h
  obtain ⟨_,_,rfl,h⟩:=Jb h
  obtain ⟨rfl,hE⟩:=Je h
  obtain ⟨y,hy,hk⟩:=Jf hE
  exact ⟨0,_,_,_,hk,rfl,JO px (fx:=⟨Try.func192,by kernel_rfl,by kernel_rfl⟩) Jm (Jo ih Jn) (by kernel_rfl) ((q_Z106 ..).trans ((c_Z106_bind ..).trans (Jg hy)))⟩
noncomputable def e_Z106:JA:=m_Z106 (Z106)
theorem e_Z106_ok:(e_Z106).ok Try.prog (Jj (Jh Try.f192) 7):=by
 intro R ds k r h
 unfold e_Z106 m_Z106 at h
 obtain ⟨_,_,rfl,h⟩:=Ja h
 obtain ⟨_,_,rfl,h⟩:=Jb h
 obtain ⟨_,_,rfl,h⟩:=Jb h
 obtain ⟨_,_,rfl,h⟩:=Ja h
 obtain ⟨_,_,rfl,h⟩:=Ja h
 obtain ⟨_,_,rfl,h⟩:=Ja h
 obtain ⟨_,_,rfl,h⟩:=Jb h
 obtain ⟨_,_,rfl,h⟩:=Jb h
 obtain ⟨rfl,hE⟩:=Je h
 obtain ⟨y,hy,hk⟩:=Jf hE
 obtain ⟨n,hn⟩:=J4 hy
 exact m_Z106_ok n R _ k r ((Jg hn).trans hk)

/-!-/
abbrev T_Z107:=List D→Int→List D→List D→List D→Option (List D)
def c_Z107 {R:Type} (F:T_Z107) (x0:List D) (x1:Int) (x2 x3 x4:List D) (k:List D→Option R):Option R:=
 bif decide (x1<(↑x2.length:Int)) then
 (Z106 x0 x1 (0:Int) x2 x3 x4 (-20000:Int) (2100:Int)).bind (fun y0=>
 if y0.snd.snd.snd.snd.fst.length+[D.node [D.int y0.snd.snd.snd.snd.snd.fst,D.int y0.snd.snd.snd.snd.snd.snd]].length≤(4294967296:Nat) then
 (F y0.fst (IntKind.i64.wrap (y0.snd.fst+1)) y0.snd.snd.fst y0.snd.snd.snd.fst (y0.snd.snd.snd.snd.fst++[D.node [D.int y0.snd.snd.snd.snd.snd.fst,D.int y0.snd.snd.snd.snd.snd.snd]])).bind k
 else
 none)
 else
 k x4
theorem c_Z107_bind {R:Type} (F:T_Z107) (x0:List D) (x1:Int) (x2 x3 x4:List D) (k:List D→Option R):c_Z107 F x0 x1 x2 x3 x4 k=(c_Z107 F x0 x1 x2 x3 x4 some).bind k:=by
 unfold c_Z107
 repeat' first
  | exact Jy
  | exact Jx
  | exact Jw
  | apply Jt
  | apply Ju
  | apply Jz
  | (apply Jv; intro _)
  | intro _
def n_Z107:Nat→T_Z107
 | 0,_,_,_,_,_=>none
 | n+1,x0,x1,x2,x3,x4=>c_Z107 (n_Z107 n) x0 x1 x2 x3 x4 some
noncomputable def Z107 (x0:List D) (x1:Int) (x2 x3 x4:List D):Option (List D):=ev (fun n=>n_Z107 n x0 x1 x2 x3 x4)
def m_Z107 (F:T_Z107):JA:=⟨3,⟨(.undef::.rd (.struct [.int .i64,.struct [.int .i64,.int .i64]])::.ptr 1000 [0]::.undef::.undef::.full 1001 [] (.struct [.int .i64,.int .i64])::.int .i64::uu 39 ([])),[(1000,.obox (.agg [.rd (.struct [.int .i64,.int .i64]),.rd (.struct [.int .i64,.int .i64])])),(1001,.own (.struct [.int .i64,.int .i64]))]⟩,[(.exit 0,⟨(uu 5 (.full 1000 [] (.struct [.int .i64,.int .i64])::uu 40 ([]))),[(1000,.own (.struct [.int .i64,.int .i64]))]⟩)],fun _ ds k=>dL (fun x0 ds=>dI (fun x1 ds=>dL (fun x2 ds=>dL (fun x3 ds=>dL (fun x4 ds=>dE ((F x0 x1 x2 x3 x4).bind (fun y=>k 0 [.L y])) ds) ds) ds) ds) ds) ds⟩
theorem q_Z107 (F:T_Z107) (x0:List D) (x1:Int) (x2 x3 x4:List D):JZ (Jp []) (Jq [m_Z107 F,e_Z106]) A 192 (Jj (Jh Try.f192) 3) ((m_Z107 F).sh.mk' [.L x0,.I x1,.L x2,.L x3,.L x4]) (fun e σ'=>some (e,σ'))=c_Z107 F x0 x1 x2 x3 x4 (fun y=>some (.exit 0,SSt.mk' ⟨(uu 5 (.full 1000 [] (.struct [.int .i64,.int .i64])::uu 40 ([]))),[(1000,.own (.struct [.int .i64,.int .i64]))]⟩ [.L y])):=by kernel_rfl
theorem m_Z107_ok:∀ n,(m_Z107 (n_Z107 n)).ok Try.prog (Jj (Jh Try.f192) 3):=by
 intro n
 induction n with
 | zero=>
  intro R ds k r h
  unfold m_Z107 at h
  obtain ⟨_,_,rfl,h⟩:=Ja h
  obtain ⟨_,_,rfl,h⟩:=Jb h
  obtain ⟨_,_,rfl,h⟩:=Ja h
  obtain ⟨_,_,rfl,h⟩:=Ja h
  obtain ⟨_,_,rfl,h⟩:=Ja h
  obtain ⟨rfl,hE⟩:=Je h
  obtain ⟨y,hy,hk⟩:=Jf hE
  cases hy
 | succ n ih=>
  intro R ds k r h
  unfold m_Z107 at h
  obtain ⟨_,_,rfl,h⟩:=Ja h
  obtain ⟨_,_,rfl,h⟩:=Jb h
  obtain ⟨_,_,rfl,h⟩:=Ja h
  obtain ⟨_,_,rfl,h⟩:=Ja h
  obtain ⟨_,_,rfl,h⟩:=Ja h
  obtain ⟨rfl,hE⟩:=Je h
  obtain ⟨y,hy,hk⟩:=Jf hE
  exact ⟨0,_,_,_,hk,rfl,JO px (fx:=⟨Try.func192,by kernel_rfl,by kernel_rfl⟩) Jm (Jo ih (Jo e_Z106_ok Jn)) (by kernel_rfl) ((q_Z107 ..).trans ((c_Z107_bind ..).trans (Jg hy)))⟩
noncomputable def e_Z107:JA:=m_Z107 (Z107)
theorem e_Z107_ok:(e_Z107).ok Try.prog (Jj (Jh Try.f192) 3):=by
 intro R ds k r h
 unfold e_Z107 m_Z107 at h
 obtain ⟨_,_,rfl,h⟩:=Ja h
 obtain ⟨_,_,rfl,h⟩:=Jb h
 obtain ⟨_,_,rfl,h⟩:=Ja h
 obtain ⟨_,_,rfl,h⟩:=Ja h
 obtain ⟨_,_,rfl,h⟩:=Ja h
 obtain ⟨rfl,hE⟩:=Je h
 obtain ⟨y,hy,hk⟩:=Jf hE
 obtain ⟨n,hn⟩:=J4 hy
 exact m_Z107_ok n R _ k r ((Jg hn).trans hk)

/-!-/
def c_Z108 {R:Type} (x0 x1 x2:List D) (k:List D→Option R):Option R:=
 (Z107 x2 (0:Int) x0 x1 []).bind (fun y0=>
 k y0)
theorem c_Z108_bind {R:Type} (x0 x1 x2:List D) (k:List D→Option R):c_Z108 x0 x1 x2 k=(c_Z108 x0 x1 x2 some).bind k:=by
 unfold c_Z108
 repeat' first
  | exact Jy
  | exact Jx
  | exact Jw
  | apply Jt
  | apply Ju
  | apply Jz
  | (apply Jv; intro _)
  | intro _
def Z108 (x0 x1 x2:List D):Option (List D):=c_Z108 x0 x1 x2 some
def e_Z108:Ent:=⟨192,[.agg [.rd (.struct [.int .i64,.int .i64]),.rd (.struct [.int .i64,.int .i64])],.rd (.struct [.int .i64,.struct [.int .i64,.int .i64]])],[(.own (.struct [.int .i64,.int .i64]),[.undef,.undef])],fun _ ds k=>dL (fun x0 ds=>dL (fun x1 ds=>dL (fun x2 ds=>dE ((Z108 x0 x1 x2).bind (fun y=>k 0 [.L y])) ds) ds) ds) ds⟩
theorem q_Z108 (x0 x1 x2:List D):JR (Jp []) (Jq [e_Z107]) A 192 Try.f192 (Sh.mks e_Z108.sh [.L x0,.L x1,.L x2]).1 (fun v os=>some (v,os))=c_Z108 x0 x1 x2 (fun y=>JT e_Z108 0 [.L y]):=by kernel_rfl
theorem e_Z108_ok:e_Z108.ok Try.prog A:=by
 intro R ds k r h
 unfold e_Z108 at h
 obtain ⟨_,_,rfl,h⟩:=Ja h
 obtain ⟨_,_,rfl,h⟩:=Ja h
 obtain ⟨_,_,rfl,h⟩:=Ja h
 obtain ⟨rfl,hE⟩:=Je h
 obtain ⟨y,hy,hk⟩:=Jf hE
 exact ⟨0,_,_,_,hk,rfl,JU px (fx:=⟨Try.func192,by kernel_rfl,by kernel_rfl⟩) Jm (Jo e_Z107_ok Jn) ((q_Z108 ..).trans ((c_Z108_bind ..).trans (Jg hy)))⟩

/-!-/
def c_Z109 {R:Type} (x0 x1:Int) (k:Int→Option R):Option R:=
 bif decide (x1<x0) then
 k x0
 else
 k x1
theorem c_Z109_bind {R:Type} (x0 x1:Int) (k:Int→Option R):c_Z109 x0 x1 k=(c_Z109 x0 x1 some).bind k:=by
 unfold c_Z109
 repeat' first
  | exact Jy
  | exact Jx
  | exact Jw
  | apply Jt
  | apply Ju
  | apply Jz
  | (apply Jv; intro _)
  | intro _
def Z109 (x0 x1:Int):Option (Int):=c_Z109 x0 x1 some
def e_Z109:Ent:=⟨193,[.int .i64,.int .i64],[(.int .i64,[.undef,.undef])],fun _ ds k=>dI (fun x0 ds=>dI (fun x1 ds=>dE ((Z109 x0 x1).bind (fun y=>k 0 [.I y])) ds) ds) ds⟩
theorem q_Z109 (x0 x1:Int):JR (Jp []) (Jq []) A 193 Try.f193 (Sh.mks e_Z109.sh [.I x0,.I x1]).1 (fun v os=>some (v,os))=c_Z109 x0 x1 (fun y=>JT e_Z109 0 [.I y]):=by kernel_rfl
theorem e_Z109_ok:e_Z109.ok Try.prog A:=by
 intro R ds k r h
 unfold e_Z109 at h
 obtain ⟨_,_,rfl,h⟩:=Jb h
 obtain ⟨_,_,rfl,h⟩:=Jb h
 obtain ⟨rfl,hE⟩:=Je h
 obtain ⟨y,hy,hk⟩:=Jf hE
 exact ⟨0,_,_,_,hk,rfl,JU px (fx:=⟨Try.func193,by kernel_rfl,by kernel_rfl⟩) Jm Jn ((q_Z109 ..).trans ((c_Z109_bind ..).trans (Jg hy)))⟩

/-!-/
def c_Z110 {R:Type} (x0 x1:Int) (k:Int→Option R):Option R:=
 bif decide (x0<x1) then
 k x0
 else
 k x1
theorem c_Z110_bind {R:Type} (x0 x1:Int) (k:Int→Option R):c_Z110 x0 x1 k=(c_Z110 x0 x1 some).bind k:=by
 unfold c_Z110
 repeat' first
  | exact Jy
  | exact Jx
  | exact Jw
  | apply Jt
  | apply Ju
  | apply Jz
  | (apply Jv; intro _)
  | intro _
def Z110 (x0 x1:Int):Option (Int):=c_Z110 x0 x1 some
def e_Z110:Ent:=⟨194,[.int .i64,.int .i64],[(.int .i64,[.undef,.undef])],fun _ ds k=>dI (fun x0 ds=>dI (fun x1 ds=>dE ((Z110 x0 x1).bind (fun y=>k 0 [.I y])) ds) ds) ds⟩
theorem q_Z110 (x0 x1:Int):JR (Jp []) (Jq []) A 194 Try.f194 (Sh.mks e_Z110.sh [.I x0,.I x1]).1 (fun v os=>some (v,os))=c_Z110 x0 x1 (fun y=>JT e_Z110 0 [.I y]):=by kernel_rfl
theorem e_Z110_ok:e_Z110.ok Try.prog A:=by
 intro R ds k r h
 unfold e_Z110 at h
 obtain ⟨_,_,rfl,h⟩:=Jb h
 obtain ⟨_,_,rfl,h⟩:=Jb h
 obtain ⟨rfl,hE⟩:=Je h
 obtain ⟨y,hy,hk⟩:=Jf hE
 exact ⟨0,_,_,_,hk,rfl,JU px (fx:=⟨Try.func194,by kernel_rfl,by kernel_rfl⟩) Jm Jn ((q_Z110 ..).trans ((c_Z110_bind ..).trans (Jg hy)))⟩

/-!-/
abbrev T_Z111:=Bool→Int→Int→List D→List D→List D→Int→Int→Option (Bool×Int×List D×List D×List D×Int×Int)
def c_Z111 {R:Type} (F:T_Z111) (x0:Bool) (x1 x2:Int) (x3 x4 x5:List D) (x6 x7:Int) (k:Bool×Int×List D×List D×List D×Int×Int→Option R):Option R:=
 bif decide (x2<(↑x3.length:Int)) then
 if 0≤x1∧x1<(↑x4.length:Int) then
 if x1.toNat+1≤x4.length then
 (Z30 ((x4.getD x1.toNat (D.int 0)).toInt) x2).bind (fun y0=>
 bif y0 then
 if 0≤x2∧x2<(↑x3.length:Int) then
 if x2.toNat+1≤x3.length then
 if x2.toNat+1≤x3.length then
 (Z109 x6 (((x3.getD x2.toNat (D.int 0)).fld (0:Nat)).toInt)).bind (fun y1=>
 if 0≤x2∧x2<(↑x4.length:Int) then
 if x2.toNat+1≤x4.length then
 (Z30 ((x4.getD x2.toNat (D.int 0)).toInt) x1).bind (fun y2=>
 bif y2 then
 if 0≤x2∧x2<(↑x3.length:Int) then
 if x2.toNat+1≤x3.length then
 if x2.toNat+1≤x3.length then
 (Z110 x7 (((x3.getD x2.toNat (D.int 0)).fld (1:Nat)).toInt)).bind (fun y3=>
 (F x0 x1 (IntKind.i64.wrap (x2+1)) x3 x4 x5 y1 y3).bind k)
 else
 none
 else
 none
 else
 none
 else
 (F x0 x1 (IntKind.i64.wrap (x2+1)) x3 x4 x5 y1 x7).bind k)
 else
 none
 else
 none)
 else
 none
 else
 none
 else
 none
 else
 if 0≤x2∧x2<(↑x4.length:Int) then
 if x2.toNat+1≤x4.length then
 (Z30 ((x4.getD x2.toNat (D.int 0)).toInt) x1).bind (fun y4=>
 bif y4 then
 if 0≤x2∧x2<(↑x3.length:Int) then
 if x2.toNat+1≤x3.length then
 if x2.toNat+1≤x3.length then
 (Z110 x7 (((x3.getD x2.toNat (D.int 0)).fld (1:Nat)).toInt)).bind (fun y5=>
 (F x0 x1 (IntKind.i64.wrap (x2+1)) x3 x4 x5 x6 y5).bind k)
 else
 none
 else
 none
 else
 none
 else
 (F x0 x1 (IntKind.i64.wrap (x2+1)) x3 x4 x5 x6 x7).bind k)
 else
 none
 else
 none)
 else
 none
 else
 none
 else
 k (x0,x1,x3,x4,x5,x6,x7)
theorem c_Z111_bind {R:Type} (F:T_Z111) (x0:Bool) (x1 x2:Int) (x3 x4 x5:List D) (x6 x7:Int) (k:Bool×Int×List D×List D×List D×Int×Int→Option R):c_Z111 F x0 x1 x2 x3 x4 x5 x6 x7 k=(c_Z111 F x0 x1 x2 x3 x4 x5 x6 x7 some).bind k:=by
 unfold c_Z111
 repeat' first
  | exact Jy
  | exact Jx
  | exact Jw
  | apply Jt
  | apply Ju
  | apply Jz
  | (apply Jv; intro _)
  | intro _
def n_Z111:Nat→T_Z111
 | 0,_,_,_,_,_,_,_,_=>none
 | n+1,x0,x1,x2,x3,x4,x5,x6,x7=>c_Z111 (n_Z111 n) x0 x1 x2 x3 x4 x5 x6 x7 some
noncomputable def Z111 (x0:Bool) (x1 x2:Int) (x3 x4 x5:List D) (x6 x7:Int):Option (Bool×Int×List D×List D×List D×Int×Int):=ev (fun n=>n_Z111 n x0 x1 x2 x3 x4 x5 x6 x7)
def m_Z111 (F:T_Z111):JA:=⟨10,⟨(uu 6 (.full 1000 [] (.struct [.int .i64,.int .i64])::.full 1001 [] (.int .i64)::.full 1002 [] (.struct [.int .i64,.int .i64])::.bool::.int .i64::.ptr 1003 [0]::.int .i64::uu 66 ([]))),[(1000,.own (.struct [.int .i64,.int .i64])),(1001,.own (.int .i64)),(1002,.own (.struct [.int .i64,.int .i64])),(1003,.obox (.agg [.int .i64,.int .i64]))]⟩,[(.exit 2,⟨(uu 6 (.full 1000 [] (.struct [.int .i64,.int .i64])::.full 1001 [] (.int .i64)::.full 1002 [] (.struct [.int .i64,.int .i64])::.bool::.int .i64::.ptr 1003 [0]::uu 67 ([]))),[(1000,.own (.struct [.int .i64,.int .i64])),(1001,.own (.int .i64)),(1002,.own (.struct [.int .i64,.int .i64])),(1003,.obox (.agg [.int .i64,.int .i64]))]⟩)],fun _ ds k=>dB (fun x0 ds=>dI (fun x1 ds=>dI (fun x2 ds=>dL (fun x3 ds=>dL (fun x4 ds=>dL (fun x5 ds=>dI (fun x6 ds=>dI (fun x7 ds=>dE ((F x0 x1 x2 x3 x4 x5 x6 x7).bind (fun y=>k 0 [.B y.1,.I y.2.1,.L y.2.2.1,.L y.2.2.2.1,.L y.2.2.2.2.1,.I y.2.2.2.2.2.1,.I y.2.2.2.2.2.2])) ds) ds) ds) ds) ds) ds) ds) ds) ds⟩
theorem q_Z111 (F:T_Z111) (x0:Bool) (x1 x2:Int) (x3 x4 x5:List D) (x6 x7:Int):JZ (Jp [e_Z30,e_Z109,e_Z110]) (Jq [m_Z111 F]) A 114 (Jj (Jh Try.f114) 10) ((m_Z111 F).sh.mk' [.B x0,.I x1,.I x2,.L x3,.L x4,.L x5,.I x6,.I x7]) (fun e σ'=>some (e,σ'))=c_Z111 F x0 x1 x2 x3 x4 x5 x6 x7 (fun y=>some (.exit 2,SSt.mk' ⟨(uu 6 (.full 1000 [] (.struct [.int .i64,.int .i64])::.full 1001 [] (.int .i64)::.full 1002 [] (.struct [.int .i64,.int .i64])::.bool::.int .i64::.ptr 1003 [0]::uu 67 ([]))),[(1000,.own (.struct [.int .i64,.int .i64])),(1001,.own (.int .i64)),(1002,.own (.struct [.int .i64,.int .i64])),(1003,.obox (.agg [.int .i64,.int .i64]))]⟩ [.B y.1,.I y.2.1,.L y.2.2.1,.L y.2.2.2.1,.L y.2.2.2.2.1,.I y.2.2.2.2.2.1,.I y.2.2.2.2.2.2])):=by kernel_rfl
theorem m_Z111_ok:∀ n,(m_Z111 (n_Z111 n)).ok Try.prog (Jj (Jh Try.f114) 10):=by
 intro n
 induction n with
 | zero=>
  intro R ds k r h
  unfold m_Z111 at h
  obtain ⟨_,_,rfl,h⟩:=CK h
  obtain ⟨_,_,rfl,h⟩:=Jb h
  obtain ⟨_,_,rfl,h⟩:=Jb h
  obtain ⟨_,_,rfl,h⟩:=Ja h
  obtain ⟨_,_,rfl,h⟩:=Ja h
  obtain ⟨_,_,rfl,h⟩:=Ja h
  obtain ⟨_,_,rfl,h⟩:=Jb h
  obtain ⟨_,_,rfl,h⟩:=Jb h
  obtain ⟨rfl,hE⟩:=Je h
  obtain ⟨y,hy,hk⟩:=Jf hE
  cases hy
 | succ n ih=>
  intro R ds k r h
  unfold m_Z111 at h
  obtain ⟨_,_,rfl,h⟩:=CK h
  obtain ⟨_,_,rfl,h⟩:=Jb h
  obtain ⟨_,_,rfl,h⟩:=Jb h
  obtain ⟨_,_,rfl,h⟩:=Ja h
  obtain ⟨_,_,rfl,h⟩:=Ja h
  obtain ⟨_,_,rfl,h⟩:=Ja h
  obtain ⟨_,_,rfl,h⟩:=Jb h
  obtain ⟨_,_,rfl,h⟩:=Jb h
  obtain ⟨rfl,hE⟩:=Je h
  obtain ⟨y,hy,hk⟩:=Jf hE
  exact ⟨0,_,_,_,hk,rfl,JO px (fx:=⟨Try.func114,by kernel_rfl,by kernel_rfl⟩) (Jr e_Z30_ok (Jr e_Z109_ok (Jr e_Z110_ok Jm))) (Jo ih Jn) (by kernel_rfl) ((q_Z111 ..).trans ((c_Z111_bind ..).trans (Jg hy)))⟩
noncomputable def e_Z111:JA:=m_Z111 (Z111)
theorem e_Z111_ok:(e_Z111).ok Try.prog (Jj (Jh Try.f114) 10):=by
 intro R ds k r h
 unfold e_Z111 m_Z111 at h
 obtain ⟨_,_,rfl,h⟩:=CK h
 obtain ⟨_,_,rfl,h⟩:=Jb h
 obtain ⟨_,_,rfl,h⟩:=Jb h
 obtain ⟨_,_,rfl,h⟩:=Ja h
 obtain ⟨_,_,rfl,h⟩:=Ja h
 obtain ⟨_,_,rfl,h⟩:=Ja h
 obtain ⟨_,_,rfl,h⟩:=Jb h
 obtain ⟨_,_,rfl,h⟩:=Jb h
 obtain ⟨rfl,hE⟩:=Je h
 obtain ⟨y,hy,hk⟩:=Jf hE
 obtain ⟨n,hn⟩:=J4 hy
 exact m_Z111_ok n R _ k r ((Jg hn).trans hk)

/-!-/
abbrev T_Z112:=Bool→Int→List D→List D→List D→Option (Bool×List D)
def c_Z112 {R:Type} (F:T_Z112) (x0:Bool) (x1:Int) (x2 x3 x4:List D) (k:Bool×List D→Option R):Option R:=
 bif decide (x1<(↑x2.length:Int)) then
 if 0≤x1∧x1<(↑x2.length:Int) then
 if x1.toNat+1≤x2.length then
 (Z111 x0 x1 (0:Int) x2 x3 x4 (((x2.getD x1.toNat (D.int 0)).fld (0:Nat)).toInt) (((x2.getD x1.toNat (D.int 0)).fld (1:Nat)).toInt)).bind (fun y0=>
 bif y0.fst then
 if y0.snd.snd.snd.snd.fst.length+[D.node [D.int y0.snd.snd.snd.snd.snd.fst,D.int y0.snd.snd.snd.snd.snd.snd]].length≤(4294967296:Nat) then
 (F (decide (y0.snd.snd.snd.snd.snd.fst≤y0.snd.snd.snd.snd.snd.snd)) (IntKind.i64.wrap (y0.snd.fst+1)) y0.snd.snd.fst y0.snd.snd.snd.fst (y0.snd.snd.snd.snd.fst++[D.node [D.int y0.snd.snd.snd.snd.snd.fst,D.int y0.snd.snd.snd.snd.snd.snd]])).bind k
 else
 none
 else
 if y0.snd.snd.snd.snd.fst.length+[D.node [D.int y0.snd.snd.snd.snd.snd.fst,D.int y0.snd.snd.snd.snd.snd.snd]].length≤(4294967296:Nat) then
 (F Bool.false (IntKind.i64.wrap (y0.snd.fst+1)) y0.snd.snd.fst y0.snd.snd.snd.fst (y0.snd.snd.snd.snd.fst++[D.node [D.int y0.snd.snd.snd.snd.snd.fst,D.int y0.snd.snd.snd.snd.snd.snd]])).bind k
 else
 none)
 else
 none
 else
 none
 else
 k (x0,x4)
theorem c_Z112_bind {R:Type} (F:T_Z112) (x0:Bool) (x1:Int) (x2 x3 x4:List D) (k:Bool×List D→Option R):c_Z112 F x0 x1 x2 x3 x4 k=(c_Z112 F x0 x1 x2 x3 x4 some).bind k:=by
 unfold c_Z112
 repeat' first
  | exact Jy
  | exact Jx
  | exact Jw
  | apply Jt
  | apply Ju
  | apply Jz
  | (apply Jv; intro _)
  | intro _
def n_Z112:Nat→T_Z112
 | 0,_,_,_,_,_=>none
 | n+1,x0,x1,x2,x3,x4=>c_Z112 (n_Z112 n) x0 x1 x2 x3 x4 some
noncomputable def Z112 (x0:Bool) (x1:Int) (x2 x3 x4:List D):Option (Bool×List D):=ev (fun n=>n_Z112 n x0 x1 x2 x3 x4)
def m_Z112 (F:T_Z112):JA:=⟨6,⟨(uu 6 (.full 1000 [] (.struct [.int .i64,.int .i64])::.full 1001 [] (.int .i64)::.full 1002 [] (.struct [.int .i64,.int .i64])::.bool::.int .i64::uu 68 ([]))),[(1000,.own (.struct [.int .i64,.int .i64])),(1001,.own (.int .i64)),(1002,.own (.struct [.int .i64,.int .i64]))]⟩,[(.exit 0,⟨(uu 8 (.full 1000 [] (.struct [.int .i64,.int .i64])::.bool::uu 69 ([]))),[(1000,.own (.struct [.int .i64,.int .i64]))]⟩)],fun _ ds k=>dB (fun x0 ds=>dI (fun x1 ds=>dL (fun x2 ds=>dL (fun x3 ds=>dL (fun x4 ds=>dE ((F x0 x1 x2 x3 x4).bind (fun y=>k 0 [.B y.1,.L y.2])) ds) ds) ds) ds) ds) ds⟩
theorem q_Z112 (F:T_Z112) (x0:Bool) (x1:Int) (x2 x3 x4:List D):JZ (Jp []) (Jq [m_Z112 F,e_Z111]) A 114 (Jj (Jh Try.f114) 6) ((m_Z112 F).sh.mk' [.B x0,.I x1,.L x2,.L x3,.L x4]) (fun e σ'=>some (e,σ'))=c_Z112 F x0 x1 x2 x3 x4 (fun y=>some (.exit 0,SSt.mk' ⟨(uu 8 (.full 1000 [] (.struct [.int .i64,.int .i64])::.bool::uu 69 ([]))),[(1000,.own (.struct [.int .i64,.int .i64]))]⟩ [.B y.1,.L y.2])):=by kernel_rfl
theorem m_Z112_ok:∀ n,(m_Z112 (n_Z112 n)).ok Try.prog (Jj (Jh Try.f114) 6):=by
 intro n
 induction n with
 | zero=>
  intro R ds k r h
  unfold m_Z112 at h
  obtain ⟨_,_,rfl,h⟩:=CK h
  obtain ⟨_,_,rfl,h⟩:=Jb h
  obtain ⟨_,_,rfl,h⟩:=Ja h
  obtain ⟨_,_,rfl,h⟩:=Ja h
  obtain ⟨_,_,rfl,h⟩:=Ja h
  obtain ⟨rfl,hE⟩:=Je h
  obtain ⟨y,hy,hk⟩:=Jf hE
  cases hy
 | succ n ih=>
  intro R ds k r h
  unfold m_Z112 at h
  obtain ⟨_,_,rfl,h⟩:=CK h
  obtain ⟨_,_,rfl,h⟩:=Jb h
  obtain ⟨_,_,rfl,h⟩:=Ja h
  obtain ⟨_,_,rfl,h⟩:=Ja h
  obtain ⟨_,_,rfl,h⟩:=Ja h
  obtain ⟨rfl,hE⟩:=Je h
  obtain ⟨y,hy,hk⟩:=Jf hE
  exact ⟨0,_,_,_,hk,rfl,JO px (fx:=⟨Try.func114,by kernel_rfl,by kernel_rfl⟩) Jm (Jo ih (Jo e_Z111_ok Jn)) (by kernel_rfl) ((q_Z112 ..).trans ((c_Z112_bind ..).trans (Jg hy)))⟩
noncomputable def e_Z112:JA:=m_Z112 (Z112)
theorem e_Z112_ok:(e_Z112).ok Try.prog (Jj (Jh Try.f114) 6):=by
 intro R ds k r h
 unfold e_Z112 m_Z112 at h
 obtain ⟨_,_,rfl,h⟩:=CK h
 obtain ⟨_,_,rfl,h⟩:=Jb h
 obtain ⟨_,_,rfl,h⟩:=Ja h
 obtain ⟨_,_,rfl,h⟩:=Ja h
 obtain ⟨_,_,rfl,h⟩:=Ja h
 obtain ⟨rfl,hE⟩:=Je h
 obtain ⟨y,hy,hk⟩:=Jf hE
 obtain ⟨n,hn⟩:=J4 hy
 exact m_Z112_ok n R _ k r ((Jg hn).trans hk)

/-!-/
def c_Z113 {R:Type} (x0 x1 x2:List D) (k:List D×Bool→Option R):Option R:=
 (Z108 x0 x1 x2).bind (fun y0=>
 (Z29 x0 x1).bind (fun y1=>
 (Z112 Bool.true (0:Int) y0 y1 []).bind (fun y2=>
 k (y2.snd,y2.fst))))
theorem c_Z113_bind {R:Type} (x0 x1 x2:List D) (k:List D×Bool→Option R):c_Z113 x0 x1 x2 k=(c_Z113 x0 x1 x2 some).bind k:=by
 unfold c_Z113
 repeat' first
  | exact Jy
  | exact Jx
  | exact Jw
  | apply Jt
  | apply Ju
  | apply Jz
  | (apply Jv; intro _)
  | intro _
def Z113 (x0 x1 x2:List D):Option (List D×Bool):=c_Z113 x0 x1 x2 some
def e_Z113:Ent:=⟨114,[.agg [.rd (.struct [.int .i64,.int .i64]),.rd (.struct [.int .i64,.int .i64])],.rd (.struct [.int .i64,.struct [.int .i64,.int .i64]])],[(.tup [.own (.struct [.int .i64,.int .i64]),.bool],[.undef,.undef])],fun _ ds k=>dL (fun x0 ds=>dL (fun x1 ds=>dL (fun x2 ds=>dE ((Z113 x0 x1 x2).bind (fun y=>k 0 [.L y.1,.B y.2])) ds) ds) ds) ds⟩
theorem q_Z113 (x0 x1 x2:List D):JR (Jp [e_Z108,e_Z29]) (Jq [e_Z112]) A 114 Try.f114 (Sh.mks e_Z113.sh [.L x0,.L x1,.L x2]).1 (fun v os=>some (v,os))=c_Z113 x0 x1 x2 (fun y=>JT e_Z113 0 [.L y.1,.B y.2]):=by kernel_rfl
theorem e_Z113_ok:e_Z113.ok Try.prog A:=by
 intro R ds k r h
 unfold e_Z113 at h
 obtain ⟨_,_,rfl,h⟩:=Ja h
 obtain ⟨_,_,rfl,h⟩:=Ja h
 obtain ⟨_,_,rfl,h⟩:=Ja h
 obtain ⟨rfl,hE⟩:=Je h
 obtain ⟨y,hy,hk⟩:=Jf hE
 exact ⟨0,_,_,_,hk,rfl,JU px (fx:=⟨Try.func114,by kernel_rfl,by kernel_rfl⟩) (Jr e_Z108_ok (Jr e_Z29_ok Jm)) (Jo e_Z112_ok Jn) ((q_Z113 ..).trans ((c_Z113_bind ..).trans (Jg hy)))⟩

/-!-/
def c_Z114 {R:Type} (x0 x1 x2:List D) (k:List D×Bool→Option R):Option R:=
 (Z105 x0 x1 x2).bind (fun y0=>
 bif !y0 then
 k ([],Bool.false)
 else
 (Z113 x0 x1 x2).bind (fun y1=>
 bif !y1.snd then
 k ([],Bool.false)
 else
 k (y1.fst,Bool.true)))
theorem c_Z114_bind {R:Type} (x0 x1 x2:List D) (k:List D×Bool→Option R):c_Z114 x0 x1 x2 k=(c_Z114 x0 x1 x2 some).bind k:=by
 unfold c_Z114
 repeat' first
  | exact Jy
  | exact Jx
  | exact Jw
  | apply Jt
  | apply Ju
  | apply Jz
  | (apply Jv; intro _)
  | intro _
def Z114 (x0 x1 x2:List D):Option (List D×Bool):=c_Z114 x0 x1 x2 some
def e_Z114:Ent:=⟨34,[.agg [.rd (.struct [.int .i64,.int .i64]),.rd (.struct [.int .i64,.int .i64])],.rd (.struct [.int .i64,.struct [.int .i64,.int .i64]])],[(.tup [.own (.struct [.int .i64,.int .i64]),.bool],[.undef,.undef])],fun _ ds k=>dL (fun x0 ds=>dL (fun x1 ds=>dL (fun x2 ds=>dE ((Z114 x0 x1 x2).bind (fun y=>k 0 [.L y.1,.B y.2])) ds) ds) ds) ds⟩
theorem q_Z114 (x0 x1 x2:List D):JR (Jp [e_Z105,e_Z113]) (Jq []) A 34 Try.f34 (Sh.mks e_Z114.sh [.L x0,.L x1,.L x2]).1 (fun v os=>some (v,os))=c_Z114 x0 x1 x2 (fun y=>JT e_Z114 0 [.L y.1,.B y.2]):=by kernel_rfl
theorem e_Z114_ok:e_Z114.ok Try.prog A:=by
 intro R ds k r h
 unfold e_Z114 at h
 obtain ⟨_,_,rfl,h⟩:=Ja h
 obtain ⟨_,_,rfl,h⟩:=Ja h
 obtain ⟨_,_,rfl,h⟩:=Ja h
 obtain ⟨rfl,hE⟩:=Je h
 obtain ⟨y,hy,hk⟩:=Jf hE
 exact ⟨0,_,_,_,hk,rfl,JU px (fx:=⟨Try.func34,by kernel_rfl,by kernel_rfl⟩) (Jr e_Z105_ok (Jr e_Z113_ok Jm)) Jn ((q_Z114 ..).trans ((c_Z114_bind ..).trans (Jg hy)))⟩

/-!-/
def c_Z115 {R:Type} (x0 x1 x2:List D) (k:Bool→Option R):Option R:=
 (Z105 x0 x1 x2).bind (fun y0=>
 k y0)
theorem c_Z115_bind {R:Type} (x0 x1 x2:List D) (k:Bool→Option R):c_Z115 x0 x1 x2 k=(c_Z115 x0 x1 x2 some).bind k:=by
 unfold c_Z115
 repeat' first
  | exact Jy
  | exact Jx
  | exact Jw
  | apply Jt
  | apply Ju
  | apply Jz
  | (apply Jv; intro _)
  | intro _
def Z115 (x0 x1 x2:List D):Option (Bool):=c_Z115 x0 x1 x2 some
def e_Z115:Ent:=⟨35,[.agg [.rd (.struct [.int .i64,.int .i64]),.rd (.struct [.int .i64,.int .i64])],.rd (.struct [.int .i64,.struct [.int .i64,.int .i64]])],[(.bool,[.undef,.undef])],fun _ ds k=>dL (fun x0 ds=>dL (fun x1 ds=>dL (fun x2 ds=>dE ((Z115 x0 x1 x2).bind (fun y=>k 0 [.B y])) ds) ds) ds) ds⟩
theorem q_Z115 (x0 x1 x2:List D):JR (Jp [e_Z105]) (Jq []) A 35 Try.f35 (Sh.mks e_Z115.sh [.L x0,.L x1,.L x2]).1 (fun v os=>some (v,os))=c_Z115 x0 x1 x2 (fun y=>JT e_Z115 0 [.B y]):=by kernel_rfl
theorem e_Z115_ok:e_Z115.ok Try.prog A:=by
 intro R ds k r h
 unfold e_Z115 at h
 obtain ⟨_,_,rfl,h⟩:=Ja h
 obtain ⟨_,_,rfl,h⟩:=Ja h
 obtain ⟨_,_,rfl,h⟩:=Ja h
 obtain ⟨rfl,hE⟩:=Je h
 obtain ⟨y,hy,hk⟩:=Jf hE
 exact ⟨0,_,_,_,hk,rfl,JU px (fx:=⟨Try.func35,by kernel_rfl,by kernel_rfl⟩) (Jr e_Z105_ok Jm) Jn ((q_Z115 ..).trans ((c_Z115_bind ..).trans (Jg hy)))⟩

/-!-/
def c_Z116 {R:Type} (x0 x1:Int) (k:Int→Option R):Option R:=
 k x0
theorem c_Z116_bind {R:Type} (x0 x1:Int) (k:Int→Option R):c_Z116 x0 x1 k=(c_Z116 x0 x1 some).bind k:=by
 unfold c_Z116
 repeat' first
  | exact Jy
  | exact Jx
  | exact Jw
  | apply Jt
  | apply Ju
  | apply Jz
  | (apply Jv; intro _)
  | intro _
def Z116 (x0 x1:Int):Option (Int):=c_Z116 x0 x1 some
def e_Z116:Ent:=⟨116,[.agg [.int .i64,.int .i64]],[(.int .i64,[.undef])],fun _ ds k=>dI (fun x0 ds=>dI (fun x1 ds=>dE ((Z116 x0 x1).bind (fun y=>k 0 [.I y])) ds) ds) ds⟩
theorem q_Z116 (x0 x1:Int):JR (Jp []) (Jq []) A 116 Try.f116 (Sh.mks e_Z116.sh [.I x0,.I x1]).1 (fun v os=>some (v,os))=c_Z116 x0 x1 (fun y=>JT e_Z116 0 [.I y]):=by kernel_rfl
theorem e_Z116_ok:e_Z116.ok Try.prog A:=by
 intro R ds k r h
 unfold e_Z116 at h
 obtain ⟨_,_,rfl,h⟩:=Jb h
 obtain ⟨_,_,rfl,h⟩:=Jb h
 obtain ⟨rfl,hE⟩:=Je h
 obtain ⟨y,hy,hk⟩:=Jf hE
 exact ⟨0,_,_,_,hk,rfl,JU px (fx:=⟨Try.func116,by kernel_rfl,by kernel_rfl⟩) Jm Jn ((q_Z116 ..).trans ((c_Z116_bind ..).trans (Jg hy)))⟩

/-!-/
abbrev T_Z117:=List D→Int→Int→List D→Option (List D)
def c_Z117 {R:Type} (F:T_Z117) (x0:List D) (x1 x2:Int) (x3:List D) (k:List D→Option R):Option R:=
 bif decide (x2<x1) then
 if 0≤x2∧x2<(↑x0.length:Int) then
 (Z116 (((x0.getD x2.toNat (D.int 0)).fld (0:Nat)).toInt) (((x0.getD x2.toNat (D.int 0)).fld (1:Nat)).toInt)).bind (fun y0=>
 if x3.length+[D.int y0].length≤(4294967296:Nat) then
 (F x0 x1 (IntKind.i64.wrap (x2+1)) (x3++[D.int y0])).bind k
 else
 none)
 else
 none
 else
 k x3
theorem c_Z117_bind {R:Type} (F:T_Z117) (x0:List D) (x1 x2:Int) (x3:List D) (k:List D→Option R):c_Z117 F x0 x1 x2 x3 k=(c_Z117 F x0 x1 x2 x3 some).bind k:=by
 unfold c_Z117
 repeat' first
  | exact Jy
  | exact Jx
  | exact Jw
  | apply Jt
  | apply Ju
  | apply Jz
  | (apply Jv; intro _)
  | intro _
def n_Z117:Nat→T_Z117
 | 0,_,_,_,_=>none
 | n+1,x0,x1,x2,x3=>c_Z117 (n_Z117 n) x0 x1 x2 x3 some
noncomputable def Z117 (x0:List D) (x1 x2:Int) (x3:List D):Option (List D):=ev (fun n=>n_Z117 n x0 x1 x2 x3)
def m_Z117 (F:T_Z117):JA:=⟨3,⟨(.undef::.fn 116 []::.undef::.undef::.undef::.full 1000 [] (.int .i64)::.undef::.undef::.undef::.rd (.struct [.int .i64,.int .i64])::.int .i64::.int .i64::uu 11 ([])),[(1000,.own (.int .i64))]⟩,[(.exit 0,⟨(uu 5 (.full 1000 [] (.int .i64)::uu 17 ([]))),[(1000,.own (.int .i64))]⟩)],fun _ ds k=>dL (fun x0 ds=>dI (fun x1 ds=>dI (fun x2 ds=>dL (fun x3 ds=>dE ((F x0 x1 x2 x3).bind (fun y=>k 0 [.L y])) ds) ds) ds) ds) ds⟩
theorem q_Z117 (F:T_Z117) (x0:List D) (x1 x2:Int) (x3:List D):JZ (Jp [e_Z116]) (Jq [m_Z117 F]) A 115 (Jj (Jh Try.f115) 3) ((m_Z117 F).sh.mk' [.L x0,.I x1,.I x2,.L x3]) (fun e σ'=>some (e,σ'))=c_Z117 F x0 x1 x2 x3 (fun y=>some (.exit 0,SSt.mk' ⟨(uu 5 (.full 1000 [] (.int .i64)::uu 17 ([]))),[(1000,.own (.int .i64))]⟩ [.L y])):=by kernel_rfl
theorem m_Z117_ok:∀ n,(m_Z117 (n_Z117 n)).ok Try.prog (Jj (Jh Try.f115) 3):=by
 intro n
 induction n with
 | zero=>
  intro R ds k r h
  unfold m_Z117 at h
  obtain ⟨_,_,rfl,h⟩:=Ja h
  obtain ⟨_,_,rfl,h⟩:=Jb h
  obtain ⟨_,_,rfl,h⟩:=Jb h
  obtain ⟨_,_,rfl,h⟩:=Ja h
  obtain ⟨rfl,hE⟩:=Je h
  obtain ⟨y,hy,hk⟩:=Jf hE
  cases hy
 | succ n ih=>
  intro R ds k r h
  unfold m_Z117 at h
  obtain ⟨_,_,rfl,h⟩:=Ja h
  obtain ⟨_,_,rfl,h⟩:=Jb h
  obtain ⟨_,_,rfl,h⟩:=Jb h
  obtain ⟨_,_,rfl,h⟩:=Ja h
  obtain ⟨rfl,hE⟩:=Je h
  obtain ⟨y,hy,hk⟩:=Jf hE
  exact ⟨0,_,_,_,hk,rfl,JO px (fx:=⟨Try.func115,by kernel_rfl,by kernel_rfl⟩) (Jr e_Z116_ok Jm) (Jo ih Jn) (by kernel_rfl) ((q_Z117 ..).trans ((c_Z117_bind ..).trans (Jg hy)))⟩
noncomputable def e_Z117:JA:=m_Z117 (Z117)
theorem e_Z117_ok:(e_Z117).ok Try.prog (Jj (Jh Try.f115) 3):=by
 intro R ds k r h
 unfold e_Z117 m_Z117 at h
 obtain ⟨_,_,rfl,h⟩:=Ja h
 obtain ⟨_,_,rfl,h⟩:=Jb h
 obtain ⟨_,_,rfl,h⟩:=Jb h
 obtain ⟨_,_,rfl,h⟩:=Ja h
 obtain ⟨rfl,hE⟩:=Je h
 obtain ⟨y,hy,hk⟩:=Jf hE
 obtain ⟨n,hn⟩:=J4 hy
 exact m_Z117_ok n R _ k r ((Jg hn).trans hk)

/-!-/
def c_Z118 {R:Type} (x0:List D) (k:List D→Option R):Option R:=
 (Z117 x0 (↑x0.length:Int) (0:Int) []).bind (fun y0=>
 k y0)
theorem c_Z118_bind {R:Type} (x0:List D) (k:List D→Option R):c_Z118 x0 k=(c_Z118 x0 some).bind k:=by
 unfold c_Z118
 repeat' first
  | exact Jy
  | exact Jx
  | exact Jw
  | apply Jt
  | apply Ju
  | apply Jz
  | (apply Jv; intro _)
  | intro _
def Z118 (x0:List D):Option (List D):=c_Z118 x0 some
def e_Z118:Ent:=⟨115,[.rd (.struct [.int .i64,.int .i64]),.fn 116 []],[(.own (.int .i64),[.undef,.undef])],fun _ ds k=>dL (fun x0 ds=>dE ((Z118 x0).bind (fun y=>k 0 [.L y])) ds) ds⟩
theorem q_Z118 (x0:List D):JR (Jp []) (Jq [e_Z117]) A 115 Try.f115 (Sh.mks e_Z118.sh [.L x0]).1 (fun v os=>some (v,os))=c_Z118 x0 (fun y=>JT e_Z118 0 [.L y]):=by kernel_rfl
theorem e_Z118_ok:e_Z118.ok Try.prog A:=by
 intro R ds k r h
 unfold e_Z118 at h
 obtain ⟨_,_,rfl,h⟩:=Ja h
 obtain ⟨rfl,hE⟩:=Je h
 obtain ⟨y,hy,hk⟩:=Jf hE
 exact ⟨0,_,_,_,hk,rfl,JU px (fx:=⟨Try.func115,by kernel_rfl,by kernel_rfl⟩) Jm (Jo e_Z117_ok Jn) ((q_Z118 ..).trans ((c_Z118_bind ..).trans (Jg hy)))⟩

/-!-/
def c_Z119 {R:Type} (x0 x1 x2:List D) (k:List D×Bool→Option R):Option R:=
 (Z98 x0 x1 x2).bind (fun y0=>
 bif !y0.snd then
 k ([],Bool.false)
 else
 (Z118 y0.fst).bind (fun y1=>
 k (y1,Bool.true)))
theorem c_Z119_bind {R:Type} (x0 x1 x2:List D) (k:List D×Bool→Option R):c_Z119 x0 x1 x2 k=(c_Z119 x0 x1 x2 some).bind k:=by
 unfold c_Z119
 repeat' first
  | exact Jy
  | exact Jx
  | exact Jw
  | apply Jt
  | apply Ju
  | apply Jz
  | (apply Jv; intro _)
  | intro _
def Z119 (x0 x1 x2:List D):Option (List D×Bool):=c_Z119 x0 x1 x2 some
def e_Z119:Ent:=⟨36,[.agg [.rd (.struct [.int .i64,.int .i64]),.rd (.struct [.int .i64,.int .i64])],.rd (.struct [.int .i64,.struct [.int .i64,.int .i64]])],[(.tup [.own (.int .i64),.bool],[.undef,.undef])],fun _ ds k=>dL (fun x0 ds=>dL (fun x1 ds=>dL (fun x2 ds=>dE ((Z119 x0 x1 x2).bind (fun y=>k 0 [.L y.1,.B y.2])) ds) ds) ds) ds⟩
theorem q_Z119 (x0 x1 x2:List D):JR (Jp [e_Z98,e_Z118]) (Jq []) A 36 Try.f36 (Sh.mks e_Z119.sh [.L x0,.L x1,.L x2]).1 (fun v os=>some (v,os))=c_Z119 x0 x1 x2 (fun y=>JT e_Z119 0 [.L y.1,.B y.2]):=by kernel_rfl
theorem e_Z119_ok:e_Z119.ok Try.prog A:=by
 intro R ds k r h
 unfold e_Z119 at h
 obtain ⟨_,_,rfl,h⟩:=Ja h
 obtain ⟨_,_,rfl,h⟩:=Ja h
 obtain ⟨_,_,rfl,h⟩:=Ja h
 obtain ⟨rfl,hE⟩:=Je h
 obtain ⟨y,hy,hk⟩:=Jf hE
 exact ⟨0,_,_,_,hk,rfl,JU px (fx:=⟨Try.func36,by kernel_rfl,by kernel_rfl⟩) (Jr e_Z98_ok (Jr e_Z118_ok Jm)) Jn ((q_Z119 ..).trans ((c_Z119_bind ..).trans (Jg hy)))⟩

/-!-/
def c_Z120 {R:Type} (x0 x1:Int) (k:Int→Option R):Option R:=
 k x1
theorem c_Z120_bind {R:Type} (x0 x1:Int) (k:Int→Option R):c_Z120 x0 x1 k=(c_Z120 x0 x1 some).bind k:=by
 unfold c_Z120
 repeat' first
  | exact Jy
  | exact Jx
  | exact Jw
  | apply Jt
  | apply Ju
  | apply Jz
  | (apply Jv; intro _)
  | intro _
def Z120 (x0 x1:Int):Option (Int):=c_Z120 x0 x1 some
def e_Z120:Ent:=⟨117,[.agg [.int .i64,.int .i64]],[(.int .i64,[.undef])],fun _ ds k=>dI (fun x0 ds=>dI (fun x1 ds=>dE ((Z120 x0 x1).bind (fun y=>k 0 [.I y])) ds) ds) ds⟩
theorem q_Z120 (x0 x1:Int):JR (Jp []) (Jq []) A 117 Try.f117 (Sh.mks e_Z120.sh [.I x0,.I x1]).1 (fun v os=>some (v,os))=c_Z120 x0 x1 (fun y=>JT e_Z120 0 [.I y]):=by kernel_rfl
theorem e_Z120_ok:e_Z120.ok Try.prog A:=by
 intro R ds k r h
 unfold e_Z120 at h
 obtain ⟨_,_,rfl,h⟩:=Jb h
 obtain ⟨_,_,rfl,h⟩:=Jb h
 obtain ⟨rfl,hE⟩:=Je h
 obtain ⟨y,hy,hk⟩:=Jf hE
 exact ⟨0,_,_,_,hk,rfl,JU px (fx:=⟨Try.func117,by kernel_rfl,by kernel_rfl⟩) Jm Jn ((q_Z120 ..).trans ((c_Z120_bind ..).trans (Jg hy)))⟩

/-!-/
abbrev T_Z121:=List D→Int→Int→List D→Option (List D)
def c_Z121 {R:Type} (F:T_Z121) (x0:List D) (x1 x2:Int) (x3:List D) (k:List D→Option R):Option R:=
 bif decide (x2<x1) then
 if 0≤x2∧x2<(↑x0.length:Int) then
 (Z120 (((x0.getD x2.toNat (D.int 0)).fld (0:Nat)).toInt) (((x0.getD x2.toNat (D.int 0)).fld (1:Nat)).toInt)).bind (fun y0=>
 if x3.length+[D.int y0].length≤(4294967296:Nat) then
 (F x0 x1 (IntKind.i64.wrap (x2+1)) (x3++[D.int y0])).bind k
 else
 none)
 else
 none
 else
 k x3
theorem c_Z121_bind {R:Type} (F:T_Z121) (x0:List D) (x1 x2:Int) (x3:List D) (k:List D→Option R):c_Z121 F x0 x1 x2 x3 k=(c_Z121 F x0 x1 x2 x3 some).bind k:=by
 unfold c_Z121
 repeat' first
  | exact Jy
  | exact Jx
  | exact Jw
  | apply Jt
  | apply Ju
  | apply Jz
  | (apply Jv; intro _)
  | intro _
def n_Z121:Nat→T_Z121
 | 0,_,_,_,_=>none
 | n+1,x0,x1,x2,x3=>c_Z121 (n_Z121 n) x0 x1 x2 x3 some
noncomputable def Z121 (x0:List D) (x1 x2:Int) (x3:List D):Option (List D):=ev (fun n=>n_Z121 n x0 x1 x2 x3)
def m_Z121 (F:T_Z121):JA:=⟨3,⟨(.undef::.fn 117 []::.undef::.undef::.undef::.full 1000 [] (.int .i64)::.undef::.undef::.undef::.rd (.struct [.int .i64,.int .i64])::.int .i64::.int .i64::uu 11 ([])),[(1000,.own (.int .i64))]⟩,[(.exit 0,⟨(uu 5 (.full 1000 [] (.int .i64)::uu 17 ([]))),[(1000,.own (.int .i64))]⟩)],fun _ ds k=>dL (fun x0 ds=>dI (fun x1 ds=>dI (fun x2 ds=>dL (fun x3 ds=>dE ((F x0 x1 x2 x3).bind (fun y=>k 0 [.L y])) ds) ds) ds) ds) ds⟩
theorem q_Z121 (F:T_Z121) (x0:List D) (x1 x2:Int) (x3:List D):JZ (Jp [e_Z120]) (Jq [m_Z121 F]) A 115 (Jj (Jh Try.f115) 3) ((m_Z121 F).sh.mk' [.L x0,.I x1,.I x2,.L x3]) (fun e σ'=>some (e,σ'))=c_Z121 F x0 x1 x2 x3 (fun y=>some (.exit 0,SSt.mk' ⟨(uu 5 (.full 1000 [] (.int .i64)::uu 17 ([]))),[(1000,.own (.int .i64))]⟩ [.L y])):=by kernel_rfl
theorem m_Z121_ok:∀ n,(m_Z121 (n_Z121 n)).ok Try.prog (Jj (Jh Try.f115) 3):=by
 intro n
 induction n with
 | zero=>
  intro R ds k r h
  unfold m_Z121 at h
  obtain ⟨_,_,rfl,h⟩:=Ja h
  obtain ⟨_,_,rfl,h⟩:=Jb h
  obtain ⟨_,_,rfl,h⟩:=Jb h
  obtain ⟨_,_,rfl,h⟩:=Ja h
  obtain ⟨rfl,hE⟩:=Je h
  obtain ⟨y,hy,hk⟩:=Jf hE
  cases hy
 | succ n ih=>
  intro R ds k r h
  unfold m_Z121 at h
  obtain ⟨_,_,rfl,h⟩:=Ja h
  obtain ⟨_,_,rfl,h⟩:=Jb h
  obtain ⟨_,_,rfl,h⟩:=Jb h
  obtain ⟨_,_,rfl,h⟩:=Ja h
  obtain ⟨rfl,hE⟩:=Je h
  obtain ⟨y,hy,hk⟩:=Jf hE
  exact ⟨0,_,_,_,hk,rfl,JO px (fx:=⟨Try.func115,by kernel_rfl,by kernel_rfl⟩) (Jr e_Z120_ok Jm) (Jo ih Jn) (by kernel_rfl) ((q_Z121 ..).trans ((c_Z121_bind ..).trans (Jg hy)))⟩
noncomputable def e_Z121:JA:=m_Z121 (Z121)
theorem e_Z121_ok:(e_Z121).ok Try.prog (Jj (Jh Try.f115) 3):=by
 intro R ds k r h
 unfold e_Z121 m_Z121 at h
 obtain ⟨_,_,rfl,h⟩:=Ja h
 obtain ⟨_,_,rfl,h⟩:=Jb h
 obtain ⟨_,_,rfl,h⟩:=Jb h
 obtain ⟨_,_,rfl,h⟩:=Ja h
 obtain ⟨rfl,hE⟩:=Je h
 obtain ⟨y,hy,hk⟩:=Jf hE
 obtain ⟨n,hn⟩:=J4 hy
 exact m_Z121_ok n R _ k r ((Jg hn).trans hk)

/-!-/
def c_Z122 {R:Type} (x0:List D) (k:List D→Option R):Option R:=
 (Z121 x0 (↑x0.length:Int) (0:Int) []).bind (fun y0=>
 k y0)
theorem c_Z122_bind {R:Type} (x0:List D) (k:List D→Option R):c_Z122 x0 k=(c_Z122 x0 some).bind k:=by
 unfold c_Z122
 repeat' first
  | exact Jy
  | exact Jx
  | exact Jw
  | apply Jt
  | apply Ju
  | apply Jz
  | (apply Jv; intro _)
  | intro _
def Z122 (x0:List D):Option (List D):=c_Z122 x0 some
def e_Z122:Ent:=⟨115,[.rd (.struct [.int .i64,.int .i64]),.fn 117 []],[(.own (.int .i64),[.undef,.undef])],fun _ ds k=>dL (fun x0 ds=>dE ((Z122 x0).bind (fun y=>k 0 [.L y])) ds) ds⟩
theorem q_Z122 (x0:List D):JR (Jp []) (Jq [e_Z121]) A 115 Try.f115 (Sh.mks e_Z122.sh [.L x0]).1 (fun v os=>some (v,os))=c_Z122 x0 (fun y=>JT e_Z122 0 [.L y]):=by kernel_rfl
theorem e_Z122_ok:e_Z122.ok Try.prog A:=by
 intro R ds k r h
 unfold e_Z122 at h
 obtain ⟨_,_,rfl,h⟩:=Ja h
 obtain ⟨rfl,hE⟩:=Je h
 obtain ⟨y,hy,hk⟩:=Jf hE
 exact ⟨0,_,_,_,hk,rfl,JU px (fx:=⟨Try.func115,by kernel_rfl,by kernel_rfl⟩) Jm (Jo e_Z121_ok Jn) ((q_Z122 ..).trans ((c_Z122_bind ..).trans (Jg hy)))⟩

/-!-/
def c_Z123 {R:Type} (x0 x1 x2:List D) (k:List D×Bool→Option R):Option R:=
 (Z98 x0 x1 x2).bind (fun y0=>
 bif !y0.snd then
 k ([],Bool.false)
 else
 (Z122 y0.fst).bind (fun y1=>
 k (y1,Bool.true)))
theorem c_Z123_bind {R:Type} (x0 x1 x2:List D) (k:List D×Bool→Option R):c_Z123 x0 x1 x2 k=(c_Z123 x0 x1 x2 some).bind k:=by
 unfold c_Z123
 repeat' first
  | exact Jy
  | exact Jx
  | exact Jw
  | apply Jt
  | apply Ju
  | apply Jz
  | (apply Jv; intro _)
  | intro _
def Z123 (x0 x1 x2:List D):Option (List D×Bool):=c_Z123 x0 x1 x2 some
def e_Z123:Ent:=⟨37,[.agg [.rd (.struct [.int .i64,.int .i64]),.rd (.struct [.int .i64,.int .i64])],.rd (.struct [.int .i64,.struct [.int .i64,.int .i64]])],[(.tup [.own (.int .i64),.bool],[.undef,.undef])],fun _ ds k=>dL (fun x0 ds=>dL (fun x1 ds=>dL (fun x2 ds=>dE ((Z123 x0 x1 x2).bind (fun y=>k 0 [.L y.1,.B y.2])) ds) ds) ds) ds⟩
theorem q_Z123 (x0 x1 x2:List D):JR (Jp [e_Z98,e_Z122]) (Jq []) A 37 Try.f37 (Sh.mks e_Z123.sh [.L x0,.L x1,.L x2]).1 (fun v os=>some (v,os))=c_Z123 x0 x1 x2 (fun y=>JT e_Z123 0 [.L y.1,.B y.2]):=by kernel_rfl
theorem e_Z123_ok:e_Z123.ok Try.prog A:=by
 intro R ds k r h
 unfold e_Z123 at h
 obtain ⟨_,_,rfl,h⟩:=Ja h
 obtain ⟨_,_,rfl,h⟩:=Ja h
 obtain ⟨_,_,rfl,h⟩:=Ja h
 obtain ⟨rfl,hE⟩:=Je h
 obtain ⟨y,hy,hk⟩:=Jf hE
 exact ⟨0,_,_,_,hk,rfl,JU px (fx:=⟨Try.func37,by kernel_rfl,by kernel_rfl⟩) (Jr e_Z98_ok (Jr e_Z122_ok Jm)) Jn ((q_Z123 ..).trans ((c_Z123_bind ..).trans (Jg hy)))⟩

/-!-/
def c_Z124 {R:Type} (x0:Int) (k:Bool→Option R):Option R:=
 (Z85 x0).bind (fun y0=>
 k !y0)
theorem c_Z124_bind {R:Type} (x0:Int) (k:Bool→Option R):c_Z124 x0 k=(c_Z124 x0 some).bind k:=by
 unfold c_Z124
 repeat' first
  | exact Jy
  | exact Jx
  | exact Jw
  | apply Jt
  | apply Ju
  | apply Jz
  | (apply Jv; intro _)
  | intro _
def Z124 (x0:Int):Option (Bool):=c_Z124 x0 some
def e_Z124:Ent:=⟨119,[.int .i64],[(.bool,[.undef])],fun _ ds k=>dI (fun x0 ds=>dE ((Z124 x0).bind (fun y=>k 0 [.B y])) ds) ds⟩
theorem q_Z124 (x0:Int):JR (Jp [e_Z85]) (Jq []) A 119 Try.f119 (Sh.mks e_Z124.sh [.I x0]).1 (fun v os=>some (v,os))=c_Z124 x0 (fun y=>JT e_Z124 0 [.B y]):=by kernel_rfl
theorem e_Z124_ok:e_Z124.ok Try.prog A:=by
 intro R ds k r h
 unfold e_Z124 at h
 obtain ⟨_,_,rfl,h⟩:=Jb h
 obtain ⟨rfl,hE⟩:=Je h
 obtain ⟨y,hy,hk⟩:=Jf hE
 exact ⟨0,_,_,_,hk,rfl,JU px (fx:=⟨Try.func119,by kernel_rfl,by kernel_rfl⟩) (Jr e_Z85_ok Jm) Jn ((q_Z124 ..).trans ((c_Z124_bind ..).trans (Jg hy)))⟩

/-!-/
abbrev T_Z125:=List D→Int→Int→Option ((Int)⊕(Unit))
def c_Z125 {R:Type} (F:T_Z125) (x0:List D) (x1 x2:Int) (k:(Int)⊕(Unit)→Option R):Option R:=
 bif decide (x2<x1) then
 if 0≤x2∧x2<(↑x0.length:Int) then
 (Z124 ((x0.getD x2.toNat (D.int 0)).toInt)).bind (fun y0=>
 bif y0 then
 k (.inl x2)
 else
 (F x0 x1 (IntKind.i64.wrap (x2+1))).bind k)
 else
 none
 else
 k (.inr ())
theorem c_Z125_bind {R:Type} (F:T_Z125) (x0:List D) (x1 x2:Int) (k:(Int)⊕(Unit)→Option R):c_Z125 F x0 x1 x2 k=(c_Z125 F x0 x1 x2 some).bind k:=by
 unfold c_Z125
 repeat' first
  | exact Jy
  | exact Jx
  | exact Jw
  | apply Jt
  | apply Ju
  | apply Jz
  | (apply Jv; intro _)
  | intro _
def n_Z125:Nat→T_Z125
 | 0,_,_,_=>none
 | n+1,x0,x1,x2=>c_Z125 (n_Z125 n) x0 x1 x2 some
noncomputable def Z125 (x0:List D) (x1 x2:Int):Option ((Int)⊕(Unit)):=ev (fun n=>n_Z125 n x0 x1 x2)
def m_Z125 (F:T_Z125):JA:=⟨2,⟨(.rd (.int .i64)::.fn 119 []::uu 5 (.int .i64::.int .i64::uu 10 ([]))),[]⟩,[(.ret,⟨(uu 4 (.int .i64::uu 14 ([]))),[]⟩),(.exit 0,⟨(uu 19 ([])),[]⟩)],fun _ ds k=>dL (fun x0 ds=>dI (fun x1 ds=>dI (fun x2 ds=>dE ((F x0 x1 x2).bind (Sum.elim (fun y=>k 0 [.I y]) (fun y=>k 1 []))) ds) ds) ds) ds⟩
theorem q_Z125 (F:T_Z125) (x0:List D) (x1 x2:Int):JZ (Jp [e_Z124]) (Jq [m_Z125 F]) A 195 (Jj (Jh Try.f195) 2) ((m_Z125 F).sh.mk' [.L x0,.I x1,.I x2]) (fun e σ'=>some (e,σ'))=c_Z125 F x0 x1 x2 (Sum.elim (fun y=>some (.ret,SSt.mk' ⟨(uu 4 (.int .i64::uu 14 ([]))),[]⟩ [.I y])) (fun y=>some (.exit 0,SSt.mk' ⟨(uu 19 ([])),[]⟩ []))):=by kernel_rfl
theorem m_Z125_ok:∀ n,(m_Z125 (n_Z125 n)).ok Try.prog (Jj (Jh Try.f195) 2):=by
 intro n
 induction n with
 | zero=>
  intro R ds k r h
  unfold m_Z125 at h
  obtain ⟨_,_,rfl,h⟩:=Ja h
  obtain ⟨_,_,rfl,h⟩:=Jb h
  obtain ⟨_,_,rfl,h⟩:=Jb h
  obtain ⟨rfl,hE⟩:=Je h
  obtain ⟨y,hy,hk⟩:=Jf hE
  cases hy
 | succ n ih=>
  intro R ds k r h
  unfold m_Z125 at h
  obtain ⟨_,_,rfl,h⟩:=Ja h
  obtain ⟨_,_,rfl,h⟩:=Jb h
  obtain ⟨_,_,rfl,h⟩:=Jb h
  obtain ⟨rfl,hE⟩:=Je h
  obtain ⟨y,hy,hk⟩:=Jf hE
  cases y with
  | inl y=>
   exact ⟨0,_,_,_,hk,rfl,JO px (fx:=⟨Try.func195,by kernel_rfl,by kernel_rfl⟩) (Jr e_Z124_ok Jm) (Jo ih Jn) (by kernel_rfl) ((q_Z125 ..).trans ((c_Z125_bind ..).trans (Jg hy)))⟩
  | inr y=>
   exact ⟨1,_,_,_,hk,rfl,JO px (fx:=⟨Try.func195,by kernel_rfl,by kernel_rfl⟩) (Jr e_Z124_ok Jm) (Jo ih Jn) (by kernel_rfl) ((q_Z125 ..).trans ((c_Z125_bind ..).trans (Jg hy)))⟩
noncomputable def e_Z125:JA:=m_Z125 (Z125)
theorem e_Z125_ok:(e_Z125).ok Try.prog (Jj (Jh Try.f195) 2):=by
 intro R ds k r h
 unfold e_Z125 m_Z125 at h
 obtain ⟨_,_,rfl,h⟩:=Ja h
 obtain ⟨_,_,rfl,h⟩:=Jb h
 obtain ⟨_,_,rfl,h⟩:=Jb h
 obtain ⟨rfl,hE⟩:=Je h
 obtain ⟨y,hy,hk⟩:=Jf hE
 obtain ⟨n,hn⟩:=J4 hy
 exact m_Z125_ok n R _ k r ((Jg hn).trans hk)

/-!-/
def c_Z126 {R:Type} (x0:List D) (k:Int→Option R):Option R:=
 (Z125 x0 (↑x0.length:Int) (0:Int)).bind (Sum.elim (fun y0=>
 k y0) (fun y1=>
 k (-1:Int)))
theorem c_Z126_bind {R:Type} (x0:List D) (k:Int→Option R):c_Z126 x0 k=(c_Z126 x0 some).bind k:=by
 unfold c_Z126
 repeat' first
  | exact Jy
  | exact Jx
  | exact Jw
  | apply Jt
  | apply Ju
  | apply Jz
  | (apply Jv; intro _)
  | intro _
def Z126 (x0:List D):Option (Int):=c_Z126 x0 some
def e_Z126:Ent:=⟨195,[.rd (.int .i64),.fn 119 []],[(.int .i64,[.undef,.undef])],fun _ ds k=>dL (fun x0 ds=>dE ((Z126 x0).bind (fun y=>k 0 [.I y])) ds) ds⟩
theorem q_Z126 (x0:List D):JR (Jp []) (Jq [e_Z125]) A 195 Try.f195 (Sh.mks e_Z126.sh [.L x0]).1 (fun v os=>some (v,os))=c_Z126 x0 (fun y=>JT e_Z126 0 [.I y]):=by kernel_rfl
theorem e_Z126_ok:e_Z126.ok Try.prog A:=by
 intro R ds k r h
 unfold e_Z126 at h
 obtain ⟨_,_,rfl,h⟩:=Ja h
 obtain ⟨rfl,hE⟩:=Je h
 obtain ⟨y,hy,hk⟩:=Jf hE
 exact ⟨0,_,_,_,hk,rfl,JU px (fx:=⟨Try.func195,by kernel_rfl,by kernel_rfl⟩) Jm (Jo e_Z125_ok Jn) ((q_Z126 ..).trans ((c_Z126_bind ..).trans (Jg hy)))⟩

/-!-/
def c_Z127 {R:Type} (x0:List D) (k:Bool→Option R):Option R:=
 (Z126 x0).bind (fun y0=>
 k (decide ((0:Int)≤y0)))
theorem c_Z127_bind {R:Type} (x0:List D) (k:Bool→Option R):c_Z127 x0 k=(c_Z127 x0 some).bind k:=by
 unfold c_Z127
 repeat' first
  | exact Jy
  | exact Jx
  | exact Jw
  | apply Jt
  | apply Ju
  | apply Jz
  | (apply Jv; intro _)
  | intro _
def Z127 (x0:List D):Option (Bool):=c_Z127 x0 some
def e_Z127:Ent:=⟨118,[.rd (.int .i64),.fn 119 []],[(.bool,[.undef,.undef])],fun _ ds k=>dL (fun x0 ds=>dE ((Z127 x0).bind (fun y=>k 0 [.B y])) ds) ds⟩
theorem q_Z127 (x0:List D):JR (Jp [e_Z126]) (Jq []) A 118 Try.f118 (Sh.mks e_Z127.sh [.L x0]).1 (fun v os=>some (v,os))=c_Z127 x0 (fun y=>JT e_Z127 0 [.B y]):=by kernel_rfl
theorem e_Z127_ok:e_Z127.ok Try.prog A:=by
 intro R ds k r h
 unfold e_Z127 at h
 obtain ⟨_,_,rfl,h⟩:=Ja h
 obtain ⟨rfl,hE⟩:=Je h
 obtain ⟨y,hy,hk⟩:=Jf hE
 exact ⟨0,_,_,_,hk,rfl,JU px (fx:=⟨Try.func118,by kernel_rfl,by kernel_rfl⟩) (Jr e_Z126_ok Jm) Jn ((q_Z127 ..).trans ((c_Z127_bind ..).trans (Jg hy)))⟩

/-!-/
abbrev T_Z128:=List D→List D→Int→Int→List D→Option ((Bool×Bool)⊕(Unit))
def c_Z128 {R:Type} (F:T_Z128) (x0 x1:List D) (x2 x3:Int) (x4:List D) (k:(Bool×Bool)⊕(Unit)→Option R):Option R:=
 bif decide (x3<x2) then
 if 0≤x3∧x3<(↑x1.length:Int) then
 if 0≤x3∧x3<(↑x4.length:Int) then
 if x3.toNat+1≤x4.length then
 if x3.toNat+1≤x4.length then
 if 0≤x3∧x3<(↑x4.length:Int) then
 if x3.toNat+1≤x4.length then
 if x3.toNat+1≤x4.length then
 (Z50 ((x1.getD x3.toNat (D.int 0)).toInt) (((x4.getD x3.toNat (D.int 0)).fld (0:Nat)).toInt) (((x4.getD x3.toNat (D.int 0)).fld (1:Nat)).toInt)).bind (fun y0=>
 bif !y0 then
 k (.inl (Bool.false,Bool.true))
 else
 none)
 else
 none
 else
 none
 else
 none
 else
 none
 else
 none
 else
 none
 else
 none
 else
 k (.inr ())
theorem c_Z128_bind {R:Type} (F:T_Z128) (x0 x1:List D) (x2 x3:Int) (x4:List D) (k:(Bool×Bool)⊕(Unit)→Option R):c_Z128 F x0 x1 x2 x3 x4 k=(c_Z128 F x0 x1 x2 x3 x4 some).bind k:=by
 unfold c_Z128
 repeat' first
  | exact Jy
  | exact Jx
  | exact Jw
  | apply Jt
  | apply Ju
  | apply Jz
  | (apply Jv; intro _)
  | intro _
def n_Z128:Nat→T_Z128
 | 0,_,_,_,_,_=>none
 | n+1,x0,x1,x2,x3,x4=>c_Z128 (n_Z128 n) x0 x1 x2 x3 x4 some
noncomputable def Z128 (x0 x1:List D) (x2 x3:Int) (x4:List D):Option ((Bool×Bool)⊕(Unit)):=ev (fun n=>n_Z128 n x0 x1 x2 x3 x4)
def m_Z128 (F:T_Z128):JA:=⟨5,⟨(.undef::.undef::.rd (.int .i64)::uu 5 (.nilptr::.full 1000 [] (.struct [.int .i64,.int .i64])::uu 25 (.rd (.int .i64)::.int .i64::.int .i64::uu 41 ([])))),[(1000,.own (.struct [.int .i64,.int .i64]))]⟩,[(.ret,⟨(uu 6 (.bool::.bool::uu 71 ([]))),[]⟩),(.exit 0,⟨(uu 79 ([])),[]⟩)],fun _ ds k=>dL (fun x0 ds=>dL (fun x1 ds=>dI (fun x2 ds=>dI (fun x3 ds=>dL (fun x4 ds=>dE ((F x0 x1 x2 x3 x4).bind (Sum.elim (fun y=>k 0 [.B y.1,.B y.2]) (fun y=>k 1 []))) ds) ds) ds) ds) ds) ds⟩
theorem q_Z128 (F:T_Z128) (x0 x1:List D) (x2 x3:Int) (x4:List D):JZ (Jp [e_Z50]) (Jq [m_Z128 F]) A 38 (Jj (Jh Try.f38) 5) ((m_Z128 F).sh.mk' [.L x0,.L x1,.I x2,.I x3,.L x4]) (fun e σ'=>some (e,σ'))=c_Z128 F x0 x1 x2 x3 x4 (Sum.elim (fun y=>some (.ret,SSt.mk' ⟨(uu 6 (.bool::.bool::uu 71 ([]))),[]⟩ [.B y.1,.B y.2])) (fun y=>some (.exit 0,SSt.mk' ⟨(uu 79 ([])),[]⟩ []))):=by kernel_rfl
theorem m_Z128_ok:∀ n,(m_Z128 (n_Z128 n)).ok Try.prog (Jj (Jh Try.f38) 5):=by
 intro n
 induction n with
 | zero=>
  intro R ds k r h
  unfold m_Z128 at h
  obtain ⟨_,_,rfl,h⟩:=Ja h
  obtain ⟨_,_,rfl,h⟩:=Ja h
  obtain ⟨_,_,rfl,h⟩:=Jb h
  obtain ⟨_,_,rfl,h⟩:=Jb h
  obtain ⟨_,_,rfl,h⟩:=Ja h
  obtain ⟨rfl,hE⟩:=Je h
  obtain ⟨y,hy,hk⟩:=Jf hE
  cases hy
 | succ n ih=>
  intro R ds k r h
  unfold m_Z128 at h
  obtain ⟨_,_,rfl,h⟩:=Ja h
  obtain ⟨_,_,rfl,h⟩:=Ja h
  obtain ⟨_,_,rfl,h⟩:=Jb h
  obtain ⟨_,_,rfl,h⟩:=Jb h
  obtain ⟨_,_,rfl,h⟩:=Ja h
  obtain ⟨rfl,hE⟩:=Je h
  obtain ⟨y,hy,hk⟩:=Jf hE
  cases y with
  | inl y=>
   exact ⟨0,_,_,_,hk,rfl,JO px (fx:=⟨Try.func38,by kernel_rfl,by kernel_rfl⟩) (Jr e_Z50_ok Jm) (Jo ih Jn) (by kernel_rfl) ((q_Z128 ..).trans ((c_Z128_bind ..).trans (Jg hy)))⟩
  | inr y=>
   exact ⟨1,_,_,_,hk,rfl,JO px (fx:=⟨Try.func38,by kernel_rfl,by kernel_rfl⟩) (Jr e_Z50_ok Jm) (Jo ih Jn) (by kernel_rfl) ((q_Z128 ..).trans ((c_Z128_bind ..).trans (Jg hy)))⟩
noncomputable def e_Z128:JA:=m_Z128 (Z128)
theorem e_Z128_ok:(e_Z128).ok Try.prog (Jj (Jh Try.f38) 5):=by
 intro R ds k r h
 unfold e_Z128 m_Z128 at h
 obtain ⟨_,_,rfl,h⟩:=Ja h
 obtain ⟨_,_,rfl,h⟩:=Ja h
 obtain ⟨_,_,rfl,h⟩:=Jb h
 obtain ⟨_,_,rfl,h⟩:=Jb h
 obtain ⟨_,_,rfl,h⟩:=Ja h
 obtain ⟨rfl,hE⟩:=Je h
 obtain ⟨y,hy,hk⟩:=Jf hE
 obtain ⟨n,hn⟩:=J4 hy
 exact m_Z128_ok n R _ k r ((Jg hn).trans hk)

/-!-/
abbrev T_Z129:=List D→Int→List D→Int→Int→Nat→Int→Int→List D→List D→List D→List D→Option ((List D×Bool×Bool×List D×Int×Int×List D×List D×List D×List D)⊕(List D×List D×Int×Int×List D×List D×List D×List D))
def c_Z129 {R:Type} (F:T_Z129) (x0:List D) (x1:Int) (x2:List D) (x3 x4:Int) (x5:Nat) (x6 x7:Int) (x8 x9 x10 x11:List D) (k:(List D×Bool×Bool×List D×Int×Int×List D×List D×List D×List D)⊕(List D×List D×Int×Int×List D×List D×List D×List D)→Option R):Option R:=
 bif decide (x7<x6) then
 if x5+(1:Nat)≤x10.length then
 if 0≤x7∧x7<(↑(x10.getD x5 (D.int 0)).items.length:Int) then
 if x5+(1:Nat)≤x10.length then
 if x7.toNat+1≤(x10.getD x5 (D.int 0)).items.length then
 bif ((x10.getD x5 (D.int 0)).items.getD x7.toNat (D.int 0)).toBool then
 if 0≤x7∧x7<(↑x0.length:Int) then
 bif decide (x1<(x0.getD x7.toNat (D.int 0)).toInt) then
 k (.inl (x0,Bool.false,Bool.true,x2,x3,x4,x8,x9,x10,x11))
 else
 (F x0 x1 x2 x3 x4 x5 x6 (IntKind.i64.wrap (x7+1)) x8 x9 x10 x11).bind k
 else
 none
 else
 (F x0 x1 x2 x3 x4 x5 x6 (IntKind.i64.wrap (x7+1)) x8 x9 x10 x11).bind k
 else
 none
 else
 none
 else
 none
 else
 none
 else
 k (.inr (x0,x2,x3,x4,x8,x9,x10,x11))
theorem c_Z129_bind {R:Type} (F:T_Z129) (x0:List D) (x1:Int) (x2:List D) (x3 x4:Int) (x5:Nat) (x6 x7:Int) (x8 x9 x10 x11:List D) (k:(List D×Bool×Bool×List D×Int×Int×List D×List D×List D×List D)⊕(List D×List D×Int×Int×List D×List D×List D×List D)→Option R):c_Z129 F x0 x1 x2 x3 x4 x5 x6 x7 x8 x9 x10 x11 k=(c_Z129 F x0 x1 x2 x3 x4 x5 x6 x7 x8 x9 x10 x11 some).bind k:=by
 unfold c_Z129
 repeat' first
  | exact Jy
  | exact Jx
  | exact Jw
  | apply Jt
  | apply Ju
  | apply Jz
  | (apply Jv; intro _)
  | intro _
def n_Z129:Nat→T_Z129
 | 0,_,_,_,_,_,_,_,_,_,_,_,_=>none
 | n+1,x0,x1,x2,x3,x4,x5,x6,x7,x8,x9,x10,x11=>c_Z129 (n_Z129 n) x0 x1 x2 x3 x4 x5 x6 x7 x8 x9 x10 x11 some
noncomputable def Z129 (x0:List D) (x1:Int) (x2:List D) (x3 x4:Int) (x5:Nat) (x6 x7:Int) (x8 x9 x10 x11:List D):Option ((List D×Bool×Bool×List D×Int×Int×List D×List D×List D×List D)⊕(List D×List D×Int×Int×List D×List D×List D×List D)):=ev (fun n=>n_Z129 n x0 x1 x2 x3 x4 x5 x6 x7 x8 x9 x10 x11)
def m_Z129 (F:T_Z129):JA:=⟨10,⟨(.undef::.undef::.rd (.int .i64)::uu 5 (.ptr 1000 [0]::.full 1001 [] (.struct [.int .i64,.int .i64])::.undef::.undef::.int .i64::uu 22 (.rd (.int .i64)::.int .i64::.int .i64::uu 23 (.full 1000 [0,2,1000000] (.bool)::.int .i64::.int .i64::uu 15 ([]))))),[(1000,.obox (.agg [.own (.int .i64),.own (.slice (.bool)),.own (.slice (.bool))])),(1001,.own (.struct [.int .i64,.int .i64]))]⟩,[(.ret,⟨(.undef::.undef::.rd (.int .i64)::.undef::.undef::.undef::.bool::.bool::.ptr 1000 [0]::.full 1001 [] (.struct [.int .i64,.int .i64])::uu 25 (.rd (.int .i64)::.int .i64::.int .i64::uu 41 ([]))),[(1000,.obox (.agg [.own (.int .i64),.own (.slice (.bool)),.own (.slice (.bool))])),(1001,.own (.struct [.int .i64,.int .i64]))]⟩),(.exit 2,⟨(.undef::.undef::.rd (.int .i64)::uu 5 (.ptr 1000 [0]::.full 1001 [] (.struct [.int .i64,.int .i64])::uu 25 (.rd (.int .i64)::.int .i64::.int .i64::uu 41 ([])))),[(1000,.obox (.agg [.own (.int .i64),.own (.slice (.bool)),.own (.slice (.bool))])),(1001,.own (.struct [.int .i64,.int .i64]))]⟩)],fun _ ds k=>dL (fun x0 ds=>dI (fun x1 ds=>dL (fun x2 ds=>dI (fun x3 ds=>dI (fun x4 ds=>dN (fun x5 ds=>dI (fun x6 ds=>dI (fun x7 ds=>dL (fun x8 ds=>dL (fun x9 ds=>dL (fun x10 ds=>dL (fun x11 ds=>dE ((F x0 x1 x2 x3 x4 x5 x6 x7 x8 x9 x10 x11).bind (Sum.elim (fun y=>k 0 [.L y.1,.B y.2.1,.B y.2.2.1,.L y.2.2.2.1,.I y.2.2.2.2.1,.I y.2.2.2.2.2.1,.L y.2.2.2.2.2.2.1,.L y.2.2.2.2.2.2.2.1,.L y.2.2.2.2.2.2.2.2.1,.L y.2.2.2.2.2.2.2.2.2]) (fun y=>k 1 [.L y.1,.L y.2.1,.I y.2.2.1,.I y.2.2.2.1,.L y.2.2.2.2.1,.L y.2.2.2.2.2.1,.L y.2.2.2.2.2.2.1,.L y.2.2.2.2.2.2.2]))) ds) ds) ds) ds) ds) ds) ds) ds) ds) ds) ds) ds) ds⟩
theorem q_Z129 (F:T_Z129) (x0:List D) (x1:Int) (x2:List D) (x3 x4:Int) (x5:Nat) (x6 x7:Int) (x8 x9 x10 x11:List D):JZ (Jp []) (Jq [m_Z129 F]) A 38 (Jj (Jh Try.f38) 10) ((m_Z129 F).sh.mk' [.L x0,.I x1,.L x2,.I x3,.I x4,.N x5,.I x6,.I x7,.L x8,.L x9,.L x10,.L x11]) (fun e σ'=>some (e,σ'))=c_Z129 F x0 x1 x2 x3 x4 x5 x6 x7 x8 x9 x10 x11 (Sum.elim (fun y=>some (.ret,SSt.mk' ⟨(.undef::.undef::.rd (.int .i64)::.undef::.undef::.undef::.bool::.bool::.ptr 1000 [0]::.full 1001 [] (.struct [.int .i64,.int .i64])::uu 25 (.rd (.int .i64)::.int .i64::.int .i64::uu 41 ([]))),[(1000,.obox (.agg [.own (.int .i64),.own (.slice (.bool)),.own (.slice (.bool))])),(1001,.own (.struct [.int .i64,.int .i64]))]⟩ [.L y.1,.B y.2.1,.B y.2.2.1,.L y.2.2.2.1,.I y.2.2.2.2.1,.I y.2.2.2.2.2.1,.L y.2.2.2.2.2.2.1,.L y.2.2.2.2.2.2.2.1,.L y.2.2.2.2.2.2.2.2.1,.L y.2.2.2.2.2.2.2.2.2])) (fun y=>some (.exit 2,SSt.mk' ⟨(.undef::.undef::.rd (.int .i64)::uu 5 (.ptr 1000 [0]::.full 1001 [] (.struct [.int .i64,.int .i64])::uu 25 (.rd (.int .i64)::.int .i64::.int .i64::uu 41 ([])))),[(1000,.obox (.agg [.own (.int .i64),.own (.slice (.bool)),.own (.slice (.bool))])),(1001,.own (.struct [.int .i64,.int .i64]))]⟩ [.L y.1,.L y.2.1,.I y.2.2.1,.I y.2.2.2.1,.L y.2.2.2.2.1,.L y.2.2.2.2.2.1,.L y.2.2.2.2.2.2.1,.L y.2.2.2.2.2.2.2]))):=by kernel_rfl
theorem m_Z129_ok:∀ n,(m_Z129 (n_Z129 n)).ok Try.prog (Jj (Jh Try.f38) 10):=by
 intro n
 induction n with
 | zero=>
  intro R ds k r h
  unfold m_Z129 at h
  obtain ⟨_,_,rfl,h⟩:=Ja h
  obtain ⟨_,_,rfl,h⟩:=Jb h
  obtain ⟨_,_,rfl,h⟩:=Ja h
  obtain ⟨_,_,rfl,h⟩:=Jb h
  obtain ⟨_,_,rfl,h⟩:=Jb h
  obtain ⟨_,_,rfl,h⟩:=VD h
  obtain ⟨_,_,rfl,h⟩:=Jb h
  obtain ⟨_,_,rfl,h⟩:=Jb h
  obtain ⟨_,_,rfl,h⟩:=Ja h
  obtain ⟨_,_,rfl,h⟩:=Ja h
  obtain ⟨_,_,rfl,h⟩:=Ja h
  obtain ⟨_,_,rfl,h⟩:=Ja h
  obtain ⟨rfl,hE⟩:=Je h
  obtain ⟨y,hy,hk⟩:=Jf hE
  cases hy
 | succ n ih=>
  intro R ds k r h
  unfold m_Z129 at h
  obtain ⟨_,_,rfl,h⟩:=Ja h
  obtain ⟨_,_,rfl,h⟩:=Jb h
  obtain ⟨_,_,rfl,h⟩:=Ja h
  obtain ⟨_,_,rfl,h⟩:=Jb h
  obtain ⟨_,_,rfl,h⟩:=Jb h
  obtain ⟨_,_,rfl,h⟩:=VD h
  obtain ⟨_,_,rfl,h⟩:=Jb h
  obtain ⟨_,_,rfl,h⟩:=Jb h
  obtain ⟨_,_,rfl,h⟩:=Ja h
  obtain ⟨_,_,rfl,h⟩:=Ja h
  obtain ⟨_,_,rfl,h⟩:=Ja h
  obtain ⟨_,_,rfl,h⟩:=Ja h
  obtain ⟨rfl,hE⟩:=Je h
  obtain ⟨y,hy,hk⟩:=Jf hE
  cases y with
  | inl y=>
   exact ⟨0,_,_,_,hk,rfl,JO px (fx:=⟨Try.func38,by kernel_rfl,by kernel_rfl⟩) Jm (Jo ih Jn) (by kernel_rfl) ((q_Z129 ..).trans ((c_Z129_bind ..).trans (Jg hy)))⟩
  | inr y=>
   exact ⟨1,_,_,_,hk,rfl,JO px (fx:=⟨Try.func38,by kernel_rfl,by kernel_rfl⟩) Jm (Jo ih Jn) (by kernel_rfl) ((q_Z129 ..).trans ((c_Z129_bind ..).trans (Jg hy)))⟩
noncomputable def e_Z129:JA:=m_Z129 (Z129)
theorem e_Z129_ok:(e_Z129).ok Try.prog (Jj (Jh Try.f38) 10):=by
 intro R ds k r h
 unfold e_Z129 m_Z129 at h
 obtain ⟨_,_,rfl,h⟩:=Ja h
 obtain ⟨_,_,rfl,h⟩:=Jb h
 obtain ⟨_,_,rfl,h⟩:=Ja h
 obtain ⟨_,_,rfl,h⟩:=Jb h
 obtain ⟨_,_,rfl,h⟩:=Jb h
 obtain ⟨_,_,rfl,h⟩:=VD h
 obtain ⟨_,_,rfl,h⟩:=Jb h
 obtain ⟨_,_,rfl,h⟩:=Jb h
 obtain ⟨_,_,rfl,h⟩:=Ja h
 obtain ⟨_,_,rfl,h⟩:=Ja h
 obtain ⟨_,_,rfl,h⟩:=Ja h
 obtain ⟨_,_,rfl,h⟩:=Ja h
 obtain ⟨rfl,hE⟩:=Je h
 obtain ⟨y,hy,hk⟩:=Jf hE
 obtain ⟨n,hn⟩:=J4 hy
 exact m_Z129_ok n R _ k r ((Jg hn).trans hk)

/-!-/
abbrev T_Z130:=List D→List D→Int→Int→List D→List D→List D→List D→Option ((Bool×Bool)⊕(Unit))
def c_Z130 {R:Type} (F:T_Z130) (x0 x1:List D) (x2 x3:Int) (x4 x5 x6 x7:List D) (k:(Bool×Bool)⊕(Unit)→Option R):Option R:=
 bif decide (x3<x2) then
 if 0≤x3∧x3<(↑x1.length:Int) then
 if 0≤x3∧x3<(↑x7.length:Int) then
 if x3.toNat+1≤x7.length then
 if x3.toNat+1≤x7.length then
 if 0≤x3∧x3<(↑x7.length:Int) then
 if x3.toNat+1≤x7.length then
 if x3.toNat+1≤x7.length then
 (Z50 ((x1.getD x3.toNat (D.int 0)).toInt) (((x7.getD x3.toNat (D.int 0)).fld (0:Nat)).toInt) (((x7.getD x3.toNat (D.int 0)).fld (1:Nat)).toInt)).bind (fun y0=>
 bif !y0 then
 k (.inl (Bool.false,Bool.true))
 else
 if 0≤x3∧x3<(↑x6.length:Int) then
 if x3.toNat+1≤x6.length then
 if x3.toNat+1≤x6.length then
 (Z129 x0 ((x1.getD x3.toNat (D.int 0)).toInt) x1 x2 x3 x3.toNat (↑(x6.getD x3.toNat (D.int 0)).items.length:Int) (0:Int) x4 x5 x6 x7).bind (Sum.elim (fun y1=>
 k (.inl (y1.snd.fst,y1.snd.snd.fst))) (fun y2=>
 (F y2.fst y2.snd.fst y2.snd.snd.fst (IntKind.i64.wrap (y2.snd.snd.snd.fst+1)) y2.snd.snd.snd.snd.fst y2.snd.snd.snd.snd.snd.fst y2.snd.snd.snd.snd.snd.snd.fst y2.snd.snd.snd.snd.snd.snd.snd).bind k))
 else
 none
 else
 none
 else
 none)
 else
 none
 else
 none
 else
 none
 else
 none
 else
 none
 else
 none
 else
 none
 else
 k (.inr ())
theorem c_Z130_bind {R:Type} (F:T_Z130) (x0 x1:List D) (x2 x3:Int) (x4 x5 x6 x7:List D) (k:(Bool×Bool)⊕(Unit)→Option R):c_Z130 F x0 x1 x2 x3 x4 x5 x6 x7 k=(c_Z130 F x0 x1 x2 x3 x4 x5 x6 x7 some).bind k:=by
 unfold c_Z130
 repeat' first
  | exact Jy
  | exact Jx
  | exact Jw
  | apply Jt
  | apply Ju
  | apply Jz
  | (apply Jv; intro _)
  | intro _
def n_Z130:Nat→T_Z130
 | 0,_,_,_,_,_,_,_,_=>none
 | n+1,x0,x1,x2,x3,x4,x5,x6,x7=>c_Z130 (n_Z130 n) x0 x1 x2 x3 x4 x5 x6 x7 some
noncomputable def Z130 (x0 x1:List D) (x2 x3:Int) (x4 x5 x6 x7:List D):Option ((Bool×Bool)⊕(Unit)):=ev (fun n=>n_Z130 n x0 x1 x2 x3 x4 x5 x6 x7)
def m_Z130 (F:T_Z130):JA:=⟨5,⟨(.undef::.undef::.rd (.int .i64)::uu 5 (.ptr 1000 [0]::.full 1001 [] (.struct [.int .i64,.int .i64])::uu 25 (.rd (.int .i64)::.int .i64::.int .i64::uu 41 ([])))),[(1000,.obox (.agg [.own (.int .i64),.own (.slice (.bool)),.own (.slice (.bool))])),(1001,.own (.struct [.int .i64,.int .i64]))]⟩,[(.ret,⟨(uu 6 (.bool::.bool::uu 71 ([]))),[]⟩),(.exit 0,⟨(uu 79 ([])),[]⟩)],fun _ ds k=>dL (fun x0 ds=>dL (fun x1 ds=>dI (fun x2 ds=>dI (fun x3 ds=>dL (fun x4 ds=>dL (fun x5 ds=>dL (fun x6 ds=>dL (fun x7 ds=>dE ((F x0 x1 x2 x3 x4 x5 x6 x7).bind (Sum.elim (fun y=>k 0 [.B y.1,.B y.2]) (fun y=>k 1 []))) ds) ds) ds) ds) ds) ds) ds) ds) ds⟩
theorem q_Z130 (F:T_Z130) (x0 x1:List D) (x2 x3:Int) (x4 x5 x6 x7:List D):JZ (Jp [e_Z50]) (Jq [m_Z130 F,e_Z129]) A 38 (Jj (Jh Try.f38) 5) ((m_Z130 F).sh.mk' [.L x0,.L x1,.I x2,.I x3,.L x4,.L x5,.L x6,.L x7]) (fun e σ'=>some (e,σ'))=c_Z130 F x0 x1 x2 x3 x4 x5 x6 x7 (Sum.elim (fun y=>some (.ret,SSt.mk' ⟨(uu 6 (.bool::.bool::uu 71 ([]))),[]⟩ [.B y.1,.B y.2])) (fun y=>some (.exit 0,SSt.mk' ⟨(uu 79 ([])),[]⟩ []))):=by kernel_rfl
theorem m_Z130_ok:∀ n,(m_Z130 (n_Z130 n)).ok Try.prog (Jj (Jh Try.f38) 5):=by
 intro n
 induction n with
 | zero=>
  intro R ds k r h
  unfold m_Z130 at h
  obtain ⟨_,_,rfl,h⟩:=Ja h
  obtain ⟨_,_,rfl,h⟩:=Ja h
  obtain ⟨_,_,rfl,h⟩:=Jb h
  obtain ⟨_,_,rfl,h⟩:=Jb h
  obtain ⟨_,_,rfl,h⟩:=Ja h
  obtain ⟨_,_,rfl,h⟩:=Ja h
  obtain ⟨_,_,rfl,h⟩:=Ja h
  obtain ⟨_,_,rfl,h⟩:=Ja h
  obtain ⟨rfl,hE⟩:=Je h
  obtain ⟨y,hy,hk⟩:=Jf hE
  cases hy
 | succ n ih=>
  intro R ds k r h
  unfold m_Z130 at h
  obtain ⟨_,_,rfl,h⟩:=Ja h
  obtain ⟨_,_,rfl,h⟩:=Ja h
  obtain ⟨_,_,rfl,h⟩:=Jb h
  obtain ⟨_,_,rfl,h⟩:=Jb h
  obtain ⟨_,_,rfl,h⟩:=Ja h
  obtain ⟨_,_,rfl,h⟩:=Ja h
  obtain ⟨_,_,rfl,h⟩:=Ja h
  obtain ⟨_,_,rfl,h⟩:=Ja h
  obtain ⟨rfl,hE⟩:=Je h
  obtain ⟨y,hy,hk⟩:=Jf hE
  cases y with
  | inl y=>
   exact ⟨0,_,_,_,hk,rfl,JO px (fx:=⟨Try.func38,by kernel_rfl,by kernel_rfl⟩) (Jr e_Z50_ok Jm) (Jo ih (Jo e_Z129_ok Jn)) (by kernel_rfl) ((q_Z130 ..).trans ((c_Z130_bind ..).trans (Jg hy)))⟩
  | inr y=>
   exact ⟨1,_,_,_,hk,rfl,JO px (fx:=⟨Try.func38,by kernel_rfl,by kernel_rfl⟩) (Jr e_Z50_ok Jm) (Jo ih (Jo e_Z129_ok Jn)) (by kernel_rfl) ((q_Z130 ..).trans ((c_Z130_bind ..).trans (Jg hy)))⟩
noncomputable def e_Z130:JA:=m_Z130 (Z130)
theorem e_Z130_ok:(e_Z130).ok Try.prog (Jj (Jh Try.f38) 5):=by
 intro R ds k r h
 unfold e_Z130 m_Z130 at h
 obtain ⟨_,_,rfl,h⟩:=Ja h
 obtain ⟨_,_,rfl,h⟩:=Ja h
 obtain ⟨_,_,rfl,h⟩:=Jb h
 obtain ⟨_,_,rfl,h⟩:=Jb h
 obtain ⟨_,_,rfl,h⟩:=Ja h
 obtain ⟨_,_,rfl,h⟩:=Ja h
 obtain ⟨_,_,rfl,h⟩:=Ja h
 obtain ⟨_,_,rfl,h⟩:=Ja h
 obtain ⟨rfl,hE⟩:=Je h
 obtain ⟨y,hy,hk⟩:=Jf hE
 obtain ⟨n,hn⟩:=J4 hy
 exact m_Z130_ok n R _ k r ((Jg hn).trans hk)

/-!-/
def c_Z131 {R:Type} (x0 x1 x2 x3:List D) (k:Bool×Bool→Option R):Option R:=
 (Z88 x0 x1 x2).bind (Sum.elim (fun y0=>
 bif !y0.snd then
 k (Bool.false,Bool.false)
 else
 bif !decide ((↑x3.length:Int)=(↑y0.fst.length:Int)) then
 k (Bool.false,Bool.false)
 else
 (Z127 x3).bind (fun y1=>
 bif y1 then
 k (Bool.false,Bool.false)
 else
 (Z128 x3 x3 (↑x3.length:Int) (0:Int) y0.fst).bind (Sum.elim (fun y2=>
 k (y2.fst,y2.snd)) (fun y3=>
 k (Bool.true,Bool.true))))) (fun y4=>
 bif !y4.snd.snd.snd.snd then
 k (Bool.false,Bool.false)
 else
 bif !decide ((↑x3.length:Int)=(↑y4.snd.snd.snd.fst.length:Int)) then
 k (Bool.false,Bool.false)
 else
 (Z127 x3).bind (fun y5=>
 bif y5 then
 k (Bool.false,Bool.false)
 else
 (Z130 x3 x3 (↑x3.length:Int) (0:Int) y4.fst y4.snd.fst y4.snd.snd.fst y4.snd.snd.snd.fst).bind (Sum.elim (fun y6=>
 k (y6.fst,y6.snd)) (fun y7=>
 k (Bool.true,Bool.true))))))
theorem c_Z131_bind {R:Type} (x0 x1 x2 x3:List D) (k:Bool×Bool→Option R):c_Z131 x0 x1 x2 x3 k=(c_Z131 x0 x1 x2 x3 some).bind k:=by
 unfold c_Z131
 repeat' first
  | exact Jy
  | exact Jx
  | exact Jw
  | apply Jt
  | apply Ju
  | apply Jz
  | (apply Jv; intro _)
  | intro _
def Z131 (x0 x1 x2 x3:List D):Option (Bool×Bool):=c_Z131 x0 x1 x2 x3 some
def e_Z131:Ent:=⟨38,[.agg [.rd (.struct [.int .i64,.int .i64]),.rd (.struct [.int .i64,.int .i64])],.rd (.struct [.int .i64,.struct [.int .i64,.int .i64]]),.rd (.int .i64)],[(.tup [.bool,.bool],[.undef,.undef,.undef])],fun _ ds k=>dL (fun x0 ds=>dL (fun x1 ds=>dL (fun x2 ds=>dL (fun x3 ds=>dE ((Z131 x0 x1 x2 x3).bind (fun y=>k 0 [.B y.1,.B y.2])) ds) ds) ds) ds) ds⟩
theorem q_Z131 (x0 x1 x2 x3:List D):JR (Jp [e_Z88,e_Z127]) (Jq [e_Z128,e_Z130]) A 38 Try.f38 (Sh.mks e_Z131.sh [.L x0,.L x1,.L x2,.L x3]).1 (fun v os=>some (v,os))=c_Z131 x0 x1 x2 x3 (fun y=>JT e_Z131 0 [.B y.1,.B y.2]):=by kernel_rfl
theorem e_Z131_ok:e_Z131.ok Try.prog A:=by
 intro R ds k r h
 unfold e_Z131 at h
 obtain ⟨_,_,rfl,h⟩:=Ja h
 obtain ⟨_,_,rfl,h⟩:=Ja h
 obtain ⟨_,_,rfl,h⟩:=Ja h
 obtain ⟨_,_,rfl,h⟩:=Ja h
 obtain ⟨rfl,hE⟩:=Je h
 obtain ⟨y,hy,hk⟩:=Jf hE
 exact ⟨0,_,_,_,hk,rfl,JU px (fx:=⟨Try.func38,by kernel_rfl,by kernel_rfl⟩) (Jr e_Z88_ok (Jr e_Z127_ok Jm)) (Jo e_Z128_ok (Jo e_Z130_ok Jn)) ((q_Z131 ..).trans ((c_Z131_bind ..).trans (Jg hy)))⟩

/-!-/
abbrev T_Z132:=List D→Int→Int→Option (Int)
def c_Z132 {R:Type} (F:T_Z132) (x0:List D) (x1 x2:Int) (k:Int→Option R):Option R:=
 bif decide (x2<(↑x0.length:Int)) then
 if 0≤x2∧x2<(↑x0.length:Int) then
 (F x0 (if (x0.getD x2.toNat (D.int 0)).toInt > x1 then (x0.getD x2.toNat (D.int 0)).toInt else x1) (IntKind.i64.wrap (x2+1))).bind k
 else
 none
 else
 k x1
theorem c_Z132_bind {R:Type} (F:T_Z132) (x0:List D) (x1 x2:Int) (k:Int→Option R):c_Z132 F x0 x1 x2 k=(c_Z132 F x0 x1 x2 some).bind k:=by
 unfold c_Z132
 repeat' first
  | exact Jy
  | exact Jx
  | exact Jw
  | apply Jt
  | apply Ju
  | apply Jz
  | (apply Jv; intro _)
  | intro _
def n_Z132:Nat→T_Z132
 | 0,_,_,_=>none
 | n+1,x0,x1,x2=>c_Z132 (n_Z132 n) x0 x1 x2 some
noncomputable def Z132 (x0:List D) (x1 x2:Int):Option (Int):=ev (fun n=>n_Z132 n x0 x1 x2)
def m_Z132 (F:T_Z132):JA:=⟨5,⟨(.rd (.int .i64)::.undef::.undef::.int .i64::.int .i64::uu 20 ([])),[]⟩,[(.exit 0,⟨(.undef::.undef::.undef::.int .i64::uu 21 ([])),[]⟩)],fun _ ds k=>dL (fun x0 ds=>dI (fun x1 ds=>dI (fun x2 ds=>dE ((F x0 x1 x2).bind (fun y=>k 0 [.I y])) ds) ds) ds) ds⟩
theorem q_Z132 (F:T_Z132) (x0:List D) (x1 x2:Int):JZ (Jp []) (Jq [m_Z132 F]) A 121 (Jj (Jh Try.f121) 5) ((m_Z132 F).sh.mk' [.L x0,.I x1,.I x2]) (fun e σ'=>some (e,σ'))=c_Z132 F x0 x1 x2 (fun y=>some (.exit 0,SSt.mk' ⟨(.undef::.undef::.undef::.int .i64::uu 21 ([])),[]⟩ [.I y])):=by kernel_rfl
theorem m_Z132_ok:∀ n,(m_Z132 (n_Z132 n)).ok Try.prog (Jj (Jh Try.f121) 5):=by
 intro n
 induction n with
 | zero=>
  intro R ds k r h
  unfold m_Z132 at h
  obtain ⟨_,_,rfl,h⟩:=Ja h
  obtain ⟨_,_,rfl,h⟩:=Jb h
  obtain ⟨_,_,rfl,h⟩:=Jb h
  obtain ⟨rfl,hE⟩:=Je h
  obtain ⟨y,hy,hk⟩:=Jf hE
  cases hy
 | succ n ih=>
  intro R ds k r h
  unfold m_Z132 at h
  obtain ⟨_,_,rfl,h⟩:=Ja h
  obtain ⟨_,_,rfl,h⟩:=Jb h
  obtain ⟨_,_,rfl,h⟩:=Jb h
  obtain ⟨rfl,hE⟩:=Je h
  obtain ⟨y,hy,hk⟩:=Jf hE
  exact ⟨0,_,_,_,hk,rfl,JO px (fx:=⟨Try.func121,by kernel_rfl,by kernel_rfl⟩) Jm (Jo ih Jn) (by kernel_rfl) ((q_Z132 ..).trans ((c_Z132_bind ..).trans (Jg hy)))⟩
noncomputable def e_Z132:JA:=m_Z132 (Z132)
theorem e_Z132_ok:(e_Z132).ok Try.prog (Jj (Jh Try.f121) 5):=by
 intro R ds k r h
 unfold e_Z132 m_Z132 at h
 obtain ⟨_,_,rfl,h⟩:=Ja h
 obtain ⟨_,_,rfl,h⟩:=Jb h
 obtain ⟨_,_,rfl,h⟩:=Jb h
 obtain ⟨rfl,hE⟩:=Je h
 obtain ⟨y,hy,hk⟩:=Jf hE
 obtain ⟨n,hn⟩:=J4 hy
 exact m_Z132_ok n R _ k r ((Jg hn).trans hk)

/-!-/
def c_Z133 {R:Type} (x0:List D) (k:Int→Option R):Option R:=
 bif decide ((↑x0.length:Int)<(1:Int)) then
 none
 else
 if (0:Int)≤(0:Int)∧(0:Int)<(↑x0.length:Int) then
 (Z132 x0 ((x0.getD (Int.toNat (0:Int)) (D.int 0)).toInt) (1:Int)).bind (fun y0=>
 k y0)
 else
 none
theorem c_Z133_bind {R:Type} (x0:List D) (k:Int→Option R):c_Z133 x0 k=(c_Z133 x0 some).bind k:=by
 unfold c_Z133
 repeat' first
  | exact Jy
  | exact Jx
  | exact Jw
  | apply Jt
  | apply Ju
  | apply Jz
  | (apply Jv; intro _)
  | intro _
def Z133 (x0:List D):Option (Int):=c_Z133 x0 some
def e_Z133:Ent:=⟨121,[.rd (.int .i64)],[(.int .i64,[.undef])],fun _ ds k=>dL (fun x0 ds=>dE ((Z133 x0).bind (fun y=>k 0 [.I y])) ds) ds⟩
theorem q_Z133 (x0:List D):JR (Jp []) (Jq [e_Z132]) A 121 Try.f121 (Sh.mks e_Z133.sh [.L x0]).1 (fun v os=>some (v,os))=c_Z133 x0 (fun y=>JT e_Z133 0 [.I y]):=by kernel_rfl
theorem e_Z133_ok:e_Z133.ok Try.prog A:=by
 intro R ds k r h
 unfold e_Z133 at h
 obtain ⟨_,_,rfl,h⟩:=Ja h
 obtain ⟨rfl,hE⟩:=Je h
 obtain ⟨y,hy,hk⟩:=Jf hE
 exact ⟨0,_,_,_,hk,rfl,JU px (fx:=⟨Try.func121,by kernel_rfl,by kernel_rfl⟩) Jm (Jo e_Z132_ok Jn) ((q_Z133 ..).trans ((c_Z133_bind ..).trans (Jg hy)))⟩

/-!-/
abbrev T_Z134:=List D→Int→Int→Option (Int)
def c_Z134 {R:Type} (F:T_Z134) (x0:List D) (x1 x2:Int) (k:Int→Option R):Option R:=
 bif decide (x2<(↑x0.length:Int)) then
 if 0≤x2∧x2<(↑x0.length:Int) then
 (F x0 (if (x0.getD x2.toNat (D.int 0)).toInt<x1 then (x0.getD x2.toNat (D.int 0)).toInt else x1) (IntKind.i64.wrap (x2+1))).bind k
 else
 none
 else
 k x1
theorem c_Z134_bind {R:Type} (F:T_Z134) (x0:List D) (x1 x2:Int) (k:Int→Option R):c_Z134 F x0 x1 x2 k=(c_Z134 F x0 x1 x2 some).bind k:=by
 unfold c_Z134
 repeat' first
  | exact Jy
  | exact Jx
  | exact Jw
  | apply Jt
  | apply Ju
  | apply Jz
  | (apply Jv; intro _)
  | intro _
def n_Z134:Nat→T_Z134
 | 0,_,_,_=>none
 | n+1,x0,x1,x2=>c_Z134 (n_Z134 n) x0 x1 x2 some
noncomputable def Z134 (x0:List D) (x1 x2:Int):Option (Int):=ev (fun n=>n_Z134 n x0 x1 x2)
def m_Z134 (F:T_Z134):JA:=⟨5,⟨(.rd (.int .i64)::.undef::.undef::.int .i64::.int .i64::uu 20 ([])),[]⟩,[(.exit 0,⟨(.undef::.undef::.undef::.int .i64::uu 21 ([])),[]⟩)],fun _ ds k=>dL (fun x0 ds=>dI (fun x1 ds=>dI (fun x2 ds=>dE ((F x0 x1 x2).bind (fun y=>k 0 [.I y])) ds) ds) ds) ds⟩
theorem q_Z134 (F:T_Z134) (x0:List D) (x1 x2:Int):JZ (Jp []) (Jq [m_Z134 F]) A 122 (Jj (Jh Try.f122) 5) ((m_Z134 F).sh.mk' [.L x0,.I x1,.I x2]) (fun e σ'=>some (e,σ'))=c_Z134 F x0 x1 x2 (fun y=>some (.exit 0,SSt.mk' ⟨(.undef::.undef::.undef::.int .i64::uu 21 ([])),[]⟩ [.I y])):=by kernel_rfl
theorem m_Z134_ok:∀ n,(m_Z134 (n_Z134 n)).ok Try.prog (Jj (Jh Try.f122) 5):=by
 intro n
 induction n with
 | zero=>
  intro R ds k r h
  unfold m_Z134 at h
  obtain ⟨_,_,rfl,h⟩:=Ja h
  obtain ⟨_,_,rfl,h⟩:=Jb h
  obtain ⟨_,_,rfl,h⟩:=Jb h
  obtain ⟨rfl,hE⟩:=Je h
  obtain ⟨y,hy,hk⟩:=Jf hE
  cases hy
 | succ n ih=>
  intro R ds k r h
  unfold m_Z134 at h
  obtain ⟨_,_,rfl,h⟩:=Ja h
  obtain ⟨_,_,rfl,h⟩:=Jb h
  obtain ⟨_,_,rfl,h⟩:=Jb h
  obtain ⟨rfl,hE⟩:=Je h
  obtain ⟨y,hy,hk⟩:=Jf hE
  exact ⟨0,_,_,_,hk,rfl,JO px (fx:=⟨Try.func122,by kernel_rfl,by kernel_rfl⟩) Jm (Jo ih Jn) (by kernel_rfl) ((q_Z134 ..).trans ((c_Z134_bind ..).trans (Jg hy)))⟩
noncomputable def e_Z134:JA:=m_Z134 (Z134)
theorem e_Z134_ok:(e_Z134).ok Try.prog (Jj (Jh Try.f122) 5):=by
 intro R ds k r h
 unfold e_Z134 m_Z134 at h
 obtain ⟨_,_,rfl,h⟩:=Ja h
 obtain ⟨_,_,rfl,h⟩:=Jb h
 obtain ⟨_,_,rfl,h⟩:=Jb h
 obtain ⟨rfl,hE⟩:=Je h
 obtain ⟨y,hy,hk⟩:=Jf hE
 obtain ⟨n,hn⟩:=J4 hy
 exact m_Z134_ok n R _ k r ((Jg hn).trans hk)

/-!-/
def c_Z135 {R:Type} (x0:List D) (k:Int→Option R):Option R:=
 bif decide ((↑x0.length:Int)<(1:Int)) then
 none
 else
 if (0:Int)≤(0:Int)∧(0:Int)<(↑x0.length:Int) then
 (Z134 x0 ((x0.getD (Int.toNat (0:Int)) (D.int 0)).toInt) (1:Int)).bind (fun y0=>
 k y0)
 else
 none
theorem c_Z135_bind {R:Type} (x0:List D) (k:Int→Option R):c_Z135 x0 k=(c_Z135 x0 some).bind k:=by
 unfold c_Z135
 repeat' first
  | exact Jy
  | exact Jx
  | exact Jw
  | apply Jt
  | apply Ju
  | apply Jz
  | (apply Jv; intro _)
  | intro _
def Z135 (x0:List D):Option (Int):=c_Z135 x0 some
def e_Z135:Ent:=⟨122,[.rd (.int .i64)],[(.int .i64,[.undef])],fun _ ds k=>dL (fun x0 ds=>dE ((Z135 x0).bind (fun y=>k 0 [.I y])) ds) ds⟩
theorem q_Z135 (x0:List D):JR (Jp []) (Jq [e_Z134]) A 122 Try.f122 (Sh.mks e_Z135.sh [.L x0]).1 (fun v os=>some (v,os))=c_Z135 x0 (fun y=>JT e_Z135 0 [.I y]):=by kernel_rfl
theorem e_Z135_ok:e_Z135.ok Try.prog A:=by
 intro R ds k r h
 unfold e_Z135 at h
 obtain ⟨_,_,rfl,h⟩:=Ja h
 obtain ⟨rfl,hE⟩:=Je h
 obtain ⟨y,hy,hk⟩:=Jf hE
 exact ⟨0,_,_,_,hk,rfl,JU px (fx:=⟨Try.func122,by kernel_rfl,by kernel_rfl⟩) Jm (Jo e_Z134_ok Jn) ((q_Z135 ..).trans ((c_Z135_bind ..).trans (Jg hy)))⟩

/-!-/
def c_Z136 {R:Type} (x0 x1 x2:List D) (k:Int×Bool→Option R):Option R:=
 (Z119 x0 x1 x2).bind (fun y0=>
 (Z123 x0 x1 x2).bind (fun y1=>
 bif !y0.snd then
 k ((0:Int),Bool.false)
 else
 bif !y1.snd then
 k ((0:Int),Bool.false)
 else
 bif decide ((↑y0.fst.length:Int)=(0:Int)) then
 k ((0:Int),Bool.true)
 else
 (Z133 y0.fst).bind (fun y2=>
 (Z135 y1.fst).bind (fun y3=>
 k (if IntKind.i64.wrap (y2 - y3) > (0:Int) then IntKind.i64.wrap (y2 - y3) else (0:Int),Bool.true)))))
theorem c_Z136_bind {R:Type} (x0 x1 x2:List D) (k:Int×Bool→Option R):c_Z136 x0 x1 x2 k=(c_Z136 x0 x1 x2 some).bind k:=by
 unfold c_Z136
 repeat' first
  | exact Jy
  | exact Jx
  | exact Jw
  | apply Jt
  | apply Ju
  | apply Jz
  | (apply Jv; intro _)
  | intro _
def Z136 (x0 x1 x2:List D):Option (Int×Bool):=c_Z136 x0 x1 x2 some
def e_Z136:Ent:=⟨39,[.agg [.rd (.struct [.int .i64,.int .i64]),.rd (.struct [.int .i64,.int .i64])],.rd (.struct [.int .i64,.struct [.int .i64,.int .i64]])],[(.tup [.int .i64,.bool],[.undef,.undef])],fun _ ds k=>dL (fun x0 ds=>dL (fun x1 ds=>dL (fun x2 ds=>dE ((Z136 x0 x1 x2).bind (fun y=>k 0 [.I y.1,.B y.2])) ds) ds) ds) ds⟩
theorem q_Z136 (x0 x1 x2:List D):JR (Jp [e_Z119,e_Z123,e_Z133,e_Z135]) (Jq []) A 39 Try.f39 (Sh.mks e_Z136.sh [.L x0,.L x1,.L x2]).1 (fun v os=>some (v,os))=c_Z136 x0 x1 x2 (fun y=>JT e_Z136 0 [.I y.1,.B y.2]):=by kernel_rfl
theorem e_Z136_ok:e_Z136.ok Try.prog A:=by
 intro R ds k r h
 unfold e_Z136 at h
 obtain ⟨_,_,rfl,h⟩:=Ja h
 obtain ⟨_,_,rfl,h⟩:=Ja h
 obtain ⟨_,_,rfl,h⟩:=Ja h
 obtain ⟨rfl,hE⟩:=Je h
 obtain ⟨y,hy,hk⟩:=Jf hE
 exact ⟨0,_,_,_,hk,rfl,JU px (fx:=⟨Try.func39,by kernel_rfl,by kernel_rfl⟩) (Jr e_Z119_ok (Jr e_Z123_ok (Jr e_Z133_ok (Jr e_Z135_ok Jm)))) Jn ((q_Z136 ..).trans ((c_Z136_bind ..).trans (Jg hy)))⟩

/-!-/
abbrev T_Z137:=Int→Int→Int→List D→List D→List D→Option ((Bool×Int×Int×List D×List D×List D)⊕(Int×Int×List D×List D×List D))
def c_Z137 {R:Type} (F:T_Z137) (x0 x1 x2:Int) (x3 x4 x5:List D) (k:(Bool×Int×Int×List D×List D×List D)⊕(Int×Int×List D×List D×List D)→Option R):Option R:=
 bif decide (x2<(↑x4.length:Int)) then
 if 0≤x1∧x1<(↑x4.length:Int) then
 if x1.toNat+1≤x4.length then
 if 0≤x2∧x2<(↑x4.length:Int) then
 if x2.toNat+1≤x4.length then
 bif decide (IntKind.i64.wrap ((x4.getD x1.toNat (D.int 0)).toInt - (x4.getD x2.toNat (D.int 0)).toInt)<x0) then
 bif decide ((↑x4.length:Int)=(1:Int)) then
 k (.inl (decide (x0=(0:Int)),x0,x1,x3,x4,x5))
 else
 (F x0 x1 (IntKind.i64.wrap (x2+1)) x3 x4 x5).bind k
 else
 (F x0 x1 (IntKind.i64.wrap (x2+1)) x3 x4 x5).bind k
 else
 none
 else
 none
 else
 none
 else
 none
 else
 k (.inr (x0,x1,x3,x4,x5))
theorem c_Z137_bind {R:Type} (F:T_Z137) (x0 x1 x2:Int) (x3 x4 x5:List D) (k:(Bool×Int×Int×List D×List D×List D)⊕(Int×Int×List D×List D×List D)→Option R):c_Z137 F x0 x1 x2 x3 x4 x5 k=(c_Z137 F x0 x1 x2 x3 x4 x5 some).bind k:=by
 unfold c_Z137
 repeat' first
  | exact Jy
  | exact Jx
  | exact Jw
  | apply Jt
  | apply Ju
  | apply Jz
  | (apply Jv; intro _)
  | intro _
def n_Z137:Nat→T_Z137
 | 0,_,_,_,_,_,_=>none
 | n+1,x0,x1,x2,x3,x4,x5=>c_Z137 (n_Z137 n) x0 x1 x2 x3 x4 x5 some
noncomputable def Z137 (x0 x1 x2:Int) (x3 x4 x5:List D):Option ((Bool×Int×Int×List D×List D×List D)⊕(Int×Int×List D×List D×List D)):=ev (fun n=>n_Z137 n x0 x1 x2 x3 x4 x5)
def m_Z137 (F:T_Z137):JA:=⟨24,⟨(uu 5 (.full 1000 [] (.struct [.int .i64,.int .i64])::uu 7 (.full 1001 [] (.int .i64)::.undef::.full 1002 [] (.int .i64)::uu 5 (.int .i64::.undef::.int .i64::.int .i64::uu 216 ([]))))),[(1000,.own (.struct [.int .i64,.int .i64])),(1001,.own (.int .i64)),(1002,.own (.int .i64))]⟩,[(.ret,⟨(.undef::.undef::.bool::.undef::.undef::.full 1000 [] (.struct [.int .i64,.int .i64])::uu 7 (.full 1001 [] (.int .i64)::.undef::.full 1002 [] (.int .i64)::uu 5 (.int .i64::.undef::.int .i64::uu 217 ([])))),[(1000,.own (.struct [.int .i64,.int .i64])),(1001,.own (.int .i64)),(1002,.own (.int .i64))]⟩),(.exit 2,⟨(uu 5 (.full 1000 [] (.struct [.int .i64,.int .i64])::uu 7 (.full 1001 [] (.int .i64)::.undef::.full 1002 [] (.int .i64)::uu 5 (.int .i64::.undef::.int .i64::uu 217 ([]))))),[(1000,.own (.struct [.int .i64,.int .i64])),(1001,.own (.int .i64)),(1002,.own (.int .i64))]⟩)],fun _ ds k=>dI (fun x0 ds=>dI (fun x1 ds=>dI (fun x2 ds=>dL (fun x3 ds=>dL (fun x4 ds=>dL (fun x5 ds=>dE ((F x0 x1 x2 x3 x4 x5).bind (Sum.elim (fun y=>k 0 [.B y.1,.I y.2.1,.I y.2.2.1,.L y.2.2.2.1,.L y.2.2.2.2.1,.L y.2.2.2.2.2]) (fun y=>k 1 [.I y.1,.I y.2.1,.L y.2.2.1,.L y.2.2.2.1,.L y.2.2.2.2]))) ds) ds) ds) ds) ds) ds) ds⟩
theorem q_Z137 (F:T_Z137) (x0 x1 x2:Int) (x3 x4 x5:List D):JZ (Jp []) (Jq [m_Z137 F]) A 5 (Jj (Jh Try.f5) 24) ((m_Z137 F).sh.mk' [.I x0,.I x1,.I x2,.L x3,.L x4,.L x5]) (fun e σ'=>some (e,σ'))=c_Z137 F x0 x1 x2 x3 x4 x5 (Sum.elim (fun y=>some (.ret,SSt.mk' ⟨(.undef::.undef::.bool::.undef::.undef::.full 1000 [] (.struct [.int .i64,.int .i64])::uu 7 (.full 1001 [] (.int .i64)::.undef::.full 1002 [] (.int .i64)::uu 5 (.int .i64::.undef::.int .i64::uu 217 ([])))),[(1000,.own (.struct [.int .i64,.int .i64])),(1001,.own (.int .i64)),(1002,.own (.int .i64))]⟩ [.B y.1,.I y.2.1,.I y.2.2.1,.L y.2.2.2.1,.L y.2.2.2.2.1,.L y.2.2.2.2.2])) (fun y=>some (.exit 2,SSt.mk' ⟨(uu 5 (.full 1000 [] (.struct [.int .i64,.int .i64])::uu 7 (.full 1001 [] (.int .i64)::.undef::.full 1002 [] (.int .i64)::uu 5 (.int .i64::.undef::.int .i64::uu 217 ([]))))),[(1000,.own (.struct [.int .i64,.int .i64])),(1001,.own (.int .i64)),(1002,.own (.int .i64))]⟩ [.I y.1,.I y.2.1,.L y.2.2.1,.L y.2.2.2.1,.L y.2.2.2.2]))):=by kernel_rfl
theorem m_Z137_ok:∀ n,(m_Z137 (n_Z137 n)).ok Try.prog (Jj (Jh Try.f5) 24):=by
 intro n
 induction n with
 | zero=>
  intro R ds k r h
  unfold m_Z137 at h
  obtain ⟨_,_,rfl,h⟩:=Jb h
  obtain ⟨_,_,rfl,h⟩:=Jb h
  obtain ⟨_,_,rfl,h⟩:=Jb h
  obtain ⟨_,_,rfl,h⟩:=Ja h
  obtain ⟨_,_,rfl,h⟩:=Ja h
  obtain ⟨_,_,rfl,h⟩:=Ja h
  obtain ⟨rfl,hE⟩:=Je h
  obtain ⟨y,hy,hk⟩:=Jf hE
  cases hy
 | succ n ih=>
  intro R ds k r h
  unfold m_Z137 at h
  obtain ⟨_,_,rfl,h⟩:=Jb h
  obtain ⟨_,_,rfl,h⟩:=Jb h
  obtain ⟨_,_,rfl,h⟩:=Jb h
  obtain ⟨_,_,rfl,h⟩:=Ja h
  obtain ⟨_,_,rfl,h⟩:=Ja h
  obtain ⟨_,_,rfl,h⟩:=Ja h
  obtain ⟨rfl,hE⟩:=Je h
  obtain ⟨y,hy,hk⟩:=Jf hE
  cases y with
  | inl y=>
   exact ⟨0,_,_,_,hk,rfl,JO px (fx:=⟨Try.func5,by kernel_rfl,by kernel_rfl⟩) Jm (Jo ih Jn) (by kernel_rfl) ((q_Z137 ..).trans ((c_Z137_bind ..).trans (Jg hy)))⟩
  | inr y=>
   exact ⟨1,_,_,_,hk,rfl,JO px (fx:=⟨Try.func5,by kernel_rfl,by kernel_rfl⟩) Jm (Jo ih Jn) (by kernel_rfl) ((q_Z137 ..).trans ((c_Z137_bind ..).trans (Jg hy)))⟩
noncomputable def e_Z137:JA:=m_Z137 (Z137)
theorem e_Z137_ok:(e_Z137).ok Try.prog (Jj (Jh Try.f5) 24):=by
 intro R ds k r h
 unfold e_Z137 m_Z137 at h
 obtain ⟨_,_,rfl,h⟩:=Jb h
 obtain ⟨_,_,rfl,h⟩:=Jb h
 obtain ⟨_,_,rfl,h⟩:=Jb h
 obtain ⟨_,_,rfl,h⟩:=Ja h
 obtain ⟨_,_,rfl,h⟩:=Ja h
 obtain ⟨_,_,rfl,h⟩:=Ja h
 obtain ⟨rfl,hE⟩:=Je h
 obtain ⟨y,hy,hk⟩:=Jf hE
 obtain ⟨n,hn⟩:=J4 hy
 exact m_Z137_ok n R _ k r ((Jg hn).trans hk)

/-!-/
abbrev T_Z138:=Int→Int→List D→List D→List D→Option ((Bool×Int×List D)⊕(Int×List D))
def c_Z138 {R:Type} (F:T_Z138) (x0 x1:Int) (x2 x3 x4:List D) (k:(Bool×Int×List D)⊕(Int×List D)→Option R):Option R:=
 bif decide (x1<(↑x3.length:Int)) then
 if 0≤x1∧x1<(↑x3.length:Int) then
 if x1.toNat+1≤x3.length then
 if 0≤x1∧x1<(↑x2.length:Int) then
 if x1.toNat+1≤x2.length then
 if x1.toNat+1≤x2.length then
 bif !decide ((x3.getD x1.toNat (D.int 0)).toInt=((x2.getD x1.toNat (D.int 0)).fld (0:Nat)).toInt) then
 k (.inl (Bool.false,x0,x3))
 else
 if 0≤x1∧x1<(↑x4.length:Int) then
 if x1.toNat+1≤x4.length then
 if 0≤x1∧x1<(↑x2.length:Int) then
 if x1.toNat+1≤x2.length then
 if x1.toNat+1≤x2.length then
 bif !decide ((x4.getD x1.toNat (D.int 0)).toInt=((x2.getD x1.toNat (D.int 0)).fld (1:Nat)).toInt) then
 k (.inl (Bool.false,x0,x3))
 else
 (Z137 x0 x1 (0:Int) x2 x3 x4).bind (Sum.elim (fun y0=>
 k (.inl (y0.fst,y0.snd.fst,y0.snd.snd.snd.snd.fst))) (fun y1=>
 (F y1.fst (IntKind.i64.wrap (y1.snd.fst+1)) y1.snd.snd.fst y1.snd.snd.snd.fst y1.snd.snd.snd.snd).bind k))
 else
 none
 else
 none
 else
 none
 else
 none
 else
 none
 else
 none
 else
 none
 else
 none
 else
 none
 else
 none
 else
 k (.inr (x0,x3))
theorem c_Z138_bind {R:Type} (F:T_Z138) (x0 x1:Int) (x2 x3 x4:List D) (k:(Bool×Int×List D)⊕(Int×List D)→Option R):c_Z138 F x0 x1 x2 x3 x4 k=(c_Z138 F x0 x1 x2 x3 x4 some).bind k:=by
 unfold c_Z138
 repeat' first
  | exact Jy
  | exact Jx
  | exact Jw
  | apply Jt
  | apply Ju
  | apply Jz
  | (apply Jv; intro _)
  | intro _
def n_Z138:Nat→T_Z138
 | 0,_,_,_,_,_=>none
 | n+1,x0,x1,x2,x3,x4=>c_Z138 (n_Z138 n) x0 x1 x2 x3 x4 some
noncomputable def Z138 (x0 x1:Int) (x2 x3 x4:List D):Option ((Bool×Int×List D)⊕(Int×List D)):=ev (fun n=>n_Z138 n x0 x1 x2 x3 x4)
def m_Z138 (F:T_Z138):JA:=⟨19,⟨(uu 5 (.full 1000 [] (.struct [.int .i64,.int .i64])::uu 7 (.full 1001 [] (.int .i64)::.undef::.full 1002 [] (.int .i64)::uu 5 (.int .i64::.undef::.int .i64::uu 217 ([]))))),[(1000,.own (.struct [.int .i64,.int .i64])),(1001,.own (.int .i64)),(1002,.own (.int .i64))]⟩,[(.ret,⟨(.undef::.undef::.bool::uu 10 (.full 1000 [] (.int .i64)::uu 7 (.int .i64::uu 219 ([])))),[(1000,.own (.int .i64))]⟩),(.exit 0,⟨(uu 13 (.full 1000 [] (.int .i64)::uu 7 (.int .i64::uu 219 ([])))),[(1000,.own (.int .i64))]⟩)],fun _ ds k=>dI (fun x0 ds=>dI (fun x1 ds=>dL (fun x2 ds=>dL (fun x3 ds=>dL (fun x4 ds=>dE ((F x0 x1 x2 x3 x4).bind (Sum.elim (fun y=>k 0 [.B y.1,.I y.2.1,.L y.2.2]) (fun y=>k 1 [.I y.1,.L y.2]))) ds) ds) ds) ds) ds) ds⟩
theorem q_Z138 (F:T_Z138) (x0 x1:Int) (x2 x3 x4:List D):JZ (Jp []) (Jq [m_Z138 F,e_Z137]) A 5 (Jj (Jh Try.f5) 19) ((m_Z138 F).sh.mk' [.I x0,.I x1,.L x2,.L x3,.L x4]) (fun e σ'=>some (e,σ'))=c_Z138 F x0 x1 x2 x3 x4 (Sum.elim (fun y=>some (.ret,SSt.mk' ⟨(.undef::.undef::.bool::uu 10 (.full 1000 [] (.int .i64)::uu 7 (.int .i64::uu 219 ([])))),[(1000,.own (.int .i64))]⟩ [.B y.1,.I y.2.1,.L y.2.2])) (fun y=>some (.exit 0,SSt.mk' ⟨(uu 13 (.full 1000 [] (.int .i64)::uu 7 (.int .i64::uu 219 ([])))),[(1000,.own (.int .i64))]⟩ [.I y.1,.L y.2]))):=by kernel_rfl
theorem m_Z138_ok:∀ n,(m_Z138 (n_Z138 n)).ok Try.prog (Jj (Jh Try.f5) 19):=by
 intro n
 induction n with
 | zero=>
  intro R ds k r h
  unfold m_Z138 at h
  obtain ⟨_,_,rfl,h⟩:=Jb h
  obtain ⟨_,_,rfl,h⟩:=Jb h
  obtain ⟨_,_,rfl,h⟩:=Ja h
  obtain ⟨_,_,rfl,h⟩:=Ja h
  obtain ⟨_,_,rfl,h⟩:=Ja h
  obtain ⟨rfl,hE⟩:=Je h
  obtain ⟨y,hy,hk⟩:=Jf hE
  cases hy
 | succ n ih=>
  intro R ds k r h
  unfold m_Z138 at h
  obtain ⟨_,_,rfl,h⟩:=Jb h
  obtain ⟨_,_,rfl,h⟩:=Jb h
  obtain ⟨_,_,rfl,h⟩:=Ja h
  obtain ⟨_,_,rfl,h⟩:=Ja h
  obtain ⟨_,_,rfl,h⟩:=Ja h
  obtain ⟨rfl,hE⟩:=Je h
  obtain ⟨y,hy,hk⟩:=Jf hE
  cases y with
  | inl y=>
   exact ⟨0,_,_,_,hk,rfl,JO px (fx:=⟨Try.func5,by kernel_rfl,by kernel_rfl⟩) Jm (Jo ih (Jo e_Z137_ok Jn)) (by kernel_rfl) ((q_Z138 ..).trans ((c_Z138_bind ..).trans (Jg hy)))⟩
  | inr y=>
   exact ⟨1,_,_,_,hk,rfl,JO px (fx:=⟨Try.func5,by kernel_rfl,by kernel_rfl⟩) Jm (Jo ih (Jo e_Z137_ok Jn)) (by kernel_rfl) ((q_Z138 ..).trans ((c_Z138_bind ..).trans (Jg hy)))⟩
noncomputable def e_Z138:JA:=m_Z138 (Z138)
theorem e_Z138_ok:(e_Z138).ok Try.prog (Jj (Jh Try.f5) 19):=by
 intro R ds k r h
 unfold e_Z138 m_Z138 at h
 obtain ⟨_,_,rfl,h⟩:=Jb h
 obtain ⟨_,_,rfl,h⟩:=Jb h
 obtain ⟨_,_,rfl,h⟩:=Ja h
 obtain ⟨_,_,rfl,h⟩:=Ja h
 obtain ⟨_,_,rfl,h⟩:=Ja h
 obtain ⟨rfl,hE⟩:=Je h
 obtain ⟨y,hy,hk⟩:=Jf hE
 obtain ⟨n,hn⟩:=J4 hy
 exact m_Z138_ok n R _ k r ((Jg hn).trans hk)

/-!-/
abbrev T_Z139:=Int→Int→Int→Int→List D→Option (Int×Int×Int)
def c_Z139 {R:Type} (F:T_Z139) (x0 x1 x2 x3:Int) (x4:List D) (k:Int×Int×Int→Option R):Option R:=
 bif decide (x3<(↑x4.length:Int)) then
 bif decide (x3=(0:Int)) then
 if 0≤x3∧x3<(↑x4.length:Int) then
 if x3.toNat+1≤x4.length then
 bif decide (x3=(0:Int)) then
 if 0≤x3∧x3<(↑x4.length:Int) then
 if x3.toNat+1≤x4.length then
 (F x0 ((x4.getD x3.toNat (D.int 0)).toInt) ((x4.getD x3.toNat (D.int 0)).toInt) (IntKind.i64.wrap (x3+1)) x4).bind k
 else
 none
 else
 none
 else
 if 0≤x3∧x3<(↑x4.length:Int) then
 if x3.toNat+1≤x4.length then
 bif decide ((x4.getD x3.toNat (D.int 0)).toInt<x2) then
 if 0≤x3∧x3<(↑x4.length:Int) then
 if x3.toNat+1≤x4.length then
 (F x0 ((x4.getD x3.toNat (D.int 0)).toInt) ((x4.getD x3.toNat (D.int 0)).toInt) (IntKind.i64.wrap (x3+1)) x4).bind k
 else
 none
 else
 none
 else
 (F x0 ((x4.getD x3.toNat (D.int 0)).toInt) x2 (IntKind.i64.wrap (x3+1)) x4).bind k
 else
 none
 else
 none
 else
 none
 else
 none
 else
 if 0≤x3∧x3<(↑x4.length:Int) then
 if x3.toNat+1≤x4.length then
 bif decide (x1<(x4.getD x3.toNat (D.int 0)).toInt) then
 if 0≤x3∧x3<(↑x4.length:Int) then
 if x3.toNat+1≤x4.length then
 bif decide (x3=(0:Int)) then
 if 0≤x3∧x3<(↑x4.length:Int) then
 if x3.toNat+1≤x4.length then
 (F x0 ((x4.getD x3.toNat (D.int 0)).toInt) ((x4.getD x3.toNat (D.int 0)).toInt) (IntKind.i64.wrap (x3+1)) x4).bind k
 else
 none
 else
 none
 else
 if 0≤x3∧x3<(↑x4.length:Int) then
 if x3.toNat+1≤x4.length then
 bif decide ((x4.getD x3.toNat (D.int 0)).toInt<x2) then
 if 0≤x3∧x3<(↑x4.length:Int) then
 if x3.toNat+1≤x4.length then
 (F x0 ((x4.getD x3.toNat (D.int 0)).toInt) ((x4.getD x3.toNat (D.int 0)).toInt) (IntKind.i64.wrap (x3+1)) x4).bind k
 else
 none
 else
 none
 else
 (F x0 ((x4.getD x3.toNat (D.int 0)).toInt) x2 (IntKind.i64.wrap (x3+1)) x4).bind k
 else
 none
 else
 none
 else
 none
 else
 none
 else
 bif decide (x3=(0:Int)) then
 if 0≤x3∧x3<(↑x4.length:Int) then
 if x3.toNat+1≤x4.length then
 (F x0 x1 ((x4.getD x3.toNat (D.int 0)).toInt) (IntKind.i64.wrap (x3+1)) x4).bind k
 else
 none
 else
 none
 else
 if 0≤x3∧x3<(↑x4.length:Int) then
 if x3.toNat+1≤x4.length then
 bif decide ((x4.getD x3.toNat (D.int 0)).toInt<x2) then
 if 0≤x3∧x3<(↑x4.length:Int) then
 if x3.toNat+1≤x4.length then
 (F x0 x1 ((x4.getD x3.toNat (D.int 0)).toInt) (IntKind.i64.wrap (x3+1)) x4).bind k
 else
 none
 else
 none
 else
 (F x0 x1 x2 (IntKind.i64.wrap (x3+1)) x4).bind k
 else
 none
 else
 none
 else
 none
 else
 none
 else
 k (x0,x1,x2)
theorem c_Z139_bind {R:Type} (F:T_Z139) (x0 x1 x2 x3:Int) (x4:List D) (k:Int×Int×Int→Option R):c_Z139 F x0 x1 x2 x3 x4 k=(c_Z139 F x0 x1 x2 x3 x4 some).bind k:=by
 unfold c_Z139
 repeat' first
  | exact Jy
  | exact Jx
  | exact Jw
  | apply Jt
  | apply Ju
  | apply Jz
  | (apply Jv; intro _)
  | intro _
def n_Z139:Nat→T_Z139
 | 0,_,_,_,_,_=>none
 | n+1,x0,x1,x2,x3,x4=>c_Z139 (n_Z139 n) x0 x1 x2 x3 x4 some
noncomputable def Z139 (x0 x1 x2 x3:Int) (x4:List D):Option (Int×Int×Int):=ev (fun n=>n_Z139 n x0 x1 x2 x3 x4)
def m_Z139 (F:T_Z139):JA:=⟨30,⟨(uu 13 (.full 1000 [] (.int .i64)::uu 7 (.int .i64::.undef::.undef::.undef::.int .i64::.int .i64::.int .i64::uu 213 ([])))),[(1000,.own (.int .i64))]⟩,[(.exit 4,⟨(uu 21 (.int .i64::.undef::.undef::.undef::.int .i64::.int .i64::uu 214 ([]))),[]⟩)],fun _ ds k=>dI (fun x0 ds=>dI (fun x1 ds=>dI (fun x2 ds=>dI (fun x3 ds=>dL (fun x4 ds=>dE ((F x0 x1 x2 x3 x4).bind (fun y=>k 0 [.I y.1,.I y.2.1,.I y.2.2])) ds) ds) ds) ds) ds) ds⟩
theorem q_Z139 (F:T_Z139) (x0 x1 x2 x3:Int) (x4:List D):JZ (Jp []) (Jq [m_Z139 F]) A 5 (Jj (Jh Try.f5) 30) ((m_Z139 F).sh.mk' [.I x0,.I x1,.I x2,.I x3,.L x4]) (fun e σ'=>some (e,σ'))=c_Z139 F x0 x1 x2 x3 x4 (fun y=>some (.exit 4,SSt.mk' ⟨(uu 21 (.int .i64::.undef::.undef::.undef::.int .i64::.int .i64::uu 214 ([]))),[]⟩ [.I y.1,.I y.2.1,.I y.2.2])):=by kernel_rfl
theorem m_Z139_ok:∀ n,(m_Z139 (n_Z139 n)).ok Try.prog (Jj (Jh Try.f5) 30):=by
 intro n
 induction n with
 | zero=>
  intro R ds k r h
  unfold m_Z139 at h
  obtain ⟨_,_,rfl,h⟩:=Jb h
  obtain ⟨_,_,rfl,h⟩:=Jb h
  obtain ⟨_,_,rfl,h⟩:=Jb h
  obtain ⟨_,_,rfl,h⟩:=Jb h
  obtain ⟨_,_,rfl,h⟩:=Ja h
  obtain ⟨rfl,hE⟩:=Je h
  obtain ⟨y,hy,hk⟩:=Jf hE
  cases hy
 | succ n ih=>
  intro R ds k r h
  unfold m_Z139 at h
  obtain ⟨_,_,rfl,h⟩:=Jb h
  obtain ⟨_,_,rfl,h⟩:=Jb h
  obtain ⟨_,_,rfl,h⟩:=Jb h
  obtain ⟨_,_,rfl,h⟩:=Jb h
  obtain ⟨_,_,rfl,h⟩:=Ja h
  obtain ⟨rfl,hE⟩:=Je h
  obtain ⟨y,hy,hk⟩:=Jf hE
  exact ⟨0,_,_,_,hk,rfl,JO px (fx:=⟨Try.func5,by kernel_rfl,by kernel_rfl⟩) Jm (Jo ih Jn) (by kernel_rfl) ((q_Z139 ..).trans ((c_Z139_bind ..).trans (Jg hy)))⟩
noncomputable def e_Z139:JA:=m_Z139 (Z139)
theorem e_Z139_ok:(e_Z139).ok Try.prog (Jj (Jh Try.f5) 30):=by
 intro R ds k r h
 unfold e_Z139 m_Z139 at h
 obtain ⟨_,_,rfl,h⟩:=Jb h
 obtain ⟨_,_,rfl,h⟩:=Jb h
 obtain ⟨_,_,rfl,h⟩:=Jb h
 obtain ⟨_,_,rfl,h⟩:=Jb h
 obtain ⟨_,_,rfl,h⟩:=Ja h
 obtain ⟨rfl,hE⟩:=Je h
 obtain ⟨y,hy,hk⟩:=Jf hE
 obtain ⟨n,hn⟩:=J4 hy
 exact m_Z139_ok n R _ k r ((Jg hn).trans hk)

/-!-/
def c_Z140 {R:Type} (x0:List D) (k:Bool→Option R):Option R:=
 (Z1 x0).bind (fun y0=>
 bif y0 then
 k Bool.true
 else
 (Z49 x0).bind (fun y1=>
 (Z98 y1.fst y1.snd.fst y1.snd.snd).bind (fun y2=>
 (Z101 y1.fst y1.snd.fst y1.snd.snd).bind (fun y3=>
 (Z114 y1.fst y1.snd.fst y1.snd.snd).bind (fun y4=>
 bif !y2.snd==y4.snd then
 k Bool.false
 else
 (Z115 y1.fst y1.snd.fst y1.snd.snd).bind (fun y5=>
 bif !y3.snd.snd.snd==y5 then
 k Bool.false
 else
 bif y3.snd.snd.snd then
 bif y2.snd==y3.snd.snd.fst then
 k Bool.false
 else
 bif !y2.snd then
 k (decide ((↑y2.fst.length:Int)=(0:Int)))
 else
 (Z119 y1.fst y1.snd.fst y1.snd.snd).bind (fun y6=>
 (Z123 y1.fst y1.snd.fst y1.snd.snd).bind (fun y7=>
 (Z131 y1.fst y1.snd.fst y1.snd.snd y6.fst).bind (fun y8=>
 (Z131 y1.fst y1.snd.fst y1.snd.snd y7.fst).bind (fun y9=>
 (Z136 y1.fst y1.snd.fst y1.snd.snd).bind (fun y10=>
 bif !y6.snd then
 k Bool.false
 else
 bif !y7.snd then
 k Bool.false
 else
 bif !y8.snd then
 k Bool.false
 else
 bif !y9.snd then
 k Bool.false
 else
 bif !y10.snd then
 k Bool.false
 else
 bif !y8.fst then
 k Bool.false
 else
 bif !y9.fst then
 k Bool.false
 else
 bif !decide ((↑y6.fst.length:Int)=(↑y2.fst.length:Int)) then
 k Bool.false
 else
 bif !decide ((↑y7.fst.length:Int)=(↑y2.fst.length:Int)) then
 k Bool.false
 else
 (Z138 y10.fst (0:Int) y2.fst y6.fst y7.fst).bind (Sum.elim (fun y11=>
 k y11.fst) (fun y12=>
 (Z139 y12.fst (0:Int) (0:Int) (0:Int) y12.snd).bind (fun y13=>
 k (decide (y13.fst≤IntKind.i64.wrap (y13.snd.fst - y13.snd.snd)))))))))))
 else
 bif !y2.snd then
 k (decide ((↑y2.fst.length:Int)=(0:Int)))
 else
 (Z119 y1.fst y1.snd.fst y1.snd.snd).bind (fun y14=>
 (Z123 y1.fst y1.snd.fst y1.snd.snd).bind (fun y15=>
 (Z131 y1.fst y1.snd.fst y1.snd.snd y14.fst).bind (fun y16=>
 (Z131 y1.fst y1.snd.fst y1.snd.snd y15.fst).bind (fun y17=>
 (Z136 y1.fst y1.snd.fst y1.snd.snd).bind (fun y18=>
 bif !y14.snd then
 k Bool.false
 else
 bif !y15.snd then
 k Bool.false
 else
 bif !y16.snd then
 k Bool.false
 else
 bif !y17.snd then
 k Bool.false
 else
 bif !y18.snd then
 k Bool.false
 else
 bif !y16.fst then
 k Bool.false
 else
 bif !y17.fst then
 k Bool.false
 else
 bif !decide ((↑y14.fst.length:Int)=(↑y2.fst.length:Int)) then
 k Bool.false
 else
 bif !decide ((↑y15.fst.length:Int)=(↑y2.fst.length:Int)) then
 k Bool.false
 else
 (Z138 y18.fst (0:Int) y2.fst y14.fst y15.fst).bind (Sum.elim (fun y19=>
 k y19.fst) (fun y20=>
 (Z139 y20.fst (0:Int) (0:Int) (0:Int) y20.snd).bind (fun y21=>
 k (decide (y21.fst≤IntKind.i64.wrap (y21.snd.fst - y21.snd.snd)))))))))))))))))
theorem c_Z140_bind {R:Type} (x0:List D) (k:Bool→Option R):c_Z140 x0 k=(c_Z140 x0 some).bind k:=by
 unfold c_Z140
 repeat' first
  | exact Jy
  | exact Jx
  | exact Jw
  | apply Jt
  | apply Ju
  | apply Jz
  | (apply Jv; intro _)
  | intro _
def Z140 (x0:List D):Option (Bool):=c_Z140 x0 some
def e_Z140:Ent:=⟨5,[.rd (.int .u8)],[(.bool,[.undef])],fun _ ds k=>dL (fun x0 ds=>dE ((Z140 x0).bind (fun y=>k 0 [.B y])) ds) ds⟩
theorem q_Z140 (x0:List D):JR (Jp [e_Z1,e_Z49,e_Z98,e_Z101,e_Z114,e_Z115,e_Z119,e_Z123,e_Z131,e_Z136]) (Jq [e_Z138,e_Z139]) A 5 Try.f5 (Sh.mks e_Z140.sh [.L x0]).1 (fun v os=>some (v,os))=c_Z140 x0 (fun y=>JT e_Z140 0 [.B y]):=by kernel_rfl
theorem e_Z140_ok:e_Z140.ok Try.prog A:=by
 intro R ds k r h
 unfold e_Z140 at h
 obtain ⟨_,_,rfl,h⟩:=Ja h
 obtain ⟨rfl,hE⟩:=Je h
 obtain ⟨y,hy,hk⟩:=Jf hE
 exact ⟨0,_,_,_,hk,rfl,JU px (fx:=⟨Try.func5,by kernel_rfl,by kernel_rfl⟩) (Jr e_Z1_ok (Jr e_Z49_ok (Jr e_Z98_ok (Jr e_Z101_ok (Jr e_Z114_ok (Jr e_Z115_ok (Jr e_Z119_ok (Jr e_Z123_ok (Jr e_Z131_ok (Jr e_Z136_ok Jm)))))))))) (Jo e_Z138_ok (Jo e_Z139_ok Jn)) ((q_Z140 ..).trans ((c_Z140_bind ..).trans (Jg hy)))⟩
end
end Go.Proofs.Ytdoaceeakjbgfaa
