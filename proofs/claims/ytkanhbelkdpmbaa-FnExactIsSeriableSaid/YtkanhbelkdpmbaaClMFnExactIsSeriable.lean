/- Models of Go functions and their contracts, printed by a program of this session. -/
import Derived.Test.YtkanhbelkdpmbaaClA
set_option linter.unusedVariables false
set_option maxRecDepth 100000
namespace Go.Proofs.Ytkanhbelkdpmbaa
open Go Go.Rai
noncomputable section
/-!-/
def c_Z0 {R:Type} (x0:List D) (x1:Int) (k:Int→Option R):Option R:=
 bif decide (IntKind.i64.wrap (x1 - (↑x0.length:Int))<(0:Int)) then
 k (-1:Int)
 else
 k (IntKind.i64.wrap (x1 - (↑x0.length:Int)))
theorem c_Z0_bind {R:Type} (x0:List D) (x1:Int) (k:Int→Option R):c_Z0 x0 x1 k=(c_Z0 x0 x1 some).bind k:=by
 unfold c_Z0
 repeat' first
  | exact JQ
  | exact JP
  | exact JO
  | apply JL
  | apply JM
  | apply JR
  | (apply JN; intro _)
  | intro _
def Z0 (x0:List D) (x1:Int):Option (Int):=c_Z0 x0 x1 some
def e_Z0:Ent:=⟨134,[.rd (.int .i64),.int .i64],[(.int .i64,[.undef,.undef])],fun _ ds k=>dL (fun x0 ds=>dI (fun x1 ds=>dE ((Z0 x0 x1).bind (fun y=>k 0 [.I y])) ds) ds) ds⟩
theorem q_Z0 (x0:List D) (x1:Int):Qg (JG []) (JH []) A 134 Try.f134 (Sh.mks e_Z0.sh [.L x0,.I x1]).1 (fun v os=>some (v,os))=c_Z0 x0 x1 (fun y=>Qm e_Z0 0 [.I y]):=by kernel_rfl
theorem e_Z0_ok:e_Z0.ok Try.prog A:=by
 intro R ds k r h
 unfold e_Z0 at h
 obtain ⟨_,_,rfl,h⟩:=Jd h
 obtain ⟨_,_,rfl,h⟩:=Jc h
 obtain ⟨rfl,hE⟩:=Jk h
 obtain ⟨y,hy,hk⟩:=Jl hE
 exact ⟨0,_,_,_,hk,rfl,Qn px (fx:=⟨Try.func134,by kernel_rfl,by kernel_rfl⟩) JD JE ((q_Z0 ..).trans ((c_Z0_bind ..).trans (Jq hy)))⟩

/-!-/
abbrev T_Z1:=List D→Int→Int→Option ((Int×Int)⊕(Int))
def c_Z1 {R:Type} (F:T_Z1) (x0:List D) (x1 x2:Int) (k:(Int×Int)⊕(Int)→Option R):Option R:=
 bif decide (x2<(↑x0.length:Int)) then
 if 0≤x2∧x2<(↑x0.length:Int) then
 (Z0 ((x0.getD x2.toNat (D.int 0)).items) x1).bind (fun y0=>
 bif decide (y0<(0:Int)) then
 k (.inl (y0,(-1:Int)))
 else
 (F x0 y0 (IntKind.i64.wrap (x2+1))).bind k)
 else
 none
 else
 k (.inr x1)
theorem c_Z1_bind {R:Type} (F:T_Z1) (x0:List D) (x1 x2:Int) (k:(Int×Int)⊕(Int)→Option R):c_Z1 F x0 x1 x2 k=(c_Z1 F x0 x1 x2 some).bind k:=by
 unfold c_Z1
 repeat' first
  | exact JQ
  | exact JP
  | exact JO
  | apply JL
  | apply JM
  | apply JR
  | (apply JN; intro _)
  | intro _
def n_Z1:Nat→T_Z1
 | 0,_,_,_=>none
 | n+1,x0,x1,x2=>c_Z1 (n_Z1 n) x0 x1 x2 some
noncomputable def Z1 (x0:List D) (x1 x2:Int):Option ((Int×Int)⊕(Int)):=ev (fun n=>n_Z1 n x0 x1 x2)
def m_Z1 (F:T_Z1):JS:=⟨5,⟨(.rd (.slice (.int .i64))::.int .i64::.undef::.undef::.undef::.int .i64::uu 21 ([])),[]⟩,[(.ret,⟨(.undef::.int .i64::.undef::.undef::.int .i64::uu 22 ([])),[]⟩),(.exit 0,⟨(.undef::.int .i64::uu 25 ([])),[]⟩)],fun _ ds k=>dL (fun x0 ds=>dI (fun x1 ds=>dI (fun x2 ds=>dE ((F x0 x1 x2).bind (Sum.elim (fun y=>k 0 [.I y.1,.I y.2]) (fun y=>k 1 [.I y]))) ds) ds) ds) ds⟩
theorem q_Z1 (F:T_Z1) (x0:List D) (x1 x2:Int):QJ (JG [e_Z0]) (JH [m_Z1 F]) A 107 (JB (Jw Try.f107) 5) ((m_Z1 F).sh.mk' [.L x0,.I x1,.I x2]) (fun e σ'=>some (e,σ'))=c_Z1 F x0 x1 x2 (Sum.elim (fun y=>some (.ret,SSt.mk' ⟨(.undef::.int .i64::.undef::.undef::.int .i64::uu 22 ([])),[]⟩ [.I y.1,.I y.2])) (fun y=>some (.exit 0,SSt.mk' ⟨(.undef::.int .i64::uu 25 ([])),[]⟩ [.I y]))):=by kernel_rfl
theorem m_Z1_ok:∀ n,(m_Z1 (n_Z1 n)).ok Try.prog (JB (Jw Try.f107) 5):=by
 intro n
 induction n with
 | zero=>
  intro R ds k r h
  unfold m_Z1 at h
  obtain ⟨_,_,rfl,h⟩:=Jd h
  obtain ⟨_,_,rfl,h⟩:=Jc h
  obtain ⟨_,_,rfl,h⟩:=Jc h
  obtain ⟨rfl,hE⟩:=Jk h
  obtain ⟨y,hy,hk⟩:=Jl hE
  cases hy
 | succ n ih=>
  intro R ds k r h
  unfold m_Z1 at h
  obtain ⟨_,_,rfl,h⟩:=Jd h
  obtain ⟨_,_,rfl,h⟩:=Jc h
  obtain ⟨_,_,rfl,h⟩:=Jc h
  obtain ⟨rfl,hE⟩:=Jk h
  obtain ⟨y,hy,hk⟩:=Jl hE
  cases y with
  | inl y=>
   exact ⟨0,_,_,_,hk,rfl,Qy px (fx:=⟨Try.func107,by kernel_rfl,by kernel_rfl⟩) (J4 e_Z0_ok JD) (JX ih JE) (by kernel_rfl) ((q_Z1 ..).trans ((c_Z1_bind ..).trans (Jq hy)))⟩
  | inr y=>
   exact ⟨1,_,_,_,hk,rfl,Qy px (fx:=⟨Try.func107,by kernel_rfl,by kernel_rfl⟩) (J4 e_Z0_ok JD) (JX ih JE) (by kernel_rfl) ((q_Z1 ..).trans ((c_Z1_bind ..).trans (Jq hy)))⟩
noncomputable def e_Z1:JS:=m_Z1 (Z1)
theorem e_Z1_ok:(e_Z1).ok Try.prog (JB (Jw Try.f107) 5):=by
 intro R ds k r h
 unfold e_Z1 m_Z1 at h
 obtain ⟨_,_,rfl,h⟩:=Jd h
 obtain ⟨_,_,rfl,h⟩:=Jc h
 obtain ⟨_,_,rfl,h⟩:=Jc h
 obtain ⟨rfl,hE⟩:=Jk h
 obtain ⟨y,hy,hk⟩:=Jl hE
 obtain ⟨n,hn⟩:=QH hy
 exact m_Z1_ok n R _ k r ((Jq hn).trans hk)

/-!-/
def c_Z2 {R:Type} (x0:List D) (x1:Int) (k:Int→Option R):Option R:=
 bif decide (IntKind.i64.wrap (x1 - (↑x0.length:Int))<(0:Int)) then
 k (-1:Int)
 else
 (Z1 x0 (IntKind.i64.wrap (x1 - (↑x0.length:Int))) (0:Int)).bind (Sum.elim (fun y0=>
 k y0.snd) (fun y1=>
 k y1))
theorem c_Z2_bind {R:Type} (x0:List D) (x1:Int) (k:Int→Option R):c_Z2 x0 x1 k=(c_Z2 x0 x1 some).bind k:=by
 unfold c_Z2
 repeat' first
  | exact JQ
  | exact JP
  | exact JO
  | apply JL
  | apply JM
  | apply JR
  | (apply JN; intro _)
  | intro _
def Z2 (x0:List D) (x1:Int):Option (Int):=c_Z2 x0 x1 some
def e_Z2:Ent:=⟨107,[.rd (.slice (.int .i64)),.int .i64],[(.int .i64,[.undef,.undef])],fun _ ds k=>dL (fun x0 ds=>dI (fun x1 ds=>dE ((Z2 x0 x1).bind (fun y=>k 0 [.I y])) ds) ds) ds⟩
theorem q_Z2 (x0:List D) (x1:Int):Qg (JG []) (JH [e_Z1]) A 107 Try.f107 (Sh.mks e_Z2.sh [.L x0,.I x1]).1 (fun v os=>some (v,os))=c_Z2 x0 x1 (fun y=>Qm e_Z2 0 [.I y]):=by kernel_rfl
theorem e_Z2_ok:e_Z2.ok Try.prog A:=by
 intro R ds k r h
 unfold e_Z2 at h
 obtain ⟨_,_,rfl,h⟩:=Jd h
 obtain ⟨_,_,rfl,h⟩:=Jc h
 obtain ⟨rfl,hE⟩:=Jk h
 obtain ⟨y,hy,hk⟩:=Jl hE
 exact ⟨0,_,_,_,hk,rfl,Qn px (fx:=⟨Try.func107,by kernel_rfl,by kernel_rfl⟩) JD (JX e_Z1_ok JE) ((q_Z2 ..).trans ((c_Z2_bind ..).trans (Jq hy)))⟩

/-!-/
def c_Z3 {R:Type} (x0:List D) (x1:Int) (k:Int→Option R):Option R:=
 (Z2 x0 x1).bind (fun y0=>
 bif decide (y0<(0:Int)) then
 k (-1:Int)
 else
 k y0)
theorem c_Z3_bind {R:Type} (x0:List D) (x1:Int) (k:Int→Option R):c_Z3 x0 x1 k=(c_Z3 x0 x1 some).bind k:=by
 unfold c_Z3
 repeat' first
  | exact JQ
  | exact JP
  | exact JO
  | apply JL
  | apply JM
  | apply JR
  | (apply JN; intro _)
  | intro _
def Z3 (x0:List D) (x1:Int):Option (Int):=c_Z3 x0 x1 some
def e_Z3:Ent:=⟨50,[.agg [.rd (.slice (.int .i64))],.int .i64],[(.int .i64,[.undef,.undef])],fun _ ds k=>dL (fun x0 ds=>dI (fun x1 ds=>dE ((Z3 x0 x1).bind (fun y=>k 0 [.I y])) ds) ds) ds⟩
theorem q_Z3 (x0:List D) (x1:Int):Qg (JG [e_Z2]) (JH []) A 50 Try.f50 (Sh.mks e_Z3.sh [.L x0,.I x1]).1 (fun v os=>some (v,os))=c_Z3 x0 x1 (fun y=>Qm e_Z3 0 [.I y]):=by kernel_rfl
theorem e_Z3_ok:e_Z3.ok Try.prog A:=by
 intro R ds k r h
 unfold e_Z3 at h
 obtain ⟨_,_,rfl,h⟩:=Jd h
 obtain ⟨_,_,rfl,h⟩:=Jc h
 obtain ⟨rfl,hE⟩:=Jk h
 obtain ⟨y,hy,hk⟩:=Jl hE
 exact ⟨0,_,_,_,hk,rfl,Qn px (fx:=⟨Try.func50,by kernel_rfl,by kernel_rfl⟩) (J4 e_Z2_ok JD) JE ((q_Z3 ..).trans ((c_Z3_bind ..).trans (Jq hy)))⟩

/-!-/
abbrev T_Z4:=List D→Int→List D→Option (List D)
def c_Z4 {R:Type} (F:T_Z4) (x0:List D) (x1:Int) (x2:List D) (k:List D→Option R):Option R:=
 bif decide (x1<(↑x0.length:Int)) then
 if 0≤x1∧x1<(↑x0.length:Int) then
 if 0≤x1∧x1<(↑x2.length:Int) then
 if x1.toNat+1≤x2.length then
 (F x0 (IntKind.i64.wrap (x1+1)) (x2.set x1.toNat (D.int (x0.getD x1.toNat (D.int 0)).toInt))).bind k
 else
 none
 else
 none
 else
 none
 else
 k x2
theorem c_Z4_bind {R:Type} (F:T_Z4) (x0:List D) (x1:Int) (x2:List D) (k:List D→Option R):c_Z4 F x0 x1 x2 k=(c_Z4 F x0 x1 x2 some).bind k:=by
 unfold c_Z4
 repeat' first
  | exact JQ
  | exact JP
  | exact JO
  | apply JL
  | apply JM
  | apply JR
  | (apply JN; intro _)
  | intro _
def n_Z4:Nat→T_Z4
 | 0,_,_,_=>none
 | n+1,x0,x1,x2=>c_Z4 (n_Z4 n) x0 x1 x2 some
noncomputable def Z4 (x0:List D) (x1:Int) (x2:List D):Option (List D):=ev (fun n=>n_Z4 n x0 x1 x2)
def m_Z4 (F:T_Z4):JS:=⟨3,⟨(.rd (.int .i64)::.undef::.undef::.full 1000 [] (.int .i64)::.int .i64::uu 17 ([])),[(1000,.own (.int .i64))]⟩,[(.exit 0,⟨(.undef::.undef::.undef::.full 1000 [] (.int .i64)::uu 18 ([])),[(1000,.own (.int .i64))]⟩)],fun _ ds k=>dL (fun x0 ds=>dI (fun x1 ds=>dL (fun x2 ds=>dE ((F x0 x1 x2).bind (fun y=>k 0 [.L y])) ds) ds) ds) ds⟩
theorem q_Z4 (F:T_Z4) (x0:List D) (x1:Int) (x2:List D):QJ (JG []) (JH [m_Z4 F]) A 136 (JB (Jw Try.f136) 3) ((m_Z4 F).sh.mk' [.L x0,.I x1,.L x2]) (fun e σ'=>some (e,σ'))=c_Z4 F x0 x1 x2 (fun y=>some (.exit 0,SSt.mk' ⟨(.undef::.undef::.undef::.full 1000 [] (.int .i64)::uu 18 ([])),[(1000,.own (.int .i64))]⟩ [.L y])):=by kernel_rfl
theorem m_Z4_ok:∀ n,(m_Z4 (n_Z4 n)).ok Try.prog (JB (Jw Try.f136) 3):=by
 intro n
 induction n with
 | zero=>
  intro R ds k r h
  unfold m_Z4 at h
  obtain ⟨_,_,rfl,h⟩:=Jd h
  obtain ⟨_,_,rfl,h⟩:=Jc h
  obtain ⟨_,_,rfl,h⟩:=Jd h
  obtain ⟨rfl,hE⟩:=Jk h
  obtain ⟨y,hy,hk⟩:=Jl hE
  cases hy
 | succ n ih=>
  intro R ds k r h
  unfold m_Z4 at h
  obtain ⟨_,_,rfl,h⟩:=Jd h
  obtain ⟨_,_,rfl,h⟩:=Jc h
  obtain ⟨_,_,rfl,h⟩:=Jd h
  obtain ⟨rfl,hE⟩:=Jk h
  obtain ⟨y,hy,hk⟩:=Jl hE
  exact ⟨0,_,_,_,hk,rfl,Qy px (fx:=⟨Try.func136,by kernel_rfl,by kernel_rfl⟩) JD (JX ih JE) (by kernel_rfl) ((q_Z4 ..).trans ((c_Z4_bind ..).trans (Jq hy)))⟩
noncomputable def e_Z4:JS:=m_Z4 (Z4)
theorem e_Z4_ok:(e_Z4).ok Try.prog (JB (Jw Try.f136) 3):=by
 intro R ds k r h
 unfold e_Z4 m_Z4 at h
 obtain ⟨_,_,rfl,h⟩:=Jd h
 obtain ⟨_,_,rfl,h⟩:=Jc h
 obtain ⟨_,_,rfl,h⟩:=Jd h
 obtain ⟨rfl,hE⟩:=Jk h
 obtain ⟨y,hy,hk⟩:=Jl hE
 obtain ⟨n,hn⟩:=QH hy
 exact m_Z4_ok n R _ k r ((Jq hn).trans hk)

/-!-/
def c_Z5 {R:Type} (x0:List D) (k:List D→Option R):Option R:=
 if (0:Int)≤(↑x0.length:Int)∧(↑x0.length:Int)≤(↑x0.length:Int)∧(↑x0.length:Int)≤(4294967296:Int) then
 (Z4 x0 (0:Int) (List.replicate (↑x0.length:Int).toNat (D.int 0))).bind (fun y0=>
 k y0)
 else
 none
theorem c_Z5_bind {R:Type} (x0:List D) (k:List D→Option R):c_Z5 x0 k=(c_Z5 x0 some).bind k:=by
 unfold c_Z5
 repeat' first
  | exact JQ
  | exact JP
  | exact JO
  | apply JL
  | apply JM
  | apply JR
  | (apply JN; intro _)
  | intro _
def Z5 (x0:List D):Option (List D):=c_Z5 x0 some
def e_Z5:Ent:=⟨136,[.rd (.int .i64)],[(.own (.int .i64),[.undef])],fun _ ds k=>dL (fun x0 ds=>dE ((Z5 x0).bind (fun y=>k 0 [.L y])) ds) ds⟩
theorem q_Z5 (x0:List D):Qg (JG []) (JH [e_Z4]) A 136 Try.f136 (Sh.mks e_Z5.sh [.L x0]).1 (fun v os=>some (v,os))=c_Z5 x0 (fun y=>Qm e_Z5 0 [.L y]):=by kernel_rfl
theorem e_Z5_ok:e_Z5.ok Try.prog A:=by
 intro R ds k r h
 unfold e_Z5 at h
 obtain ⟨_,_,rfl,h⟩:=Jd h
 obtain ⟨rfl,hE⟩:=Jk h
 obtain ⟨y,hy,hk⟩:=Jl hE
 exact ⟨0,_,_,_,hk,rfl,Qn px (fx:=⟨Try.func136,by kernel_rfl,by kernel_rfl⟩) JD (JX e_Z4_ok JE) ((q_Z5 ..).trans ((c_Z5_bind ..).trans (Jq hy)))⟩

/-!-/
abbrev T_Z6:=List D→Int→List D→Option (List D)
def c_Z6 {R:Type} (F:T_Z6) (x0:List D) (x1:Int) (x2:List D) (k:List D→Option R):Option R:=
 bif decide (x1<(↑x0.length:Int)) then
 if 0≤x1∧x1<(↑x0.length:Int) then
 (Z5 ((x0.getD x1.toNat (D.int 0)).items)).bind (fun y0=>
 if 0≤x1∧x1<(↑x2.length:Int) then
 if x1.toNat+1≤x2.length then
 (F x0 (IntKind.i64.wrap (x1+1)) (x2.set x1.toNat (D.node y0))).bind k
 else
 none
 else
 none)
 else
 none
 else
 k x2
theorem c_Z6_bind {R:Type} (F:T_Z6) (x0:List D) (x1:Int) (x2:List D) (k:List D→Option R):c_Z6 F x0 x1 x2 k=(c_Z6 F x0 x1 x2 some).bind k:=by
 unfold c_Z6
 repeat' first
  | exact JQ
  | exact JP
  | exact JO
  | apply JL
  | apply JM
  | apply JR
  | (apply JN; intro _)
  | intro _
def n_Z6:Nat→T_Z6
 | 0,_,_,_=>none
 | n+1,x0,x1,x2=>c_Z6 (n_Z6 n) x0 x1 x2 some
noncomputable def Z6 (x0:List D) (x1:Int) (x2:List D):Option (List D):=ev (fun n=>n_Z6 n x0 x1 x2)
def m_Z6 (F:T_Z6):JS:=⟨3,⟨(.rd (.slice (.int .i64))::.undef::.undef::.full 1000 [] (.slice (.int .i64))::.int .i64::uu 18 ([])),[(1000,.own (.slice (.int .i64)))]⟩,[(.exit 0,⟨(.undef::.undef::.undef::.full 1000 [] (.slice (.int .i64))::uu 19 ([])),[(1000,.own (.slice (.int .i64)))]⟩)],fun _ ds k=>dL (fun x0 ds=>dI (fun x1 ds=>dL (fun x2 ds=>dE ((F x0 x1 x2).bind (fun y=>k 0 [.L y])) ds) ds) ds) ds⟩
theorem q_Z6 (F:T_Z6) (x0:List D) (x1:Int) (x2:List D):QJ (JG [e_Z5]) (JH [m_Z6 F]) A 110 (JB (Jw Try.f110) 3) ((m_Z6 F).sh.mk' [.L x0,.I x1,.L x2]) (fun e σ'=>some (e,σ'))=c_Z6 F x0 x1 x2 (fun y=>some (.exit 0,SSt.mk' ⟨(.undef::.undef::.undef::.full 1000 [] (.slice (.int .i64))::uu 19 ([])),[(1000,.own (.slice (.int .i64)))]⟩ [.L y])):=by kernel_rfl
theorem m_Z6_ok:∀ n,(m_Z6 (n_Z6 n)).ok Try.prog (JB (Jw Try.f110) 3):=by
 intro n
 induction n with
 | zero=>
  intro R ds k r h
  unfold m_Z6 at h
  obtain ⟨_,_,rfl,h⟩:=Jd h
  obtain ⟨_,_,rfl,h⟩:=Jc h
  obtain ⟨_,_,rfl,h⟩:=Jd h
  obtain ⟨rfl,hE⟩:=Jk h
  obtain ⟨y,hy,hk⟩:=Jl hE
  cases hy
 | succ n ih=>
  intro R ds k r h
  unfold m_Z6 at h
  obtain ⟨_,_,rfl,h⟩:=Jd h
  obtain ⟨_,_,rfl,h⟩:=Jc h
  obtain ⟨_,_,rfl,h⟩:=Jd h
  obtain ⟨rfl,hE⟩:=Jk h
  obtain ⟨y,hy,hk⟩:=Jl hE
  exact ⟨0,_,_,_,hk,rfl,Qy px (fx:=⟨Try.func110,by kernel_rfl,by kernel_rfl⟩) (J4 e_Z5_ok JD) (JX ih JE) (by kernel_rfl) ((q_Z6 ..).trans ((c_Z6_bind ..).trans (Jq hy)))⟩
noncomputable def e_Z6:JS:=m_Z6 (Z6)
theorem e_Z6_ok:(e_Z6).ok Try.prog (JB (Jw Try.f110) 3):=by
 intro R ds k r h
 unfold e_Z6 m_Z6 at h
 obtain ⟨_,_,rfl,h⟩:=Jd h
 obtain ⟨_,_,rfl,h⟩:=Jc h
 obtain ⟨_,_,rfl,h⟩:=Jd h
 obtain ⟨rfl,hE⟩:=Jk h
 obtain ⟨y,hy,hk⟩:=Jl hE
 obtain ⟨n,hn⟩:=QH hy
 exact m_Z6_ok n R _ k r ((Jq hn).trans hk)

/-!-/
def c_Z7 {R:Type} (x0:List D) (k:List D→Option R):Option R:=
 if (0:Int)≤(↑x0.length:Int)∧(↑x0.length:Int)≤(↑x0.length:Int)∧(↑x0.length:Int)≤(4294967296:Int) then
 (Z6 x0 (0:Int) (List.replicate (↑x0.length:Int).toNat (D.node []))).bind (fun y0=>
 k y0)
 else
 none
theorem c_Z7_bind {R:Type} (x0:List D) (k:List D→Option R):c_Z7 x0 k=(c_Z7 x0 some).bind k:=by
 unfold c_Z7
 repeat' first
  | exact JQ
  | exact JP
  | exact JO
  | apply JL
  | apply JM
  | apply JR
  | (apply JN; intro _)
  | intro _
def Z7 (x0:List D):Option (List D):=c_Z7 x0 some
def e_Z7:Ent:=⟨110,[.rd (.slice (.int .i64))],[(.own (.slice (.int .i64)),[.undef])],fun _ ds k=>dL (fun x0 ds=>dE ((Z7 x0).bind (fun y=>k 0 [.L y])) ds) ds⟩
theorem q_Z7 (x0:List D):Qg (JG []) (JH [e_Z6]) A 110 Try.f110 (Sh.mks e_Z7.sh [.L x0]).1 (fun v os=>some (v,os))=c_Z7 x0 (fun y=>Qm e_Z7 0 [.L y]):=by kernel_rfl
theorem e_Z7_ok:e_Z7.ok Try.prog A:=by
 intro R ds k r h
 unfold e_Z7 at h
 obtain ⟨_,_,rfl,h⟩:=Jd h
 obtain ⟨rfl,hE⟩:=Jk h
 obtain ⟨y,hy,hk⟩:=Jl hE
 exact ⟨0,_,_,_,hk,rfl,Qn px (fx:=⟨Try.func110,by kernel_rfl,by kernel_rfl⟩) JD (JX e_Z6_ok JE) ((q_Z7 ..).trans ((c_Z7_bind ..).trans (Jq hy)))⟩

/-!-/
def c_Z8 {R:Type} (x0:List D) (k:List D→Option R):Option R:=
 (Z7 x0).bind (fun y0=>
 k y0)
theorem c_Z8_bind {R:Type} (x0:List D) (k:List D→Option R):c_Z8 x0 k=(c_Z8 x0 some).bind k:=by
 unfold c_Z8
 repeat' first
  | exact JQ
  | exact JP
  | exact JO
  | apply JL
  | apply JM
  | apply JR
  | (apply JN; intro _)
  | intro _
def Z8 (x0:List D):Option (List D):=c_Z8 x0 some
def e_Z8:Ent:=⟨52,[.agg [.rd (.slice (.int .i64))]],[(.agg [.own (.slice (.int .i64))],[.undef])],fun _ ds k=>dL (fun x0 ds=>dE ((Z8 x0).bind (fun y=>k 0 [.L y])) ds) ds⟩
theorem q_Z8 (x0:List D):Qg (JG [e_Z7]) (JH []) A 52 Try.f52 (Sh.mks e_Z8.sh [.L x0]).1 (fun v os=>some (v,os))=c_Z8 x0 (fun y=>Qm e_Z8 0 [.L y]):=by kernel_rfl
theorem e_Z8_ok:e_Z8.ok Try.prog A:=by
 intro R ds k r h
 unfold e_Z8 at h
 obtain ⟨_,_,rfl,h⟩:=Jd h
 obtain ⟨rfl,hE⟩:=Jk h
 obtain ⟨y,hy,hk⟩:=Jl hE
 exact ⟨0,_,_,_,hk,rfl,Qn px (fx:=⟨Try.func52,by kernel_rfl,by kernel_rfl⟩) (J4 e_Z7_ok JD) JE ((q_Z8 ..).trans ((c_Z8_bind ..).trans (Jq hy)))⟩

/-!-/
def c_Z9 {R:Type} (x0 x1 x2:Int) (k:Bool→Option R):Option R:=
 bif decide (x1≤x0) then
 k (decide (x0≤x2))
 else
 k Bool.false
theorem c_Z9_bind {R:Type} (x0 x1 x2:Int) (k:Bool→Option R):c_Z9 x0 x1 x2 k=(c_Z9 x0 x1 x2 some).bind k:=by
 unfold c_Z9
 repeat' first
  | exact JQ
  | exact JP
  | exact JO
  | apply JL
  | apply JM
  | apply JR
  | (apply JN; intro _)
  | intro _
def Z9 (x0 x1 x2:Int):Option (Bool):=c_Z9 x0 x1 x2 some
def e_Z9:Ent:=⟨86,[.int .i64,.int .i64,.int .i64],[(.bool,[.undef,.undef,.undef])],fun _ ds k=>dI (fun x0 ds=>dI (fun x1 ds=>dI (fun x2 ds=>dE ((Z9 x0 x1 x2).bind (fun y=>k 0 [.B y])) ds) ds) ds) ds⟩
theorem q_Z9 (x0 x1 x2:Int):Qg (JG []) (JH []) A 86 Try.f86 (Sh.mks e_Z9.sh [.I x0,.I x1,.I x2]).1 (fun v os=>some (v,os))=c_Z9 x0 x1 x2 (fun y=>Qm e_Z9 0 [.B y]):=by kernel_rfl
theorem e_Z9_ok:e_Z9.ok Try.prog A:=by
 intro R ds k r h
 unfold e_Z9 at h
 obtain ⟨_,_,rfl,h⟩:=Jc h
 obtain ⟨_,_,rfl,h⟩:=Jc h
 obtain ⟨_,_,rfl,h⟩:=Jc h
 obtain ⟨rfl,hE⟩:=Jk h
 obtain ⟨y,hy,hk⟩:=Jl hE
 exact ⟨0,_,_,_,hk,rfl,Qn px (fx:=⟨Try.func86,by kernel_rfl,by kernel_rfl⟩) JD JE ((q_Z9 ..).trans ((c_Z9_bind ..).trans (Jq hy)))⟩

/-!-/
abbrev T_Z10:=Int→Int→List D→Int→List D→Option ((Bool×Int×Int×List D)⊕(Int×Int×List D))
def c_Z10 {R:Type} (F:T_Z10) (x0 x1:Int) (x2:List D) (x3:Int) (x4:List D) (k:(Bool×Int×Int×List D)⊕(Int×Int×List D)→Option R):Option R:=
 bif decide (x3<(↑x2.length:Int)) then
 if 0≤x3∧x3<(↑x2.length:Int) then
 (Z9 ((x2.getD x3.toNat (D.int 0)).toInt) (0:Int) (1000:Int)).bind (fun y0=>
 bif !y0 then
 k (.inl (Bool.false,x0,x1,x4))
 else
 (F x0 x1 x2 (IntKind.i64.wrap (x3+1)) x4).bind k)
 else
 none
 else
 k (.inr (x0,x1,x4))
theorem c_Z10_bind {R:Type} (F:T_Z10) (x0 x1:Int) (x2:List D) (x3:Int) (x4:List D) (k:(Bool×Int×Int×List D)⊕(Int×Int×List D)→Option R):c_Z10 F x0 x1 x2 x3 x4 k=(c_Z10 F x0 x1 x2 x3 x4 some).bind k:=by
 unfold c_Z10
 repeat' first
  | exact JQ
  | exact JP
  | exact JO
  | apply JL
  | apply JM
  | apply JR
  | (apply JN; intro _)
  | intro _
def n_Z10:Nat→T_Z10
 | 0,_,_,_,_,_=>none
 | n+1,x0,x1,x2,x3,x4=>c_Z10 (n_Z10 n) x0 x1 x2 x3 x4 some
noncomputable def Z10 (x0 x1:Int) (x2:List D) (x3:Int) (x4:List D):Option ((Bool×Int×Int×List D)⊕(Int×Int×List D)):=ev (fun n=>n_Z10 n x0 x1 x2 x3 x4)
def m_Z10 (F:T_Z10):JS:=⟨11,⟨(.undef::.ptr 1000 [0]::.undef::.int .i64::.int .i64::.rd (.int .i64)::.int .i64::uu 42 ([])),[(1000,.obox (.agg [.rd (.slice (.int .i64))]))]⟩,[(.ret,⟨(.undef::.ptr 1000 [0]::.bool::.int .i64::.int .i64::uu 44 ([])),[(1000,.obox (.agg [.rd (.slice (.int .i64))]))]⟩),(.exit 2,⟨(.undef::.ptr 1000 [0]::.undef::.int .i64::.int .i64::uu 44 ([])),[(1000,.obox (.agg [.rd (.slice (.int .i64))]))]⟩)],fun _ ds k=>dI (fun x0 ds=>dI (fun x1 ds=>dL (fun x2 ds=>dI (fun x3 ds=>dL (fun x4 ds=>dE ((F x0 x1 x2 x3 x4).bind (Sum.elim (fun y=>k 0 [.B y.1,.I y.2.1,.I y.2.2.1,.L y.2.2.2]) (fun y=>k 1 [.I y.1,.I y.2.1,.L y.2.2]))) ds) ds) ds) ds) ds) ds⟩
theorem q_Z10 (F:T_Z10) (x0 x1:Int) (x2:List D) (x3:Int) (x4:List D):QJ (JG [e_Z9]) (JH [m_Z10 F]) A 108 (JB (Jw Try.f108) 11) ((m_Z10 F).sh.mk' [.I x0,.I x1,.L x2,.I x3,.L x4]) (fun e σ'=>some (e,σ'))=c_Z10 F x0 x1 x2 x3 x4 (Sum.elim (fun y=>some (.ret,SSt.mk' ⟨(.undef::.ptr 1000 [0]::.bool::.int .i64::.int .i64::uu 44 ([])),[(1000,.obox (.agg [.rd (.slice (.int .i64))]))]⟩ [.B y.1,.I y.2.1,.I y.2.2.1,.L y.2.2.2])) (fun y=>some (.exit 2,SSt.mk' ⟨(.undef::.ptr 1000 [0]::.undef::.int .i64::.int .i64::uu 44 ([])),[(1000,.obox (.agg [.rd (.slice (.int .i64))]))]⟩ [.I y.1,.I y.2.1,.L y.2.2]))):=by kernel_rfl
theorem m_Z10_ok:∀ n,(m_Z10 (n_Z10 n)).ok Try.prog (JB (Jw Try.f108) 11):=by
 intro n
 induction n with
 | zero=>
  intro R ds k r h
  unfold m_Z10 at h
  obtain ⟨_,_,rfl,h⟩:=Jc h
  obtain ⟨_,_,rfl,h⟩:=Jc h
  obtain ⟨_,_,rfl,h⟩:=Jd h
  obtain ⟨_,_,rfl,h⟩:=Jc h
  obtain ⟨_,_,rfl,h⟩:=Jd h
  obtain ⟨rfl,hE⟩:=Jk h
  obtain ⟨y,hy,hk⟩:=Jl hE
  cases hy
 | succ n ih=>
  intro R ds k r h
  unfold m_Z10 at h
  obtain ⟨_,_,rfl,h⟩:=Jc h
  obtain ⟨_,_,rfl,h⟩:=Jc h
  obtain ⟨_,_,rfl,h⟩:=Jd h
  obtain ⟨_,_,rfl,h⟩:=Jc h
  obtain ⟨_,_,rfl,h⟩:=Jd h
  obtain ⟨rfl,hE⟩:=Jk h
  obtain ⟨y,hy,hk⟩:=Jl hE
  cases y with
  | inl y=>
   exact ⟨0,_,_,_,hk,rfl,Qy px (fx:=⟨Try.func108,by kernel_rfl,by kernel_rfl⟩) (J4 e_Z9_ok JD) (JX ih JE) (by kernel_rfl) ((q_Z10 ..).trans ((c_Z10_bind ..).trans (Jq hy)))⟩
  | inr y=>
   exact ⟨1,_,_,_,hk,rfl,Qy px (fx:=⟨Try.func108,by kernel_rfl,by kernel_rfl⟩) (J4 e_Z9_ok JD) (JX ih JE) (by kernel_rfl) ((q_Z10 ..).trans ((c_Z10_bind ..).trans (Jq hy)))⟩
noncomputable def e_Z10:JS:=m_Z10 (Z10)
theorem e_Z10_ok:(e_Z10).ok Try.prog (JB (Jw Try.f108) 11):=by
 intro R ds k r h
 unfold e_Z10 m_Z10 at h
 obtain ⟨_,_,rfl,h⟩:=Jc h
 obtain ⟨_,_,rfl,h⟩:=Jc h
 obtain ⟨_,_,rfl,h⟩:=Jd h
 obtain ⟨_,_,rfl,h⟩:=Jc h
 obtain ⟨_,_,rfl,h⟩:=Jd h
 obtain ⟨rfl,hE⟩:=Jk h
 obtain ⟨y,hy,hk⟩:=Jl hE
 obtain ⟨n,hn⟩:=QH hy
 exact m_Z10_ok n R _ k r ((Jq hn).trans hk)

/-!-/
abbrev T_Z11:=Int→Int→List D→Option ((Bool)⊕(Unit))
def c_Z11 {R:Type} (F:T_Z11) (x0 x1:Int) (x2:List D) (k:(Bool)⊕(Unit)→Option R):Option R:=
 bif decide (x1<x0) then
 if 0≤x1∧x1<(↑x2.length:Int) then
 (Z9 (↑(x2.getD x1.toNat (D.int 0)).items.length:Int) (1:Int) (10:Int)).bind (fun y0=>
 bif !y0 then
 k (.inl Bool.false)
 else
 if (0:Int)≤(0:Int)∧(0:Int)<(↑x2.length:Int) then
 bif !decide ((↑(x2.getD x1.toNat (D.int 0)).items.length:Int)=(↑(x2.getD (Int.toNat (0:Int)) (D.int 0)).items.length:Int)) then
 k (.inl Bool.false)
 else
 (Z10 x0 x1 ((x2.getD x1.toNat (D.int 0)).items) (0:Int) x2).bind (Sum.elim (fun y1=>
 k (.inl y1.fst)) (fun y2=>
 (F y2.fst (IntKind.i64.wrap (y2.snd.fst+1)) y2.snd.snd).bind k))
 else
 none)
 else
 none
 else
 k (.inr ())
theorem c_Z11_bind {R:Type} (F:T_Z11) (x0 x1:Int) (x2:List D) (k:(Bool)⊕(Unit)→Option R):c_Z11 F x0 x1 x2 k=(c_Z11 F x0 x1 x2 some).bind k:=by
 unfold c_Z11
 repeat' first
  | exact JQ
  | exact JP
  | exact JO
  | apply JL
  | apply JM
  | apply JR
  | (apply JN; intro _)
  | intro _
def n_Z11:Nat→T_Z11
 | 0,_,_,_=>none
 | n+1,x0,x1,x2=>c_Z11 (n_Z11 n) x0 x1 x2 some
noncomputable def Z11 (x0 x1:Int) (x2:List D):Option ((Bool)⊕(Unit)):=ev (fun n=>n_Z11 n x0 x1 x2)
def m_Z11 (F:T_Z11):JS:=⟨5,⟨(.undef::.ptr 1000 [0]::.undef::.int .i64::.int .i64::uu 44 ([])),[(1000,.obox (.agg [.rd (.slice (.int .i64))]))]⟩,[(.ret,⟨(.undef::.undef::.bool::uu 46 ([])),[]⟩),(.exit 0,⟨(uu 49 ([])),[]⟩)],fun _ ds k=>dI (fun x0 ds=>dI (fun x1 ds=>dL (fun x2 ds=>dE ((F x0 x1 x2).bind (Sum.elim (fun y=>k 0 [.B y]) (fun y=>k 1 []))) ds) ds) ds) ds⟩
theorem q_Z11 (F:T_Z11) (x0 x1:Int) (x2:List D):QJ (JG [e_Z9]) (JH [m_Z11 F,e_Z10]) A 108 (JB (Jw Try.f108) 5) ((m_Z11 F).sh.mk' [.I x0,.I x1,.L x2]) (fun e σ'=>some (e,σ'))=c_Z11 F x0 x1 x2 (Sum.elim (fun y=>some (.ret,SSt.mk' ⟨(.undef::.undef::.bool::uu 46 ([])),[]⟩ [.B y])) (fun y=>some (.exit 0,SSt.mk' ⟨(uu 49 ([])),[]⟩ []))):=by kernel_rfl
theorem m_Z11_ok:∀ n,(m_Z11 (n_Z11 n)).ok Try.prog (JB (Jw Try.f108) 5):=by
 intro n
 induction n with
 | zero=>
  intro R ds k r h
  unfold m_Z11 at h
  obtain ⟨_,_,rfl,h⟩:=Jc h
  obtain ⟨_,_,rfl,h⟩:=Jc h
  obtain ⟨_,_,rfl,h⟩:=Jd h
  obtain ⟨rfl,hE⟩:=Jk h
  obtain ⟨y,hy,hk⟩:=Jl hE
  cases hy
 | succ n ih=>
  intro R ds k r h
  unfold m_Z11 at h
  obtain ⟨_,_,rfl,h⟩:=Jc h
  obtain ⟨_,_,rfl,h⟩:=Jc h
  obtain ⟨_,_,rfl,h⟩:=Jd h
  obtain ⟨rfl,hE⟩:=Jk h
  obtain ⟨y,hy,hk⟩:=Jl hE
  cases y with
  | inl y=>
   exact ⟨0,_,_,_,hk,rfl,Qy px (fx:=⟨Try.func108,by kernel_rfl,by kernel_rfl⟩) (J4 e_Z9_ok JD) (JX ih (JX e_Z10_ok JE)) (by kernel_rfl) ((q_Z11 ..).trans ((c_Z11_bind ..).trans (Jq hy)))⟩
  | inr y=>
   exact ⟨1,_,_,_,hk,rfl,Qy px (fx:=⟨Try.func108,by kernel_rfl,by kernel_rfl⟩) (J4 e_Z9_ok JD) (JX ih (JX e_Z10_ok JE)) (by kernel_rfl) ((q_Z11 ..).trans ((c_Z11_bind ..).trans (Jq hy)))⟩
noncomputable def e_Z11:JS:=m_Z11 (Z11)
theorem e_Z11_ok:(e_Z11).ok Try.prog (JB (Jw Try.f108) 5):=by
 intro R ds k r h
 unfold e_Z11 m_Z11 at h
 obtain ⟨_,_,rfl,h⟩:=Jc h
 obtain ⟨_,_,rfl,h⟩:=Jc h
 obtain ⟨_,_,rfl,h⟩:=Jd h
 obtain ⟨rfl,hE⟩:=Jk h
 obtain ⟨y,hy,hk⟩:=Jl hE
 obtain ⟨n,hn⟩:=QH hy
 exact m_Z11_ok n R _ k r ((Jq hn).trans hk)

/-!-/
def c_Z12 {R:Type} (x0:List D) (k:Bool→Option R):Option R:=
 (Z9 (↑x0.length:Int) (1:Int) (7:Int)).bind (fun y0=>
 bif !y0 then
 k Bool.false
 else
 (Z11 (↑x0.length:Int) (0:Int) x0).bind (Sum.elim (fun y1=>
 k y1) (fun y2=>
 k Bool.true)))
theorem c_Z12_bind {R:Type} (x0:List D) (k:Bool→Option R):c_Z12 x0 k=(c_Z12 x0 some).bind k:=by
 unfold c_Z12
 repeat' first
  | exact JQ
  | exact JP
  | exact JO
  | apply JL
  | apply JM
  | apply JR
  | (apply JN; intro _)
  | intro _
def Z12 (x0:List D):Option (Bool):=c_Z12 x0 some
def e_Z12:Ent:=⟨108,[.agg [.rd (.slice (.int .i64))]],[(.bool,[.undef])],fun _ ds k=>dL (fun x0 ds=>dE ((Z12 x0).bind (fun y=>k 0 [.B y])) ds) ds⟩
theorem q_Z12 (x0:List D):Qg (JG [e_Z9]) (JH [e_Z11]) A 108 Try.f108 (Sh.mks e_Z12.sh [.L x0]).1 (fun v os=>some (v,os))=c_Z12 x0 (fun y=>Qm e_Z12 0 [.B y]):=by kernel_rfl
theorem e_Z12_ok:e_Z12.ok Try.prog A:=by
 intro R ds k r h
 unfold e_Z12 at h
 obtain ⟨_,_,rfl,h⟩:=Jd h
 obtain ⟨rfl,hE⟩:=Jk h
 obtain ⟨y,hy,hk⟩:=Jl hE
 exact ⟨0,_,_,_,hk,rfl,Qn px (fx:=⟨Try.func108,by kernel_rfl,by kernel_rfl⟩) (J4 e_Z9_ok JD) (JX e_Z11_ok JE) ((q_Z12 ..).trans ((c_Z12_bind ..).trans (Jq hy)))⟩

/-!-/
abbrev T_Z13:=List D→Int→Int→Option (Int)
def c_Z13 {R:Type} (F:T_Z13) (x0:List D) (x1 x2:Int) (k:Int→Option R):Option R:=
 bif decide (x2<(↑x0.length:Int)) then
 if 0≤x2∧x2<(↑x0.length:Int) then
 (F x0 (IntKind.i64.wrap (x1+(x0.getD x2.toNat (D.int 0)).toInt)) (IntKind.i64.wrap (x2+1))).bind k
 else
 none
 else
 k x1
theorem c_Z13_bind {R:Type} (F:T_Z13) (x0:List D) (x1 x2:Int) (k:Int→Option R):c_Z13 F x0 x1 x2 k=(c_Z13 F x0 x1 x2 some).bind k:=by
 unfold c_Z13
 repeat' first
  | exact JQ
  | exact JP
  | exact JO
  | apply JL
  | apply JM
  | apply JR
  | (apply JN; intro _)
  | intro _
def n_Z13:Nat→T_Z13
 | 0,_,_,_=>none
 | n+1,x0,x1,x2=>c_Z13 (n_Z13 n) x0 x1 x2 some
noncomputable def Z13 (x0:List D) (x1 x2:Int):Option (Int):=ev (fun n=>n_Z13 n x0 x1 x2)
def m_Z13 (F:T_Z13):JS:=⟨3,⟨(.rd (.int .i64)::.undef::.undef::.int .i64::.int .i64::uu 13 ([])),[]⟩,[(.exit 0,⟨(.undef::.undef::.undef::.int .i64::uu 14 ([])),[]⟩)],fun _ ds k=>dL (fun x0 ds=>dI (fun x1 ds=>dI (fun x2 ds=>dE ((F x0 x1 x2).bind (fun y=>k 0 [.I y])) ds) ds) ds) ds⟩
theorem q_Z13 (F:T_Z13) (x0:List D) (x1 x2:Int):QJ (JG []) (JH [m_Z13 F]) A 184 (JB (Jw Try.f184) 3) ((m_Z13 F).sh.mk' [.L x0,.I x1,.I x2]) (fun e σ'=>some (e,σ'))=c_Z13 F x0 x1 x2 (fun y=>some (.exit 0,SSt.mk' ⟨(.undef::.undef::.undef::.int .i64::uu 14 ([])),[]⟩ [.I y])):=by kernel_rfl
theorem m_Z13_ok:∀ n,(m_Z13 (n_Z13 n)).ok Try.prog (JB (Jw Try.f184) 3):=by
 intro n
 induction n with
 | zero=>
  intro R ds k r h
  unfold m_Z13 at h
  obtain ⟨_,_,rfl,h⟩:=Jd h
  obtain ⟨_,_,rfl,h⟩:=Jc h
  obtain ⟨_,_,rfl,h⟩:=Jc h
  obtain ⟨rfl,hE⟩:=Jk h
  obtain ⟨y,hy,hk⟩:=Jl hE
  cases hy
 | succ n ih=>
  intro R ds k r h
  unfold m_Z13 at h
  obtain ⟨_,_,rfl,h⟩:=Jd h
  obtain ⟨_,_,rfl,h⟩:=Jc h
  obtain ⟨_,_,rfl,h⟩:=Jc h
  obtain ⟨rfl,hE⟩:=Jk h
  obtain ⟨y,hy,hk⟩:=Jl hE
  exact ⟨0,_,_,_,hk,rfl,Qy px (fx:=⟨Try.func184,by kernel_rfl,by kernel_rfl⟩) JD (JX ih JE) (by kernel_rfl) ((q_Z13 ..).trans ((c_Z13_bind ..).trans (Jq hy)))⟩
noncomputable def e_Z13:JS:=m_Z13 (Z13)
theorem e_Z13_ok:(e_Z13).ok Try.prog (JB (Jw Try.f184) 3):=by
 intro R ds k r h
 unfold e_Z13 m_Z13 at h
 obtain ⟨_,_,rfl,h⟩:=Jd h
 obtain ⟨_,_,rfl,h⟩:=Jc h
 obtain ⟨_,_,rfl,h⟩:=Jc h
 obtain ⟨rfl,hE⟩:=Jk h
 obtain ⟨y,hy,hk⟩:=Jl hE
 obtain ⟨n,hn⟩:=QH hy
 exact m_Z13_ok n R _ k r ((Jq hn).trans hk)

/-!-/
def c_Z14 {R:Type} (x0:List D) (k:Int→Option R):Option R:=
 (Z13 x0 (0:Int) (0:Int)).bind (fun y0=>
 k y0)
theorem c_Z14_bind {R:Type} (x0:List D) (k:Int→Option R):c_Z14 x0 k=(c_Z14 x0 some).bind k:=by
 unfold c_Z14
 repeat' first
  | exact JQ
  | exact JP
  | exact JO
  | apply JL
  | apply JM
  | apply JR
  | (apply JN; intro _)
  | intro _
def Z14 (x0:List D):Option (Int):=c_Z14 x0 some
def e_Z14:Ent:=⟨184,[.rd (.int .i64)],[(.int .i64,[.undef])],fun _ ds k=>dL (fun x0 ds=>dE ((Z14 x0).bind (fun y=>k 0 [.I y])) ds) ds⟩
theorem q_Z14 (x0:List D):Qg (JG []) (JH [e_Z13]) A 184 Try.f184 (Sh.mks e_Z14.sh [.L x0]).1 (fun v os=>some (v,os))=c_Z14 x0 (fun y=>Qm e_Z14 0 [.I y]):=by kernel_rfl
theorem e_Z14_ok:e_Z14.ok Try.prog A:=by
 intro R ds k r h
 unfold e_Z14 at h
 obtain ⟨_,_,rfl,h⟩:=Jd h
 obtain ⟨rfl,hE⟩:=Jk h
 obtain ⟨y,hy,hk⟩:=Jl hE
 exact ⟨0,_,_,_,hk,rfl,Qn px (fx:=⟨Try.func184,by kernel_rfl,by kernel_rfl⟩) JD (JX e_Z13_ok JE) ((q_Z14 ..).trans ((c_Z14_bind ..).trans (Jq hy)))⟩

/-!-/
def c_Z15 {R:Type} (x0:List D) (x1:Int) (k:Int→Option R):Option R:=
 (Z14 x0).bind (fun y0=>
 bif decide (y0=(0:Int)) then
 k (0:Int)
 else
 if 0≤x1∧x1<(↑x0.length:Int) then
 if y0≠(0:Int) then
 k (IntKind.i64.wrap ((IntKind.i64.wrap ((1000:Int) * (x0.getD x1.toNat (D.int 0)).toInt)).tdiv y0))
 else
 none
 else
 none)
theorem c_Z15_bind {R:Type} (x0:List D) (x1:Int) (k:Int→Option R):c_Z15 x0 x1 k=(c_Z15 x0 x1 some).bind k:=by
 unfold c_Z15
 repeat' first
  | exact JQ
  | exact JP
  | exact JO
  | apply JL
  | apply JM
  | apply JR
  | (apply JN; intro _)
  | intro _
def Z15 (x0:List D) (x1:Int):Option (Int):=c_Z15 x0 x1 some
def e_Z15:Ent:=⟨183,[.rd (.int .i64),.int .i64],[(.int .i64,[.undef,.undef])],fun _ ds k=>dL (fun x0 ds=>dI (fun x1 ds=>dE ((Z15 x0 x1).bind (fun y=>k 0 [.I y])) ds) ds) ds⟩
theorem q_Z15 (x0:List D) (x1:Int):Qg (JG [e_Z14]) (JH []) A 183 Try.f183 (Sh.mks e_Z15.sh [.L x0,.I x1]).1 (fun v os=>some (v,os))=c_Z15 x0 x1 (fun y=>Qm e_Z15 0 [.I y]):=by kernel_rfl
theorem e_Z15_ok:e_Z15.ok Try.prog A:=by
 intro R ds k r h
 unfold e_Z15 at h
 obtain ⟨_,_,rfl,h⟩:=Jd h
 obtain ⟨_,_,rfl,h⟩:=Jc h
 obtain ⟨rfl,hE⟩:=Jk h
 obtain ⟨y,hy,hk⟩:=Jl hE
 exact ⟨0,_,_,_,hk,rfl,Qn px (fx:=⟨Try.func183,by kernel_rfl,by kernel_rfl⟩) (J4 e_Z14_ok JD) JE ((q_Z15 ..).trans ((c_Z15_bind ..).trans (Jq hy)))⟩

/-!-/
def c_Z16 {R:Type} (x0 x1:Int) (k:Int→Option R):Option R:=
 bif decide (x1<x0) then
 k x0
 else
 k x1
theorem c_Z16_bind {R:Type} (x0 x1:Int) (k:Int→Option R):c_Z16 x0 x1 k=(c_Z16 x0 x1 some).bind k:=by
 unfold c_Z16
 repeat' first
  | exact JQ
  | exact JP
  | exact JO
  | apply JL
  | apply JM
  | apply JR
  | (apply JN; intro _)
  | intro _
def Z16 (x0 x1:Int):Option (Int):=c_Z16 x0 x1 some
def e_Z16:Ent:=⟨93,[.int .i64,.int .i64],[(.int .i64,[.undef,.undef])],fun _ ds k=>dI (fun x0 ds=>dI (fun x1 ds=>dE ((Z16 x0 x1).bind (fun y=>k 0 [.I y])) ds) ds) ds⟩
theorem q_Z16 (x0 x1:Int):Qg (JG []) (JH []) A 93 Try.f93 (Sh.mks e_Z16.sh [.I x0,.I x1]).1 (fun v os=>some (v,os))=c_Z16 x0 x1 (fun y=>Qm e_Z16 0 [.I y]):=by kernel_rfl
theorem e_Z16_ok:e_Z16.ok Try.prog A:=by
 intro R ds k r h
 unfold e_Z16 at h
 obtain ⟨_,_,rfl,h⟩:=Jc h
 obtain ⟨_,_,rfl,h⟩:=Jc h
 obtain ⟨rfl,hE⟩:=Jk h
 obtain ⟨y,hy,hk⟩:=Jl hE
 exact ⟨0,_,_,_,hk,rfl,Qn px (fx:=⟨Try.func93,by kernel_rfl,by kernel_rfl⟩) JD JE ((q_Z16 ..).trans ((c_Z16_bind ..).trans (Jq hy)))⟩

/-!-/
abbrev T_Z17:=Int→Int→Int→Int→List D→Option (Int)
def c_Z17 {R:Type} (F:T_Z17) (x0 x1 x2 x3:Int) (x4:List D) (k:Int→Option R):Option R:=
 if 0≤x0∧x0<(↑x4.length:Int) then
 bif decide (x3<(↑(x4.getD x0.toNat (D.int 0)).items.length:Int)) then
 if 0≤x0∧x0<(↑x4.length:Int) then
 (Z15 ((x4.getD x0.toNat (D.int 0)).items) x3).bind (fun y0=>
 if 0≤x1∧x1<(↑x4.length:Int) then
 (Z15 ((x4.getD x1.toNat (D.int 0)).items) x3).bind (fun y1=>
 (Z16 (IntKind.i64.wrap (y0 - y1)) (IntKind.i64.wrap (y1 - y0))).bind (fun y2=>
 (F x0 x1 (IntKind.i64.wrap (x2+y2)) (IntKind.i64.wrap (x3+1)) x4).bind k))
 else
 none)
 else
 none
 else
 k x2
 else
 none
theorem c_Z17_bind {R:Type} (F:T_Z17) (x0 x1 x2 x3:Int) (x4:List D) (k:Int→Option R):c_Z17 F x0 x1 x2 x3 x4 k=(c_Z17 F x0 x1 x2 x3 x4 some).bind k:=by
 unfold c_Z17
 repeat' first
  | exact JQ
  | exact JP
  | exact JO
  | apply JL
  | apply JM
  | apply JR
  | (apply JN; intro _)
  | intro _
def n_Z17:Nat→T_Z17
 | 0,_,_,_,_,_=>none
 | n+1,x0,x1,x2,x3,x4=>c_Z17 (n_Z17 n) x0 x1 x2 x3 x4 some
noncomputable def Z17 (x0 x1 x2 x3:Int) (x4:List D):Option (Int):=ev (fun n=>n_Z17 n x0 x1 x2 x3 x4)
def m_Z17 (F:T_Z17):JS:=⟨3,⟨(.undef::.int .i64::.int .i64::.ptr 1000 [0]::.undef::.undef::.undef::.int .i64::.int .i64::uu 36 ([])),[(1000,.obox (.agg [.rd (.slice (.int .i64))]))]⟩,[(.exit 0,⟨(uu 7 (.int .i64::uu 37 ([]))),[]⟩)],fun _ ds k=>dI (fun x0 ds=>dI (fun x1 ds=>dI (fun x2 ds=>dI (fun x3 ds=>dL (fun x4 ds=>dE ((F x0 x1 x2 x3 x4).bind (fun y=>k 0 [.I y])) ds) ds) ds) ds) ds) ds⟩
theorem q_Z17 (F:T_Z17) (x0 x1 x2 x3:Int) (x4:List D):QJ (JG [e_Z15,e_Z16]) (JH [m_Z17 F]) A 179 (JB (Jw Try.f179) 3) ((m_Z17 F).sh.mk' [.I x0,.I x1,.I x2,.I x3,.L x4]) (fun e σ'=>some (e,σ'))=c_Z17 F x0 x1 x2 x3 x4 (fun y=>some (.exit 0,SSt.mk' ⟨(uu 7 (.int .i64::uu 37 ([]))),[]⟩ [.I y])):=by kernel_rfl
theorem m_Z17_ok:∀ n,(m_Z17 (n_Z17 n)).ok Try.prog (JB (Jw Try.f179) 3):=by
 intro n
 induction n with
 | zero=>
  intro R ds k r h
  unfold m_Z17 at h
  obtain ⟨_,_,rfl,h⟩:=Jc h
  obtain ⟨_,_,rfl,h⟩:=Jc h
  obtain ⟨_,_,rfl,h⟩:=Jc h
  obtain ⟨_,_,rfl,h⟩:=Jc h
  obtain ⟨_,_,rfl,h⟩:=Jd h
  obtain ⟨rfl,hE⟩:=Jk h
  obtain ⟨y,hy,hk⟩:=Jl hE
  cases hy
 | succ n ih=>
  intro R ds k r h
  unfold m_Z17 at h
  obtain ⟨_,_,rfl,h⟩:=Jc h
  obtain ⟨_,_,rfl,h⟩:=Jc h
  obtain ⟨_,_,rfl,h⟩:=Jc h
  obtain ⟨_,_,rfl,h⟩:=Jc h
  obtain ⟨_,_,rfl,h⟩:=Jd h
  obtain ⟨rfl,hE⟩:=Jk h
  obtain ⟨y,hy,hk⟩:=Jl hE
  exact ⟨0,_,_,_,hk,rfl,Qy px (fx:=⟨Try.func179,by kernel_rfl,by kernel_rfl⟩) (J4 e_Z15_ok (J4 e_Z16_ok JD)) (JX ih JE) (by kernel_rfl) ((q_Z17 ..).trans ((c_Z17_bind ..).trans (Jq hy)))⟩
noncomputable def e_Z17:JS:=m_Z17 (Z17)
theorem e_Z17_ok:(e_Z17).ok Try.prog (JB (Jw Try.f179) 3):=by
 intro R ds k r h
 unfold e_Z17 m_Z17 at h
 obtain ⟨_,_,rfl,h⟩:=Jc h
 obtain ⟨_,_,rfl,h⟩:=Jc h
 obtain ⟨_,_,rfl,h⟩:=Jc h
 obtain ⟨_,_,rfl,h⟩:=Jc h
 obtain ⟨_,_,rfl,h⟩:=Jd h
 obtain ⟨rfl,hE⟩:=Jk h
 obtain ⟨y,hy,hk⟩:=Jl hE
 obtain ⟨n,hn⟩:=QH hy
 exact m_Z17_ok n R _ k r ((Jq hn).trans hk)

/-!-/
def c_Z18 {R:Type} (x0:List D) (x1 x2:Int) (k:Int→Option R):Option R:=
 (Z17 x1 x2 (0:Int) (0:Int) x0).bind (fun y0=>
 k y0)
theorem c_Z18_bind {R:Type} (x0:List D) (x1 x2:Int) (k:Int→Option R):c_Z18 x0 x1 x2 k=(c_Z18 x0 x1 x2 some).bind k:=by
 unfold c_Z18
 repeat' first
  | exact JQ
  | exact JP
  | exact JO
  | apply JL
  | apply JM
  | apply JR
  | (apply JN; intro _)
  | intro _
def Z18 (x0:List D) (x1 x2:Int):Option (Int):=c_Z18 x0 x1 x2 some
def e_Z18:Ent:=⟨179,[.agg [.rd (.slice (.int .i64))],.int .i64,.int .i64],[(.int .i64,[.undef,.undef,.undef])],fun _ ds k=>dL (fun x0 ds=>dI (fun x1 ds=>dI (fun x2 ds=>dE ((Z18 x0 x1 x2).bind (fun y=>k 0 [.I y])) ds) ds) ds) ds⟩
theorem q_Z18 (x0:List D) (x1 x2:Int):Qg (JG []) (JH [e_Z17]) A 179 Try.f179 (Sh.mks e_Z18.sh [.L x0,.I x1,.I x2]).1 (fun v os=>some (v,os))=c_Z18 x0 x1 x2 (fun y=>Qm e_Z18 0 [.I y]):=by kernel_rfl
theorem e_Z18_ok:e_Z18.ok Try.prog A:=by
 intro R ds k r h
 unfold e_Z18 at h
 obtain ⟨_,_,rfl,h⟩:=Jd h
 obtain ⟨_,_,rfl,h⟩:=Jc h
 obtain ⟨_,_,rfl,h⟩:=Jc h
 obtain ⟨rfl,hE⟩:=Jk h
 obtain ⟨y,hy,hk⟩:=Jl hE
 exact ⟨0,_,_,_,hk,rfl,Qn px (fx:=⟨Try.func179,by kernel_rfl,by kernel_rfl⟩) JD (JX e_Z17_ok JE) ((q_Z18 ..).trans ((c_Z18_bind ..).trans (Jq hy)))⟩

/-!-/
abbrev T_Z19:=List D→Int→Int→List D→Option (Int)
def c_Z19 {R:Type} (F:T_Z19) (x0:List D) (x1 x2:Int) (x3:List D) (k:Int→Option R):Option R:=
 bif decide (x2<(↑x0.length:Int)) then
 if (0:Int)≤IntKind.i64.wrap (x2 - 1)∧IntKind.i64.wrap (x2 - 1)<(↑x0.length:Int) then
 if 0≤x2∧x2<(↑x0.length:Int) then
 (Z18 x3 ((x0.getD (IntKind.i64.wrap (x2 - 1)).toNat (D.int 0)).toInt) ((x0.getD x2.toNat (D.int 0)).toInt)).bind (fun y0=>
 (F x0 (IntKind.i64.wrap (x1+y0)) (IntKind.i64.wrap (x2+1)) x3).bind k)
 else
 none
 else
 none
 else
 k x1
theorem c_Z19_bind {R:Type} (F:T_Z19) (x0:List D) (x1 x2:Int) (x3:List D) (k:Int→Option R):c_Z19 F x0 x1 x2 x3 k=(c_Z19 F x0 x1 x2 x3 some).bind k:=by
 unfold c_Z19
 repeat' first
  | exact JQ
  | exact JP
  | exact JO
  | apply JL
  | apply JM
  | apply JR
  | (apply JN; intro _)
  | intro _
def n_Z19:Nat→T_Z19
 | 0,_,_,_,_=>none
 | n+1,x0,x1,x2,x3=>c_Z19 (n_Z19 n) x0 x1 x2 x3 some
noncomputable def Z19 (x0:List D) (x1 x2:Int) (x3:List D):Option (Int):=ev (fun n=>n_Z19 n x0 x1 x2 x3)
def m_Z19 (F:T_Z19):JS:=⟨3,⟨(.undef::.rd (.int .i64)::.ptr 1000 [0]::.undef::.undef::.int .i64::.int .i64::uu 20 ([])),[(1000,.obox (.agg [.rd (.slice (.int .i64))]))]⟩,[(.exit 0,⟨(uu 5 (.int .i64::uu 21 ([]))),[]⟩)],fun _ ds k=>dL (fun x0 ds=>dI (fun x1 ds=>dI (fun x2 ds=>dL (fun x3 ds=>dE ((F x0 x1 x2 x3).bind (fun y=>k 0 [.I y])) ds) ds) ds) ds) ds⟩
theorem q_Z19 (F:T_Z19) (x0:List D) (x1 x2:Int) (x3:List D):QJ (JG [e_Z18]) (JH [m_Z19 F]) A 164 (JB (Jw Try.f164) 3) ((m_Z19 F).sh.mk' [.L x0,.I x1,.I x2,.L x3]) (fun e σ'=>some (e,σ'))=c_Z19 F x0 x1 x2 x3 (fun y=>some (.exit 0,SSt.mk' ⟨(uu 5 (.int .i64::uu 21 ([]))),[]⟩ [.I y])):=by kernel_rfl
theorem m_Z19_ok:∀ n,(m_Z19 (n_Z19 n)).ok Try.prog (JB (Jw Try.f164) 3):=by
 intro n
 induction n with
 | zero=>
  intro R ds k r h
  unfold m_Z19 at h
  obtain ⟨_,_,rfl,h⟩:=Jd h
  obtain ⟨_,_,rfl,h⟩:=Jc h
  obtain ⟨_,_,rfl,h⟩:=Jc h
  obtain ⟨_,_,rfl,h⟩:=Jd h
  obtain ⟨rfl,hE⟩:=Jk h
  obtain ⟨y,hy,hk⟩:=Jl hE
  cases hy
 | succ n ih=>
  intro R ds k r h
  unfold m_Z19 at h
  obtain ⟨_,_,rfl,h⟩:=Jd h
  obtain ⟨_,_,rfl,h⟩:=Jc h
  obtain ⟨_,_,rfl,h⟩:=Jc h
  obtain ⟨_,_,rfl,h⟩:=Jd h
  obtain ⟨rfl,hE⟩:=Jk h
  obtain ⟨y,hy,hk⟩:=Jl hE
  exact ⟨0,_,_,_,hk,rfl,Qy px (fx:=⟨Try.func164,by kernel_rfl,by kernel_rfl⟩) (J4 e_Z18_ok JD) (JX ih JE) (by kernel_rfl) ((q_Z19 ..).trans ((c_Z19_bind ..).trans (Jq hy)))⟩
noncomputable def e_Z19:JS:=m_Z19 (Z19)
theorem e_Z19_ok:(e_Z19).ok Try.prog (JB (Jw Try.f164) 3):=by
 intro R ds k r h
 unfold e_Z19 m_Z19 at h
 obtain ⟨_,_,rfl,h⟩:=Jd h
 obtain ⟨_,_,rfl,h⟩:=Jc h
 obtain ⟨_,_,rfl,h⟩:=Jc h
 obtain ⟨_,_,rfl,h⟩:=Jd h
 obtain ⟨rfl,hE⟩:=Jk h
 obtain ⟨y,hy,hk⟩:=Jl hE
 obtain ⟨n,hn⟩:=QH hy
 exact m_Z19_ok n R _ k r ((Jq hn).trans hk)

/-!-/
def c_Z20 {R:Type} (x0 x1:List D) (k:Int→Option R):Option R:=
 (Z19 x1 (0:Int) (1:Int) x0).bind (fun y0=>
 k y0)
theorem c_Z20_bind {R:Type} (x0 x1:List D) (k:Int→Option R):c_Z20 x0 x1 k=(c_Z20 x0 x1 some).bind k:=by
 unfold c_Z20
 repeat' first
  | exact JQ
  | exact JP
  | exact JO
  | apply JL
  | apply JM
  | apply JR
  | (apply JN; intro _)
  | intro _
def Z20 (x0 x1:List D):Option (Int):=c_Z20 x0 x1 some
def e_Z20:Ent:=⟨164,[.agg [.rd (.slice (.int .i64))],.rd (.int .i64)],[(.int .i64,[.undef,.undef])],fun _ ds k=>dL (fun x0 ds=>dL (fun x1 ds=>dE ((Z20 x0 x1).bind (fun y=>k 0 [.I y])) ds) ds) ds⟩
theorem q_Z20 (x0 x1:List D):Qg (JG []) (JH [e_Z19]) A 164 Try.f164 (Sh.mks e_Z20.sh [.L x0,.L x1]).1 (fun v os=>some (v,os))=c_Z20 x0 x1 (fun y=>Qm e_Z20 0 [.I y]):=by kernel_rfl
theorem e_Z20_ok:e_Z20.ok Try.prog A:=by
 intro R ds k r h
 unfold e_Z20 at h
 obtain ⟨_,_,rfl,h⟩:=Jd h
 obtain ⟨_,_,rfl,h⟩:=Jd h
 obtain ⟨rfl,hE⟩:=Jk h
 obtain ⟨y,hy,hk⟩:=Jl hE
 exact ⟨0,_,_,_,hk,rfl,Qn px (fx:=⟨Try.func164,by kernel_rfl,by kernel_rfl⟩) JD (JX e_Z19_ok JE) ((q_Z20 ..).trans ((c_Z20_bind ..).trans (Jq hy)))⟩

/-!-/
abbrev T_Z21:=List D→Int→Int→Int→Int→List D→Option (Int×Int)
def c_Z21 {R:Type} (F:T_Z21) (x0:List D) (x1 x2 x3 x4:Int) (x5:List D) (k:Int×Int→Option R):Option R:=
 bif decide (x4<(↑x0.length:Int)) then
 if 0≤x4∧x4<(↑x0.length:Int) then
 if (0:Int)≤(x0.getD x4.toNat (D.int 0)).toInt∧(x0.getD x4.toNat (D.int 0)).toInt<(↑x5.length:Int) then
 if 0≤x1∧x1<(↑(x5.getD (x0.getD x4.toNat (D.int 0)).toInt.toNat (D.int 0)).items.length:Int) then
 bif decide ((0:Int)<((x5.getD (x0.getD x4.toNat (D.int 0)).toInt.toNat (D.int 0)).items.getD x1.toNat (D.int 0)).toInt) then
 bif decide (x2<(0:Int)) then
 (F x0 x1 x4 x4 (IntKind.i64.wrap (x4+1)) x5).bind k
 else
 (F x0 x1 x2 x4 (IntKind.i64.wrap (x4+1)) x5).bind k
 else
 (F x0 x1 x2 x3 (IntKind.i64.wrap (x4+1)) x5).bind k
 else
 none
 else
 none
 else
 none
 else
 k (x2,x3)
theorem c_Z21_bind {R:Type} (F:T_Z21) (x0:List D) (x1 x2 x3 x4:Int) (x5:List D) (k:Int×Int→Option R):c_Z21 F x0 x1 x2 x3 x4 x5 k=(c_Z21 F x0 x1 x2 x3 x4 x5 some).bind k:=by
 unfold c_Z21
 repeat' first
  | exact JQ
  | exact JP
  | exact JO
  | apply JL
  | apply JM
  | apply JR
  | (apply JN; intro _)
  | intro _
def n_Z21:Nat→T_Z21
 | 0,_,_,_,_,_,_=>none
 | n+1,x0,x1,x2,x3,x4,x5=>c_Z21 (n_Z21 n) x0 x1 x2 x3 x4 x5 some
noncomputable def Z21 (x0:List D) (x1 x2 x3 x4:Int) (x5:List D):Option (Int×Int):=ev (fun n=>n_Z21 n x0 x1 x2 x3 x4 x5)
def m_Z21 (F:T_Z21):JS:=⟨3,⟨(.undef::.rd (.int .i64)::.int .i64::.ptr 1000 [0]::uu 4 (.int .i64::.int .i64::.int .i64::uu 24 ([]))),[(1000,.obox (.agg [.rd (.slice (.int .i64))]))]⟩,[(.exit 0,⟨(uu 8 (.int .i64::.int .i64::uu 25 ([]))),[]⟩)],fun _ ds k=>dL (fun x0 ds=>dI (fun x1 ds=>dI (fun x2 ds=>dI (fun x3 ds=>dI (fun x4 ds=>dL (fun x5 ds=>dE ((F x0 x1 x2 x3 x4 x5).bind (fun y=>k 0 [.I y.1,.I y.2])) ds) ds) ds) ds) ds) ds) ds⟩
theorem q_Z21 (F:T_Z21) (x0:List D) (x1 x2 x3 x4:Int) (x5:List D):QJ (JG []) (JH [m_Z21 F]) A 180 (JB (Jw Try.f180) 3) ((m_Z21 F).sh.mk' [.L x0,.I x1,.I x2,.I x3,.I x4,.L x5]) (fun e σ'=>some (e,σ'))=c_Z21 F x0 x1 x2 x3 x4 x5 (fun y=>some (.exit 0,SSt.mk' ⟨(uu 8 (.int .i64::.int .i64::uu 25 ([]))),[]⟩ [.I y.1,.I y.2])):=by kernel_rfl
theorem m_Z21_ok:∀ n,(m_Z21 (n_Z21 n)).ok Try.prog (JB (Jw Try.f180) 3):=by
 intro n
 induction n with
 | zero=>
  intro R ds k r h
  unfold m_Z21 at h
  obtain ⟨_,_,rfl,h⟩:=Jd h
  obtain ⟨_,_,rfl,h⟩:=Jc h
  obtain ⟨_,_,rfl,h⟩:=Jc h
  obtain ⟨_,_,rfl,h⟩:=Jc h
  obtain ⟨_,_,rfl,h⟩:=Jc h
  obtain ⟨_,_,rfl,h⟩:=Jd h
  obtain ⟨rfl,hE⟩:=Jk h
  obtain ⟨y,hy,hk⟩:=Jl hE
  cases hy
 | succ n ih=>
  intro R ds k r h
  unfold m_Z21 at h
  obtain ⟨_,_,rfl,h⟩:=Jd h
  obtain ⟨_,_,rfl,h⟩:=Jc h
  obtain ⟨_,_,rfl,h⟩:=Jc h
  obtain ⟨_,_,rfl,h⟩:=Jc h
  obtain ⟨_,_,rfl,h⟩:=Jc h
  obtain ⟨_,_,rfl,h⟩:=Jd h
  obtain ⟨rfl,hE⟩:=Jk h
  obtain ⟨y,hy,hk⟩:=Jl hE
  exact ⟨0,_,_,_,hk,rfl,Qy px (fx:=⟨Try.func180,by kernel_rfl,by kernel_rfl⟩) JD (JX ih JE) (by kernel_rfl) ((q_Z21 ..).trans ((c_Z21_bind ..).trans (Jq hy)))⟩
noncomputable def e_Z21:JS:=m_Z21 (Z21)
theorem e_Z21_ok:(e_Z21).ok Try.prog (JB (Jw Try.f180) 3):=by
 intro R ds k r h
 unfold e_Z21 m_Z21 at h
 obtain ⟨_,_,rfl,h⟩:=Jd h
 obtain ⟨_,_,rfl,h⟩:=Jc h
 obtain ⟨_,_,rfl,h⟩:=Jc h
 obtain ⟨_,_,rfl,h⟩:=Jc h
 obtain ⟨_,_,rfl,h⟩:=Jc h
 obtain ⟨_,_,rfl,h⟩:=Jd h
 obtain ⟨rfl,hE⟩:=Jk h
 obtain ⟨y,hy,hk⟩:=Jl hE
 obtain ⟨n,hn⟩:=QH hy
 exact m_Z21_ok n R _ k r ((Jq hn).trans hk)

/-!-/
def c_Z22 {R:Type} (x0 x1:List D) (x2:Int) (k:Int×Int→Option R):Option R:=
 (Z21 x1 x2 (-1:Int) (-1:Int) (0:Int) x0).bind (fun y0=>
 k (y0.fst,y0.snd))
theorem c_Z22_bind {R:Type} (x0 x1:List D) (x2:Int) (k:Int×Int→Option R):c_Z22 x0 x1 x2 k=(c_Z22 x0 x1 x2 some).bind k:=by
 unfold c_Z22
 repeat' first
  | exact JQ
  | exact JP
  | exact JO
  | apply JL
  | apply JM
  | apply JR
  | (apply JN; intro _)
  | intro _
def Z22 (x0 x1:List D) (x2:Int):Option (Int×Int):=c_Z22 x0 x1 x2 some
def e_Z22:Ent:=⟨180,[.agg [.rd (.slice (.int .i64))],.rd (.int .i64),.int .i64],[(.tup [.int .i64,.int .i64],[.undef,.undef,.undef])],fun _ ds k=>dL (fun x0 ds=>dL (fun x1 ds=>dI (fun x2 ds=>dE ((Z22 x0 x1 x2).bind (fun y=>k 0 [.I y.1,.I y.2])) ds) ds) ds) ds⟩
theorem q_Z22 (x0 x1:List D) (x2:Int):Qg (JG []) (JH [e_Z21]) A 180 Try.f180 (Sh.mks e_Z22.sh [.L x0,.L x1,.I x2]).1 (fun v os=>some (v,os))=c_Z22 x0 x1 x2 (fun y=>Qm e_Z22 0 [.I y.1,.I y.2]):=by kernel_rfl
theorem e_Z22_ok:e_Z22.ok Try.prog A:=by
 intro R ds k r h
 unfold e_Z22 at h
 obtain ⟨_,_,rfl,h⟩:=Jd h
 obtain ⟨_,_,rfl,h⟩:=Jd h
 obtain ⟨_,_,rfl,h⟩:=Jc h
 obtain ⟨rfl,hE⟩:=Jk h
 obtain ⟨y,hy,hk⟩:=Jl hE
 exact ⟨0,_,_,_,hk,rfl,Qn px (fx:=⟨Try.func180,by kernel_rfl,by kernel_rfl⟩) JD (JX e_Z21_ok JE) ((q_Z22 ..).trans ((c_Z22_bind ..).trans (Jq hy)))⟩

/-!-/
abbrev T_Z23:=List D→Int→Int→Int→Int→List D→Option (List D×Int×Int×List D)
def c_Z23 {R:Type} (F:T_Z23) (x0:List D) (x1 x2 x3 x4:Int) (x5:List D) (k:List D×Int×Int×List D→Option R):Option R:=
 bif decide (x4<x3) then
 if 0≤x4∧x4<(↑x0.length:Int) then
 if (0:Int)≤(x0.getD x4.toNat (D.int 0)).toInt∧(x0.getD x4.toNat (D.int 0)).toInt<(↑x5.length:Int) then
 if 0≤x2∧x2<(↑(x5.getD (x0.getD x4.toNat (D.int 0)).toInt.toNat (D.int 0)).items.length:Int) then
 bif decide (((x5.getD (x0.getD x4.toNat (D.int 0)).toInt.toNat (D.int 0)).items.getD x2.toNat (D.int 0)).toInt=(0:Int)) then
 (F x0 (IntKind.i64.wrap (x1+1)) x2 x3 (IntKind.i64.wrap (x4+1)) x5).bind k
 else
 (F x0 x1 x2 x3 (IntKind.i64.wrap (x4+1)) x5).bind k
 else
 none
 else
 none
 else
 none
 else
 k (x0,x1,x2,x5)
theorem c_Z23_bind {R:Type} (F:T_Z23) (x0:List D) (x1 x2 x3 x4:Int) (x5:List D) (k:List D×Int×Int×List D→Option R):c_Z23 F x0 x1 x2 x3 x4 x5 k=(c_Z23 F x0 x1 x2 x3 x4 x5 some).bind k:=by
 unfold c_Z23
 repeat' first
  | exact JQ
  | exact JP
  | exact JO
  | apply JL
  | apply JM
  | apply JR
  | (apply JN; intro _)
  | intro _
def n_Z23:Nat→T_Z23
 | 0,_,_,_,_,_,_=>none
 | n+1,x0,x1,x2,x3,x4,x5=>c_Z23 (n_Z23 n) x0 x1 x2 x3 x4 x5 some
noncomputable def Z23 (x0:List D) (x1 x2 x3 x4:Int) (x5:List D):Option (List D×Int×Int×List D):=ev (fun n=>n_Z23 n x0 x1 x2 x3 x4 x5)
def m_Z23 (F:T_Z23):JS:=⟨7,⟨(.undef::.rd (.int .i64)::.ptr 1000 [0]::.undef::.undef::.int .i64::.int .i64::.undef::.int .i64::.int .i64::uu 37 ([])),[(1000,.obox (.agg [.rd (.slice (.int .i64))]))]⟩,[(.exit 2,⟨(.undef::.rd (.int .i64)::.ptr 1000 [0]::.undef::.undef::.int .i64::.int .i64::uu 40 ([])),[(1000,.obox (.agg [.rd (.slice (.int .i64))]))]⟩)],fun _ ds k=>dL (fun x0 ds=>dI (fun x1 ds=>dI (fun x2 ds=>dI (fun x3 ds=>dI (fun x4 ds=>dL (fun x5 ds=>dE ((F x0 x1 x2 x3 x4 x5).bind (fun y=>k 0 [.L y.1,.I y.2.1,.I y.2.2.1,.L y.2.2.2])) ds) ds) ds) ds) ds) ds) ds⟩
theorem q_Z23 (F:T_Z23) (x0:List D) (x1 x2 x3 x4:Int) (x5:List D):QJ (JG []) (JH [m_Z23 F]) A 165 (JB (Jw Try.f165) 7) ((m_Z23 F).sh.mk' [.L x0,.I x1,.I x2,.I x3,.I x4,.L x5]) (fun e σ'=>some (e,σ'))=c_Z23 F x0 x1 x2 x3 x4 x5 (fun y=>some (.exit 2,SSt.mk' ⟨(.undef::.rd (.int .i64)::.ptr 1000 [0]::.undef::.undef::.int .i64::.int .i64::uu 40 ([])),[(1000,.obox (.agg [.rd (.slice (.int .i64))]))]⟩ [.L y.1,.I y.2.1,.I y.2.2.1,.L y.2.2.2])):=by kernel_rfl
theorem m_Z23_ok:∀ n,(m_Z23 (n_Z23 n)).ok Try.prog (JB (Jw Try.f165) 7):=by
 intro n
 induction n with
 | zero=>
  intro R ds k r h
  unfold m_Z23 at h
  obtain ⟨_,_,rfl,h⟩:=Jd h
  obtain ⟨_,_,rfl,h⟩:=Jc h
  obtain ⟨_,_,rfl,h⟩:=Jc h
  obtain ⟨_,_,rfl,h⟩:=Jc h
  obtain ⟨_,_,rfl,h⟩:=Jc h
  obtain ⟨_,_,rfl,h⟩:=Jd h
  obtain ⟨rfl,hE⟩:=Jk h
  obtain ⟨y,hy,hk⟩:=Jl hE
  cases hy
 | succ n ih=>
  intro R ds k r h
  unfold m_Z23 at h
  obtain ⟨_,_,rfl,h⟩:=Jd h
  obtain ⟨_,_,rfl,h⟩:=Jc h
  obtain ⟨_,_,rfl,h⟩:=Jc h
  obtain ⟨_,_,rfl,h⟩:=Jc h
  obtain ⟨_,_,rfl,h⟩:=Jc h
  obtain ⟨_,_,rfl,h⟩:=Jd h
  obtain ⟨rfl,hE⟩:=Jk h
  obtain ⟨y,hy,hk⟩:=Jl hE
  exact ⟨0,_,_,_,hk,rfl,Qy px (fx:=⟨Try.func165,by kernel_rfl,by kernel_rfl⟩) JD (JX ih JE) (by kernel_rfl) ((q_Z23 ..).trans ((c_Z23_bind ..).trans (Jq hy)))⟩
noncomputable def e_Z23:JS:=m_Z23 (Z23)
theorem e_Z23_ok:(e_Z23).ok Try.prog (JB (Jw Try.f165) 7):=by
 intro R ds k r h
 unfold e_Z23 m_Z23 at h
 obtain ⟨_,_,rfl,h⟩:=Jd h
 obtain ⟨_,_,rfl,h⟩:=Jc h
 obtain ⟨_,_,rfl,h⟩:=Jc h
 obtain ⟨_,_,rfl,h⟩:=Jc h
 obtain ⟨_,_,rfl,h⟩:=Jc h
 obtain ⟨_,_,rfl,h⟩:=Jd h
 obtain ⟨rfl,hE⟩:=Jk h
 obtain ⟨y,hy,hk⟩:=Jl hE
 obtain ⟨n,hn⟩:=QH hy
 exact m_Z23_ok n R _ k r ((Jq hn).trans hk)

/-!-/
abbrev T_Z24:=List D→Int→Int→List D→Option (Int)
def c_Z24 {R:Type} (F:T_Z24) (x0:List D) (x1 x2:Int) (x3:List D) (k:Int→Option R):Option R:=
 if (0:Int)≤(0:Int)∧(0:Int)<(↑x3.length:Int) then
 bif decide (x2<(↑(x3.getD (Int.toNat (0:Int)) (D.int 0)).items.length:Int)) then
 (Z22 x3 x0 x2).bind (fun y0=>
 (Z23 x0 x1 x2 y0.snd y0.fst x3).bind (fun y1=>
 (F y1.fst y1.snd.fst (IntKind.i64.wrap (y1.snd.snd.fst+1)) y1.snd.snd.snd).bind k))
 else
 k x1
 else
 none
theorem c_Z24_bind {R:Type} (F:T_Z24) (x0:List D) (x1 x2:Int) (x3:List D) (k:Int→Option R):c_Z24 F x0 x1 x2 x3 k=(c_Z24 F x0 x1 x2 x3 some).bind k:=by
 unfold c_Z24
 repeat' first
  | exact JQ
  | exact JP
  | exact JO
  | apply JL
  | apply JM
  | apply JR
  | (apply JN; intro _)
  | intro _
def n_Z24:Nat→T_Z24
 | 0,_,_,_,_=>none
 | n+1,x0,x1,x2,x3=>c_Z24 (n_Z24 n) x0 x1 x2 x3 some
noncomputable def Z24 (x0:List D) (x1 x2:Int) (x3:List D):Option (Int):=ev (fun n=>n_Z24 n x0 x1 x2 x3)
def m_Z24 (F:T_Z24):JS:=⟨3,⟨(.undef::.rd (.int .i64)::.ptr 1000 [0]::.undef::.undef::.int .i64::.int .i64::uu 40 ([])),[(1000,.obox (.agg [.rd (.slice (.int .i64))]))]⟩,[(.exit 0,⟨(uu 5 (.int .i64::uu 41 ([]))),[]⟩)],fun _ ds k=>dL (fun x0 ds=>dI (fun x1 ds=>dI (fun x2 ds=>dL (fun x3 ds=>dE ((F x0 x1 x2 x3).bind (fun y=>k 0 [.I y])) ds) ds) ds) ds) ds⟩
theorem q_Z24 (F:T_Z24) (x0:List D) (x1 x2:Int) (x3:List D):QJ (JG [e_Z22]) (JH [m_Z24 F,e_Z23]) A 165 (JB (Jw Try.f165) 3) ((m_Z24 F).sh.mk' [.L x0,.I x1,.I x2,.L x3]) (fun e σ'=>some (e,σ'))=c_Z24 F x0 x1 x2 x3 (fun y=>some (.exit 0,SSt.mk' ⟨(uu 5 (.int .i64::uu 41 ([]))),[]⟩ [.I y])):=by kernel_rfl
theorem m_Z24_ok:∀ n,(m_Z24 (n_Z24 n)).ok Try.prog (JB (Jw Try.f165) 3):=by
 intro n
 induction n with
 | zero=>
  intro R ds k r h
  unfold m_Z24 at h
  obtain ⟨_,_,rfl,h⟩:=Jd h
  obtain ⟨_,_,rfl,h⟩:=Jc h
  obtain ⟨_,_,rfl,h⟩:=Jc h
  obtain ⟨_,_,rfl,h⟩:=Jd h
  obtain ⟨rfl,hE⟩:=Jk h
  obtain ⟨y,hy,hk⟩:=Jl hE
  cases hy
 | succ n ih=>
  intro R ds k r h
  unfold m_Z24 at h
  obtain ⟨_,_,rfl,h⟩:=Jd h
  obtain ⟨_,_,rfl,h⟩:=Jc h
  obtain ⟨_,_,rfl,h⟩:=Jc h
  obtain ⟨_,_,rfl,h⟩:=Jd h
  obtain ⟨rfl,hE⟩:=Jk h
  obtain ⟨y,hy,hk⟩:=Jl hE
  exact ⟨0,_,_,_,hk,rfl,Qy px (fx:=⟨Try.func165,by kernel_rfl,by kernel_rfl⟩) (J4 e_Z22_ok JD) (JX ih (JX e_Z23_ok JE)) (by kernel_rfl) ((q_Z24 ..).trans ((c_Z24_bind ..).trans (Jq hy)))⟩
noncomputable def e_Z24:JS:=m_Z24 (Z24)
theorem e_Z24_ok:(e_Z24).ok Try.prog (JB (Jw Try.f165) 3):=by
 intro R ds k r h
 unfold e_Z24 m_Z24 at h
 obtain ⟨_,_,rfl,h⟩:=Jd h
 obtain ⟨_,_,rfl,h⟩:=Jc h
 obtain ⟨_,_,rfl,h⟩:=Jc h
 obtain ⟨_,_,rfl,h⟩:=Jd h
 obtain ⟨rfl,hE⟩:=Jk h
 obtain ⟨y,hy,hk⟩:=Jl hE
 obtain ⟨n,hn⟩:=QH hy
 exact m_Z24_ok n R _ k r ((Jq hn).trans hk)

/-!-/
def c_Z25 {R:Type} (x0 x1:List D) (k:Int→Option R):Option R:=
 (Z24 x1 (0:Int) (0:Int) x0).bind (fun y0=>
 k y0)
theorem c_Z25_bind {R:Type} (x0 x1:List D) (k:Int→Option R):c_Z25 x0 x1 k=(c_Z25 x0 x1 some).bind k:=by
 unfold c_Z25
 repeat' first
  | exact JQ
  | exact JP
  | exact JO
  | apply JL
  | apply JM
  | apply JR
  | (apply JN; intro _)
  | intro _
def Z25 (x0 x1:List D):Option (Int):=c_Z25 x0 x1 some
def e_Z25:Ent:=⟨165,[.agg [.rd (.slice (.int .i64))],.rd (.int .i64)],[(.int .i64,[.undef,.undef])],fun _ ds k=>dL (fun x0 ds=>dL (fun x1 ds=>dE ((Z25 x0 x1).bind (fun y=>k 0 [.I y])) ds) ds) ds⟩
theorem q_Z25 (x0 x1:List D):Qg (JG []) (JH [e_Z24]) A 165 Try.f165 (Sh.mks e_Z25.sh [.L x0,.L x1]).1 (fun v os=>some (v,os))=c_Z25 x0 x1 (fun y=>Qm e_Z25 0 [.I y]):=by kernel_rfl
theorem e_Z25_ok:e_Z25.ok Try.prog A:=by
 intro R ds k r h
 unfold e_Z25 at h
 obtain ⟨_,_,rfl,h⟩:=Jd h
 obtain ⟨_,_,rfl,h⟩:=Jd h
 obtain ⟨rfl,hE⟩:=Jk h
 obtain ⟨y,hy,hk⟩:=Jl hE
 exact ⟨0,_,_,_,hk,rfl,Qn px (fx:=⟨Try.func165,by kernel_rfl,by kernel_rfl⟩) JD (JX e_Z24_ok JE) ((q_Z25 ..).trans ((c_Z25_bind ..).trans (Jq hy)))⟩

/-!-/
abbrev T_Z26:=List D→Int→Int→Option ((Bool)⊕(Unit))
def c_Z26 {R:Type} (F:T_Z26) (x0:List D) (x1 x2:Int) (k:(Bool)⊕(Unit)→Option R):Option R:=
 bif decide (x2<(↑x0.length:Int)) then
 if 0≤x2∧x2<(↑x0.length:Int) then
 bif decide ((x0.getD x2.toNat (D.int 0)).toInt=x1) then
 k (.inl Bool.true)
 else
 (F x0 x1 (IntKind.i64.wrap (x2+1))).bind k
 else
 none
 else
 k (.inr ())
theorem c_Z26_bind {R:Type} (F:T_Z26) (x0:List D) (x1 x2:Int) (k:(Bool)⊕(Unit)→Option R):c_Z26 F x0 x1 x2 k=(c_Z26 F x0 x1 x2 some).bind k:=by
 unfold c_Z26
 repeat' first
  | exact JQ
  | exact JP
  | exact JO
  | apply JL
  | apply JM
  | apply JR
  | (apply JN; intro _)
  | intro _
def n_Z26:Nat→T_Z26
 | 0,_,_,_=>none
 | n+1,x0,x1,x2=>c_Z26 (n_Z26 n) x0 x1 x2 some
noncomputable def Z26 (x0:List D) (x1 x2:Int):Option ((Bool)⊕(Unit)):=ev (fun n=>n_Z26 n x0 x1 x2)
def m_Z26 (F:T_Z26):JS:=⟨2,⟨(.rd (.int .i64)::.int .i64::.undef::.undef::.undef::.int .i64::uu 12 ([])),[]⟩,[(.ret,⟨(uu 4 (.bool::uu 13 ([]))),[]⟩),(.exit 0,⟨(uu 18 ([])),[]⟩)],fun _ ds k=>dL (fun x0 ds=>dI (fun x1 ds=>dI (fun x2 ds=>dE ((F x0 x1 x2).bind (Sum.elim (fun y=>k 0 [.B y]) (fun y=>k 1 []))) ds) ds) ds) ds⟩
theorem q_Z26 (F:T_Z26) (x0:List D) (x1 x2:Int):QJ (JG []) (JH [m_Z26 F]) A 131 (JB (Jw Try.f131) 2) ((m_Z26 F).sh.mk' [.L x0,.I x1,.I x2]) (fun e σ'=>some (e,σ'))=c_Z26 F x0 x1 x2 (Sum.elim (fun y=>some (.ret,SSt.mk' ⟨(uu 4 (.bool::uu 13 ([]))),[]⟩ [.B y])) (fun y=>some (.exit 0,SSt.mk' ⟨(uu 18 ([])),[]⟩ []))):=by kernel_rfl
theorem m_Z26_ok:∀ n,(m_Z26 (n_Z26 n)).ok Try.prog (JB (Jw Try.f131) 2):=by
 intro n
 induction n with
 | zero=>
  intro R ds k r h
  unfold m_Z26 at h
  obtain ⟨_,_,rfl,h⟩:=Jd h
  obtain ⟨_,_,rfl,h⟩:=Jc h
  obtain ⟨_,_,rfl,h⟩:=Jc h
  obtain ⟨rfl,hE⟩:=Jk h
  obtain ⟨y,hy,hk⟩:=Jl hE
  cases hy
 | succ n ih=>
  intro R ds k r h
  unfold m_Z26 at h
  obtain ⟨_,_,rfl,h⟩:=Jd h
  obtain ⟨_,_,rfl,h⟩:=Jc h
  obtain ⟨_,_,rfl,h⟩:=Jc h
  obtain ⟨rfl,hE⟩:=Jk h
  obtain ⟨y,hy,hk⟩:=Jl hE
  cases y with
  | inl y=>
   exact ⟨0,_,_,_,hk,rfl,Qy px (fx:=⟨Try.func131,by kernel_rfl,by kernel_rfl⟩) JD (JX ih JE) (by kernel_rfl) ((q_Z26 ..).trans ((c_Z26_bind ..).trans (Jq hy)))⟩
  | inr y=>
   exact ⟨1,_,_,_,hk,rfl,Qy px (fx:=⟨Try.func131,by kernel_rfl,by kernel_rfl⟩) JD (JX ih JE) (by kernel_rfl) ((q_Z26 ..).trans ((c_Z26_bind ..).trans (Jq hy)))⟩
noncomputable def e_Z26:JS:=m_Z26 (Z26)
theorem e_Z26_ok:(e_Z26).ok Try.prog (JB (Jw Try.f131) 2):=by
 intro R ds k r h
 unfold e_Z26 m_Z26 at h
 obtain ⟨_,_,rfl,h⟩:=Jd h
 obtain ⟨_,_,rfl,h⟩:=Jc h
 obtain ⟨_,_,rfl,h⟩:=Jc h
 obtain ⟨rfl,hE⟩:=Jk h
 obtain ⟨y,hy,hk⟩:=Jl hE
 obtain ⟨n,hn⟩:=QH hy
 exact m_Z26_ok n R _ k r ((Jq hn).trans hk)

/-!-/
def c_Z27 {R:Type} (x0:List D) (x1:Int) (k:Bool→Option R):Option R:=
 (Z26 x0 x1 (0:Int)).bind (Sum.elim (fun y0=>
 k y0) (fun y1=>
 k Bool.false))
theorem c_Z27_bind {R:Type} (x0:List D) (x1:Int) (k:Bool→Option R):c_Z27 x0 x1 k=(c_Z27 x0 x1 some).bind k:=by
 unfold c_Z27
 repeat' first
  | exact JQ
  | exact JP
  | exact JO
  | apply JL
  | apply JM
  | apply JR
  | (apply JN; intro _)
  | intro _
def Z27 (x0:List D) (x1:Int):Option (Bool):=c_Z27 x0 x1 some
def e_Z27:Ent:=⟨131,[.rd (.int .i64),.int .i64],[(.bool,[.undef,.undef])],fun _ ds k=>dL (fun x0 ds=>dI (fun x1 ds=>dE ((Z27 x0 x1).bind (fun y=>k 0 [.B y])) ds) ds) ds⟩
theorem q_Z27 (x0:List D) (x1:Int):Qg (JG []) (JH [e_Z26]) A 131 Try.f131 (Sh.mks e_Z27.sh [.L x0,.I x1]).1 (fun v os=>some (v,os))=c_Z27 x0 x1 (fun y=>Qm e_Z27 0 [.B y]):=by kernel_rfl
theorem e_Z27_ok:e_Z27.ok Try.prog A:=by
 intro R ds k r h
 unfold e_Z27 at h
 obtain ⟨_,_,rfl,h⟩:=Jd h
 obtain ⟨_,_,rfl,h⟩:=Jc h
 obtain ⟨rfl,hE⟩:=Jk h
 obtain ⟨y,hy,hk⟩:=Jl hE
 exact ⟨0,_,_,_,hk,rfl,Qn px (fx:=⟨Try.func131,by kernel_rfl,by kernel_rfl⟩) JD (JX e_Z26_ok JE) ((q_Z27 ..).trans ((c_Z27_bind ..).trans (Jq hy)))⟩

/-!-/
def c_Z28 {R:Type} (x0:List D) (k:List D→Option R):Option R:=
 if ([]:List D).length+x0.length≤(4294967296:Nat) then
 k ([]++x0)
 else
 none
theorem c_Z28_bind {R:Type} (x0:List D) (k:List D→Option R):c_Z28 x0 k=(c_Z28 x0 some).bind k:=by
 unfold c_Z28
 repeat' first
  | exact JQ
  | exact JP
  | exact JO
  | apply JL
  | apply JM
  | apply JR
  | (apply JN; intro _)
  | intro _
def Z28 (x0:List D):Option (List D):=c_Z28 x0 some
def e_Z28:Ent:=⟨123,[.rd (.int .i64)],[(.own (.int .i64),[.undef])],fun _ ds k=>dL (fun x0 ds=>dE ((Z28 x0).bind (fun y=>k 0 [.L y])) ds) ds⟩
theorem q_Z28 (x0:List D):Qg (JG []) (JH []) A 123 Try.f123 (Sh.mks e_Z28.sh [.L x0]).1 (fun v os=>some (v,os))=c_Z28 x0 (fun y=>Qm e_Z28 0 [.L y]):=by kernel_rfl
theorem e_Z28_ok:e_Z28.ok Try.prog A:=by
 intro R ds k r h
 unfold e_Z28 at h
 obtain ⟨_,_,rfl,h⟩:=Jd h
 obtain ⟨rfl,hE⟩:=Jk h
 obtain ⟨y,hy,hk⟩:=Jl hE
 exact ⟨0,_,_,_,hk,rfl,Qn px (fx:=⟨Try.func123,by kernel_rfl,by kernel_rfl⟩) JD JE ((q_Z28 ..).trans ((c_Z28_bind ..).trans (Jq hy)))⟩

def m_Z30 (F:List D→Bool→List D→Int→List D→Option (List D×Bool×List D×Int)):Ent:=⟨135,[.obox (.agg [.agg [.own (.slice (.int .i64))],.bool,.own (.int .i64),.int .i64]),.own (.int .i64)],[(.tup [],[.obox (.agg [.agg [.own (.slice (.int .i64))],.bool,.own (.int .i64),.int .i64]),.undef])],fun _ ds k=>dL (fun x0 ds=>dB (fun x1 ds=>dL (fun x2 ds=>dI (fun x3 ds=>dL (fun x4 ds=>dE ((F x0 x1 x2 x3 x4).bind (fun y=>k 0 [.L y.1,.B y.2.1,.L y.2.2.1,.I y.2.2.2])) ds) ds) ds) ds) ds) ds⟩

/-!-/
abbrev R_Z29:=List D×Bool×List D×Int
abbrev T_Z29:=Int→Int→List D→Bool→List D→Int→List D→Option R_Z29
def c_Z29 {R:Type} (G_spec_l16Search_extend:List D→Bool→List D→Int→List D→Option (R_Z29)) (F:T_Z29) (x0 x1:Int) (x2:List D) (x3:Bool) (x4:List D) (x5:Int) (x6:List D) (k:R_Z29→Option R):Option R:=
 bif decide (x1<x0) then
 (Z27 x6 x1).bind (fun y0=>
 bif !y0 then
 (Z28 x6).bind (fun y1=>
 if y1.length+[D.int x1].length≤(4294967296:Nat) then
 (G_spec_l16Search_extend x2 x3 x4 x5 (y1++[D.int x1])).bind (fun y2=>
 (F x0 (IntKind.i64.wrap (x1+1)) y2.fst y2.snd.fst y2.snd.snd.fst y2.snd.snd.snd x6).bind k)
 else
 none)
 else
 (F x0 (IntKind.i64.wrap (x1+1)) x2 x3 x4 x5 x6).bind k)
 else
 k (x2,x3,x4,x5)
theorem c_Z29_bind {R:Type} (G_spec_l16Search_extend:List D→Bool→List D→Int→List D→Option (R_Z29)) (F:T_Z29) (x0 x1:Int) (x2:List D) (x3:Bool) (x4:List D) (x5:Int) (x6:List D) (k:R_Z29→Option R):c_Z29 G_spec_l16Search_extend F x0 x1 x2 x3 x4 x5 x6 k=(c_Z29 G_spec_l16Search_extend F x0 x1 x2 x3 x4 x5 x6 some).bind k:=by
 unfold c_Z29
 repeat' first
  | exact JQ
  | exact JP
  | exact JO
  | apply JL
  | apply JM
  | apply JR
  | (apply JN; intro _)
  | intro _
def n_Z29 (G_spec_l16Search_extend:List D→Bool→List D→Int→List D→Option (R_Z29)):Nat→Int→Int→List D→Bool→List D→Int→List D→Option (R_Z29)
 | 0,_,_,_,_,_,_,_=>none
 | n+1,x0,x1,x2,x3,x4,x5,x6=>c_Z29 G_spec_l16Search_extend (n_Z29 G_spec_l16Search_extend n) x0 x1 x2 x3 x4 x5 x6 some
noncomputable def Z29 (G_spec_l16Search_extend:List D→Bool→List D→Int→List D→Option (R_Z29)) (x0 x1:Int) (x2:List D) (x3:Bool) (x4:List D) (x5:Int) (x6:List D):Option (R_Z29):=ev (fun n=>n_Z29 G_spec_l16Search_extend n x0 x1 x2 x3 x4 x5 x6)
def m_Z29 (F:T_Z29):JS:=⟨9,⟨(.ptr 1000 [0]::.full 1001 [] (.int .i64)::.undef::.undef::.int .i64::.undef::.int .i64::uu 64 ([])),[(1000,.obox (.agg [.agg [.own (.slice (.int .i64))],.bool,.own (.int .i64),.int .i64])),(1001,.own (.int .i64))]⟩,[(.exit 0,⟨(.ptr 1000 [0]::uu 70 ([])),[(1000,.obox (.agg [.agg [.own (.slice (.int .i64))],.bool,.own (.int .i64),.int .i64]))]⟩)],fun _ ds k=>dI (fun x0 ds=>dI (fun x1 ds=>dL (fun x2 ds=>dB (fun x3 ds=>dL (fun x4 ds=>dI (fun x5 ds=>dL (fun x6 ds=>dE ((F x0 x1 x2 x3 x4 x5 x6).bind (fun y=>k 0 [.L y.1,.B y.2.1,.L y.2.2.1,.I y.2.2.2])) ds) ds) ds) ds) ds) ds) ds) ds⟩
theorem q_Z29 (G_spec_l16Search_extend:List D→Bool→List D→Int→List D→Option (R_Z29)) (F:T_Z29) (x0 x1:Int) (x2:List D) (x3:Bool) (x4:List D) (x5:Int) (x6:List D):QJ (JG [e_Z27,e_Z28,m_Z30 G_spec_l16Search_extend]) (JH [m_Z29 F]) A 135 (JB (Jw Try.f135) 9) ((m_Z29 F).sh.mk' [.I x0,.I x1,.L x2,.B x3,.L x4,.I x5,.L x6]) (fun e σ'=>some (e,σ'))=c_Z29 G_spec_l16Search_extend F x0 x1 x2 x3 x4 x5 x6 (fun y=>some (.exit 0,SSt.mk' ⟨(.ptr 1000 [0]::uu 70 ([])),[(1000,.obox (.agg [.agg [.own (.slice (.int .i64))],.bool,.own (.int .i64),.int .i64]))]⟩ [.L y.1,.B y.2.1,.L y.2.2.1,.I y.2.2.2])):=by kernel_rfl
theorem m_Z29_ok (G_spec_l16Search_extend:List D→Bool→List D→Int→List D→Option (R_Z29)) (hG_spec_l16Search_extend:(m_Z30 G_spec_l16Search_extend).ok Try.prog A):∀ n,(m_Z29 (n_Z29 G_spec_l16Search_extend n)).ok Try.prog (JB (Jw Try.f135) 9):=by
 intro n
 induction n with
 | zero=>
  intro R ds k r h
  unfold m_Z29 at h
  obtain ⟨_,_,rfl,h⟩:=Jc h
  obtain ⟨_,_,rfl,h⟩:=Jc h
  obtain ⟨_,_,rfl,h⟩:=Jd h
  obtain ⟨_,_,rfl,h⟩:=OH h
  obtain ⟨_,_,rfl,h⟩:=Jd h
  obtain ⟨_,_,rfl,h⟩:=Jc h
  obtain ⟨_,_,rfl,h⟩:=Jd h
  obtain ⟨rfl,hE⟩:=Jk h
  obtain ⟨y,hy,hk⟩:=Jl hE
  cases hy
 | succ n ih=>
  intro R ds k r h
  unfold m_Z29 at h
  obtain ⟨_,_,rfl,h⟩:=Jc h
  obtain ⟨_,_,rfl,h⟩:=Jc h
  obtain ⟨_,_,rfl,h⟩:=Jd h
  obtain ⟨_,_,rfl,h⟩:=OH h
  obtain ⟨_,_,rfl,h⟩:=Jd h
  obtain ⟨_,_,rfl,h⟩:=Jc h
  obtain ⟨_,_,rfl,h⟩:=Jd h
  obtain ⟨rfl,hE⟩:=Jk h
  obtain ⟨y,hy,hk⟩:=Jl hE
  exact ⟨0,_,_,_,hk,rfl,Qy px (fx:=⟨Try.func135,by kernel_rfl,by kernel_rfl⟩) (J4 e_Z27_ok (J4 e_Z28_ok (J4 hG_spec_l16Search_extend JD))) (JX ih JE) (by kernel_rfl) ((q_Z29 ..).trans ((c_Z29_bind ..).trans (Jq hy)))⟩
noncomputable def e_Z29 (G_spec_l16Search_extend:List D→Bool→List D→Int→List D→Option (R_Z29)):JS:=m_Z29 (Z29 G_spec_l16Search_extend)
theorem e_Z29_ok (G_spec_l16Search_extend:List D→Bool→List D→Int→List D→Option (R_Z29)) (hG_spec_l16Search_extend:(m_Z30 G_spec_l16Search_extend).ok Try.prog A):(e_Z29 G_spec_l16Search_extend).ok Try.prog (JB (Jw Try.f135) 9):=by
 intro R ds k r h
 unfold e_Z29 m_Z29 at h
 obtain ⟨_,_,rfl,h⟩:=Jc h
 obtain ⟨_,_,rfl,h⟩:=Jc h
 obtain ⟨_,_,rfl,h⟩:=Jd h
 obtain ⟨_,_,rfl,h⟩:=OH h
 obtain ⟨_,_,rfl,h⟩:=Jd h
 obtain ⟨_,_,rfl,h⟩:=Jc h
 obtain ⟨_,_,rfl,h⟩:=Jd h
 obtain ⟨rfl,hE⟩:=Jk h
 obtain ⟨y,hy,hk⟩:=Jl hE
 obtain ⟨n,hn⟩:=QH hy
 exact m_Z29_ok G_spec_l16Search_extend hG_spec_l16Search_extend n R _ k r ((Jq hn).trans hk)

/-!-/
abbrev T_Z30:=List D→Bool→List D→Int→List D→Option (List D×Bool×List D×Int)
def c_Z30 {R:Type} (F:T_Z30) (x0:List D) (x1:Bool) (x2:List D) (x3:Int) (x4:List D) (k:List D×Bool×List D×Int→Option R):Option R:=
 bif decide ((↑x4.length:Int)=(↑x0.length:Int)) then
 (Z20 x0 x4).bind (fun y0=>
 bif x1 then
 (Z25 x0 x4).bind (fun y1=>
 bif decide ((↑x2.length:Int)=(0:Int)) then
 k (x0,x1,x4,y1)
 else
 bif decide (y1<x3) then
 k (x0,x1,x4,y1)
 else
 k (x0,x1,x2,x3))
 else
 bif decide ((↑x2.length:Int)=(0:Int)) then
 k (x0,x1,x4,y0)
 else
 bif decide (y0<x3) then
 k (x0,x1,x4,y0)
 else
 k (x0,x1,x2,x3))
 else
 (Z29 F (↑x0.length:Int) (0:Int) x0 x1 x2 x3 x4).bind (fun y2=>
 k (y2.fst,y2.snd.fst,y2.snd.snd.fst,y2.snd.snd.snd))
theorem c_Z30_bind {R:Type} (F:T_Z30) (x0:List D) (x1:Bool) (x2:List D) (x3:Int) (x4:List D) (k:List D×Bool×List D×Int→Option R):c_Z30 F x0 x1 x2 x3 x4 k=(c_Z30 F x0 x1 x2 x3 x4 some).bind k:=by
 unfold c_Z30
 repeat' first
  | exact JQ
  | exact JP
  | exact JO
  | apply JL
  | apply JM
  | apply JR
  | (apply JN; intro _)
  | intro _
def n_Z30:Nat→T_Z30
 | 0,_,_,_,_,_=>none
 | n+1,x0,x1,x2,x3,x4=>c_Z30 (n_Z30 n) x0 x1 x2 x3 x4 some
noncomputable def Z30 (x0:List D) (x1:Bool) (x2:List D) (x3:Int) (x4:List D):Option (List D×Bool×List D×Int):=ev (fun n=>n_Z30 n x0 x1 x2 x3 x4)
theorem q_Z30 (F:T_Z30) (x0:List D) (x1:Bool) (x2:List D) (x3:Int) (x4:List D):Qg (JG [e_Z20,e_Z25]) (JH [e_Z29 F]) A 135 Try.f135 (Sh.mks (m_Z30 F).sh [.L x0,.B x1,.L x2,.I x3,.L x4]).1 (fun v os=>some (v,os))=c_Z30 F x0 x1 x2 x3 x4 (fun y=>Qm (m_Z30 F) 0 [.L y.1,.B y.2.1,.L y.2.2.1,.I y.2.2.2]):=by kernel_rfl
theorem m_Z30_ok:∀ n,(m_Z30 (n_Z30 n)).ok Try.prog A:=by
 intro n
 induction n with
 | zero=>
  intro R ds k r h
  unfold m_Z30 at h
  obtain ⟨_,_,rfl,h⟩:=Jd h
  obtain ⟨_,_,rfl,h⟩:=OH h
  obtain ⟨_,_,rfl,h⟩:=Jd h
  obtain ⟨_,_,rfl,h⟩:=Jc h
  obtain ⟨_,_,rfl,h⟩:=Jd h
  obtain ⟨rfl,hE⟩:=Jk h
  obtain ⟨y,hy,hk⟩:=Jl hE
  cases hy
 | succ n ih=>
  intro R ds k r h
  unfold m_Z30 at h
  obtain ⟨_,_,rfl,h⟩:=Jd h
  obtain ⟨_,_,rfl,h⟩:=OH h
  obtain ⟨_,_,rfl,h⟩:=Jd h
  obtain ⟨_,_,rfl,h⟩:=Jc h
  obtain ⟨_,_,rfl,h⟩:=Jd h
  obtain ⟨rfl,hE⟩:=Jk h
  obtain ⟨y,hy,hk⟩:=Jl hE
  have hme:=ih
  exact ⟨0,_,_,_,hk,rfl,Qn px (fx:=⟨Try.func135,by kernel_rfl,by kernel_rfl⟩) (J4 e_Z20_ok (J4 e_Z25_ok JD)) (JX (e_Z29_ok _ hme) JE) ((q_Z30 ..).trans ((c_Z30_bind ..).trans (Jq hy)))⟩
def e_Z30:Ent:=m_Z30 Z30
theorem e_Z30_ok:e_Z30.ok Try.prog A:=by
 intro R ds k r h
 unfold e_Z30 m_Z30 at h
 obtain ⟨_,_,rfl,h⟩:=Jd h
 obtain ⟨_,_,rfl,h⟩:=OH h
 obtain ⟨_,_,rfl,h⟩:=Jd h
 obtain ⟨_,_,rfl,h⟩:=Jc h
 obtain ⟨_,_,rfl,h⟩:=Jd h
 obtain ⟨rfl,hE⟩:=Jk h
 obtain ⟨y,hy,hk⟩:=Jl hE
 obtain ⟨n,hn⟩:=QH hy
 exact m_Z30_ok n R _ k r ((Jq hn).trans hk)

/-!-/
def c_Z31 {R:Type} (x0:List D) (x1:Bool) (k:List D×Int→Option R):Option R:=
 (Z30 x0 x1 [] (0:Int) []).bind (fun y0=>
 k (y0.snd.snd.fst,y0.snd.snd.snd))
theorem c_Z31_bind {R:Type} (x0:List D) (x1:Bool) (k:List D×Int→Option R):c_Z31 x0 x1 k=(c_Z31 x0 x1 some).bind k:=by
 unfold c_Z31
 repeat' first
  | exact JQ
  | exact JP
  | exact JO
  | apply JL
  | apply JM
  | apply JR
  | (apply JN; intro _)
  | intro _
def Z31 (x0:List D) (x1:Bool):Option (List D×Int):=c_Z31 x0 x1 some
def e_Z31:Ent:=⟨109,[.agg [.own (.slice (.int .i64))],.bool],[(.tup [.own (.int .i64),.int .i64],[.undef,.undef])],fun _ ds k=>dL (fun x0 ds=>dB (fun x1 ds=>dE ((Z31 x0 x1).bind (fun y=>k 0 [.L y.1,.I y.2])) ds) ds) ds⟩
theorem q_Z31 (x0:List D) (x1:Bool):Qg (JG [e_Z30]) (JH []) A 109 Try.f109 (Sh.mks e_Z31.sh [.L x0,.B x1]).1 (fun v os=>some (v,os))=c_Z31 x0 x1 (fun y=>Qm e_Z31 0 [.L y.1,.I y.2]):=by kernel_rfl
theorem e_Z31_ok:e_Z31.ok Try.prog A:=by
 intro R ds k r h
 unfold e_Z31 at h
 obtain ⟨_,_,rfl,h⟩:=Jd h
 obtain ⟨_,_,rfl,h⟩:=OH h
 obtain ⟨rfl,hE⟩:=Jk h
 obtain ⟨y,hy,hk⟩:=Jl hE
 exact ⟨0,_,_,_,hk,rfl,Qn px (fx:=⟨Try.func109,by kernel_rfl,by kernel_rfl⟩) (J4 e_Z30_ok JD) JE ((q_Z31 ..).trans ((c_Z31_bind ..).trans (Jq hy)))⟩

/-!-/
def c_Z32 {R:Type} (x0:List D) (k:Bool×Bool→Option R):Option R:=
 (Z12 x0).bind (fun y0=>
 bif !y0 then
 k (Bool.false,Bool.false)
 else
 (Z31 x0 Bool.true).bind (fun y1=>
 k (decide (y1.snd=(0:Int)),Bool.true)))
theorem c_Z32_bind {R:Type} (x0:List D) (k:Bool×Bool→Option R):c_Z32 x0 k=(c_Z32 x0 some).bind k:=by
 unfold c_Z32
 repeat' first
  | exact JQ
  | exact JP
  | exact JO
  | apply JL
  | apply JM
  | apply JR
  | (apply JN; intro _)
  | intro _
def Z32 (x0:List D):Option (Bool×Bool):=c_Z32 x0 some
def e_Z32:Ent:=⟨51,[.agg [.own (.slice (.int .i64))]],[(.tup [.bool,.bool],[.undef])],fun _ ds k=>dL (fun x0 ds=>dE ((Z32 x0).bind (fun y=>k 0 [.B y.1,.B y.2])) ds) ds⟩
theorem q_Z32 (x0:List D):Qg (JG [e_Z12,e_Z31]) (JH []) A 51 Try.f51 (Sh.mks e_Z32.sh [.L x0]).1 (fun v os=>some (v,os))=c_Z32 x0 (fun y=>Qm e_Z32 0 [.B y.1,.B y.2]):=by kernel_rfl
theorem e_Z32_ok:e_Z32.ok Try.prog A:=by
 intro R ds k r h
 unfold e_Z32 at h
 obtain ⟨_,_,rfl,h⟩:=Jd h
 obtain ⟨rfl,hE⟩:=Jk h
 obtain ⟨y,hy,hk⟩:=Jl hE
 exact ⟨0,_,_,_,hk,rfl,Qn px (fx:=⟨Try.func51,by kernel_rfl,by kernel_rfl⟩) (J4 e_Z12_ok (J4 e_Z31_ok JD)) JE ((q_Z32 ..).trans ((c_Z32_bind ..).trans (Jq hy)))⟩

/-!-/
def c_Z33 {R:Type} (x0 x1 x2:Int) (k:Bool→Option R):Option R:=
 bif decide (x1≤x0) then
 k (decide (x0≤x2))
 else
 k Bool.false
theorem c_Z33_bind {R:Type} (x0 x1 x2:Int) (k:Bool→Option R):c_Z33 x0 x1 x2 k=(c_Z33 x0 x1 x2 some).bind k:=by
 unfold c_Z33
 repeat' first
  | exact JQ
  | exact JP
  | exact JO
  | apply JL
  | apply JM
  | apply JR
  | (apply JN; intro _)
  | intro _
def Z33 (x0 x1 x2:Int):Option (Bool):=c_Z33 x0 x1 x2 some
def e_Z33:Ent:=⟨88,[.int .i64,.int .i64,.int .i64],[(.bool,[.undef,.undef,.undef])],fun _ ds k=>dI (fun x0 ds=>dI (fun x1 ds=>dI (fun x2 ds=>dE ((Z33 x0 x1 x2).bind (fun y=>k 0 [.B y])) ds) ds) ds) ds⟩
theorem q_Z33 (x0 x1 x2:Int):Qg (JG []) (JH []) A 88 Try.f88 (Sh.mks e_Z33.sh [.I x0,.I x1,.I x2]).1 (fun v os=>some (v,os))=c_Z33 x0 x1 x2 (fun y=>Qm e_Z33 0 [.B y]):=by kernel_rfl
theorem e_Z33_ok:e_Z33.ok Try.prog A:=by
 intro R ds k r h
 unfold e_Z33 at h
 obtain ⟨_,_,rfl,h⟩:=Jc h
 obtain ⟨_,_,rfl,h⟩:=Jc h
 obtain ⟨_,_,rfl,h⟩:=Jc h
 obtain ⟨rfl,hE⟩:=Jk h
 obtain ⟨y,hy,hk⟩:=Jl hE
 exact ⟨0,_,_,_,hk,rfl,Qn px (fx:=⟨Try.func88,by kernel_rfl,by kernel_rfl⟩) JD JE ((q_Z33 ..).trans ((c_Z33_bind ..).trans (Jq hy)))⟩

/-!-/
def c_Z34 {R:Type} (x0:Int) (k:Bool→Option R):Option R:=
 (Z33 x0 (0:Int) (1000:Int)).bind (fun y0=>
 k !y0)
theorem c_Z34_bind {R:Type} (x0:Int) (k:Bool→Option R):c_Z34 x0 k=(c_Z34 x0 some).bind k:=by
 unfold c_Z34
 repeat' first
  | exact JQ
  | exact JP
  | exact JO
  | apply JL
  | apply JM
  | apply JR
  | (apply JN; intro _)
  | intro _
def Z34 (x0:Int):Option (Bool):=c_Z34 x0 some
def e_Z34:Ent:=⟨138,[.int .i64],[(.bool,[.undef])],fun _ ds k=>dI (fun x0 ds=>dE ((Z34 x0).bind (fun y=>k 0 [.B y])) ds) ds⟩
theorem q_Z34 (x0:Int):Qg (JG [e_Z33]) (JH []) A 138 Try.f138 (Sh.mks e_Z34.sh [.I x0]).1 (fun v os=>some (v,os))=c_Z34 x0 (fun y=>Qm e_Z34 0 [.B y]):=by kernel_rfl
theorem e_Z34_ok:e_Z34.ok Try.prog A:=by
 intro R ds k r h
 unfold e_Z34 at h
 obtain ⟨_,_,rfl,h⟩:=Jc h
 obtain ⟨rfl,hE⟩:=Jk h
 obtain ⟨y,hy,hk⟩:=Jl hE
 exact ⟨0,_,_,_,hk,rfl,Qn px (fx:=⟨Try.func138,by kernel_rfl,by kernel_rfl⟩) (J4 e_Z33_ok JD) JE ((q_Z34 ..).trans ((c_Z34_bind ..).trans (Jq hy)))⟩

/-!-/
abbrev T_Z35:=List D→Int→Int→Option ((Int)⊕(Unit))
def c_Z35 {R:Type} (F:T_Z35) (x0:List D) (x1 x2:Int) (k:(Int)⊕(Unit)→Option R):Option R:=
 bif decide (x2<x1) then
 if 0≤x2∧x2<(↑x0.length:Int) then
 (Z34 ((x0.getD x2.toNat (D.int 0)).toInt)).bind (fun y0=>
 bif y0 then
 k (.inl x2)
 else
 (F x0 x1 (IntKind.i64.wrap (x2+1))).bind k)
 else
 none
 else
 k (.inr ())
theorem c_Z35_bind {R:Type} (F:T_Z35) (x0:List D) (x1 x2:Int) (k:(Int)⊕(Unit)→Option R):c_Z35 F x0 x1 x2 k=(c_Z35 F x0 x1 x2 some).bind k:=by
 unfold c_Z35
 repeat' first
  | exact JQ
  | exact JP
  | exact JO
  | apply JL
  | apply JM
  | apply JR
  | (apply JN; intro _)
  | intro _
def n_Z35:Nat→T_Z35
 | 0,_,_,_=>none
 | n+1,x0,x1,x2=>c_Z35 (n_Z35 n) x0 x1 x2 some
noncomputable def Z35 (x0:List D) (x1 x2:Int):Option ((Int)⊕(Unit)):=ev (fun n=>n_Z35 n x0 x1 x2)
def m_Z35 (F:T_Z35):JS:=⟨2,⟨(.rd (.int .i64)::.fn 138 []::uu 5 (.int .i64::.int .i64::uu 10 ([]))),[]⟩,[(.ret,⟨(uu 4 (.int .i64::uu 14 ([]))),[]⟩),(.exit 0,⟨(uu 19 ([])),[]⟩)],fun _ ds k=>dL (fun x0 ds=>dI (fun x1 ds=>dI (fun x2 ds=>dE ((F x0 x1 x2).bind (Sum.elim (fun y=>k 0 [.I y]) (fun y=>k 1 []))) ds) ds) ds) ds⟩
theorem q_Z35 (F:T_Z35) (x0:List D) (x1 x2:Int):QJ (JG [e_Z34]) (JH [m_Z35 F]) A 166 (JB (Jw Try.f166) 2) ((m_Z35 F).sh.mk' [.L x0,.I x1,.I x2]) (fun e σ'=>some (e,σ'))=c_Z35 F x0 x1 x2 (Sum.elim (fun y=>some (.ret,SSt.mk' ⟨(uu 4 (.int .i64::uu 14 ([]))),[]⟩ [.I y])) (fun y=>some (.exit 0,SSt.mk' ⟨(uu 19 ([])),[]⟩ []))):=by kernel_rfl
theorem m_Z35_ok:∀ n,(m_Z35 (n_Z35 n)).ok Try.prog (JB (Jw Try.f166) 2):=by
 intro n
 induction n with
 | zero=>
  intro R ds k r h
  unfold m_Z35 at h
  obtain ⟨_,_,rfl,h⟩:=Jd h
  obtain ⟨_,_,rfl,h⟩:=Jc h
  obtain ⟨_,_,rfl,h⟩:=Jc h
  obtain ⟨rfl,hE⟩:=Jk h
  obtain ⟨y,hy,hk⟩:=Jl hE
  cases hy
 | succ n ih=>
  intro R ds k r h
  unfold m_Z35 at h
  obtain ⟨_,_,rfl,h⟩:=Jd h
  obtain ⟨_,_,rfl,h⟩:=Jc h
  obtain ⟨_,_,rfl,h⟩:=Jc h
  obtain ⟨rfl,hE⟩:=Jk h
  obtain ⟨y,hy,hk⟩:=Jl hE
  cases y with
  | inl y=>
   exact ⟨0,_,_,_,hk,rfl,Qy px (fx:=⟨Try.func166,by kernel_rfl,by kernel_rfl⟩) (J4 e_Z34_ok JD) (JX ih JE) (by kernel_rfl) ((q_Z35 ..).trans ((c_Z35_bind ..).trans (Jq hy)))⟩
  | inr y=>
   exact ⟨1,_,_,_,hk,rfl,Qy px (fx:=⟨Try.func166,by kernel_rfl,by kernel_rfl⟩) (J4 e_Z34_ok JD) (JX ih JE) (by kernel_rfl) ((q_Z35 ..).trans ((c_Z35_bind ..).trans (Jq hy)))⟩
noncomputable def e_Z35:JS:=m_Z35 (Z35)
theorem e_Z35_ok:(e_Z35).ok Try.prog (JB (Jw Try.f166) 2):=by
 intro R ds k r h
 unfold e_Z35 m_Z35 at h
 obtain ⟨_,_,rfl,h⟩:=Jd h
 obtain ⟨_,_,rfl,h⟩:=Jc h
 obtain ⟨_,_,rfl,h⟩:=Jc h
 obtain ⟨rfl,hE⟩:=Jk h
 obtain ⟨y,hy,hk⟩:=Jl hE
 obtain ⟨n,hn⟩:=QH hy
 exact m_Z35_ok n R _ k r ((Jq hn).trans hk)

/-!-/
def c_Z36 {R:Type} (x0:List D) (k:Int→Option R):Option R:=
 (Z35 x0 (↑x0.length:Int) (0:Int)).bind (Sum.elim (fun y0=>
 k y0) (fun y1=>
 k (-1:Int)))
theorem c_Z36_bind {R:Type} (x0:List D) (k:Int→Option R):c_Z36 x0 k=(c_Z36 x0 some).bind k:=by
 unfold c_Z36
 repeat' first
  | exact JQ
  | exact JP
  | exact JO
  | apply JL
  | apply JM
  | apply JR
  | (apply JN; intro _)
  | intro _
def Z36 (x0:List D):Option (Int):=c_Z36 x0 some
def e_Z36:Ent:=⟨166,[.rd (.int .i64),.fn 138 []],[(.int .i64,[.undef,.undef])],fun _ ds k=>dL (fun x0 ds=>dE ((Z36 x0).bind (fun y=>k 0 [.I y])) ds) ds⟩
theorem q_Z36 (x0:List D):Qg (JG []) (JH [e_Z35]) A 166 Try.f166 (Sh.mks e_Z36.sh [.L x0]).1 (fun v os=>some (v,os))=c_Z36 x0 (fun y=>Qm e_Z36 0 [.I y]):=by kernel_rfl
theorem e_Z36_ok:e_Z36.ok Try.prog A:=by
 intro R ds k r h
 unfold e_Z36 at h
 obtain ⟨_,_,rfl,h⟩:=Jd h
 obtain ⟨rfl,hE⟩:=Jk h
 obtain ⟨y,hy,hk⟩:=Jl hE
 exact ⟨0,_,_,_,hk,rfl,Qn px (fx:=⟨Try.func166,by kernel_rfl,by kernel_rfl⟩) JD (JX e_Z35_ok JE) ((q_Z36 ..).trans ((c_Z36_bind ..).trans (Jq hy)))⟩

/-!-/
def c_Z37 {R:Type} (x0:List D) (k:Bool→Option R):Option R:=
 (Z36 x0).bind (fun y0=>
 k (decide ((0:Int)≤y0)))
theorem c_Z37_bind {R:Type} (x0:List D) (k:Bool→Option R):c_Z37 x0 k=(c_Z37 x0 some).bind k:=by
 unfold c_Z37
 repeat' first
  | exact JQ
  | exact JP
  | exact JO
  | apply JL
  | apply JM
  | apply JR
  | (apply JN; intro _)
  | intro _
def Z37 (x0:List D):Option (Bool):=c_Z37 x0 some
def e_Z37:Ent:=⟨137,[.rd (.int .i64),.fn 138 []],[(.bool,[.undef,.undef])],fun _ ds k=>dL (fun x0 ds=>dE ((Z37 x0).bind (fun y=>k 0 [.B y])) ds) ds⟩
theorem q_Z37 (x0:List D):Qg (JG [e_Z36]) (JH []) A 137 Try.f137 (Sh.mks e_Z37.sh [.L x0]).1 (fun v os=>some (v,os))=c_Z37 x0 (fun y=>Qm e_Z37 0 [.B y]):=by kernel_rfl
theorem e_Z37_ok:e_Z37.ok Try.prog A:=by
 intro R ds k r h
 unfold e_Z37 at h
 obtain ⟨_,_,rfl,h⟩:=Jd h
 obtain ⟨rfl,hE⟩:=Jk h
 obtain ⟨y,hy,hk⟩:=Jl hE
 exact ⟨0,_,_,_,hk,rfl,Qn px (fx:=⟨Try.func137,by kernel_rfl,by kernel_rfl⟩) (J4 e_Z36_ok JD) JE ((q_Z37 ..).trans ((c_Z37_bind ..).trans (Jq hy)))⟩

/-!-/
abbrev T_Z38:=List D→Int→Int→List D→Option ((Bool)⊕(Unit))
def c_Z38 {R:Type} (F:T_Z38) (x0:List D) (x1 x2:Int) (x3:List D) (k:(Bool)⊕(Unit)→Option R):Option R:=
 bif decide (x2<x1) then
 if 0≤x2∧x2<(↑x0.length:Int) then
 (Z33 (↑(x0.getD x2.toNat (D.int 0)).items.length:Int) (1:Int) (10:Int)).bind (fun y0=>
 bif !y0 then
 k (.inl Bool.false)
 else
 if (0:Int)≤(0:Int)∧(0:Int)<(↑x3.length:Int) then
 bif !decide ((↑(x0.getD x2.toNat (D.int 0)).items.length:Int)=(↑(x3.getD (Int.toNat (0:Int)) (D.int 0)).items.length:Int)) then
 k (.inl Bool.false)
 else
 (Z37 ((x0.getD x2.toNat (D.int 0)).items)).bind (fun y1=>
 bif y1 then
 k (.inl Bool.false)
 else
 (F x0 x1 (IntKind.i64.wrap (x2+1)) x3).bind k)
 else
 none)
 else
 none
 else
 k (.inr ())
theorem c_Z38_bind {R:Type} (F:T_Z38) (x0:List D) (x1 x2:Int) (x3:List D) (k:(Bool)⊕(Unit)→Option R):c_Z38 F x0 x1 x2 x3 k=(c_Z38 F x0 x1 x2 x3 some).bind k:=by
 unfold c_Z38
 repeat' first
  | exact JQ
  | exact JP
  | exact JO
  | apply JL
  | apply JM
  | apply JR
  | (apply JN; intro _)
  | intro _
def n_Z38:Nat→T_Z38
 | 0,_,_,_,_=>none
 | n+1,x0,x1,x2,x3=>c_Z38 (n_Z38 n) x0 x1 x2 x3 some
noncomputable def Z38 (x0:List D) (x1 x2:Int) (x3:List D):Option ((Bool)⊕(Unit)):=ev (fun n=>n_Z38 n x0 x1 x2 x3)
def m_Z38 (F:T_Z38):JS:=⟨4,⟨(.undef::.ptr 1000 [0]::uu 9 (.rd (.slice (.int .i64))::.int .i64::.int .i64::uu 22 ([]))),[(1000,.obox (.agg [.rd (.slice (.int .i64))]))]⟩,[(.ret,⟨(.undef::.undef::.bool::uu 33 ([])),[]⟩),(.exit 0,⟨(uu 36 ([])),[]⟩)],fun _ ds k=>dL (fun x0 ds=>dI (fun x1 ds=>dI (fun x2 ds=>dL (fun x3 ds=>dE ((F x0 x1 x2 x3).bind (Sum.elim (fun y=>k 0 [.B y]) (fun y=>k 1 []))) ds) ds) ds) ds) ds⟩
theorem q_Z38 (F:T_Z38) (x0:List D) (x1 x2:Int) (x3:List D):QJ (JG [e_Z33,e_Z37]) (JH [m_Z38 F]) A 111 (JB (Jw Try.f111) 4) ((m_Z38 F).sh.mk' [.L x0,.I x1,.I x2,.L x3]) (fun e σ'=>some (e,σ'))=c_Z38 F x0 x1 x2 x3 (Sum.elim (fun y=>some (.ret,SSt.mk' ⟨(.undef::.undef::.bool::uu 33 ([])),[]⟩ [.B y])) (fun y=>some (.exit 0,SSt.mk' ⟨(uu 36 ([])),[]⟩ []))):=by kernel_rfl
theorem m_Z38_ok:∀ n,(m_Z38 (n_Z38 n)).ok Try.prog (JB (Jw Try.f111) 4):=by
 intro n
 induction n with
 | zero=>
  intro R ds k r h
  unfold m_Z38 at h
  obtain ⟨_,_,rfl,h⟩:=Jd h
  obtain ⟨_,_,rfl,h⟩:=Jc h
  obtain ⟨_,_,rfl,h⟩:=Jc h
  obtain ⟨_,_,rfl,h⟩:=Jd h
  obtain ⟨rfl,hE⟩:=Jk h
  obtain ⟨y,hy,hk⟩:=Jl hE
  cases hy
 | succ n ih=>
  intro R ds k r h
  unfold m_Z38 at h
  obtain ⟨_,_,rfl,h⟩:=Jd h
  obtain ⟨_,_,rfl,h⟩:=Jc h
  obtain ⟨_,_,rfl,h⟩:=Jc h
  obtain ⟨_,_,rfl,h⟩:=Jd h
  obtain ⟨rfl,hE⟩:=Jk h
  obtain ⟨y,hy,hk⟩:=Jl hE
  cases y with
  | inl y=>
   exact ⟨0,_,_,_,hk,rfl,Qy px (fx:=⟨Try.func111,by kernel_rfl,by kernel_rfl⟩) (J4 e_Z33_ok (J4 e_Z37_ok JD)) (JX ih JE) (by kernel_rfl) ((q_Z38 ..).trans ((c_Z38_bind ..).trans (Jq hy)))⟩
  | inr y=>
   exact ⟨1,_,_,_,hk,rfl,Qy px (fx:=⟨Try.func111,by kernel_rfl,by kernel_rfl⟩) (J4 e_Z33_ok (J4 e_Z37_ok JD)) (JX ih JE) (by kernel_rfl) ((q_Z38 ..).trans ((c_Z38_bind ..).trans (Jq hy)))⟩
noncomputable def e_Z38:JS:=m_Z38 (Z38)
theorem e_Z38_ok:(e_Z38).ok Try.prog (JB (Jw Try.f111) 4):=by
 intro R ds k r h
 unfold e_Z38 m_Z38 at h
 obtain ⟨_,_,rfl,h⟩:=Jd h
 obtain ⟨_,_,rfl,h⟩:=Jc h
 obtain ⟨_,_,rfl,h⟩:=Jc h
 obtain ⟨_,_,rfl,h⟩:=Jd h
 obtain ⟨rfl,hE⟩:=Jk h
 obtain ⟨y,hy,hk⟩:=Jl hE
 obtain ⟨n,hn⟩:=QH hy
 exact m_Z38_ok n R _ k r ((Jq hn).trans hk)

/-!-/
def c_Z39 {R:Type} (x0:List D) (k:Bool→Option R):Option R:=
 (Z33 (↑x0.length:Int) (1:Int) (7:Int)).bind (fun y0=>
 bif !y0 then
 k Bool.false
 else
 (Z38 x0 (↑x0.length:Int) (0:Int) x0).bind (Sum.elim (fun y1=>
 k y1) (fun y2=>
 k Bool.true)))
theorem c_Z39_bind {R:Type} (x0:List D) (k:Bool→Option R):c_Z39 x0 k=(c_Z39 x0 some).bind k:=by
 unfold c_Z39
 repeat' first
  | exact JQ
  | exact JP
  | exact JO
  | apply JL
  | apply JM
  | apply JR
  | (apply JN; intro _)
  | intro _
def Z39 (x0:List D):Option (Bool):=c_Z39 x0 some
def e_Z39:Ent:=⟨111,[.agg [.rd (.slice (.int .i64))]],[(.bool,[.undef])],fun _ ds k=>dL (fun x0 ds=>dE ((Z39 x0).bind (fun y=>k 0 [.B y])) ds) ds⟩
theorem q_Z39 (x0:List D):Qg (JG [e_Z33]) (JH [e_Z38]) A 111 Try.f111 (Sh.mks e_Z39.sh [.L x0]).1 (fun v os=>some (v,os))=c_Z39 x0 (fun y=>Qm e_Z39 0 [.B y]):=by kernel_rfl
theorem e_Z39_ok:e_Z39.ok Try.prog A:=by
 intro R ds k r h
 unfold e_Z39 at h
 obtain ⟨_,_,rfl,h⟩:=Jd h
 obtain ⟨rfl,hE⟩:=Jk h
 obtain ⟨y,hy,hk⟩:=Jl hE
 exact ⟨0,_,_,_,hk,rfl,Qn px (fx:=⟨Try.func111,by kernel_rfl,by kernel_rfl⟩) (J4 e_Z33_ok JD) (JX e_Z38_ok JE) ((q_Z39 ..).trans ((c_Z39_bind ..).trans (Jq hy)))⟩

/-!-/
abbrev T_Z40:=List D→Int→Int→List D→Option (List D×List D)
def c_Z40 {R:Type} (F:T_Z40) (x0:List D) (x1 x2:Int) (x3:List D) (k:List D×List D→Option R):Option R:=
 bif decide (x2<x1) then
 if x3.length+[D.int x2].length≤(4294967296:Nat) then
 (F x0 x1 (IntKind.i64.wrap (x2+1)) (x3++[D.int x2])).bind k
 else
 none
 else
 k (x0,x3)
theorem c_Z40_bind {R:Type} (F:T_Z40) (x0:List D) (x1 x2:Int) (x3:List D) (k:List D×List D→Option R):c_Z40 F x0 x1 x2 x3 k=(c_Z40 F x0 x1 x2 x3 some).bind k:=by
 unfold c_Z40
 repeat' first
  | exact JQ
  | exact JP
  | exact JO
  | apply JL
  | apply JM
  | apply JR
  | (apply JN; intro _)
  | intro _
def n_Z40:Nat→T_Z40
 | 0,_,_,_,_=>none
 | n+1,x0,x1,x2,x3=>c_Z40 (n_Z40 n) x0 x1 x2 x3 some
noncomputable def Z40 (x0:List D) (x1 x2:Int) (x3:List D):Option (List D×List D):=ev (fun n=>n_Z40 n x0 x1 x2 x3)
def m_Z40 (F:T_Z40):JS:=⟨3,⟨(.undef::.fn 115 [.rp (.agg [.rd (.slice (.int .i64))])]::uu 4 (.full 1000 [] (.int .i64)::uu 7 (.int .i64::.int .i64::uu 29 ([])))),[(1000,.own (.int .i64))]⟩,[(.exit 0,⟨(.undef::.fn 115 [.rp (.agg [.rd (.slice (.int .i64))])]::uu 4 (.full 1000 [] (.int .i64)::uu 38 ([]))),[(1000,.own (.int .i64))]⟩)],fun _ ds k=>dL (fun x0 ds=>dI (fun x1 ds=>dI (fun x2 ds=>dL (fun x3 ds=>dE ((F x0 x1 x2 x3).bind (fun y=>k 0 [.L y.1,.L y.2])) ds) ds) ds) ds) ds⟩
theorem q_Z40 (F:T_Z40) (x0:List D) (x1 x2:Int) (x3:List D):QJ (JG []) (JH [m_Z40 F]) A 112 (JB (Jw Try.f112) 3) ((m_Z40 F).sh.mk' [.L x0,.I x1,.I x2,.L x3]) (fun e σ'=>some (e,σ'))=c_Z40 F x0 x1 x2 x3 (fun y=>some (.exit 0,SSt.mk' ⟨(.undef::.fn 115 [.rp (.agg [.rd (.slice (.int .i64))])]::uu 4 (.full 1000 [] (.int .i64)::uu 38 ([]))),[(1000,.own (.int .i64))]⟩ [.L y.1,.L y.2])):=by kernel_rfl
theorem m_Z40_ok:∀ n,(m_Z40 (n_Z40 n)).ok Try.prog (JB (Jw Try.f112) 3):=by
 intro n
 induction n with
 | zero=>
  intro R ds k r h
  unfold m_Z40 at h
  obtain ⟨_,_,rfl,h⟩:=Jd h
  obtain ⟨_,_,rfl,h⟩:=Jc h
  obtain ⟨_,_,rfl,h⟩:=Jc h
  obtain ⟨_,_,rfl,h⟩:=Jd h
  obtain ⟨rfl,hE⟩:=Jk h
  obtain ⟨y,hy,hk⟩:=Jl hE
  cases hy
 | succ n ih=>
  intro R ds k r h
  unfold m_Z40 at h
  obtain ⟨_,_,rfl,h⟩:=Jd h
  obtain ⟨_,_,rfl,h⟩:=Jc h
  obtain ⟨_,_,rfl,h⟩:=Jc h
  obtain ⟨_,_,rfl,h⟩:=Jd h
  obtain ⟨rfl,hE⟩:=Jk h
  obtain ⟨y,hy,hk⟩:=Jl hE
  exact ⟨0,_,_,_,hk,rfl,Qy px (fx:=⟨Try.func112,by kernel_rfl,by kernel_rfl⟩) JD (JX ih JE) (by kernel_rfl) ((q_Z40 ..).trans ((c_Z40_bind ..).trans (Jq hy)))⟩
noncomputable def e_Z40:JS:=m_Z40 (Z40)
theorem e_Z40_ok:(e_Z40).ok Try.prog (JB (Jw Try.f112) 3):=by
 intro R ds k r h
 unfold e_Z40 m_Z40 at h
 obtain ⟨_,_,rfl,h⟩:=Jd h
 obtain ⟨_,_,rfl,h⟩:=Jc h
 obtain ⟨_,_,rfl,h⟩:=Jc h
 obtain ⟨_,_,rfl,h⟩:=Jd h
 obtain ⟨rfl,hE⟩:=Jk h
 obtain ⟨y,hy,hk⟩:=Jl hE
 obtain ⟨n,hn⟩:=QH hy
 exact m_Z40_ok n R _ k r ((Jq hn).trans hk)

/-!-/
def c_Z41 {R:Type} (x0:List D) (k:List D→Option R):Option R:=
 if (1:Nat)≤x0.length then
 if ([]:List D).length+x0.length≤(4294967296:Nat) then
 k ([]++x0)
 else
 none
 else
 C0 (
 if ([]:List D).length+x0.length≤(4294967296:Nat) then
 k ([]++x0)
 else
 none) (
 k [])
theorem c_Z41_imp {R:Type} (x0:List D) (k:List D→Option R) (y:List D) (hy:c_Z41 x0 some=some y):c_Z41 x0 k=k y:=by
 revert hy
 unfold c_Z41
 repeat' first
  | exact qq
  | exact qr
  | exact qt
  | apply qy
  | apply qu
  | apply qv
  | apply qx
  | (apply qw; intro _)
  | intro _
def Z41 (x0:List D):Option (List D):=c_Z41 x0 some
def e_Z41:Ent:=⟨168,[.rd (.int .i64)],[(.own (.int .i64),[.undef])],fun _ ds k=>dL (fun x0 ds=>dE ((Z41 x0).bind (fun y=>k 0 [.L y])) ds) ds⟩
theorem q_Z41 (x0:List D):Qg (JG []) (JH []) A 168 Try.f168 (Sh.mks e_Z41.sh [.L x0]).1 (fun v os=>some (v,os))=c_Z41 x0 (fun y=>Qm e_Z41 0 [.L y]):=by kernel_rfl
theorem e_Z41_ok:e_Z41.ok Try.prog A:=by
 intro R ds k r h
 unfold e_Z41 at h
 obtain ⟨_,_,rfl,h⟩:=Jd h
 obtain ⟨rfl,hE⟩:=Jk h
 obtain ⟨y,hy,hk⟩:=Jl hE
 exact ⟨0,_,_,_,hk,rfl,Qn px (fx:=⟨Try.func168,by kernel_rfl,by kernel_rfl⟩) JD JE ((q_Z41 ..).trans (c_Z41_imp (hy:=hy) ..))⟩

/-!-/
def c_Z42 {R:Type} (x0:List D) (x1 x2:Int) (k:List D→Option R):Option R:=
 if 0≤x1∧x1≤x2∧x2≤(↑x0.length:Int) then
 if 0≤x2∧x2≤(↑x0.length:Int)∧(↑x0.length:Int)≤(↑x0.length:Int) then
 bif decide (x1=x2) then
 k x0
 else
 if (0:Int)≤(0:Int)∧0≤x1∧x1≤(↑x0.length:Int) then
 if 0≤x2∧x2≤(↑x0.length:Int)∧(↑x0.length:Int)≤(↑x0.length:Int) then
 if x2.toNat+(x0.length - x2.toNat)≤x0.length then
 if (0:Nat)+(x1.toNat - (0:Nat))+(List.take (x0.length - x2.toNat) (List.drop x2.toNat x0)).length≤x0.length then
 if (0:Int)≤(↑(x1.toNat - (0:Nat)+(List.take (x0.length - x2.toNat) (List.drop x2.toNat x0)).length):Int)∧(↑(x1.toNat - (0:Nat)+(List.take (x0.length - x2.toNat) (List.drop x2.toNat x0)).length):Int)≤(↑x0.length:Int)∧(↑x0.length:Int)≤(↑((List.take ((0:Nat)+(x1.toNat - (0:Nat))) x0++List.take (x0.length - x2.toNat) (List.drop x2.toNat x0)++List.drop ((0:Nat)+(x1.toNat - (0:Nat))+(List.take (x0.length - x2.toNat) (List.drop x2.toNat x0)).length) x0).length - (0:Nat)):Int) then
 if (0:Nat)+(↑(x1.toNat - (0:Nat)+(List.take (x0.length - x2.toNat) (List.drop x2.toNat x0)).length):Int).toNat+((↑x0.length:Int).toNat - (↑(x1.toNat - (0:Nat)+(List.take (x0.length - x2.toNat) (List.drop x2.toNat x0)).length):Int).toNat)≤(List.take ((0:Nat)+(x1.toNat - (0:Nat))) x0++List.take (x0.length - x2.toNat) (List.drop x2.toNat x0)++List.drop ((0:Nat)+(x1.toNat - (0:Nat))+(List.take (x0.length - x2.toNat) (List.drop x2.toNat x0)).length) x0).length then
 if (0:Nat)+(x1.toNat - (0:Nat)+(List.take (x0.length - x2.toNat) (List.drop x2.toNat x0)).length)≤(List.take ((0:Nat)+(↑(x1.toNat - (0:Nat)+(List.take (x0.length - x2.toNat) (List.drop x2.toNat x0)).length):Int).toNat) (List.take ((0:Nat)+(x1.toNat - (0:Nat))) x0++List.take (x0.length - x2.toNat) (List.drop x2.toNat x0)++List.drop ((0:Nat)+(x1.toNat - (0:Nat))+(List.take (x0.length - x2.toNat) (List.drop x2.toNat x0)).length) x0)++List.replicate ((↑x0.length:Int).toNat - (↑(x1.toNat - (0:Nat)+(List.take (x0.length - x2.toNat) (List.drop x2.toNat x0)).length):Int).toNat) (D.int 0)++List.drop ((0:Nat)+(↑(x1.toNat - (0:Nat)+(List.take (x0.length - x2.toNat) (List.drop x2.toNat x0)).length):Int).toNat+(List.replicate ((↑x0.length:Int).toNat - (↑(x1.toNat - (0:Nat)+(List.take (x0.length - x2.toNat) (List.drop x2.toNat x0)).length):Int).toNat) (D.int 0)).length) (List.take ((0:Nat)+(x1.toNat - (0:Nat))) x0++List.take (x0.length - x2.toNat) (List.drop x2.toNat x0)++List.drop ((0:Nat)+(x1.toNat - (0:Nat))+(List.take (x0.length - x2.toNat) (List.drop x2.toNat x0)).length) x0)).length then
 k (List.take (x1.toNat - (0:Nat)+(List.take (x0.length - x2.toNat) (List.drop x2.toNat x0)).length) (List.drop (0:Nat) (List.take ((0:Nat)+(↑(x1.toNat - (0:Nat)+(List.take (x0.length - x2.toNat) (List.drop x2.toNat x0)).length):Int).toNat) (List.take ((0:Nat)+(x1.toNat - (0:Nat))) x0++List.take (x0.length - x2.toNat) (List.drop x2.toNat x0)++List.drop ((0:Nat)+(x1.toNat - (0:Nat))+(List.take (x0.length - x2.toNat) (List.drop x2.toNat x0)).length) x0)++List.replicate ((↑x0.length:Int).toNat - (↑(x1.toNat - (0:Nat)+(List.take (x0.length - x2.toNat) (List.drop x2.toNat x0)).length):Int).toNat) (D.int 0)++List.drop ((0:Nat)+(↑(x1.toNat - (0:Nat)+(List.take (x0.length - x2.toNat) (List.drop x2.toNat x0)).length):Int).toNat+(List.replicate ((↑x0.length:Int).toNat - (↑(x1.toNat - (0:Nat)+(List.take (x0.length - x2.toNat) (List.drop x2.toNat x0)).length):Int).toNat) (D.int 0)).length) (List.take ((0:Nat)+(x1.toNat - (0:Nat))) x0++List.take (x0.length - x2.toNat) (List.drop x2.toNat x0)++List.drop ((0:Nat)+(x1.toNat - (0:Nat))+(List.take (x0.length - x2.toNat) (List.drop x2.toNat x0)).length) x0))))
 else
 none
 else
 none
 else
 none
 else
 none
 else
 none
 else
 none
 else
 none
 else
 none
 else
 none
theorem c_Z42_bind {R:Type} (x0:List D) (x1 x2:Int) (k:List D→Option R):c_Z42 x0 x1 x2 k=(c_Z42 x0 x1 x2 some).bind k:=by
 unfold c_Z42
 repeat' first
  | exact JQ
  | exact JP
  | exact JO
  | apply JL
  | apply JM
  | apply JR
  | (apply JN; intro _)
  | intro _
def Z42 (x0:List D) (x1 x2:Int):Option (List D):=c_Z42 x0 x1 x2 some
def e_Z42:Ent:=⟨167,[.own (.int .i64),.int .i64,.int .i64],[(.own (.int .i64),[.undef,.undef,.undef])],fun _ ds k=>dL (fun x0 ds=>dI (fun x1 ds=>dI (fun x2 ds=>dE ((Z42 x0 x1 x2).bind (fun y=>k 0 [.L y])) ds) ds) ds) ds⟩
theorem q_Z42 (x0:List D) (x1 x2:Int):Qg (JG []) (JH []) A 167 Try.f167 (Sh.mks e_Z42.sh [.L x0,.I x1,.I x2]).1 (fun v os=>some (v,os))=c_Z42 x0 x1 x2 (fun y=>Qm e_Z42 0 [.L y]):=by kernel_rfl
theorem e_Z42_ok:e_Z42.ok Try.prog A:=by
 intro R ds k r h
 unfold e_Z42 at h
 obtain ⟨_,_,rfl,h⟩:=Jd h
 obtain ⟨_,_,rfl,h⟩:=Jc h
 obtain ⟨_,_,rfl,h⟩:=Jc h
 obtain ⟨rfl,hE⟩:=Jk h
 obtain ⟨y,hy,hk⟩:=Jl hE
 exact ⟨0,_,_,_,hk,rfl,Qn px (fx:=⟨Try.func167,by kernel_rfl,by kernel_rfl⟩) JD JE ((q_Z42 ..).trans ((c_Z42_bind ..).trans (Jq hy)))⟩

def m_Z45 (F:List D→Option (List D)):Ent:=⟨139,[.rd (.int .i64)],[(.own (.slice (.int .i64)),[.undef])],fun _ ds k=>dL (fun x0 ds=>dE ((F x0).bind (fun y=>k 0 [.L y])) ds) ds⟩

/-!-/
abbrev T_Z43:=List D→Int→List D→Int→Int→Int→Int→List D→List D→Option (List D×List D×Int×Int×List D)
def c_Z43 {R:Type} (F:T_Z43) (x0:List D) (x1:Int) (x2:List D) (x3 x4 x5 x6:Int) (x7 x8:List D) (k:List D×List D×Int×Int×List D→Option R):Option R:=
 bif decide (x6<x5) then
 if 0≤x6∧x6<(↑x8.length:Int) then
 if x6.toNat+1≤x8.length then
 if x6.toNat+1≤x8.length then
 if [D.int x1].length+(x8.getD x6.toNat (D.int 0)).items.length≤(4294967296:Nat) then
 if x7.length+[D.node ([D.int x1]++(x8.getD x6.toNat (D.int 0)).items)].length≤(4294967296:Nat) then
 (F x0 x1 x2 x3 x4 x5 (IntKind.i64.wrap (x6+1)) (x7++[D.node ([D.int x1]++(x8.getD x6.toNat (D.int 0)).items)]) x8).bind k
 else
 none
 else
 none
 else
 none
 else
 none
 else
 none
 else
 k (x0,x2,x3,x4,x7)
theorem c_Z43_bind {R:Type} (F:T_Z43) (x0:List D) (x1:Int) (x2:List D) (x3 x4 x5 x6:Int) (x7 x8:List D) (k:List D×List D×Int×Int×List D→Option R):c_Z43 F x0 x1 x2 x3 x4 x5 x6 x7 x8 k=(c_Z43 F x0 x1 x2 x3 x4 x5 x6 x7 x8 some).bind k:=by
 unfold c_Z43
 repeat' first
  | exact JQ
  | exact JP
  | exact JO
  | apply JL
  | apply JM
  | apply JR
  | (apply JN; intro _)
  | intro _
def n_Z43:Nat→T_Z43
 | 0,_,_,_,_,_,_,_,_,_=>none
 | n+1,x0,x1,x2,x3,x4,x5,x6,x7,x8=>c_Z43 (n_Z43 n) x0 x1 x2 x3 x4 x5 x6 x7 x8 some
noncomputable def Z43 (x0:List D) (x1:Int) (x2:List D) (x3 x4 x5 x6:Int) (x7 x8:List D):Option (List D×List D×Int×Int×List D):=ev (fun n=>n_Z43 n x0 x1 x2 x3 x4 x5 x6 x7 x8)
def m_Z43 (F:T_Z43):JS:=⟨9,⟨(.rd (.int .i64)::.undef::.undef::.full 1000 [] (.slice (.int .i64))::.undef::.int .i64::uu 8 (.rd (.int .i64)::.int .i64::.int .i64::uu 11 (.full 1001 [] (.slice (.int .i64))::.int .i64::.int .i64::uu 13 ([])))),[(1000,.own (.slice (.int .i64))),(1001,.own (.slice (.int .i64)))]⟩,[(.exit 2,⟨(.rd (.int .i64)::.undef::.undef::.full 1000 [] (.slice (.int .i64))::uu 10 (.rd (.int .i64)::.int .i64::.int .i64::uu 27 ([]))),[(1000,.own (.slice (.int .i64)))]⟩)],fun _ ds k=>dL (fun x0 ds=>dI (fun x1 ds=>dL (fun x2 ds=>dI (fun x3 ds=>dI (fun x4 ds=>dI (fun x5 ds=>dI (fun x6 ds=>dL (fun x7 ds=>dL (fun x8 ds=>dE ((F x0 x1 x2 x3 x4 x5 x6 x7 x8).bind (fun y=>k 0 [.L y.1,.L y.2.1,.I y.2.2.1,.I y.2.2.2.1,.L y.2.2.2.2])) ds) ds) ds) ds) ds) ds) ds) ds) ds) ds⟩
theorem q_Z43 (F:T_Z43) (x0:List D) (x1:Int) (x2:List D) (x3 x4 x5 x6:Int) (x7 x8:List D):QJ (JG []) (JH [m_Z43 F]) A 139 (JB (Jw Try.f139) 9) ((m_Z43 F).sh.mk' [.L x0,.I x1,.L x2,.I x3,.I x4,.I x5,.I x6,.L x7,.L x8]) (fun e σ'=>some (e,σ'))=c_Z43 F x0 x1 x2 x3 x4 x5 x6 x7 x8 (fun y=>some (.exit 2,SSt.mk' ⟨(.rd (.int .i64)::.undef::.undef::.full 1000 [] (.slice (.int .i64))::uu 10 (.rd (.int .i64)::.int .i64::.int .i64::uu 27 ([]))),[(1000,.own (.slice (.int .i64)))]⟩ [.L y.1,.L y.2.1,.I y.2.2.1,.I y.2.2.2.1,.L y.2.2.2.2])):=by kernel_rfl
theorem m_Z43_ok:∀ n,(m_Z43 (n_Z43 n)).ok Try.prog (JB (Jw Try.f139) 9):=by
 intro n
 induction n with
 | zero=>
  intro R ds k r h
  unfold m_Z43 at h
  obtain ⟨_,_,rfl,h⟩:=Jd h
  obtain ⟨_,_,rfl,h⟩:=Jc h
  obtain ⟨_,_,rfl,h⟩:=Jd h
  obtain ⟨_,_,rfl,h⟩:=Jc h
  obtain ⟨_,_,rfl,h⟩:=Jc h
  obtain ⟨_,_,rfl,h⟩:=Jc h
  obtain ⟨_,_,rfl,h⟩:=Jc h
  obtain ⟨_,_,rfl,h⟩:=Jd h
  obtain ⟨_,_,rfl,h⟩:=Jd h
  obtain ⟨rfl,hE⟩:=Jk h
  obtain ⟨y,hy,hk⟩:=Jl hE
  cases hy
 | succ n ih=>
  intro R ds k r h
  unfold m_Z43 at h
  obtain ⟨_,_,rfl,h⟩:=Jd h
  obtain ⟨_,_,rfl,h⟩:=Jc h
  obtain ⟨_,_,rfl,h⟩:=Jd h
  obtain ⟨_,_,rfl,h⟩:=Jc h
  obtain ⟨_,_,rfl,h⟩:=Jc h
  obtain ⟨_,_,rfl,h⟩:=Jc h
  obtain ⟨_,_,rfl,h⟩:=Jc h
  obtain ⟨_,_,rfl,h⟩:=Jd h
  obtain ⟨_,_,rfl,h⟩:=Jd h
  obtain ⟨rfl,hE⟩:=Jk h
  obtain ⟨y,hy,hk⟩:=Jl hE
  exact ⟨0,_,_,_,hk,rfl,Qy px (fx:=⟨Try.func139,by kernel_rfl,by kernel_rfl⟩) JD (JX ih JE) (by kernel_rfl) ((q_Z43 ..).trans ((c_Z43_bind ..).trans (Jq hy)))⟩
noncomputable def e_Z43:JS:=m_Z43 (Z43)
theorem e_Z43_ok:(e_Z43).ok Try.prog (JB (Jw Try.f139) 9):=by
 intro R ds k r h
 unfold e_Z43 m_Z43 at h
 obtain ⟨_,_,rfl,h⟩:=Jd h
 obtain ⟨_,_,rfl,h⟩:=Jc h
 obtain ⟨_,_,rfl,h⟩:=Jd h
 obtain ⟨_,_,rfl,h⟩:=Jc h
 obtain ⟨_,_,rfl,h⟩:=Jc h
 obtain ⟨_,_,rfl,h⟩:=Jc h
 obtain ⟨_,_,rfl,h⟩:=Jc h
 obtain ⟨_,_,rfl,h⟩:=Jd h
 obtain ⟨_,_,rfl,h⟩:=Jd h
 obtain ⟨rfl,hE⟩:=Jk h
 obtain ⟨y,hy,hk⟩:=Jl hE
 obtain ⟨n,hn⟩:=QH hy
 exact m_Z43_ok n R _ k r ((Jq hn).trans hk)

/-!-/
abbrev T_Z44:=List D→List D→Int→Int→List D→Option (List D)
def c_Z44 {R:Type} (G_impl_permutations:List D→Option (List D)) (F:T_Z44) (x0 x1:List D) (x2 x3:Int) (x4:List D) (k:List D→Option R):Option R:=
 bif decide (x3<x2) then
 if 0≤x3∧x3<(↑x1.length:Int) then
 (Z41 x0).bind (fun y0=>
 (Z42 y0 x3 (IntKind.i64.wrap (x3+1))).bind (fun y1=>
 (G_impl_permutations y1).bind (fun y2=>
 (Z43 x0 ((x1.getD x3.toNat (D.int 0)).toInt) x1 x2 x3 (↑y2.length:Int) (0:Int) x4 y2).bind (fun y3=>
 (F y3.fst y3.snd.fst y3.snd.snd.fst (IntKind.i64.wrap (y3.snd.snd.snd.fst+1)) y3.snd.snd.snd.snd).bind k))))
 else
 none
 else
 k x4
theorem c_Z44_bind {R:Type} (G_impl_permutations:List D→Option (List D)) (F:T_Z44) (x0 x1:List D) (x2 x3:Int) (x4:List D) (k:List D→Option R):c_Z44 G_impl_permutations F x0 x1 x2 x3 x4 k=(c_Z44 G_impl_permutations F x0 x1 x2 x3 x4 some).bind k:=by
 unfold c_Z44
 repeat' first
  | exact JQ
  | exact JP
  | exact JO
  | apply JL
  | apply JM
  | apply JR
  | (apply JN; intro _)
  | intro _
def n_Z44 (G_impl_permutations:List D→Option (List D)):Nat→List D→List D→Int→Int→List D→Option (List D)
 | 0,_,_,_,_,_=>none
 | n+1,x0,x1,x2,x3,x4=>c_Z44 G_impl_permutations (n_Z44 G_impl_permutations n) x0 x1 x2 x3 x4 some
noncomputable def Z44 (G_impl_permutations:List D→Option (List D)) (x0 x1:List D) (x2 x3:Int) (x4:List D):Option (List D):=ev (fun n=>n_Z44 G_impl_permutations n x0 x1 x2 x3 x4)
def m_Z44 (F:T_Z44):JS:=⟨5,⟨(.rd (.int .i64)::.undef::.undef::.full 1000 [] (.slice (.int .i64))::uu 10 (.rd (.int .i64)::.int .i64::.int .i64::uu 27 ([]))),[(1000,.own (.slice (.int .i64)))]⟩,[(.exit 0,⟨(.undef::.undef::.undef::.full 1000 [] (.slice (.int .i64))::uu 40 ([])),[(1000,.own (.slice (.int .i64)))]⟩)],fun _ ds k=>dL (fun x0 ds=>dL (fun x1 ds=>dI (fun x2 ds=>dI (fun x3 ds=>dL (fun x4 ds=>dE ((F x0 x1 x2 x3 x4).bind (fun y=>k 0 [.L y])) ds) ds) ds) ds) ds) ds⟩
theorem q_Z44 (G_impl_permutations:List D→Option (List D)) (F:T_Z44) (x0 x1:List D) (x2 x3:Int) (x4:List D):QJ (JG [e_Z41,e_Z42,m_Z45 G_impl_permutations]) (JH [m_Z44 F,e_Z43]) A 139 (JB (Jw Try.f139) 5) ((m_Z44 F).sh.mk' [.L x0,.L x1,.I x2,.I x3,.L x4]) (fun e σ'=>some (e,σ'))=c_Z44 G_impl_permutations F x0 x1 x2 x3 x4 (fun y=>some (.exit 0,SSt.mk' ⟨(.undef::.undef::.undef::.full 1000 [] (.slice (.int .i64))::uu 40 ([])),[(1000,.own (.slice (.int .i64)))]⟩ [.L y])):=by kernel_rfl
theorem m_Z44_ok (G_impl_permutations:List D→Option (List D)) (hG_impl_permutations:(m_Z45 G_impl_permutations).ok Try.prog A):∀ n,(m_Z44 (n_Z44 G_impl_permutations n)).ok Try.prog (JB (Jw Try.f139) 5):=by
 intro n
 induction n with
 | zero=>
  intro R ds k r h
  unfold m_Z44 at h
  obtain ⟨_,_,rfl,h⟩:=Jd h
  obtain ⟨_,_,rfl,h⟩:=Jd h
  obtain ⟨_,_,rfl,h⟩:=Jc h
  obtain ⟨_,_,rfl,h⟩:=Jc h
  obtain ⟨_,_,rfl,h⟩:=Jd h
  obtain ⟨rfl,hE⟩:=Jk h
  obtain ⟨y,hy,hk⟩:=Jl hE
  cases hy
 | succ n ih=>
  intro R ds k r h
  unfold m_Z44 at h
  obtain ⟨_,_,rfl,h⟩:=Jd h
  obtain ⟨_,_,rfl,h⟩:=Jd h
  obtain ⟨_,_,rfl,h⟩:=Jc h
  obtain ⟨_,_,rfl,h⟩:=Jc h
  obtain ⟨_,_,rfl,h⟩:=Jd h
  obtain ⟨rfl,hE⟩:=Jk h
  obtain ⟨y,hy,hk⟩:=Jl hE
  exact ⟨0,_,_,_,hk,rfl,Qy px (fx:=⟨Try.func139,by kernel_rfl,by kernel_rfl⟩) (J4 e_Z41_ok (J4 e_Z42_ok (J4 hG_impl_permutations JD))) (JX ih (JX e_Z43_ok JE)) (by kernel_rfl) ((q_Z44 ..).trans ((c_Z44_bind ..).trans (Jq hy)))⟩
noncomputable def e_Z44 (G_impl_permutations:List D→Option (List D)):JS:=m_Z44 (Z44 G_impl_permutations)
theorem e_Z44_ok (G_impl_permutations:List D→Option (List D)) (hG_impl_permutations:(m_Z45 G_impl_permutations).ok Try.prog A):(e_Z44 G_impl_permutations).ok Try.prog (JB (Jw Try.f139) 5):=by
 intro R ds k r h
 unfold e_Z44 m_Z44 at h
 obtain ⟨_,_,rfl,h⟩:=Jd h
 obtain ⟨_,_,rfl,h⟩:=Jd h
 obtain ⟨_,_,rfl,h⟩:=Jc h
 obtain ⟨_,_,rfl,h⟩:=Jc h
 obtain ⟨_,_,rfl,h⟩:=Jd h
 obtain ⟨rfl,hE⟩:=Jk h
 obtain ⟨y,hy,hk⟩:=Jl hE
 obtain ⟨n,hn⟩:=QH hy
 exact m_Z44_ok G_impl_permutations hG_impl_permutations n R _ k r ((Jq hn).trans hk)

/-!-/
abbrev T_Z45:=List D→Option (List D)
def c_Z45 {R:Type} (F:T_Z45) (x0:List D) (k:List D→Option R):Option R:=
 bif decide ((↑x0.length:Int)=(0:Int)) then
 k ([D.node []])
 else
 (Z44 F x0 x0 (↑x0.length:Int) (0:Int) []).bind (fun y0=>
 k y0)
theorem c_Z45_bind {R:Type} (F:T_Z45) (x0:List D) (k:List D→Option R):c_Z45 F x0 k=(c_Z45 F x0 some).bind k:=by
 unfold c_Z45
 repeat' first
  | exact JQ
  | exact JP
  | exact JO
  | apply JL
  | apply JM
  | apply JR
  | (apply JN; intro _)
  | intro _
def n_Z45:Nat→T_Z45
 | 0,_=>none
 | n+1,x0=>c_Z45 (n_Z45 n) x0 some
noncomputable def Z45 (x0:List D):Option (List D):=ev (fun n=>n_Z45 n x0)
theorem q_Z45 (F:T_Z45) (x0:List D):Qg (JG []) (JH [e_Z44 F]) A 139 Try.f139 (Sh.mks (m_Z45 F).sh [.L x0]).1 (fun v os=>some (v,os))=c_Z45 F x0 (fun y=>Qm (m_Z45 F) 0 [.L y]):=by kernel_rfl
theorem m_Z45_ok:∀ n,(m_Z45 (n_Z45 n)).ok Try.prog A:=by
 intro n
 induction n with
 | zero=>
  intro R ds k r h
  unfold m_Z45 at h
  obtain ⟨_,_,rfl,h⟩:=Jd h
  obtain ⟨rfl,hE⟩:=Jk h
  obtain ⟨y,hy,hk⟩:=Jl hE
  cases hy
 | succ n ih=>
  intro R ds k r h
  unfold m_Z45 at h
  obtain ⟨_,_,rfl,h⟩:=Jd h
  obtain ⟨rfl,hE⟩:=Jk h
  obtain ⟨y,hy,hk⟩:=Jl hE
  have hme:=ih
  exact ⟨0,_,_,_,hk,rfl,Qn px (fx:=⟨Try.func139,by kernel_rfl,by kernel_rfl⟩) JD (JX (e_Z44_ok _ hme) JE) ((q_Z45 ..).trans ((c_Z45_bind ..).trans (Jq hy)))⟩
def e_Z45:Ent:=m_Z45 Z45
theorem e_Z45_ok:e_Z45.ok Try.prog A:=by
 intro R ds k r h
 unfold e_Z45 m_Z45 at h
 obtain ⟨_,_,rfl,h⟩:=Jd h
 obtain ⟨rfl,hE⟩:=Jk h
 obtain ⟨y,hy,hk⟩:=Jl hE
 obtain ⟨n,hn⟩:=QH hy
 exact m_Z45_ok n R _ k r ((Jq hn).trans hk)

/-!-/
abbrev T_Z46:=Int→Int→Int→List D→Int→Int→List D→Option (Int×Int)
def c_Z46 {R:Type} (F:T_Z46) (x0 x1 x2:Int) (x3:List D) (x4 x5:Int) (x6:List D) (k:Int×Int→Option R):Option R:=
 bif decide (x5<x4) then
 if 0≤x5∧x5<(↑x3.length:Int) then
 if (0:Int)≤(x3.getD x5.toNat (D.int 0)).toInt∧(x3.getD x5.toNat (D.int 0)).toInt<(↑x6.length:Int) then
 if 0≤x0∧x0<(↑(x6.getD (x3.getD x5.toNat (D.int 0)).toInt.toNat (D.int 0)).items.length:Int) then
 bif decide ((0:Int)<((x6.getD (x3.getD x5.toNat (D.int 0)).toInt.toNat (D.int 0)).items.getD x0.toNat (D.int 0)).toInt) then
 bif decide (x1<(0:Int)) then
 (F x0 x5 x5 x3 x4 (IntKind.i64.wrap (x5+1)) x6).bind k
 else
 (F x0 x1 x5 x3 x4 (IntKind.i64.wrap (x5+1)) x6).bind k
 else
 (F x0 x1 x2 x3 x4 (IntKind.i64.wrap (x5+1)) x6).bind k
 else
 none
 else
 none
 else
 none
 else
 k (x1,x2)
theorem c_Z46_bind {R:Type} (F:T_Z46) (x0 x1 x2:Int) (x3:List D) (x4 x5:Int) (x6:List D) (k:Int×Int→Option R):c_Z46 F x0 x1 x2 x3 x4 x5 x6 k=(c_Z46 F x0 x1 x2 x3 x4 x5 x6 some).bind k:=by
 unfold c_Z46
 repeat' first
  | exact JQ
  | exact JP
  | exact JO
  | apply JL
  | apply JM
  | apply JR
  | (apply JN; intro _)
  | intro _
def n_Z46:Nat→T_Z46
 | 0,_,_,_,_,_,_,_=>none
 | n+1,x0,x1,x2,x3,x4,x5,x6=>c_Z46 (n_Z46 n) x0 x1 x2 x3 x4 x5 x6 some
noncomputable def Z46 (x0 x1 x2:Int) (x3:List D) (x4 x5:Int) (x6:List D):Option (Int×Int):=ev (fun n=>n_Z46 n x0 x1 x2 x3 x4 x5 x6)
def m_Z46 (F:T_Z46):JS:=⟨3,⟨(.undef::.undef::.int .i64::.ptr 1000 [0]::uu 4 (.int .i64::.int .i64::.undef::.undef::.rd (.int .i64)::.int .i64::.int .i64::uu 20 ([]))),[(1000,.obox (.agg [.rd (.slice (.int .i64))]))]⟩,[(.exit 0,⟨(uu 8 (.int .i64::.int .i64::uu 25 ([]))),[]⟩)],fun _ ds k=>dI (fun x0 ds=>dI (fun x1 ds=>dI (fun x2 ds=>dL (fun x3 ds=>dI (fun x4 ds=>dI (fun x5 ds=>dL (fun x6 ds=>dE ((F x0 x1 x2 x3 x4 x5 x6).bind (fun y=>k 0 [.I y.1,.I y.2])) ds) ds) ds) ds) ds) ds) ds) ds⟩
theorem q_Z46 (F:T_Z46) (x0 x1 x2:Int) (x3:List D) (x4 x5:Int) (x6:List D):QJ (JG []) (JH [m_Z46 F]) A 170 (JB (Jw Try.f170) 3) ((m_Z46 F).sh.mk' [.I x0,.I x1,.I x2,.L x3,.I x4,.I x5,.L x6]) (fun e σ'=>some (e,σ'))=c_Z46 F x0 x1 x2 x3 x4 x5 x6 (fun y=>some (.exit 0,SSt.mk' ⟨(uu 8 (.int .i64::.int .i64::uu 25 ([]))),[]⟩ [.I y.1,.I y.2])):=by kernel_rfl
theorem m_Z46_ok:∀ n,(m_Z46 (n_Z46 n)).ok Try.prog (JB (Jw Try.f170) 3):=by
 intro n
 induction n with
 | zero=>
  intro R ds k r h
  unfold m_Z46 at h
  obtain ⟨_,_,rfl,h⟩:=Jc h
  obtain ⟨_,_,rfl,h⟩:=Jc h
  obtain ⟨_,_,rfl,h⟩:=Jc h
  obtain ⟨_,_,rfl,h⟩:=Jd h
  obtain ⟨_,_,rfl,h⟩:=Jc h
  obtain ⟨_,_,rfl,h⟩:=Jc h
  obtain ⟨_,_,rfl,h⟩:=Jd h
  obtain ⟨rfl,hE⟩:=Jk h
  obtain ⟨y,hy,hk⟩:=Jl hE
  cases hy
 | succ n ih=>
  intro R ds k r h
  unfold m_Z46 at h
  obtain ⟨_,_,rfl,h⟩:=Jc h
  obtain ⟨_,_,rfl,h⟩:=Jc h
  obtain ⟨_,_,rfl,h⟩:=Jc h
  obtain ⟨_,_,rfl,h⟩:=Jd h
  obtain ⟨_,_,rfl,h⟩:=Jc h
  obtain ⟨_,_,rfl,h⟩:=Jc h
  obtain ⟨_,_,rfl,h⟩:=Jd h
  obtain ⟨rfl,hE⟩:=Jk h
  obtain ⟨y,hy,hk⟩:=Jl hE
  exact ⟨0,_,_,_,hk,rfl,Qy px (fx:=⟨Try.func170,by kernel_rfl,by kernel_rfl⟩) JD (JX ih JE) (by kernel_rfl) ((q_Z46 ..).trans ((c_Z46_bind ..).trans (Jq hy)))⟩
noncomputable def e_Z46:JS:=m_Z46 (Z46)
theorem e_Z46_ok:(e_Z46).ok Try.prog (JB (Jw Try.f170) 3):=by
 intro R ds k r h
 unfold e_Z46 m_Z46 at h
 obtain ⟨_,_,rfl,h⟩:=Jc h
 obtain ⟨_,_,rfl,h⟩:=Jc h
 obtain ⟨_,_,rfl,h⟩:=Jc h
 obtain ⟨_,_,rfl,h⟩:=Jd h
 obtain ⟨_,_,rfl,h⟩:=Jc h
 obtain ⟨_,_,rfl,h⟩:=Jc h
 obtain ⟨_,_,rfl,h⟩:=Jd h
 obtain ⟨rfl,hE⟩:=Jk h
 obtain ⟨y,hy,hk⟩:=Jl hE
 obtain ⟨n,hn⟩:=QH hy
 exact m_Z46_ok n R _ k r ((Jq hn).trans hk)

/-!-/
def c_Z47 {R:Type} (x0 x1:List D) (x2:Int) (k:Int×Int→Option R):Option R:=
 (Z46 x2 (-1:Int) (-1:Int) x1 (↑x1.length:Int) (0:Int) x0).bind (fun y0=>
 k (y0.fst,y0.snd))
theorem c_Z47_bind {R:Type} (x0 x1:List D) (x2:Int) (k:Int×Int→Option R):c_Z47 x0 x1 x2 k=(c_Z47 x0 x1 x2 some).bind k:=by
 unfold c_Z47
 repeat' first
  | exact JQ
  | exact JP
  | exact JO
  | apply JL
  | apply JM
  | apply JR
  | (apply JN; intro _)
  | intro _
def Z47 (x0 x1:List D) (x2:Int):Option (Int×Int):=c_Z47 x0 x1 x2 some
def e_Z47:Ent:=⟨170,[.agg [.rd (.slice (.int .i64))],.rd (.int .i64),.int .i64],[(.tup [.int .i64,.int .i64],[.undef,.undef,.undef])],fun _ ds k=>dL (fun x0 ds=>dL (fun x1 ds=>dI (fun x2 ds=>dE ((Z47 x0 x1 x2).bind (fun y=>k 0 [.I y.1,.I y.2])) ds) ds) ds) ds⟩
theorem q_Z47 (x0 x1:List D) (x2:Int):Qg (JG []) (JH [e_Z46]) A 170 Try.f170 (Sh.mks e_Z47.sh [.L x0,.L x1,.I x2]).1 (fun v os=>some (v,os))=c_Z47 x0 x1 x2 (fun y=>Qm e_Z47 0 [.I y.1,.I y.2]):=by kernel_rfl
theorem e_Z47_ok:e_Z47.ok Try.prog A:=by
 intro R ds k r h
 unfold e_Z47 at h
 obtain ⟨_,_,rfl,h⟩:=Jd h
 obtain ⟨_,_,rfl,h⟩:=Jd h
 obtain ⟨_,_,rfl,h⟩:=Jc h
 obtain ⟨rfl,hE⟩:=Jk h
 obtain ⟨y,hy,hk⟩:=Jl hE
 exact ⟨0,_,_,_,hk,rfl,Qn px (fx:=⟨Try.func170,by kernel_rfl,by kernel_rfl⟩) JD (JX e_Z46_ok JE) ((q_Z47 ..).trans ((c_Z47_bind ..).trans (Jq hy)))⟩

/-!-/
abbrev T_Z48:=List D→Int→Int→Int→Int→Int→List D→Int→Int→List D→List D→Option (List D×Int×Int×List D×List D)
def c_Z48 {R:Type} (F:T_Z48) (x0:List D) (x1 x2 x3 x4 x5:Int) (x6:List D) (x7 x8:Int) (x9 x10:List D) (k:List D×Int×Int×List D×List D→Option R):Option R:=
 bif decide (x8<x7) then
 if 0≤x8∧x8<(↑x6.length:Int) then
 bif decide (x2<x8) then
 bif decide (x8<x3) then
 if (0:Int)≤(x6.getD x8.toNat (D.int 0)).toInt∧(x6.getD x8.toNat (D.int 0)).toInt<(↑x9.length:Int) then
 if 0≤x1∧x1<(↑(x9.getD (x6.getD x8.toNat (D.int 0)).toInt.toNat (D.int 0)).items.length:Int) then
 bif decide (((x9.getD (x6.getD x8.toNat (D.int 0)).toInt.toNat (D.int 0)).items.getD x1.toNat (D.int 0)).toInt=(0:Int)) then
 if 0≤x8∧x8<(↑x10.length:Int) then
 if x8.toNat+1≤x10.length then
 if 0≤x8∧x8<(↑x10.length:Int) then
 if x8.toNat+1≤x10.length then
 (F x0 x1 x2 x3 x4 x5 x6 x7 (IntKind.i64.wrap (x8+1)) x9 (x10.set x8.toNat (D.int (IntKind.i64.wrap ((x10.getD x8.toNat (D.int 0)).toInt+(1:Int)))))).bind k
 else
 none
 else
 none
 else
 none
 else
 none
 else
 (F x0 x1 x2 x3 x4 x5 x6 x7 (IntKind.i64.wrap (x8+1)) x9 x10).bind k
 else
 none
 else
 none
 else
 (F x0 x1 x2 x3 x4 x5 x6 x7 (IntKind.i64.wrap (x8+1)) x9 x10).bind k
 else
 (F x0 x1 x2 x3 x4 x5 x6 x7 (IntKind.i64.wrap (x8+1)) x9 x10).bind k
 else
 none
 else
 k (x0,x4,x5,x9,x10)
theorem c_Z48_bind {R:Type} (F:T_Z48) (x0:List D) (x1 x2 x3 x4 x5:Int) (x6:List D) (x7 x8:Int) (x9 x10:List D) (k:List D×Int×Int×List D×List D→Option R):c_Z48 F x0 x1 x2 x3 x4 x5 x6 x7 x8 x9 x10 k=(c_Z48 F x0 x1 x2 x3 x4 x5 x6 x7 x8 x9 x10 some).bind k:=by
 unfold c_Z48
 repeat' first
  | exact JQ
  | exact JP
  | exact JO
  | apply JL
  | apply JM
  | apply JR
  | (apply JN; intro _)
  | intro _
def n_Z48:Nat→T_Z48
 | 0,_,_,_,_,_,_,_,_,_,_,_=>none
 | n+1,x0,x1,x2,x3,x4,x5,x6,x7,x8,x9,x10=>c_Z48 (n_Z48 n) x0 x1 x2 x3 x4 x5 x6 x7 x8 x9 x10 some
noncomputable def Z48 (x0:List D) (x1 x2 x3 x4 x5:Int) (x6:List D) (x7 x8:Int) (x9 x10:List D):Option (List D×Int×Int×List D×List D):=ev (fun n=>n_Z48 n x0 x1 x2 x3 x4 x5 x6 x7 x8 x9 x10)
def m_Z48 (F:T_Z48):JS:=⟨7,⟨(.undef::.rd (.int .i64)::.ptr 1000 [0]::.undef::.undef::.full 1001 [] (.int .i64)::.int .i64::.int .i64::.int .i64::uu 9 (.int .i64::.int .i64::uu 9 (.rd (.int .i64)::.int .i64::.int .i64::uu 32 ([])))),[(1000,.obox (.agg [.rd (.slice (.int .i64))])),(1001,.own (.int .i64))]⟩,[(.exit 2,⟨(.undef::.rd (.int .i64)::.ptr 1000 [0]::.undef::.undef::.full 1001 [] (.int .i64)::uu 12 (.int .i64::.int .i64::uu 44 ([]))),[(1000,.obox (.agg [.rd (.slice (.int .i64))])),(1001,.own (.int .i64))]⟩)],fun _ ds k=>dL (fun x0 ds=>dI (fun x1 ds=>dI (fun x2 ds=>dI (fun x3 ds=>dI (fun x4 ds=>dI (fun x5 ds=>dL (fun x6 ds=>dI (fun x7 ds=>dI (fun x8 ds=>dL (fun x9 ds=>dL (fun x10 ds=>dE ((F x0 x1 x2 x3 x4 x5 x6 x7 x8 x9 x10).bind (fun y=>k 0 [.L y.1,.I y.2.1,.I y.2.2.1,.L y.2.2.2.1,.L y.2.2.2.2])) ds) ds) ds) ds) ds) ds) ds) ds) ds) ds) ds) ds⟩
theorem q_Z48 (F:T_Z48) (x0:List D) (x1 x2 x3 x4 x5:Int) (x6:List D) (x7 x8:Int) (x9 x10:List D):QJ (JG []) (JH [m_Z48 F]) A 142 (JB (Jw Try.f142) 7) ((m_Z48 F).sh.mk' [.L x0,.I x1,.I x2,.I x3,.I x4,.I x5,.L x6,.I x7,.I x8,.L x9,.L x10]) (fun e σ'=>some (e,σ'))=c_Z48 F x0 x1 x2 x3 x4 x5 x6 x7 x8 x9 x10 (fun y=>some (.exit 2,SSt.mk' ⟨(.undef::.rd (.int .i64)::.ptr 1000 [0]::.undef::.undef::.full 1001 [] (.int .i64)::uu 12 (.int .i64::.int .i64::uu 44 ([]))),[(1000,.obox (.agg [.rd (.slice (.int .i64))])),(1001,.own (.int .i64))]⟩ [.L y.1,.I y.2.1,.I y.2.2.1,.L y.2.2.2.1,.L y.2.2.2.2])):=by kernel_rfl
theorem m_Z48_ok:∀ n,(m_Z48 (n_Z48 n)).ok Try.prog (JB (Jw Try.f142) 7):=by
 intro n
 induction n with
 | zero=>
  intro R ds k r h
  unfold m_Z48 at h
  obtain ⟨_,_,rfl,h⟩:=Jd h
  obtain ⟨_,_,rfl,h⟩:=Jc h
  obtain ⟨_,_,rfl,h⟩:=Jc h
  obtain ⟨_,_,rfl,h⟩:=Jc h
  obtain ⟨_,_,rfl,h⟩:=Jc h
  obtain ⟨_,_,rfl,h⟩:=Jc h
  obtain ⟨_,_,rfl,h⟩:=Jd h
  obtain ⟨_,_,rfl,h⟩:=Jc h
  obtain ⟨_,_,rfl,h⟩:=Jc h
  obtain ⟨_,_,rfl,h⟩:=Jd h
  obtain ⟨_,_,rfl,h⟩:=Jd h
  obtain ⟨rfl,hE⟩:=Jk h
  obtain ⟨y,hy,hk⟩:=Jl hE
  cases hy
 | succ n ih=>
  intro R ds k r h
  unfold m_Z48 at h
  obtain ⟨_,_,rfl,h⟩:=Jd h
  obtain ⟨_,_,rfl,h⟩:=Jc h
  obtain ⟨_,_,rfl,h⟩:=Jc h
  obtain ⟨_,_,rfl,h⟩:=Jc h
  obtain ⟨_,_,rfl,h⟩:=Jc h
  obtain ⟨_,_,rfl,h⟩:=Jc h
  obtain ⟨_,_,rfl,h⟩:=Jd h
  obtain ⟨_,_,rfl,h⟩:=Jc h
  obtain ⟨_,_,rfl,h⟩:=Jc h
  obtain ⟨_,_,rfl,h⟩:=Jd h
  obtain ⟨_,_,rfl,h⟩:=Jd h
  obtain ⟨rfl,hE⟩:=Jk h
  obtain ⟨y,hy,hk⟩:=Jl hE
  exact ⟨0,_,_,_,hk,rfl,Qy px (fx:=⟨Try.func142,by kernel_rfl,by kernel_rfl⟩) JD (JX ih JE) (by kernel_rfl) ((q_Z48 ..).trans ((c_Z48_bind ..).trans (Jq hy)))⟩
noncomputable def e_Z48:JS:=m_Z48 (Z48)
theorem e_Z48_ok:(e_Z48).ok Try.prog (JB (Jw Try.f142) 7):=by
 intro R ds k r h
 unfold e_Z48 m_Z48 at h
 obtain ⟨_,_,rfl,h⟩:=Jd h
 obtain ⟨_,_,rfl,h⟩:=Jc h
 obtain ⟨_,_,rfl,h⟩:=Jc h
 obtain ⟨_,_,rfl,h⟩:=Jc h
 obtain ⟨_,_,rfl,h⟩:=Jc h
 obtain ⟨_,_,rfl,h⟩:=Jc h
 obtain ⟨_,_,rfl,h⟩:=Jd h
 obtain ⟨_,_,rfl,h⟩:=Jc h
 obtain ⟨_,_,rfl,h⟩:=Jc h
 obtain ⟨_,_,rfl,h⟩:=Jd h
 obtain ⟨_,_,rfl,h⟩:=Jd h
 obtain ⟨rfl,hE⟩:=Jk h
 obtain ⟨y,hy,hk⟩:=Jl hE
 obtain ⟨n,hn⟩:=QH hy
 exact m_Z48_ok n R _ k r ((Jq hn).trans hk)

/-!-/
abbrev T_Z49:=List D→Int→Int→List D→List D→Option (List D)
def c_Z49 {R:Type} (F:T_Z49) (x0:List D) (x1 x2:Int) (x3 x4:List D) (k:List D→Option R):Option R:=
 bif decide (x2<x1) then
 (Z47 x3 x0 x2).bind (fun y0=>
 (Z48 x0 x2 y0.fst y0.snd x1 x2 x0 (↑x0.length:Int) (0:Int) x3 x4).bind (fun y1=>
 (F y1.fst y1.snd.fst (IntKind.i64.wrap (y1.snd.snd.fst+1)) y1.snd.snd.snd.fst y1.snd.snd.snd.snd).bind k))
 else
 k x4
theorem c_Z49_bind {R:Type} (F:T_Z49) (x0:List D) (x1 x2:Int) (x3 x4:List D) (k:List D→Option R):c_Z49 F x0 x1 x2 x3 x4 k=(c_Z49 F x0 x1 x2 x3 x4 some).bind k:=by
 unfold c_Z49
 repeat' first
  | exact JQ
  | exact JP
  | exact JO
  | apply JL
  | apply JM
  | apply JR
  | (apply JN; intro _)
  | intro _
def n_Z49:Nat→T_Z49
 | 0,_,_,_,_,_=>none
 | n+1,x0,x1,x2,x3,x4=>c_Z49 (n_Z49 n) x0 x1 x2 x3 x4 some
noncomputable def Z49 (x0:List D) (x1 x2:Int) (x3 x4:List D):Option (List D):=ev (fun n=>n_Z49 n x0 x1 x2 x3 x4)
def m_Z49 (F:T_Z49):JS:=⟨3,⟨(.undef::.rd (.int .i64)::.ptr 1000 [0]::.undef::.undef::.full 1001 [] (.int .i64)::uu 12 (.int .i64::.int .i64::uu 44 ([]))),[(1000,.obox (.agg [.rd (.slice (.int .i64))])),(1001,.own (.int .i64))]⟩,[(.exit 0,⟨(uu 5 (.full 1000 [] (.int .i64)::uu 58 ([]))),[(1000,.own (.int .i64))]⟩)],fun _ ds k=>dL (fun x0 ds=>dI (fun x1 ds=>dI (fun x2 ds=>dL (fun x3 ds=>dL (fun x4 ds=>dE ((F x0 x1 x2 x3 x4).bind (fun y=>k 0 [.L y])) ds) ds) ds) ds) ds) ds⟩
theorem q_Z49 (F:T_Z49) (x0:List D) (x1 x2:Int) (x3 x4:List D):QJ (JG [e_Z47]) (JH [m_Z49 F,e_Z48]) A 142 (JB (Jw Try.f142) 3) ((m_Z49 F).sh.mk' [.L x0,.I x1,.I x2,.L x3,.L x4]) (fun e σ'=>some (e,σ'))=c_Z49 F x0 x1 x2 x3 x4 (fun y=>some (.exit 0,SSt.mk' ⟨(uu 5 (.full 1000 [] (.int .i64)::uu 58 ([]))),[(1000,.own (.int .i64))]⟩ [.L y])):=by kernel_rfl
theorem m_Z49_ok:∀ n,(m_Z49 (n_Z49 n)).ok Try.prog (JB (Jw Try.f142) 3):=by
 intro n
 induction n with
 | zero=>
  intro R ds k r h
  unfold m_Z49 at h
  obtain ⟨_,_,rfl,h⟩:=Jd h
  obtain ⟨_,_,rfl,h⟩:=Jc h
  obtain ⟨_,_,rfl,h⟩:=Jc h
  obtain ⟨_,_,rfl,h⟩:=Jd h
  obtain ⟨_,_,rfl,h⟩:=Jd h
  obtain ⟨rfl,hE⟩:=Jk h
  obtain ⟨y,hy,hk⟩:=Jl hE
  cases hy
 | succ n ih=>
  intro R ds k r h
  unfold m_Z49 at h
  obtain ⟨_,_,rfl,h⟩:=Jd h
  obtain ⟨_,_,rfl,h⟩:=Jc h
  obtain ⟨_,_,rfl,h⟩:=Jc h
  obtain ⟨_,_,rfl,h⟩:=Jd h
  obtain ⟨_,_,rfl,h⟩:=Jd h
  obtain ⟨rfl,hE⟩:=Jk h
  obtain ⟨y,hy,hk⟩:=Jl hE
  exact ⟨0,_,_,_,hk,rfl,Qy px (fx:=⟨Try.func142,by kernel_rfl,by kernel_rfl⟩) (J4 e_Z47_ok JD) (JX ih (JX e_Z48_ok JE)) (by kernel_rfl) ((q_Z49 ..).trans ((c_Z49_bind ..).trans (Jq hy)))⟩
noncomputable def e_Z49:JS:=m_Z49 (Z49)
theorem e_Z49_ok:(e_Z49).ok Try.prog (JB (Jw Try.f142) 3):=by
 intro R ds k r h
 unfold e_Z49 m_Z49 at h
 obtain ⟨_,_,rfl,h⟩:=Jd h
 obtain ⟨_,_,rfl,h⟩:=Jc h
 obtain ⟨_,_,rfl,h⟩:=Jc h
 obtain ⟨_,_,rfl,h⟩:=Jd h
 obtain ⟨_,_,rfl,h⟩:=Jd h
 obtain ⟨rfl,hE⟩:=Jk h
 obtain ⟨y,hy,hk⟩:=Jl hE
 obtain ⟨n,hn⟩:=QH hy
 exact m_Z49_ok n R _ k r ((Jq hn).trans hk)

/-!-/
def c_Z50 {R:Type} (x0 x1:List D) (k:List D→Option R):Option R:=
 if (0:Int)≤(↑x1.length:Int)∧(↑x1.length:Int)≤(↑x1.length:Int)∧(↑x1.length:Int)≤(4294967296:Int) then
 if (0:Int)≤(0:Int)∧(0:Int)<(↑x0.length:Int) then
 (Z49 x1 (↑(x0.getD (Int.toNat (0:Int)) (D.int 0)).items.length:Int) (0:Int) x0 (List.replicate (↑x1.length:Int).toNat (D.int 0))).bind (fun y0=>
 k y0)
 else
 none
 else
 none
theorem c_Z50_bind {R:Type} (x0 x1:List D) (k:List D→Option R):c_Z50 x0 x1 k=(c_Z50 x0 x1 some).bind k:=by
 unfold c_Z50
 repeat' first
  | exact JQ
  | exact JP
  | exact JO
  | apply JL
  | apply JM
  | apply JR
  | (apply JN; intro _)
  | intro _
def Z50 (x0 x1:List D):Option (List D):=c_Z50 x0 x1 some
def e_Z50:Ent:=⟨142,[.agg [.rd (.slice (.int .i64))],.rd (.int .i64)],[(.own (.int .i64),[.undef,.undef])],fun _ ds k=>dL (fun x0 ds=>dL (fun x1 ds=>dE ((Z50 x0 x1).bind (fun y=>k 0 [.L y])) ds) ds) ds⟩
theorem q_Z50 (x0 x1:List D):Qg (JG []) (JH [e_Z49]) A 142 Try.f142 (Sh.mks e_Z50.sh [.L x0,.L x1]).1 (fun v os=>some (v,os))=c_Z50 x0 x1 (fun y=>Qm e_Z50 0 [.L y]):=by kernel_rfl
theorem e_Z50_ok:e_Z50.ok Try.prog A:=by
 intro R ds k r h
 unfold e_Z50 at h
 obtain ⟨_,_,rfl,h⟩:=Jd h
 obtain ⟨_,_,rfl,h⟩:=Jd h
 obtain ⟨rfl,hE⟩:=Jk h
 obtain ⟨y,hy,hk⟩:=Jl hE
 exact ⟨0,_,_,_,hk,rfl,Qn px (fx:=⟨Try.func142,by kernel_rfl,by kernel_rfl⟩) JD (JX e_Z49_ok JE) ((q_Z50 ..).trans ((c_Z50_bind ..).trans (Jq hy)))⟩

/-!-/
abbrev T_Z51:=Int→List D→Int→Int→Option (Int)
def c_Z51 {R:Type} (F:T_Z51) (x0:Int) (x1:List D) (x2 x3:Int) (k:Int→Option R):Option R:=
 bif decide (x3<x2) then
 if 0≤x3∧x3<(↑x1.length:Int) then
 (F (IntKind.i64.wrap (x0+(x1.getD x3.toNat (D.int 0)).toInt)) x1 x2 (IntKind.i64.wrap (x3+1))).bind k
 else
 none
 else
 k x0
theorem c_Z51_bind {R:Type} (F:T_Z51) (x0:Int) (x1:List D) (x2 x3:Int) (k:Int→Option R):c_Z51 F x0 x1 x2 x3 k=(c_Z51 F x0 x1 x2 x3 some).bind k:=by
 unfold c_Z51
 repeat' first
  | exact JQ
  | exact JP
  | exact JO
  | apply JL
  | apply JM
  | apply JR
  | (apply JN; intro _)
  | intro _
def n_Z51:Nat→T_Z51
 | 0,_,_,_,_=>none
 | n+1,x0,x1,x2,x3=>c_Z51 (n_Z51 n) x0 x1 x2 x3 some
noncomputable def Z51 (x0:Int) (x1:List D) (x2 x3:Int):Option (Int):=ev (fun n=>n_Z51 n x0 x1 x2 x3)
def m_Z51 (F:T_Z51):JS:=⟨3,⟨(.undef::.undef::.undef::.int .i64::.undef::.undef::.rd (.int .i64)::.int .i64::.int .i64::uu 8 ([])),[]⟩,[(.exit 0,⟨(.undef::.undef::.undef::.int .i64::uu 13 ([])),[]⟩)],fun _ ds k=>dI (fun x0 ds=>dL (fun x1 ds=>dI (fun x2 ds=>dI (fun x3 ds=>dE ((F x0 x1 x2 x3).bind (fun y=>k 0 [.I y])) ds) ds) ds) ds) ds⟩
theorem q_Z51 (F:T_Z51) (x0:Int) (x1:List D) (x2 x3:Int):QJ (JG []) (JH [m_Z51 F]) A 141 (JB (Jw Try.f141) 3) ((m_Z51 F).sh.mk' [.I x0,.L x1,.I x2,.I x3]) (fun e σ'=>some (e,σ'))=c_Z51 F x0 x1 x2 x3 (fun y=>some (.exit 0,SSt.mk' ⟨(.undef::.undef::.undef::.int .i64::uu 13 ([])),[]⟩ [.I y])):=by kernel_rfl
theorem m_Z51_ok:∀ n,(m_Z51 (n_Z51 n)).ok Try.prog (JB (Jw Try.f141) 3):=by
 intro n
 induction n with
 | zero=>
  intro R ds k r h
  unfold m_Z51 at h
  obtain ⟨_,_,rfl,h⟩:=Jc h
  obtain ⟨_,_,rfl,h⟩:=Jd h
  obtain ⟨_,_,rfl,h⟩:=Jc h
  obtain ⟨_,_,rfl,h⟩:=Jc h
  obtain ⟨rfl,hE⟩:=Jk h
  obtain ⟨y,hy,hk⟩:=Jl hE
  cases hy
 | succ n ih=>
  intro R ds k r h
  unfold m_Z51 at h
  obtain ⟨_,_,rfl,h⟩:=Jc h
  obtain ⟨_,_,rfl,h⟩:=Jd h
  obtain ⟨_,_,rfl,h⟩:=Jc h
  obtain ⟨_,_,rfl,h⟩:=Jc h
  obtain ⟨rfl,hE⟩:=Jk h
  obtain ⟨y,hy,hk⟩:=Jl hE
  exact ⟨0,_,_,_,hk,rfl,Qy px (fx:=⟨Try.func141,by kernel_rfl,by kernel_rfl⟩) JD (JX ih JE) (by kernel_rfl) ((q_Z51 ..).trans ((c_Z51_bind ..).trans (Jq hy)))⟩
noncomputable def e_Z51:JS:=m_Z51 (Z51)
theorem e_Z51_ok:(e_Z51).ok Try.prog (JB (Jw Try.f141) 3):=by
 intro R ds k r h
 unfold e_Z51 m_Z51 at h
 obtain ⟨_,_,rfl,h⟩:=Jc h
 obtain ⟨_,_,rfl,h⟩:=Jd h
 obtain ⟨_,_,rfl,h⟩:=Jc h
 obtain ⟨_,_,rfl,h⟩:=Jc h
 obtain ⟨rfl,hE⟩:=Jk h
 obtain ⟨y,hy,hk⟩:=Jl hE
 obtain ⟨n,hn⟩:=QH hy
 exact m_Z51_ok n R _ k r ((Jq hn).trans hk)

/-!-/
def c_Z52 {R:Type} (x0:List D) (k:Int→Option R):Option R:=
 (Z51 (0:Int) x0 (↑x0.length:Int) (0:Int)).bind (fun y0=>
 k y0)
theorem c_Z52_bind {R:Type} (x0:List D) (k:Int→Option R):c_Z52 x0 k=(c_Z52 x0 some).bind k:=by
 unfold c_Z52
 repeat' first
  | exact JQ
  | exact JP
  | exact JO
  | apply JL
  | apply JM
  | apply JR
  | (apply JN; intro _)
  | intro _
def Z52 (x0:List D):Option (Int):=c_Z52 x0 some
def e_Z52:Ent:=⟨141,[.rd (.int .i64)],[(.int .i64,[.undef])],fun _ ds k=>dL (fun x0 ds=>dE ((Z52 x0).bind (fun y=>k 0 [.I y])) ds) ds⟩
theorem q_Z52 (x0:List D):Qg (JG []) (JH [e_Z51]) A 141 Try.f141 (Sh.mks e_Z52.sh [.L x0]).1 (fun v os=>some (v,os))=c_Z52 x0 (fun y=>Qm e_Z52 0 [.I y]):=by kernel_rfl
theorem e_Z52_ok:e_Z52.ok Try.prog A:=by
 intro R ds k r h
 unfold e_Z52 at h
 obtain ⟨_,_,rfl,h⟩:=Jd h
 obtain ⟨rfl,hE⟩:=Jk h
 obtain ⟨y,hy,hk⟩:=Jl hE
 exact ⟨0,_,_,_,hk,rfl,Qn px (fx:=⟨Try.func141,by kernel_rfl,by kernel_rfl⟩) JD (JX e_Z51_ok JE) ((q_Z52 ..).trans ((c_Z52_bind ..).trans (Jq hy)))⟩

/-!-/
def c_Z53 {R:Type} (x0 x1:List D) (k:Int→Option R):Option R:=
 (Z50 x0 x1).bind (fun y0=>
 (Z52 y0).bind (fun y1=>
 k y1))
theorem c_Z53_bind {R:Type} (x0 x1:List D) (k:Int→Option R):c_Z53 x0 x1 k=(c_Z53 x0 x1 some).bind k:=by
 unfold c_Z53
 repeat' first
  | exact JQ
  | exact JP
  | exact JO
  | apply JL
  | apply JM
  | apply JR
  | (apply JN; intro _)
  | intro _
def Z53 (x0 x1:List D):Option (Int):=c_Z53 x0 x1 some
def e_Z53:Ent:=⟨116,[.agg [.rd (.slice (.int .i64))],.rd (.int .i64)],[(.int .i64,[.undef,.undef])],fun _ ds k=>dL (fun x0 ds=>dL (fun x1 ds=>dE ((Z53 x0 x1).bind (fun y=>k 0 [.I y])) ds) ds) ds⟩
theorem q_Z53 (x0 x1:List D):Qg (JG [e_Z50,e_Z52]) (JH []) A 116 Try.f116 (Sh.mks e_Z53.sh [.L x0,.L x1]).1 (fun v os=>some (v,os))=c_Z53 x0 x1 (fun y=>Qm e_Z53 0 [.I y]):=by kernel_rfl
theorem e_Z53_ok:e_Z53.ok Try.prog A:=by
 intro R ds k r h
 unfold e_Z53 at h
 obtain ⟨_,_,rfl,h⟩:=Jd h
 obtain ⟨_,_,rfl,h⟩:=Jd h
 obtain ⟨rfl,hE⟩:=Jk h
 obtain ⟨y,hy,hk⟩:=Jl hE
 exact ⟨0,_,_,_,hk,rfl,Qn px (fx:=⟨Try.func116,by kernel_rfl,by kernel_rfl⟩) (J4 e_Z50_ok (J4 e_Z52_ok JD)) JE ((q_Z53 ..).trans ((c_Z53_bind ..).trans (Jq hy)))⟩

/-!-/
def c_Z54 {R:Type} (x0 x1:List D) (k:Int→Option R):Option R:=
 (Z53 x1 x0).bind (fun y0=>
 k y0)
theorem c_Z54_bind {R:Type} (x0 x1:List D) (k:Int→Option R):c_Z54 x0 x1 k=(c_Z54 x0 x1 some).bind k:=by
 unfold c_Z54
 repeat' first
  | exact JQ
  | exact JP
  | exact JO
  | apply JL
  | apply JM
  | apply JR
  | (apply JN; intro _)
  | intro _
def Z54 (x0 x1:List D):Option (Int):=c_Z54 x0 x1 some
def e_Z54:Ent:=⟨115,[.rd (.int .i64),.rp (.agg [.rd (.slice (.int .i64))])],[(.int .i64,[.undef,.undef])],fun _ ds k=>dL (fun x0 ds=>dL (fun x1 ds=>dE ((Z54 x0 x1).bind (fun y=>k 0 [.I y])) ds) ds) ds⟩
theorem q_Z54 (x0 x1:List D):Qg (JG [e_Z53]) (JH []) A 115 Try.f115 (Sh.mks e_Z54.sh [.L x0,.L x1]).1 (fun v os=>some (v,os))=c_Z54 x0 x1 (fun y=>Qm e_Z54 0 [.I y]):=by kernel_rfl
theorem e_Z54_ok:e_Z54.ok Try.prog A:=by
 intro R ds k r h
 unfold e_Z54 at h
 obtain ⟨_,_,rfl,h⟩:=Jd h
 obtain ⟨_,_,rfl,h⟩:=Jd h
 obtain ⟨rfl,hE⟩:=Jk h
 obtain ⟨y,hy,hk⟩:=Jl hE
 exact ⟨0,_,_,_,hk,rfl,Qn px (fx:=⟨Try.func115,by kernel_rfl,by kernel_rfl⟩) (J4 e_Z53_ok JD) JE ((q_Z54 ..).trans ((c_Z54_bind ..).trans (Jq hy)))⟩

/-!-/
abbrev T_Z55:=List D→Nat→Int→Int→Int→List D→Option (Nat×Int×List D)
def c_Z55 {R:Type} (F:T_Z55) (x0:List D) (x1:Nat) (x2 x3 x4:Int) (x5:List D) (k:Nat×Int×List D→Option R):Option R:=
 bif decide (x4<x3) then
 if 0≤x4∧x4<(↑x5.length:Int) then
 if x4.toNat+1≤x5.length then
 if x4.toNat+1≤x5.length then
 (Z54 ((x5.getD x4.toNat (D.int 0)).items) x0).bind (fun y0=>
 if x1+(1:Nat)≤x5.length then
 if (1:Nat)≤(x5.getD x1 (D.int 0)).items.length then
 bif decide (y0<x2) then
 (F x0 x4.toNat y0 x3 (IntKind.i64.wrap (x4+1)) x5).bind k
 else
 (F x0 x1 x2 x3 (IntKind.i64.wrap (x4+1)) x5).bind k
 else
 none
 else
 none)
 else
 none
 else
 none
 else
 none
 else
 k (x1,x2,x5)
theorem c_Z55_bind {R:Type} (F:T_Z55) (x0:List D) (x1:Nat) (x2 x3 x4:Int) (x5:List D) (k:Nat×Int×List D→Option R):c_Z55 F x0 x1 x2 x3 x4 x5 k=(c_Z55 F x0 x1 x2 x3 x4 x5 some).bind k:=by
 unfold c_Z55
 repeat' first
  | exact JQ
  | exact JP
  | exact JO
  | apply JL
  | apply JM
  | apply JR
  | (apply JN; intro _)
  | intro _
def n_Z55:Nat→T_Z55
 | 0,_,_,_,_,_,_=>none
 | n+1,x0,x1,x2,x3,x4,x5=>c_Z55 (n_Z55 n) x0 x1 x2 x3 x4 x5 some
noncomputable def Z55 (x0:List D) (x1:Nat) (x2 x3 x4:Int) (x5:List D):Option (Nat×Int×List D):=ev (fun n=>n_Z55 n x0 x1 x2 x3 x4 x5)
def m_Z55 (F:T_Z55):JS:=⟨10,⟨(.undef::.fn 115 [.rp (.agg [.rd (.slice (.int .i64))])]::uu 6 (.full 1000 [1000000] (.int .i64)::.int .i64::uu 14 (.full 1000 [] (.slice (.int .i64))::.int .i64::.int .i64::uu 18 ([])))),[(1000,.own (.slice (.int .i64)))]⟩,[(.exit 2,⟨(uu 8 (.full 1000 [1000000] (.int .i64)::.int .i64::uu 35 ([]))),[(1000,.own (.slice (.int .i64)))]⟩)],fun _ ds k=>dL (fun x0 ds=>dN (fun x1 ds=>dI (fun x2 ds=>dI (fun x3 ds=>dI (fun x4 ds=>dL (fun x5 ds=>dE ((F x0 x1 x2 x3 x4 x5).bind (fun y=>k 0 [.N y.1,.I y.2.1,.L y.2.2])) ds) ds) ds) ds) ds) ds) ds⟩
theorem q_Z55 (F:T_Z55) (x0:List D) (x1:Nat) (x2 x3 x4:Int) (x5:List D):QJ (JG [e_Z54]) (JH [m_Z55 F]) A 112 (JB (Jw Try.f112) 10) ((m_Z55 F).sh.mk' [.L x0,.N x1,.I x2,.I x3,.I x4,.L x5]) (fun e σ'=>some (e,σ'))=c_Z55 F x0 x1 x2 x3 x4 x5 (fun y=>some (.exit 2,SSt.mk' ⟨(uu 8 (.full 1000 [1000000] (.int .i64)::.int .i64::uu 35 ([]))),[(1000,.own (.slice (.int .i64)))]⟩ [.N y.1,.I y.2.1,.L y.2.2])):=by kernel_rfl
theorem m_Z55_ok:∀ n,(m_Z55 (n_Z55 n)).ok Try.prog (JB (Jw Try.f112) 10):=by
 intro n
 induction n with
 | zero=>
  intro R ds k r h
  unfold m_Z55 at h
  obtain ⟨_,_,rfl,h⟩:=Jd h
  obtain ⟨_,_,rfl,h⟩:=KJ h
  obtain ⟨_,_,rfl,h⟩:=Jc h
  obtain ⟨_,_,rfl,h⟩:=Jc h
  obtain ⟨_,_,rfl,h⟩:=Jc h
  obtain ⟨_,_,rfl,h⟩:=Jd h
  obtain ⟨rfl,hE⟩:=Jk h
  obtain ⟨y,hy,hk⟩:=Jl hE
  cases hy
 | succ n ih=>
  intro R ds k r h
  unfold m_Z55 at h
  obtain ⟨_,_,rfl,h⟩:=Jd h
  obtain ⟨_,_,rfl,h⟩:=KJ h
  obtain ⟨_,_,rfl,h⟩:=Jc h
  obtain ⟨_,_,rfl,h⟩:=Jc h
  obtain ⟨_,_,rfl,h⟩:=Jc h
  obtain ⟨_,_,rfl,h⟩:=Jd h
  obtain ⟨rfl,hE⟩:=Jk h
  obtain ⟨y,hy,hk⟩:=Jl hE
  exact ⟨0,_,_,_,hk,rfl,Qy px (fx:=⟨Try.func112,by kernel_rfl,by kernel_rfl⟩) (J4 e_Z54_ok JD) (JX ih JE) (by kernel_rfl) ((q_Z55 ..).trans ((c_Z55_bind ..).trans (Jq hy)))⟩
noncomputable def e_Z55:JS:=m_Z55 (Z55)
theorem e_Z55_ok:(e_Z55).ok Try.prog (JB (Jw Try.f112) 10):=by
 intro R ds k r h
 unfold e_Z55 m_Z55 at h
 obtain ⟨_,_,rfl,h⟩:=Jd h
 obtain ⟨_,_,rfl,h⟩:=KJ h
 obtain ⟨_,_,rfl,h⟩:=Jc h
 obtain ⟨_,_,rfl,h⟩:=Jc h
 obtain ⟨_,_,rfl,h⟩:=Jc h
 obtain ⟨_,_,rfl,h⟩:=Jd h
 obtain ⟨rfl,hE⟩:=Jk h
 obtain ⟨y,hy,hk⟩:=Jl hE
 obtain ⟨n,hn⟩:=QH hy
 exact m_Z55_ok n R _ k r ((Jq hn).trans hk)

/-!-/
abbrev T_Z56:=List D→Int→Int→Int→List D→Option ((Nat×Int×List D)⊕(Int))
def c_Z56 {R:Type} (F:T_Z56) (x0:List D) (x1 x2 x3:Int) (x4:List D) (k:(Nat×Int×List D)⊕(Int)→Option R):Option R:=
 bif decide (x3<x2) then
 if 0≤x3∧x3<(↑x4.length:Int) then
 if x3.toNat+1≤x4.length then
 if x3.toNat+1≤x4.length then
 (Z54 ((x4.getD x3.toNat (D.int 0)).items) x0).bind (fun y0=>
 (Z55 x0 x3.toNat y0 x2 (IntKind.i64.wrap (x3+1)) x4).bind (fun y1=>
 k (.inl (y1.fst,y1.snd.fst,y1.snd.snd))))
 else
 none
 else
 none
 else
 none
 else
 k (.inr x1)
theorem c_Z56_bind {R:Type} (F:T_Z56) (x0:List D) (x1 x2 x3:Int) (x4:List D) (k:(Nat×Int×List D)⊕(Int)→Option R):c_Z56 F x0 x1 x2 x3 x4 k=(c_Z56 F x0 x1 x2 x3 x4 some).bind k:=by
 unfold c_Z56
 repeat' first
  | exact JQ
  | exact JP
  | exact JO
  | apply JL
  | apply JM
  | apply JR
  | (apply JN; intro _)
  | intro _
def n_Z56:Nat→T_Z56
 | 0,_,_,_,_,_=>none
 | n+1,x0,x1,x2,x3,x4=>c_Z56 (n_Z56 n) x0 x1 x2 x3 x4 some
noncomputable def Z56 (x0:List D) (x1 x2 x3:Int) (x4:List D):Option ((Nat×Int×List D)⊕(Int)):=ev (fun n=>n_Z56 n x0 x1 x2 x3 x4)
def m_Z56 (F:T_Z56):JS:=⟨10,⟨(.undef::.fn 115 [.rp (.agg [.rd (.slice (.int .i64))])]::uu 6 (.nilsl::.int .i64::uu 14 (.full 1000 [] (.slice (.int .i64))::.int .i64::.int .i64::uu 18 ([])))),[(1000,.own (.slice (.int .i64)))]⟩,[(.exit 2,⟨(uu 8 (.full 1000 [1000000] (.int .i64)::.int .i64::uu 35 ([]))),[(1000,.own (.slice (.int .i64)))]⟩),(.exit 2,⟨(uu 8 (.nilsl::.int .i64::uu 35 ([]))),[]⟩)],fun _ ds k=>dL (fun x0 ds=>dI (fun x1 ds=>dI (fun x2 ds=>dI (fun x3 ds=>dL (fun x4 ds=>dE ((F x0 x1 x2 x3 x4).bind (Sum.elim (fun y=>k 0 [.N y.1,.I y.2.1,.L y.2.2]) (fun y=>k 1 [.I y]))) ds) ds) ds) ds) ds) ds⟩
theorem q_Z56 (F:T_Z56) (x0:List D) (x1 x2 x3:Int) (x4:List D):QJ (JG [e_Z54]) (JH [m_Z56 F,e_Z55]) A 112 (JB (Jw Try.f112) 10) ((m_Z56 F).sh.mk' [.L x0,.I x1,.I x2,.I x3,.L x4]) (fun e σ'=>some (e,σ'))=c_Z56 F x0 x1 x2 x3 x4 (Sum.elim (fun y=>some (.exit 2,SSt.mk' ⟨(uu 8 (.full 1000 [1000000] (.int .i64)::.int .i64::uu 35 ([]))),[(1000,.own (.slice (.int .i64)))]⟩ [.N y.1,.I y.2.1,.L y.2.2])) (fun y=>some (.exit 2,SSt.mk' ⟨(uu 8 (.nilsl::.int .i64::uu 35 ([]))),[]⟩ [.I y]))):=by kernel_rfl
theorem m_Z56_ok:∀ n,(m_Z56 (n_Z56 n)).ok Try.prog (JB (Jw Try.f112) 10):=by
 intro n
 induction n with
 | zero=>
  intro R ds k r h
  unfold m_Z56 at h
  obtain ⟨_,_,rfl,h⟩:=Jd h
  obtain ⟨_,_,rfl,h⟩:=Jc h
  obtain ⟨_,_,rfl,h⟩:=Jc h
  obtain ⟨_,_,rfl,h⟩:=Jc h
  obtain ⟨_,_,rfl,h⟩:=Jd h
  obtain ⟨rfl,hE⟩:=Jk h
  obtain ⟨y,hy,hk⟩:=Jl hE
  cases hy
 | succ n ih=>
  intro R ds k r h
  unfold m_Z56 at h
  obtain ⟨_,_,rfl,h⟩:=Jd h
  obtain ⟨_,_,rfl,h⟩:=Jc h
  obtain ⟨_,_,rfl,h⟩:=Jc h
  obtain ⟨_,_,rfl,h⟩:=Jc h
  obtain ⟨_,_,rfl,h⟩:=Jd h
  obtain ⟨rfl,hE⟩:=Jk h
  obtain ⟨y,hy,hk⟩:=Jl hE
  cases y with
  | inl y=>
   exact ⟨0,_,_,_,hk,rfl,Qy px (fx:=⟨Try.func112,by kernel_rfl,by kernel_rfl⟩) (J4 e_Z54_ok JD) (JX ih (JX e_Z55_ok JE)) (by kernel_rfl) ((q_Z56 ..).trans ((c_Z56_bind ..).trans (Jq hy)))⟩
  | inr y=>
   exact ⟨1,_,_,_,hk,rfl,Qy px (fx:=⟨Try.func112,by kernel_rfl,by kernel_rfl⟩) (J4 e_Z54_ok JD) (JX ih (JX e_Z55_ok JE)) (by kernel_rfl) ((q_Z56 ..).trans ((c_Z56_bind ..).trans (Jq hy)))⟩
noncomputable def e_Z56:JS:=m_Z56 (Z56)
theorem e_Z56_ok:(e_Z56).ok Try.prog (JB (Jw Try.f112) 10):=by
 intro R ds k r h
 unfold e_Z56 m_Z56 at h
 obtain ⟨_,_,rfl,h⟩:=Jd h
 obtain ⟨_,_,rfl,h⟩:=Jc h
 obtain ⟨_,_,rfl,h⟩:=Jc h
 obtain ⟨_,_,rfl,h⟩:=Jc h
 obtain ⟨_,_,rfl,h⟩:=Jd h
 obtain ⟨rfl,hE⟩:=Jk h
 obtain ⟨y,hy,hk⟩:=Jl hE
 obtain ⟨n,hn⟩:=QH hy
 exact m_Z56_ok n R _ k r ((Jq hn).trans hk)

/-!-/
def c_Z57 {R:Type} (x0:Int) (x1:List D) (k:List D×Int→Option R):Option R:=
 (Z40 x1 x0 (0:Int) []).bind (fun y0=>
 (Z45 y0.snd).bind (fun y1=>
 (Z56 y0.fst (0:Int) (↑y1.length:Int) (0:Int) y1).bind (Sum.elim (fun y2=>
 if y2.fst+(1:Nat)≤y2.snd.snd.length then
 k ((y2.snd.snd.getD y2.fst (D.int 0)).items,y2.snd.fst)
 else
 none) (fun y3=>
 k ([],y3)))))
theorem c_Z57_bind {R:Type} (x0:Int) (x1:List D) (k:List D×Int→Option R):c_Z57 x0 x1 k=(c_Z57 x0 x1 some).bind k:=by
 unfold c_Z57
 repeat' first
  | exact JQ
  | exact JP
  | exact JO
  | apply JL
  | apply JM
  | apply JR
  | (apply JN; intro _)
  | intro _
def Z57 (x0:Int) (x1:List D):Option (List D×Int):=c_Z57 x0 x1 some
def e_Z57:Ent:=⟨112,[.int .i64,.fn 115 [.rp (.agg [.rd (.slice (.int .i64))])]],[(.tup [.own (.int .i64),.int .i64],[.undef,.undef])],fun _ ds k=>dI (fun x0 ds=>dL (fun x1 ds=>dE ((Z57 x0 x1).bind (fun y=>k 0 [.L y.1,.I y.2])) ds) ds) ds⟩
theorem q_Z57 (x0:Int) (x1:List D):Qg (JG [e_Z45]) (JH [e_Z40,e_Z56]) A 112 Try.f112 (Sh.mks e_Z57.sh [.I x0,.L x1]).1 (fun v os=>some (v,os))=c_Z57 x0 x1 (fun y=>Qm e_Z57 0 [.L y.1,.I y.2]):=by kernel_rfl
theorem e_Z57_ok:e_Z57.ok Try.prog A:=by
 intro R ds k r h
 unfold e_Z57 at h
 obtain ⟨_,_,rfl,h⟩:=Jc h
 obtain ⟨_,_,rfl,h⟩:=Jd h
 obtain ⟨rfl,hE⟩:=Jk h
 obtain ⟨y,hy,hk⟩:=Jl hE
 exact ⟨0,_,_,_,hk,rfl,Qn px (fx:=⟨Try.func112,by kernel_rfl,by kernel_rfl⟩) (J4 e_Z45_ok JD) (JX e_Z40_ok (JX e_Z56_ok JE)) ((q_Z57 ..).trans ((c_Z57_bind ..).trans (Jq hy)))⟩

/-!-/
def c_Z58 {R:Type} (x0:List D) (k:List D×Int×Bool→Option R):Option R:=
 (Z39 x0).bind (fun y0=>
 bif !y0 then
 k ([],(0:Int),Bool.false)
 else
 (Z57 (↑x0.length:Int) x0).bind (fun y1=>
 k (y1.fst,y1.snd,Bool.true)))
theorem c_Z58_bind {R:Type} (x0:List D) (k:List D×Int×Bool→Option R):c_Z58 x0 k=(c_Z58 x0 some).bind k:=by
 unfold c_Z58
 repeat' first
  | exact JQ
  | exact JP
  | exact JO
  | apply JL
  | apply JM
  | apply JR
  | (apply JN; intro _)
  | intro _
def Z58 (x0:List D):Option (List D×Int×Bool):=c_Z58 x0 some
def e_Z58:Ent:=⟨62,[.agg [.rd (.slice (.int .i64))]],[(.tup [.own (.int .i64),.int .i64,.bool],[.undef])],fun _ ds k=>dL (fun x0 ds=>dE ((Z58 x0).bind (fun y=>k 0 [.L y.1,.I y.2.1,.B y.2.2])) ds) ds⟩
theorem q_Z58 (x0:List D):Qg (JG [e_Z39,e_Z57]) (JH []) A 62 Try.f62 (Sh.mks e_Z58.sh [.L x0]).1 (fun v os=>some (v,os))=c_Z58 x0 (fun y=>Qm e_Z58 0 [.L y.1,.I y.2.1,.B y.2.2]):=by kernel_rfl
theorem e_Z58_ok:e_Z58.ok Try.prog A:=by
 intro R ds k r h
 unfold e_Z58 at h
 obtain ⟨_,_,rfl,h⟩:=Jd h
 obtain ⟨rfl,hE⟩:=Jk h
 obtain ⟨y,hy,hk⟩:=Jl hE
 exact ⟨0,_,_,_,hk,rfl,Qn px (fx:=⟨Try.func62,by kernel_rfl,by kernel_rfl⟩) (J4 e_Z39_ok (J4 e_Z57_ok JD)) JE ((q_Z58 ..).trans ((c_Z58_bind ..).trans (Jq hy)))⟩

/-!-/
def c_Z59 {R:Type} (x0:List D) (k:Bool×Bool→Option R):Option R:=
 (Z58 x0).bind (fun y0=>
 bif y0.snd.snd then
 k (decide (y0.snd.fst=(0:Int)),y0.snd.snd)
 else
 k (Bool.false,y0.snd.snd))
theorem c_Z59_bind {R:Type} (x0:List D) (k:Bool×Bool→Option R):c_Z59 x0 k=(c_Z59 x0 some).bind k:=by
 unfold c_Z59
 repeat' first
  | exact JQ
  | exact JP
  | exact JO
  | apply JL
  | apply JM
  | apply JR
  | (apply JN; intro _)
  | intro _
def Z59 (x0:List D):Option (Bool×Bool):=c_Z59 x0 some
def e_Z59:Ent:=⟨53,[.agg [.rd (.slice (.int .i64))]],[(.tup [.bool,.bool],[.undef])],fun _ ds k=>dL (fun x0 ds=>dE ((Z59 x0).bind (fun y=>k 0 [.B y.1,.B y.2])) ds) ds⟩
theorem q_Z59 (x0:List D):Qg (JG [e_Z58]) (JH []) A 53 Try.f53 (Sh.mks e_Z59.sh [.L x0]).1 (fun v os=>some (v,os))=c_Z59 x0 (fun y=>Qm e_Z59 0 [.B y.1,.B y.2]):=by kernel_rfl
theorem e_Z59_ok:e_Z59.ok Try.prog A:=by
 intro R ds k r h
 unfold e_Z59 at h
 obtain ⟨_,_,rfl,h⟩:=Jd h
 obtain ⟨rfl,hE⟩:=Jk h
 obtain ⟨y,hy,hk⟩:=Jl hE
 exact ⟨0,_,_,_,hk,rfl,Qn px (fx:=⟨Try.func53,by kernel_rfl,by kernel_rfl⟩) (J4 e_Z58_ok JD) JE ((q_Z59 ..).trans ((c_Z59_bind ..).trans (Jq hy)))⟩

/-!-/
abbrev T_Z60:=List D→List D→Int→Option ((Bool)⊕(Unit))
def c_Z60 {R:Type} (F:T_Z60) (x0 x1:List D) (x2:Int) (k:(Bool)⊕(Unit)→Option R):Option R:=
 bif decide (x2<(↑x0.length:Int)) then
 if 0≤x2∧x2<(↑x0.length:Int) then
 if 0≤x2∧x2<(↑x1.length:Int) then
 bif !decide ((x0.getD x2.toNat (D.int 0)).toInt=(x1.getD x2.toNat (D.int 0)).toInt) then
 k (.inl Bool.false)
 else
 (F x0 x1 (IntKind.i64.wrap (x2+1))).bind k
 else
 none
 else
 none
 else
 k (.inr ())
theorem c_Z60_bind {R:Type} (F:T_Z60) (x0 x1:List D) (x2:Int) (k:(Bool)⊕(Unit)→Option R):c_Z60 F x0 x1 x2 k=(c_Z60 F x0 x1 x2 some).bind k:=by
 unfold c_Z60
 repeat' first
  | exact JQ
  | exact JP
  | exact JO
  | apply JL
  | apply JM
  | apply JR
  | (apply JN; intro _)
  | intro _
def n_Z60:Nat→T_Z60
 | 0,_,_,_=>none
 | n+1,x0,x1,x2=>c_Z60 (n_Z60 n) x0 x1 x2 some
noncomputable def Z60 (x0 x1:List D) (x2:Int):Option ((Bool)⊕(Unit)):=ev (fun n=>n_Z60 n x0 x1 x2)
def m_Z60 (F:T_Z60):JS:=⟨4,⟨(.rd (.int .i64)::.rd (.int .i64)::.undef::.undef::.undef::.int .i64::uu 20 ([])),[]⟩,[(.ret,⟨(uu 4 (.bool::uu 21 ([]))),[]⟩),(.exit 0,⟨(uu 26 ([])),[]⟩)],fun _ ds k=>dL (fun x0 ds=>dL (fun x1 ds=>dI (fun x2 ds=>dE ((F x0 x1 x2).bind (Sum.elim (fun y=>k 0 [.B y]) (fun y=>k 1 []))) ds) ds) ds) ds⟩
theorem q_Z60 (F:T_Z60) (x0 x1:List D) (x2:Int):QJ (JG []) (JH [m_Z60 F]) A 57 (JB (Jw Try.f57) 4) ((m_Z60 F).sh.mk' [.L x0,.L x1,.I x2]) (fun e σ'=>some (e,σ'))=c_Z60 F x0 x1 x2 (Sum.elim (fun y=>some (.ret,SSt.mk' ⟨(uu 4 (.bool::uu 21 ([]))),[]⟩ [.B y])) (fun y=>some (.exit 0,SSt.mk' ⟨(uu 26 ([])),[]⟩ []))):=by kernel_rfl
theorem m_Z60_ok:∀ n,(m_Z60 (n_Z60 n)).ok Try.prog (JB (Jw Try.f57) 4):=by
 intro n
 induction n with
 | zero=>
  intro R ds k r h
  unfold m_Z60 at h
  obtain ⟨_,_,rfl,h⟩:=Jd h
  obtain ⟨_,_,rfl,h⟩:=Jd h
  obtain ⟨_,_,rfl,h⟩:=Jc h
  obtain ⟨rfl,hE⟩:=Jk h
  obtain ⟨y,hy,hk⟩:=Jl hE
  cases hy
 | succ n ih=>
  intro R ds k r h
  unfold m_Z60 at h
  obtain ⟨_,_,rfl,h⟩:=Jd h
  obtain ⟨_,_,rfl,h⟩:=Jd h
  obtain ⟨_,_,rfl,h⟩:=Jc h
  obtain ⟨rfl,hE⟩:=Jk h
  obtain ⟨y,hy,hk⟩:=Jl hE
  cases y with
  | inl y=>
   exact ⟨0,_,_,_,hk,rfl,Qy px (fx:=⟨Try.func57,by kernel_rfl,by kernel_rfl⟩) JD (JX ih JE) (by kernel_rfl) ((q_Z60 ..).trans ((c_Z60_bind ..).trans (Jq hy)))⟩
  | inr y=>
   exact ⟨1,_,_,_,hk,rfl,Qy px (fx:=⟨Try.func57,by kernel_rfl,by kernel_rfl⟩) JD (JX ih JE) (by kernel_rfl) ((q_Z60 ..).trans ((c_Z60_bind ..).trans (Jq hy)))⟩
noncomputable def e_Z60:JS:=m_Z60 (Z60)
theorem e_Z60_ok:(e_Z60).ok Try.prog (JB (Jw Try.f57) 4):=by
 intro R ds k r h
 unfold e_Z60 m_Z60 at h
 obtain ⟨_,_,rfl,h⟩:=Jd h
 obtain ⟨_,_,rfl,h⟩:=Jd h
 obtain ⟨_,_,rfl,h⟩:=Jc h
 obtain ⟨rfl,hE⟩:=Jk h
 obtain ⟨y,hy,hk⟩:=Jl hE
 obtain ⟨n,hn⟩:=QH hy
 exact m_Z60_ok n R _ k r ((Jq hn).trans hk)

/-!-/
def c_Z61 {R:Type} (x0 x1:List D) (k:Bool→Option R):Option R:=
 bif !decide ((↑x0.length:Int)=(↑x1.length:Int)) then
 k Bool.false
 else
 (Z60 x0 x1 (0:Int)).bind (Sum.elim (fun y0=>
 k y0) (fun y1=>
 k Bool.true))
theorem c_Z61_bind {R:Type} (x0 x1:List D) (k:Bool→Option R):c_Z61 x0 x1 k=(c_Z61 x0 x1 some).bind k:=by
 unfold c_Z61
 repeat' first
  | exact JQ
  | exact JP
  | exact JO
  | apply JL
  | apply JM
  | apply JR
  | (apply JN; intro _)
  | intro _
def Z61 (x0 x1:List D):Option (Bool):=c_Z61 x0 x1 some
def e_Z61:Ent:=⟨57,[.rd (.int .i64),.rd (.int .i64)],[(.bool,[.undef,.undef])],fun _ ds k=>dL (fun x0 ds=>dL (fun x1 ds=>dE ((Z61 x0 x1).bind (fun y=>k 0 [.B y])) ds) ds) ds⟩
theorem q_Z61 (x0 x1:List D):Qg (JG []) (JH [e_Z60]) A 57 Try.f57 (Sh.mks e_Z61.sh [.L x0,.L x1]).1 (fun v os=>some (v,os))=c_Z61 x0 x1 (fun y=>Qm e_Z61 0 [.B y]):=by kernel_rfl
theorem e_Z61_ok:e_Z61.ok Try.prog A:=by
 intro R ds k r h
 unfold e_Z61 at h
 obtain ⟨_,_,rfl,h⟩:=Jd h
 obtain ⟨_,_,rfl,h⟩:=Jd h
 obtain ⟨rfl,hE⟩:=Jk h
 obtain ⟨y,hy,hk⟩:=Jl hE
 exact ⟨0,_,_,_,hk,rfl,Qn px (fx:=⟨Try.func57,by kernel_rfl,by kernel_rfl⟩) JD (JX e_Z60_ok JE) ((q_Z61 ..).trans ((c_Z61_bind ..).trans (Jq hy)))⟩

/-!-/
abbrev T_Z62:=List D→List D→Int→Option ((Bool)⊕(Unit))
def c_Z62 {R:Type} (F:T_Z62) (x0 x1:List D) (x2:Int) (k:(Bool)⊕(Unit)→Option R):Option R:=
 bif decide (x2<(↑x0.length:Int)) then
 if 0≤x2∧x2<(↑x0.length:Int) then
 if 0≤x2∧x2<(↑x1.length:Int) then
 (Z61 ((x0.getD x2.toNat (D.int 0)).items) ((x1.getD x2.toNat (D.int 0)).items)).bind (fun y0=>
 bif !y0 then
 k (.inl Bool.false)
 else
 (F x0 x1 (IntKind.i64.wrap (x2+1))).bind k)
 else
 none
 else
 none
 else
 k (.inr ())
theorem c_Z62_bind {R:Type} (F:T_Z62) (x0 x1:List D) (x2:Int) (k:(Bool)⊕(Unit)→Option R):c_Z62 F x0 x1 x2 k=(c_Z62 F x0 x1 x2 some).bind k:=by
 unfold c_Z62
 repeat' first
  | exact JQ
  | exact JP
  | exact JO
  | apply JL
  | apply JM
  | apply JR
  | (apply JN; intro _)
  | intro _
def n_Z62:Nat→T_Z62
 | 0,_,_,_=>none
 | n+1,x0,x1,x2=>c_Z62 (n_Z62 n) x0 x1 x2 some
noncomputable def Z62 (x0 x1:List D) (x2:Int):Option ((Bool)⊕(Unit)):=ev (fun n=>n_Z62 n x0 x1 x2)
def m_Z62 (F:T_Z62):JS:=⟨4,⟨(.rd (.slice (.int .i64))::.rd (.slice (.int .i64))::.undef::.undef::.undef::.int .i64::uu 21 ([])),[]⟩,[(.ret,⟨(uu 4 (.bool::uu 22 ([]))),[]⟩),(.exit 0,⟨(uu 27 ([])),[]⟩)],fun _ ds k=>dL (fun x0 ds=>dL (fun x1 ds=>dI (fun x2 ds=>dE ((F x0 x1 x2).bind (Sum.elim (fun y=>k 0 [.B y]) (fun y=>k 1 []))) ds) ds) ds) ds⟩
theorem q_Z62 (F:T_Z62) (x0 x1:List D) (x2:Int):QJ (JG [e_Z61]) (JH [m_Z62 F]) A 32 (JB (Jw Try.f32) 4) ((m_Z62 F).sh.mk' [.L x0,.L x1,.I x2]) (fun e σ'=>some (e,σ'))=c_Z62 F x0 x1 x2 (Sum.elim (fun y=>some (.ret,SSt.mk' ⟨(uu 4 (.bool::uu 22 ([]))),[]⟩ [.B y])) (fun y=>some (.exit 0,SSt.mk' ⟨(uu 27 ([])),[]⟩ []))):=by kernel_rfl
theorem m_Z62_ok:∀ n,(m_Z62 (n_Z62 n)).ok Try.prog (JB (Jw Try.f32) 4):=by
 intro n
 induction n with
 | zero=>
  intro R ds k r h
  unfold m_Z62 at h
  obtain ⟨_,_,rfl,h⟩:=Jd h
  obtain ⟨_,_,rfl,h⟩:=Jd h
  obtain ⟨_,_,rfl,h⟩:=Jc h
  obtain ⟨rfl,hE⟩:=Jk h
  obtain ⟨y,hy,hk⟩:=Jl hE
  cases hy
 | succ n ih=>
  intro R ds k r h
  unfold m_Z62 at h
  obtain ⟨_,_,rfl,h⟩:=Jd h
  obtain ⟨_,_,rfl,h⟩:=Jd h
  obtain ⟨_,_,rfl,h⟩:=Jc h
  obtain ⟨rfl,hE⟩:=Jk h
  obtain ⟨y,hy,hk⟩:=Jl hE
  cases y with
  | inl y=>
   exact ⟨0,_,_,_,hk,rfl,Qy px (fx:=⟨Try.func32,by kernel_rfl,by kernel_rfl⟩) (J4 e_Z61_ok JD) (JX ih JE) (by kernel_rfl) ((q_Z62 ..).trans ((c_Z62_bind ..).trans (Jq hy)))⟩
  | inr y=>
   exact ⟨1,_,_,_,hk,rfl,Qy px (fx:=⟨Try.func32,by kernel_rfl,by kernel_rfl⟩) (J4 e_Z61_ok JD) (JX ih JE) (by kernel_rfl) ((q_Z62 ..).trans ((c_Z62_bind ..).trans (Jq hy)))⟩
noncomputable def e_Z62:JS:=m_Z62 (Z62)
theorem e_Z62_ok:(e_Z62).ok Try.prog (JB (Jw Try.f32) 4):=by
 intro R ds k r h
 unfold e_Z62 m_Z62 at h
 obtain ⟨_,_,rfl,h⟩:=Jd h
 obtain ⟨_,_,rfl,h⟩:=Jd h
 obtain ⟨_,_,rfl,h⟩:=Jc h
 obtain ⟨rfl,hE⟩:=Jk h
 obtain ⟨y,hy,hk⟩:=Jl hE
 obtain ⟨n,hn⟩:=QH hy
 exact m_Z62_ok n R _ k r ((Jq hn).trans hk)

/-!-/
def c_Z63 {R:Type} (x0 x1:List D) (k:Bool→Option R):Option R:=
 bif !decide ((↑x0.length:Int)=(↑x1.length:Int)) then
 k Bool.false
 else
 (Z62 x0 x1 (0:Int)).bind (Sum.elim (fun y0=>
 k y0) (fun y1=>
 k Bool.true))
theorem c_Z63_bind {R:Type} (x0 x1:List D) (k:Bool→Option R):c_Z63 x0 x1 k=(c_Z63 x0 x1 some).bind k:=by
 unfold c_Z63
 repeat' first
  | exact JQ
  | exact JP
  | exact JO
  | apply JL
  | apply JM
  | apply JR
  | (apply JN; intro _)
  | intro _
def Z63 (x0 x1:List D):Option (Bool):=c_Z63 x0 x1 some
def e_Z63:Ent:=⟨32,[.rd (.slice (.int .i64)),.rd (.slice (.int .i64))],[(.bool,[.undef,.undef])],fun _ ds k=>dL (fun x0 ds=>dL (fun x1 ds=>dE ((Z63 x0 x1).bind (fun y=>k 0 [.B y])) ds) ds) ds⟩
theorem q_Z63 (x0 x1:List D):Qg (JG []) (JH [e_Z62]) A 32 Try.f32 (Sh.mks e_Z63.sh [.L x0,.L x1]).1 (fun v os=>some (v,os))=c_Z63 x0 x1 (fun y=>Qm e_Z63 0 [.B y]):=by kernel_rfl
theorem e_Z63_ok:e_Z63.ok Try.prog A:=by
 intro R ds k r h
 unfold e_Z63 at h
 obtain ⟨_,_,rfl,h⟩:=Jd h
 obtain ⟨_,_,rfl,h⟩:=Jd h
 obtain ⟨rfl,hE⟩:=Jk h
 obtain ⟨y,hy,hk⟩:=Jl hE
 exact ⟨0,_,_,_,hk,rfl,Qn px (fx:=⟨Try.func32,by kernel_rfl,by kernel_rfl⟩) JD (JX e_Z62_ok JE) ((q_Z63 ..).trans ((c_Z63_bind ..).trans (Jq hy)))⟩

/-!-/
def c_Z64 {R:Type} (x0 x1:List D) (k:Bool→Option R):Option R:=
 (Z63 x0 x1).bind (fun y0=>
 bif !y0 then
 k Bool.false
 else
 k Bool.true)
theorem c_Z64_bind {R:Type} (x0 x1:List D) (k:Bool→Option R):c_Z64 x0 x1 k=(c_Z64 x0 x1 some).bind k:=by
 unfold c_Z64
 repeat' first
  | exact JQ
  | exact JP
  | exact JO
  | apply JL
  | apply JM
  | apply JR
  | (apply JN; intro _)
  | intro _
def Z64 (x0 x1:List D):Option (Bool):=c_Z64 x0 x1 some
def e_Z64:Ent:=⟨54,[.agg [.rd (.slice (.int .i64))],.agg [.rd (.slice (.int .i64))]],[(.bool,[.undef,.undef])],fun _ ds k=>dL (fun x0 ds=>dL (fun x1 ds=>dE ((Z64 x0 x1).bind (fun y=>k 0 [.B y])) ds) ds) ds⟩
theorem q_Z64 (x0 x1:List D):Qg (JG [e_Z63]) (JH []) A 54 Try.f54 (Sh.mks e_Z64.sh [.L x0,.L x1]).1 (fun v os=>some (v,os))=c_Z64 x0 x1 (fun y=>Qm e_Z64 0 [.B y]):=by kernel_rfl
theorem e_Z64_ok:e_Z64.ok Try.prog A:=by
 intro R ds k r h
 unfold e_Z64 at h
 obtain ⟨_,_,rfl,h⟩:=Jd h
 obtain ⟨_,_,rfl,h⟩:=Jd h
 obtain ⟨rfl,hE⟩:=Jk h
 obtain ⟨y,hy,hk⟩:=Jl hE
 exact ⟨0,_,_,_,hk,rfl,Qn px (fx:=⟨Try.func54,by kernel_rfl,by kernel_rfl⟩) (J4 e_Z63_ok JD) JE ((q_Z64 ..).trans ((c_Z64_bind ..).trans (Jq hy)))⟩

/-!-/
def c_Z65 {R:Type} (x0:List D) (k:Bool→Option R):Option R:=
 (Z3 x0 (1048576:Int)).bind (fun y0=>
 bif decide (y0<(0:Int)) then
 k Bool.true
 else
 (Z8 x0).bind (fun y1=>
 (Z32 y1).bind (fun y2=>
 (Z8 x0).bind (fun y3=>
 (Z59 y3).bind (fun y4=>
 bif !y4.fst==y2.fst then
 k Bool.false
 else
 bif !y4.snd==y2.snd then
 k Bool.false
 else
 (Z8 x0).bind (fun y5=>
 (Z64 y3 y5).bind (fun y6=>
 bif !y6 then
 k Bool.false
 else
 k Bool.true)))))))
theorem c_Z65_bind {R:Type} (x0:List D) (k:Bool→Option R):c_Z65 x0 k=(c_Z65 x0 some).bind k:=by
 unfold c_Z65
 repeat' first
  | exact JQ
  | exact JP
  | exact JO
  | apply JL
  | apply JM
  | apply JR
  | (apply JN; intro _)
  | intro _
def Z65 (x0:List D):Option (Bool):=c_Z65 x0 some
def e_Z65:Ent:=⟨10,[.agg [.rd (.slice (.int .i64))]],[(.bool,[.undef])],fun _ ds k=>dL (fun x0 ds=>dE ((Z65 x0).bind (fun y=>k 0 [.B y])) ds) ds⟩
theorem q_Z65 (x0:List D):Qg (JG [e_Z3,e_Z8,e_Z32,e_Z59,e_Z64]) (JH []) A 10 Try.f10 (Sh.mks e_Z65.sh [.L x0]).1 (fun v os=>some (v,os))=c_Z65 x0 (fun y=>Qm e_Z65 0 [.B y]):=by kernel_rfl
theorem e_Z65_ok:e_Z65.ok Try.prog A:=by
 intro R ds k r h
 unfold e_Z65 at h
 obtain ⟨_,_,rfl,h⟩:=Jd h
 obtain ⟨rfl,hE⟩:=Jk h
 obtain ⟨y,hy,hk⟩:=Jl hE
 exact ⟨0,_,_,_,hk,rfl,Qn px (fx:=⟨Try.func10,by kernel_rfl,by kernel_rfl⟩) (J4 e_Z3_ok (J4 e_Z8_ok (J4 e_Z32_ok (J4 e_Z59_ok (J4 e_Z64_ok JD))))) JE ((q_Z65 ..).trans ((c_Z65_bind ..).trans (Jq hy)))⟩
end
end Go.Proofs.Ytkanhbelkdpmbaa
