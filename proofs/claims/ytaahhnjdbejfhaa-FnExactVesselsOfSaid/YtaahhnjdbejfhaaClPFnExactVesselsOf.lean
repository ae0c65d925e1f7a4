/- The law FnExactVesselsOf over plain values. No condition beside those of the statement. -/
import Derived.Test.YtaahhnjdbejfhaaClMFnExactVesselsOf
import Derived.Test.YtaahhnjdbejfhaaRaiU5
set_option linter.unusedVariables false
set_option linter.unusedSimpArgs false
set_option linter.unusedSectionVars false
set_option maxRecDepth 100000
namespace Go.Proofs.Ytaahhnjdbejfhaa
open Go Go.Rai
theorem Z18_fx (x0 x1 x2:Int) (x3 x4 x5:List D):Z18 x0 x1 x2 x3 x4 x5=c_Z18 (Z18) x0 x1 x2 x3 x4 x5 some:=
 Tf (N:=fun n (p:Int×Int×Int×List D×List D×List D)=>n_Z18 n p.1 p.2.1 p.2.2.1 p.2.2.2.1 p.2.2.2.2.1 p.2.2.2.2.2) (C:=fun f p=>c_Z18 (fun x0 x1 x2 x3 x4 x5=>f (x0,x1,x2,x3,x4,x5)) p.1 p.2.1 p.2.2.1 p.2.2.2.1 p.2.2.2.2.1 p.2.2.2.2.2 some) (fun _=>rfl) (fun _ _=>rfl) (fun hD f fs h p=>by
  unfold c_Z18
  repeat' first | exact Lim.const hD|exact h _|apply Lim.ite|apply Lim.cond|apply Lim.bind hD|apply Lim.sum|intro _) (x0,x1,x2,x3,x4,x5)
theorem Z19_fx (x0 x1:Int) (x2 x3:List D):Z19 x0 x1 x2 x3=c_Z19 (Z19) x0 x1 x2 x3 some:=
 Tf (N:=fun n (p:Int×Int×List D×List D)=>n_Z19 n p.1 p.2.1 p.2.2.1 p.2.2.2) (C:=fun f p=>c_Z19 (fun x0 x1 x2 x3=>f (x0,x1,x2,x3)) p.1 p.2.1 p.2.2.1 p.2.2.2 some) (fun _=>rfl) (fun _ _=>rfl) (fun hD f fs h p=>by
  unfold c_Z19
  repeat' first | exact Lim.const hD|exact h _|apply Lim.ite|apply Lim.cond|apply Lim.bind hD|apply Lim.sum|intro _) (x0,x1,x2,x3)
theorem Z35_fx (x0 x1:Int) (x2 x3 x4:List D):Z35 x0 x1 x2 x3 x4=c_Z35 (Z35) x0 x1 x2 x3 x4 some:=
 Tf (N:=fun n (p:Int×Int×List D×List D×List D)=>n_Z35 n p.1 p.2.1 p.2.2.1 p.2.2.2.1 p.2.2.2.2) (C:=fun f p=>c_Z35 (fun x0 x1 x2 x3 x4=>f (x0,x1,x2,x3,x4)) p.1 p.2.1 p.2.2.1 p.2.2.2.1 p.2.2.2.2 some) (fun _=>rfl) (fun _ _=>rfl) (fun hD f fs h p=>by
  unfold c_Z35
  repeat' first | exact Lim.const hD|exact h _|apply Lim.ite|apply Lim.cond|apply Lim.bind hD|apply Lim.sum|intro _) (x0,x1,x2,x3,x4)
abbrev tSh:Ty:=.struct [.int .i64,.int .i64,.int .i64,.int .i64]
theorem tSh_wf {d:D} (h:wfD tSh d):∃ a b c e:Int,d=.node [.int a,.int b,.int c,.int e]:=by
 obtain ⟨l,rfl,x1,r1,rfl,⟨a,rfl,_⟩,x2,r2,rfl,⟨b,rfl,_⟩,x3,r3,rfl,⟨c,rfl,_⟩,x4,r4,rfl,⟨e,rfl,_⟩,h⟩:=h
 obtain rfl:=h
 exact ⟨a,b,c,e,rfl⟩
theorem toSherdS_id (l:List D) (hl:l.length≤1048576) (w:∀ d∈l,wfD tSh d):Z5 l=some l:=by
 have key:Z4 l 0 (List.replicate l.length (.node [.int 0,.int 0,.int 0,.int 0]))=some l:=by
  refine N7 (N:=n_Z4) (fun m i acc hi hacc=>?_) (fun m acc hacc=>?_)
  ·obtain ⟨a,b,c,e,hd⟩:=tSh_wf (w _ (WS hi))
   have hw:IntKind.i64.wrap ((i:Int)+1)=(i:Int)+1:=QS (by omega) (by omega)
   have h2:(i:Int)<acc.length:=by omega
   have h3:i+1≤acc.length:=by omega
   have h1:(i:Int)<l.length:=by omega
   simp [n_Z4,c_Z4,Z3,c_Z3,h1,h2,h3,hw,hd,Te,CA]
  ·simp [n_Z4,c_Z4]
 have h4:(l.length:Int)≤4294967296:=by omega
 simp [Z5,c_Z5,key,h4]
theorem eqSherdS_self (l:List D) (hl:l.length≤1048576):Z44 l l=some true:=by
 have key:Z43 l l 0=some (.inr ()):=by
  refine Ye (N:=fun n i=>n_Z43 n l l i) (len:=l.length) (fun m i hi=>?_) (fun m=>?_)
  ·have hw:IntKind.i64.wrap ((i:Int)+1)=(i:Int)+1:=QS (by omega) (by omega)
   have h1:(i:Int)<l.length:=by omega
   simp [n_Z43,c_Z43,Z42,c_Z42,h1,hw]
  ·simp [n_Z43,c_Z43]
 simp [Z44,c_Z44,key]
abbrev tJoin:Ty:=.struct [.int .i64,.int .i64]
theorem tJoin_wf {d:D} (h:wfD tJoin d):∃ a b:Int,d=.node [.int a,.int b]:=by
 obtain ⟨l,rfl,x1,r1,rfl,⟨a,rfl,_⟩,x2,r2,rfl,⟨b,rfl,_⟩,h⟩:=h
 obtain rfl:=h
 exact ⟨a,b,rfl⟩
theorem toJoinS_id (l:List D) (hl:l.length≤1048576) (w:∀ d∈l,wfD tJoin d):Z8 l=some l:=by
 have key:Z7 l 0 (List.replicate l.length (.node [.int 0,.int 0]))=some l:=by
  refine N7 (N:=n_Z7) (fun m i acc hi hacc=>?_) (fun m acc hacc=>?_)
  ·obtain ⟨a,b,hd⟩:=tJoin_wf (w _ (WS hi))
   have hw:IntKind.i64.wrap ((i:Int)+1)=(i:Int)+1:=QS (by omega) (by omega)
   have h2:(i:Int)<acc.length:=by omega
   have h3:i+1≤acc.length:=by omega
   have h1:(i:Int)<l.length:=by omega
   simp [n_Z7,c_Z7,Z6,c_Z6,h1,h2,h3,hw,hd,Te,CA]
  ·simp [n_Z7,c_Z7]
 have h4:(l.length:Int)≤4294967296:=by omega
 simp [Z8,c_Z8,key,h4]
theorem eqJoinS_self (l:List D) (hl:l.length≤1048576):Z47 l l=some true:=by
 have key:Z46 l l 0=some (.inr ()):=by
  refine Ye (N:=fun n i=>n_Z46 n l l i) (len:=l.length) (fun m i hi=>?_) (fun m=>?_)
  ·have hw:IntKind.i64.wrap ((i:Int)+1)=(i:Int)+1:=QS (by omega) (by omega)
   have h1:(i:Int)<l.length:=by omega
   simp [n_Z46,c_Z46,Z45,c_Z45,h1,hw]
  ·simp [n_Z46,c_Z46]
 simp [Z47,c_Z47,key]
theorem l1In_eq (x a b:Int):Z9 x a b=some (btw x a b):=by
 unfold Z9 c_Z9 btw
 by_cases h:a≤x<;>simp [h]
theorem within_eq (x a b:Int):Z22 x a b=some (btw x a b):=by
 unfold Z22 c_Z22 btw
 by_cases h:a≤x<;>simp [h]
def cmpV (x y:Int):Int:=if x<y then -1 else if y<x then 1 else 0
theorem compare_eq (x y:Int):Z26 x y=some (cmpV x y):=by
 simp only [Z26,c_Z26,Z25,c_Z25,ob,decide_true,Bool.not_true,cond_false,cmpV]
 by_cases h:x<y
 ·simp [h]
 ·by_cases h2:y<x<;>simp [h,h2]
theorem or_eq (a b:Int):Z28 [.int a,.int b]=some (if a=0 then b else a):=by
 have w1:IntKind.i64.wrap 1=1:=by decide
 have w2:IntKind.i64.wrap 2=2:=by decide
 have key:∃ y,Z27 0 [.int a,.int b] 2 0=some y∧(match y with | .inl z=>z.1 | .inr z=>z)=(if a=0 then b else a):=by
  by_cases ha:a=0
  ·by_cases hb:b=0
   ·refine ⟨.inr 0,HE (f:=fun m=>n_Z27 m 0 [.int a,.int b] 2 0) 3 (fun m hm=>?_),by simp [ha,hb]⟩
    obtain ⟨m,rfl⟩:∃ m',m=m'+3:=⟨m - 3,by omega⟩
    simp [n_Z27,c_Z27,ha,hb,CA,w1,w2]
   ·refine ⟨.inl (b,0),HE (f:=fun m=>n_Z27 m 0 [.int a,.int b] 2 0) 2 (fun m hm=>?_),by simp [ha]⟩
    obtain ⟨m,rfl⟩:∃ m',m=m'+2:=⟨m - 2,by omega⟩
    simp [n_Z27,c_Z27,ha,hb,CA,w1]
  ·refine ⟨.inl (a,0),HE (f:=fun m=>n_Z27 m 0 [.int a,.int b] 2 0) 1 (fun m hm=>?_),by simp [ha]⟩
   obtain ⟨m,rfl⟩:∃ m',m=m'+1:=⟨m - 1,by omega⟩
   simp [n_Z27,c_Z27,ha,CA]
 obtain ⟨y,h1,h2⟩:=key
 rw [← h2]
 simp only [Z28,c_Z28,show (([D.int a,D.int b]:List D).length:Int)=2 from rfl,h1,ob]
 cases y<;>rfl
def sherdB (d:D):Bool:=btw (d.fld 0).toInt 1 999&&(btw (d.fld 1).toInt 0 9&&(btw (d.fld 2).toInt 0 3599&&btw (d.fld 3).toInt 1 3600))
theorem sL4_eq (l r:List D) (hl:l.length≤1048576):Z10 l r 0=some (match Ul (fun i=>!sherdB (l[i]?.getD (.int 0))) l.length with | some _=>.inl (l,r,false) | none=>.inr (l,r)):=by
 refine Yf (N:=fun m i=>n_Z10 m l r i) _ (fun _=>.inl (l,r,false)) (fun m i hi=>?_) (fun m=>?_)
 ·have hw:IntKind.i64.wrap ((i:Int)+1)=(i:Int)+1:=QS (by omega) (by omega)
  have h1:(i:Int)<l.length:=by omega
  simp only [n_Z10,c_Z10,h1,hw,l1In_eq,decide_true,cond_true,Int.natCast_nonneg,and_self,if_true,tn,List.getD_eq_getElem?_getD,ob,sherdB]
  generalize l[i]?.getD (D.int 0)=d
  cases btw (d.fld 0).toInt 1 999<;>cases btw (d.fld 1).toInt 0 9<;>cases btw (d.fld 2).toInt 0 3599<;>cases btw (d.fld 3).toInt 1 3600<;>simp
 ·simp [n_Z10,c_Z10]
theorem iL2_eq (l r:List D) (hl:l.length≤1048576):Z24 l r l l.length 0=some (match Ul (fun i=>!sherdB (l[i]?.getD (.int 0))) l.length with | some _=>.inl (l,r,false) | none=>.inr (l,r)):=by
 refine Yf (N:=fun m i=>n_Z24 m l r l l.length i) _ (fun _=>.inl (l,r,false)) (fun m i hi=>?_) (fun m=>?_)
 ·have hw:IntKind.i64.wrap ((i:Int)+1)=(i:Int)+1:=QS (by omega) (by omega)
  have h1:(i:Int)<l.length:=by omega
  simp only [n_Z24,c_Z24,h1,hw,Z23,c_Z23,within_eq,decide_true,cond_true,Int.natCast_nonneg,and_self,if_true,tn,List.getD_eq_getElem?_getD,ob,sherdB]
  generalize l[i]?.getD (D.int 0)=d
  cases btw (d.fld 0).toInt 1 999<;>cases btw (d.fld 1).toInt 0 9<;>cases btw (d.fld 2).toInt 0 3599<;>cases btw (d.fld 3).toInt 1 3600<;>simp
 ·simp [n_Z24,c_Z24]
def jA (l:List D) (i:Nat):Int:=((l[i]?.getD (.int 0)).fld 0).toInt
def jB (l:List D) (i:Nat):Int:=((l[i]?.getD (.int 0)).fld 1).toInt
def joinBad (n:Int) (l:List D) (i:Nat):Bool:=decide (¬ (0≤jA l i∧jA l i<jB l i∧jB l i<n))||(decide (0<i)&&decide (jA l i<jA l (i - 1)∨(jA l (i - 1)=jA l i∧jB l i≤jB l (i - 1))))
theorem sL10_eq (l r:List D) (hl:l.length≤1048576) (hr:r.length≤1048576):Z11 l r 0=some (match Ul (joinBad l.length r) r.length with | some _=>.inl false | none=>.inr ()):=by
 refine Yf (N:=fun m i=>n_Z11 m l r i) _ (fun _=>.inl false) (fun m i hi=>?_) (fun m=>?_)
 ·have hw:IntKind.i64.wrap ((i:Int)+1)=(i:Int)+1:=QS (by omega) (by omega)
  have h1:(i:Int)<r.length:=by omega
  have hwl:IntKind.i64.wrap ((l.length:Int) - 1)=(l.length:Int) - 1:=QS (by omega) (by omega)
  by_cases c1:1≤jB r i∧jB r i≤(l.length:Int) - 1
  ·have hwb:IntKind.i64.wrap (jB r i - 1)=jB r i - 1:=QS (by omega) (by omega)
   by_cases c2:0≤jA r i∧jA r i≤jB r i - 1
   ·have e1:btw (jB r i) 1 ((l.length:Int) - 1)=true:=WT.2 c1
    have e2:btw (jA r i) 0 (jB r i - 1)=true:=WT.2 c2
    have e3:(¬ (0≤jA r i∧jA r i<jB r i∧jB r i<(l.length:Int)))↔False:=by simp;omega
    unfold joinBad
    by_cases c3:0<i
    ·have hwp:IntKind.i64.wrap ((i:Int) - 1)=((i - 1:Nat):Int):=N8 (by omega) c3
     have h3:((i - 1:Nat):Int)<r.length:=by omega
     have h4:(0:Int)<i:=by omega
     unfold jA jB at e1 e2 hwb
     simp only [n_Z11,c_Z11,h1,hw,hwl,hwb,hwp,h3,h4,l1In_eq,e1,e2,decide_true,cond_true,Int.natCast_nonneg,and_self,if_true,tn,List.getD_eq_getElem?_getD,ob,Bool.not_true,cond_false]
     simp only [e3,c3]
     unfold jA jB
     by_cases d1:((r[i]?.getD (.int 0)).fld 0).toInt<((r[i - 1]?.getD (.int 0)).fld 0).toInt
     ·simp [d1]
     ·by_cases d2:((r[i - 1]?.getD (.int 0)).fld 0).toInt=((r[i]?.getD (.int 0)).fld 0).toInt
      ·by_cases d3:((r[i]?.getD (.int 0)).fld 1).toInt≤((r[i - 1]?.getD (.int 0)).fld 1).toInt<;>simp [d2,d3]
      ·simp [d1,d2]
    ·have h4:¬ (0:Int)<i:=by omega
     unfold jA jB at e1 e2 hwb
     simp only [n_Z11,c_Z11,h1,hw,hwl,hwb,h4,l1In_eq,e1,e2,decide_true,decide_false,cond_true,Int.natCast_nonneg,and_self,if_true,tn,List.getD_eq_getElem?_getD,ob,Bool.not_true,cond_false]
     simp only [e3,c3]
     simp
   ·have e1:btw (jB r i) 1 ((l.length:Int) - 1)=true:=WT.2 c1
    have e2:btw (jA r i) 0 (jB r i - 1)=false:=by rw [← Bool.not_eq_true,WT];exact c2
    have e3:(¬ (0≤jA r i∧jA r i<jB r i∧jB r i<(l.length:Int)))↔True:=by simp;omega
    unfold joinBad
    simp only [e3]
    unfold jA jB at e1 e2 hwb
    simp [n_Z11,c_Z11,h1,hwl,hwb,l1In_eq,e1,e2]
  ·have e1:btw (jB r i) 1 ((l.length:Int) - 1)=false:=by rw [← Bool.not_eq_true,WT];exact c1
   have e3:(¬ (0≤jA r i∧jA r i<jB r i∧jB r i<(l.length:Int)))↔True:=by simp;omega
   unfold joinBad
   simp only [e3]
   unfold jB at e1
   simp [n_Z11,c_Z11,h1,hwl,l1In_eq,e1]
 ·simp [n_Z11,c_Z11]
theorem iL8_eq (l r:List D) (hl:l.length≤1048576) (hr:r.length≤1048576):Z29 l r r r.length 0=some (match Ul (joinBad l.length r) r.length with | some _=>.inl (l,r,false) | none=>.inr (l,r)):=by
 refine Yf (N:=fun m i=>n_Z29 m l r r r.length i) _ (fun _=>.inl (l,r,false)) (fun m i hi=>?_) (fun m=>?_)
 ·have hw:IntKind.i64.wrap ((i:Int)+1)=(i:Int)+1:=QS (by omega) (by omega)
  have h1:(i:Int)<r.length:=by omega
  unfold joinBad
  by_cases c:0≤jA r i∧jA r i<jB r i∧jB r i<(l.length:Int)
  ·have e3:(¬ (0≤jA r i∧jA r i<jB r i∧jB r i<(l.length:Int)))↔False:=by simp;omega
   have f1:¬ jA r i<0:=by omega
   have f2:¬ (l.length:Int)≤jB r i:=by omega
   have f3:¬ jB r i≤jA r i:=by omega
   by_cases c3:0<i
   ·have hwp:IntKind.i64.wrap ((i:Int) - 1)=((i - 1:Nat):Int):=N8 (by omega) c3
    have h3:((i - 1:Nat):Int)<r.length:=by omega
    have h4:(0:Int)<i:=by omega
    simp only [jA,jB] at f1 f2 f3
    simp only [n_Z29,c_Z29,h1,hw,hwp,h3,h4,f1,f2,f3,compare_eq,or_eq,decide_true,decide_false,cond_true,cond_false,Int.natCast_nonneg,and_self,if_true,tn,List.getD_eq_getElem?_getD,ob]
    simp only [e3,c3]
    unfold jA jB
    generalize ((r[i - 1]?.getD (D.int 0)).fld 0).toInt=pa
    generalize ((r[i - 1]?.getD (D.int 0)).fld 1).toInt=pb
    generalize ((r[i]?.getD (D.int 0)).fld 0).toInt=xa
    generalize ((r[i]?.getD (D.int 0)).fld 1).toInt=xb
    have hc:decide (0≤(if cmpV pa xa=0 then cmpV pb xb else cmpV pa xa))=decide (xa<pa∨pa=xa∧xb≤pb):=by
     rw [decide_eq_decide]
     unfold cmpV
     by_cases d1:pa<xa
     ·simp [d1]<;>omega
     ·by_cases d2:xa<pa
      ·simp [d1,d2]
      ·by_cases d3:pb<xb
       ·simp [d1,d2,d3]<;>omega
       ·by_cases d4:xb<pb
        ·simp [d1,d2,d3,d4]<;>omega
        ·simp [d1,d2,d3,d4]<;>omega
    rw [hc]
    cases decide (xa<pa∨pa=xa∧xb≤pb)<;>simp
   ·have h4:¬ (0:Int)<i:=by omega
    simp only [jA,jB] at f1 f2 f3
    simp only [n_Z29,c_Z29,h1,hw,h4,f1,f2,f3,decide_true,decide_false,cond_true,cond_false,Int.natCast_nonneg,and_self,if_true,tn,List.getD_eq_getElem?_getD,ob]
    simp only [e3,c3]
    simp
  ·have e3:(¬ (0≤jA r i∧jA r i<jB r i∧jB r i<(l.length:Int)))↔True:=by simp only [c];simp
   simp only [e3]
   by_cases f1:jA r i<0
   ·unfold jA at f1
    simp [n_Z29,c_Z29,h1,f1]
   ·by_cases f2:(l.length:Int)≤jB r i
    ·unfold jA at f1;unfold jB at f2
     simp [n_Z29,c_Z29,h1,f1,f2]
    ·have f3:jB r i≤jA r i:=by omega
     unfold jA at f1;unfold jB at f2;unfold jA jB at f3
     simp [n_Z29,c_Z29,h1,f1,f2,f3]
 ·simp [n_Z29,c_Z29]
theorem sherds_good (l r:List D) (hl:l.length≤1048576) (hr:r.length≤1048576):∃ b,Z12 l r=some b∧Z30 l r=some b∧(b=true→l.length≤12∧r.length≤20∧∀ i,i<r.length→joinBad l.length r i=false):=by
 simp only [Z12,c_Z12,Z30,c_Z30,sL4_eq l r hl,iL2_eq l r hl,ob]
 by_cases c1:(12:Int)<l.length
 ·refine ⟨false,by simp [c1],?_,by simp⟩
  cases Ul (fun i=>!sherdB (l[i]?.getD (.int 0))) l.length with
  | some _=>rfl
  | none=>
   simp only [Sum.elim_inr,iL8_eq l r hl hr,ob]
   cases Ul (joinBad l.length r) r.length with
   | some _=>rfl
   | none=>
    have:¬ (l.length:Int)≤12:=by omega
    simp [this]
 ·by_cases c2:(20:Int)<r.length
  ·refine ⟨false,by simp [c1,c2],?_,by simp⟩
   cases Ul (fun i=>!sherdB (l[i]?.getD (.int 0))) l.length with
   | some _=>rfl
   | none=>
    simp only [Sum.elim_inr,iL8_eq l r hl hr,ob]
    cases Ul (joinBad l.length r) r.length with
    | some _=>rfl
    | none=>
     have:¬ (r.length:Int)≤20:=by omega
     simp [this]
  ·have c1':(l.length:Int)≤12:=by omega
   have c2':(r.length:Int)≤20:=by omega
   simp only [c1,c2,decide_false,cond_false]
   cases Ul (fun i=>!sherdB (l[i]?.getD (.int 0))) l.length with
   | some _=>exact ⟨false,rfl,rfl,by simp⟩
   | none=>
    simp only [Sum.elim_inr,sL10_eq l r hl hr,iL8_eq l r hl hr,ob]
    cases hf:Ul (joinBad l.length r) r.length with
    | some _=>exact ⟨false,rfl,rfl,by simp⟩
    | none=>exact ⟨true,rfl,by simp [c1',c2'],fun _=>⟨by omega,by omega,vg hf⟩⟩
def markd (cell:Int→D) (c:Int) (n:Nat):List D:=(List.range n).map (fun (i:Nat)=>cell (1+c * (i:Int)))
theorem markd_len {cell:Int→D} {c:Int} {n:Nat}:(markd cell c n).length=n:=by simp [markd]
theorem markd_get {cell:Int→D} {c:Int} {n i:Nat} (h:i<n):(markd cell c n)[i]?.getD (.int 0)=cell (1+c * (i:Int)):=by
 simp [markd,h]
theorem mark_loop {N:Nat→Int→Int→List D→Option (Int×List D)} {n:Nat} {c:Int} {cell:Int→D}
  (hs:∀ m (i:Nat) acc,i<n→acc.length=n→N (m+1) (1+c * (i:Int)) (i:Int) acc=N m (1+c * ((i+1:Nat):Int)) ((i+1:Nat):Int) (acc.set i (cell (1+c * (i:Int)))))
  (he:∀ m acc,acc.length=n→N (m+1) (1+c * (n:Int)) (n:Int) acc=some (1+c * (n:Int),acc)) {l:List D} (hl:l.length=n) :
  ev (fun m=>N m 1 0 l)=some (1+c * (n:Int),markd cell c n):=by
 have key:∀ k,∀ m (i:Nat) acc,i+k=n→k<m→acc.length=n→acc.take i=(markd cell c n).take i→N m (1+c * (i:Int)) (i:Int) acc=some (1+c * (n:Int),markd cell c n):=by
  intro k
  induction k with
  | zero=>
   intro m i acc h1 h2 h3 h4
   obtain ⟨m,rfl⟩:∃ m',m=m'+1:=⟨m - 1,by omega⟩
   have hi:i=n:=by omega
   subst hi
   rw [he m acc h3]
   rw [List.take_of_length_le (by omega),List.take_of_length_le (by rw [markd_len];exact Nat.le_refl _)] at h4
   rw [h4]
  | succ k ih=>
   intro m i acc h1 h2 h3 h4
   obtain ⟨m,rfl⟩:∃ m',m=m'+1:=⟨m - 1,by omega⟩
   rw [hs m i acc (by omega) h3]
   refine ih m (i+1) _ (by omega) (by omega) (by simpa using h3) ?_
   have hi:i<(markd cell c n).length:=by rw [markd_len];omega
   rw [List.take_succ_eq_append_getElem (by simp;omega),List.take_succ_eq_append_getElem hi]
   rw [List.take_set_of_le (by omega),h4]
   simp [markd]
 have:=HE (f:=fun m=>N m 1 0 l) (n+1) (fun m hm=>by
  have:=key n m 0 l (by omega) (by omega) hl (by simp)
  simpa using this)
 exact this
abbrev cellSh (k:Int):D:=.node [.int k,.int (k+1),.int (k+2),.int (k+3)]
theorem markSherdS_ok (l:List D) (hl:l.length≤1048576):∃ k l',Z49 l 1=some (k,l')∧(0≤k∧k≤4611686018427):=by
 have key:Z48 1 0 l=some (1+4 * (l.length:Int),markd cellSh 4 l.length):=by
  refine mark_loop (N:=n_Z48) (fun m i acc hi hacc=>?_) (fun m acc hacc=>?_) rfl
  ·have hw:IntKind.i64.wrap ((i:Int)+1)=(i:Int)+1:=QS (by omega) (by omega)
   have w1:IntKind.i64.wrap (1+4 * (i:Int)+1)=1+4 * (i:Int)+1:=QS (by omega) (by omega)
   have w2:IntKind.i64.wrap (1+4 * (i:Int)+1+1)=1+4 * (i:Int)+2:=by rw [QS (by omega) (by omega)];omega
   have w3:IntKind.i64.wrap (1+4 * (i:Int)+2+1)=1+4 * (i:Int)+3:=by rw [QS (by omega) (by omega)];omega
   have w4:IntKind.i64.wrap (1+4 * (i:Int)+3+1)=1+4 * ((i:Int)+1):=by rw [QS (by omega) (by omega)];omega
   have h2:(i:Int)<acc.length:=by omega
   have h3:i+1≤acc.length:=by omega
   have h4:i<acc.length:=by omega
   simp [Z0,n_Z48,c_Z48,h2,h3,h4,hw,w1,w2,w3,w4,Te,CA]
  ·have h1:¬ (l.length:Int)<acc.length:=by omega
   simp [n_Z48,c_Z48,h1]
 exact ⟨1+4 * (l.length:Int),markd cellSh 4 l.length,by simp only [Z49,c_Z49,key,ob],by omega,by omega⟩
theorem markJoinS_ok (l:List D) (k0:Int) (hk:0≤k0∧k0≤4611686018427) (hl:l.length≤1048576):∃ k l',Z51 l k0=some (k,l')∧(0≤k∧k≤4611686018427387):=by
 obtain ⟨y,h1,h2⟩:=CT (N:=fun m (s:Nat×List D)=>n_Z50 m (k0+2 * (s.1:Int)) (s.1:Int) s.2) (fun s=>s.1≤l.length∧s.2.length=l.length) (fun s=>l.length - s.1) (fun s y=>y.1=k0+2 * (l.length:Int)) (by
  rintro ⟨i,acc⟩ ⟨hi,hacc⟩
  simp only at hi hacc ⊢
  by_cases hlt:i<l.length
  ·have hw:IntKind.i64.wrap ((i:Int)+1)=((i+1:Nat):Int):=HW (by omega)
   have w1:IntKind.i64.wrap (k0+2 * (i:Int)+1)=k0+2 * (i:Int)+1:=QS (by omega) (by omega)
   have w2:IntKind.i64.wrap (k0+2 * (i:Int)+1+1)=k0+2 * ((i+1:Nat):Int):=by rw [QS (by omega) (by omega)];omega
   have h2:(i:Int)<acc.length:=by omega
   have h3:i+1≤acc.length:=by omega
   exact .inr ⟨(i+1,(acc.set i (.node [.int (k0+2 * (i:Int)),.int ((acc[i]?.getD (.int 0)).fld 1).toInt])).set i (.node [.int (((acc.set i (.node [.int (k0+2 * (i:Int)),.int ((acc[i]?.getD (.int 0)).fld 1).toInt]))[i]?.getD (.int 0)).fld 0).toInt,.int (k0+2 * (i:Int)+1)])),⟨by simp;omega,by simpa using hacc⟩,by simp;omega,fun y hy=>hy,fun m=>by
    simp only [n_Z50,c_Z50,h2,h3,decide_true,cond_true,Int.natCast_nonneg,and_self,if_true,tn,List.getD_eq_getElem?_getD,List.length_set,hw,w1,w2]
    cases n_Z50 m (k0+2 * ((i+1:Nat):Int)) ((i+1:Nat):Int) ((acc.set i (.node [.int (k0+2 * (i:Int)),.int ((acc[i]?.getD (.int 0)).fld 1).toInt])).set i (.node [.int (((acc.set i (.node [.int (k0+2 * (i:Int)),.int ((acc[i]?.getD (.int 0)).fld 1).toInt]))[i]?.getD (.int 0)).fld 0).toInt,.int (k0+2 * (i:Int)+1)]))<;>rfl⟩
  ·have h1:¬ (i:Int)<acc.length:=by omega
   have hi':i=l.length:=by omega
   exact .inl ⟨(k0+2 * (i:Int),acc),by rw [hi'],fun m=>by simp [n_Z50,c_Z50,h1]⟩) (0,l) ⟨by simp,rfl⟩
 obtain ⟨y1,y2⟩:=y
 simp only at h2
 subst h2
 have h1':Z50 k0 0 l=some (k0+2 * (l.length:Int),y2):=by show ev _=_;simpa using h1
 exact ⟨k0+2 * (l.length:Int),y2,by simp only [Z51,c_Z51,h1',ob],by omega,by omega⟩
theorem eqIntS_self (l:List D) (hl:l.length≤1048576):Z39 l l=some true:=by
 have key:Z38 l l 0=some (.inr ()):=by
  refine Ye (N:=fun n i=>n_Z38 n l l i) (len:=l.length) (fun m i hi=>?_) (fun m=>?_)
  ·have hw:IntKind.i64.wrap ((i:Int)+1)=(i:Int)+1:=QS (by omega) (by omega)
   have h1:(i:Int)<l.length:=by omega
   simp [n_Z38,c_Z38,h1,hw]
  ·simp [n_Z38,c_Z38]
 simp [Z39,c_Z39,key]
def markd2 (cell:Int→D) (k0:Int) (n:Nat):List D:=(List.range n).map (fun (i:Nat)=>cell (k0+(i:Int)))
theorem markd2_len {cell:Int→D} {k0:Int} {n:Nat}:(markd2 cell k0 n).length=n:=by simp [markd2]
theorem markd2_get {cell:Int→D} {k0:Int} {n i:Nat} (h:i<n):(markd2 cell k0 n)[i]?.getD (.int 0)=cell (k0+(i:Int)):=by
 simp [markd2,h]
theorem mark_loop2 {N:Nat→Int→Int→List D→Option (Int×List D)} {n:Nat} {k0:Int} {cell:Int→D}
  (hs:∀ m (i:Nat) acc,i<n→acc.length=n→N (m+1) (k0+(i:Int)) (i:Int) acc=N m (k0+((i+1:Nat):Int)) ((i+1:Nat):Int) (acc.set i (cell (k0+(i:Int)))))
  (he:∀ m acc,acc.length=n→N (m+1) (k0+(n:Int)) (n:Int) acc=some (k0+(n:Int),acc)) {l:List D} (hl:l.length=n) :
  ev (fun m=>N m k0 0 l)=some (k0+(n:Int),markd2 cell k0 n):=by
 have key:∀ k,∀ m (i:Nat) acc,i+k=n→k<m→acc.length=n→acc.take i=(markd2 cell k0 n).take i→N m (k0+(i:Int)) (i:Int) acc=some (k0+(n:Int),markd2 cell k0 n):=by
  intro k
  induction k with
  | zero=>
   intro m i acc h1 h2 h3 h4
   obtain ⟨m,rfl⟩:∃ m',m=m'+1:=⟨m - 1,by omega⟩
   have hi:i=n:=by omega
   subst hi
   rw [he m acc h3]
   rw [List.take_of_length_le (by omega),List.take_of_length_le (by rw [markd2_len];exact Nat.le_refl _)] at h4
   rw [h4]
  | succ k ih=>
   intro m i acc h1 h2 h3 h4
   obtain ⟨m,rfl⟩:∃ m',m=m'+1:=⟨m - 1,by omega⟩
   rw [hs m i acc (by omega) h3]
   refine ih m (i+1) _ (by omega) (by omega) (by simpa using h3) ?_
   have hi:i<(markd2 cell k0 n).length:=by rw [markd2_len];omega
   rw [List.take_succ_eq_append_getElem (by simp;omega),List.take_succ_eq_append_getElem hi]
   rw [List.take_set_of_le (by omega),h4]
   simp [markd2]
 have:=HE (f:=fun m=>N m k0 0 l) (n+1) (fun m hm=>by
  have:=key n m 0 l (by omega) (by omega) hl (by simp)
  simpa using this)
 exact this
theorem held_loop2 {X:Type} {N:Nat→Int→Int→Option X} {n:Nat} {k0:Int} {x:X}
  (hs:∀ m (i:Nat),i<n→N (m+1) (k0+(i:Int)) (i:Int)=N m (k0+((i+1:Nat):Int)) ((i+1:Nat):Int))
  (he:∀ m,N (m+1) (k0+(n:Int)) (n:Int)=some x):ev (fun m=>N m k0 0)=some x:=by
 have key:∀ k,∀ m (i:Nat),i+k=n→k<m→N m (k0+(i:Int)) (i:Int)=some x:=by
  intro k
  induction k with
  | zero=>
   intro m i h1 h2
   obtain ⟨m,rfl⟩:∃ m',m=m'+1:=⟨m - 1,by omega⟩
   have hi:i=n:=by omega
   subst hi
   exact he m
  | succ k ih=>
   intro m i h1 h2
   obtain ⟨m,rfl⟩:∃ m',m=m'+1:=⟨m - 1,by omega⟩
   rw [hs m i (by omega)]
   exact ih m (i+1) (by omega) (by omega)
 exact HE (f:=fun m=>N m k0 0) (n+1) (fun m hm=>by
  have:=key n m 0 (by omega) (by omega)
  simpa using this)
def intsFrom (k:Int) (n:Nat):List D:=(List.range n).map (fun (i:Nat)=>.int (k+(i:Int)))
theorem intsFrom_len {k:Int} {n:Nat}:(intsFrom k n).length=n:=by simp [intsFrom]
theorem intsFrom_get {k:Int} {n i:Nat} (h:i<n):(intsFrom k n)[i]?.getD (.int 0)=.int (k+(i:Int)):=by simp [intsFrom,h]
theorem markIntS_k (l:List D) (k0:Int) (hk:0≤k0∧k0≤4611686018427387904) (hl:l.length≤1048576):Z53 l k0=some (k0+(l.length:Int),intsFrom k0 l.length):=by
 have key:Z52 k0 0 l=some (k0+(l.length:Int),markd2 (fun k=>.int k) k0 l.length):=by
  refine mark_loop2 (N:=n_Z52) (fun m i acc hi hacc=>?_) (fun m acc hacc=>?_) rfl
  ·have hw:IntKind.i64.wrap ((i:Int)+1)=(i:Int)+1:=QS (by omega) (by omega)
   have w1:IntKind.i64.wrap (k0+(i:Int)+1)=k0+((i:Int)+1):=by rw [QS (by omega) (by omega)];omega
   have h2:(i:Int)<acc.length:=by omega
   have h3:i+1≤acc.length:=by omega
   simp [n_Z52,c_Z52,h2,h3,hw,w1]
  ·have h1:¬ (l.length:Int)<acc.length:=by omega
   simp [n_Z52,c_Z52,h1]
 simp only [Z53,c_Z53,key,ob]
 rfl
theorem heldIntS_k (n:Nat) (k0:Int) (hk:0≤k0∧k0≤4611686018427387904) (hn:n≤1048576):Z57 (intsFrom k0 n) k0=some (k0+(n:Int)):=by
 have key:Z56 (intsFrom k0 n) k0 0=some (.inr (k0+(n:Int))):=by
  refine held_loop2 (n:=n) (N:=fun m k i=>n_Z56 m (intsFrom k0 n) k i) (fun m i hi=>?_) (fun m=>?_)
  ·have hw:IntKind.i64.wrap ((i:Int)+1)=(i:Int)+1:=QS (by omega) (by omega)
   have w1:IntKind.i64.wrap (k0+(i:Int)+1)=k0+((i:Int)+1):=by rw [QS (by omega) (by omega)];omega
   have h2:(i:Int)<n:=by omega
   simp [n_Z56,c_Z56,intsFrom_len,h2,hw,w1,intsFrom_get hi,CA]
  ·simp [n_Z56,c_Z56,intsFrom_len]
 simp only [Z57,c_Z57,key,ob,Sum.elim_inr]
theorem eqIntSS_self (l:List D) (hl:l.length≤1048576) (hi:∀ d∈l,d.items.length≤1048576):Z41 l l=some true:=by
 have key:Z40 l l 0=some (.inr ()):=by
  refine Ye (N:=fun n i=>n_Z40 n l l i) (len:=l.length) (fun m i hi'=>?_) (fun m=>?_)
  ·have hw:IntKind.i64.wrap ((i:Int)+1)=(i:Int)+1:=QS (by omega) (by omega)
   have h1:(i:Int)<l.length:=by omega
   have h2:=eqIntS_self _ (hi _ (WS hi'))
   simp [n_Z40,c_Z40,h1,hw,h2]
  ·simp [n_Z40,c_Z40]
 simp [Z41,c_Z41,key]
def mkSS (k:Int):List D→List D
 | []=>[]
 | d::l=>.node (intsFrom k d.items.length)::mkSS (k+(d.items.length:Int)) l
def totSS:List D→Nat
 | []=>0
 | d::l=>d.items.length+totSS l
theorem mkSS_len:∀ (l:List D) (k:Int),(mkSS k l).length=l.length
 | [],_=>rfl
 | d::l,k=>by simp [mkSS,mkSS_len l]
theorem mkSS_get:∀ (l:List D) (k:Int) (i:Nat),i<l.length→(mkSS k l)[i]?.getD (.int 0)=.node (intsFrom (k+(totSS (l.take i):Int)) (l[i]?.getD (.int 0)).items.length)
 | [],_,_,h=>by simp at h
 | d::l,k,0,_=>by simp [mkSS,totSS]
 | d::l,k,i+1,h=>by
  have:=mkSS_get l (k+(d.items.length:Int)) i (by simpa using h)
  simp only [mkSS,List.getElem?_cons_succ,List.take_succ_cons,totSS]
  rw [this]
  congr 2
  omega
theorem totSS_succ:∀ (l:List D) (i:Nat),i<l.length→totSS (l.take (i+1))=totSS (l.take i)+(l[i]?.getD (.int 0)).items.length
 | [],_,h=>by simp at h
 | d::l,0,_=>by simp [totSS]
 | d::l,i+1,h=>by
  have:=totSS_succ l i (by simpa using h)
  simp only [List.take_succ_cons,totSS,List.getElem?_cons_succ] at this ⊢
  omega
theorem totSS_le:∀ (l:List D) (i:Nat),(∀ d∈l,d.items.length≤1048576)→totSS (l.take i)≤i * 1048576
 | l,0,_=>by simp [totSS]
 | [],i+1,_=>by simp [totSS]
 | d::l,i+1,h=>by
  have:=totSS_le l i (fun x hx=>h x (by simp [hx]))
  have h1:=h d (by simp)
  simp only [List.take_succ_cons,totSS,Nat.succ_mul]
  omega
theorem markIntSS_k (l:List D) (hl:l.length≤1048576) (hi:∀ d∈l,d.items.length≤1048576):Z55 l 1=some (1+(totSS l:Int),mkSS 1 l):=by
 obtain ⟨y,h1,h2⟩:=CT (N:=fun m (s:Nat×List D)=>n_Z54 m (1+(totSS (l.take s.1):Int)) (s.1:Int) s.2) (fun s=>s.1≤l.length∧s.2=(mkSS 1 l).take s.1++l.drop s.1) (fun s=>l.length - s.1)
  (fun s y=>y=(1+(totSS l:Int),mkSS 1 l)) (by
  rintro ⟨i,acc⟩ ⟨hi1,hacc⟩
  simp only at hi1 hacc ⊢
  have hlen:acc.length=l.length:=by rw [hacc];simp [mkSS_len];omega
  by_cases hlt:i<l.length
  ·refine .inr ⟨(i+1,(mkSS 1 l).take (i+1)++l.drop (i+1)),⟨by simp;omega,rfl⟩,by simp;omega,fun y hy=>hy,fun m=>?_⟩
   have hw:IntKind.i64.wrap ((i:Int)+1)=((i+1:Nat):Int):=HW (by omega)
   have h2:(i:Int)<acc.length:=by omega
   have h3:i+1≤acc.length:=by omega
   have hgd:acc[i]?.getD (.int 0)=l[i]?.getD (.int 0):=by
    rw [hacc,List.getElem?_append_right (by simp [mkSS_len];omega)]
    simp only [List.length_take,mkSS_len,List.getElem?_drop]
    congr 2
    omega
   have hb:=totSS_le l i hi
   have hm:=markIntS_k (l[i]?.getD (.int 0)).items (1+(totSS (l.take i):Int)) (by omega) (hi _ (WS hlt))
   have hset:acc.set i (.node (intsFrom (1+(totSS (l.take i):Int)) (l[i]?.getD (.int 0)).items.length))=(mkSS 1 l).take (i+1)++l.drop (i+1):=by
    have hlt2:i<(mkSS 1 l).length:=by rw [mkSS_len];exact hlt
    have hg:=mkSS_get l 1 i hlt
    rw [List.getElem?_eq_getElem hlt2] at hg
    simp only [Option.getD_some] at hg
    rw [hacc,List.set_append_right _ _ (by simp [mkSS_len];omega),List.take_succ_eq_append_getElem hlt2,hg]
    have:i - (List.take i (mkSS 1 l)).length=0:=by simp [mkSS_len];omega
    rw [this,vh hlt]
    simp
   simp only [n_Z54,c_Z54,h2,h3,decide_true,cond_true,Int.natCast_nonneg,and_self,if_true,tn,List.getD_eq_getElem?_getD,hgd,hm,ob,hw,hset,totSS_succ l i hlt]
   rw [show (1:Int)+(totSS (List.take i l):Int)+((l[i]?.getD (D.int 0)).items.length:Int)=1+((totSS (List.take i l)+(l[i]?.getD (D.int 0)).items.length:Nat):Int) by omega]
   cases n_Z54 m (1+((totSS (List.take i l)+(l[i]?.getD (D.int 0)).items.length:Nat):Int)) ((i+1:Nat):Int) ((mkSS 1 l).take (i+1)++l.drop (i+1))<;>rfl
  ·have hi':i=l.length:=by omega
   subst hi'
   have h2:¬ (l.length:Int)<acc.length:=by omega
   refine .inl ⟨_,rfl,fun m=>?_⟩
   simp only [n_Z54,c_Z54,h2,decide_false,cond_false]
   rw [hacc,List.take_of_length_le (Nat.le_refl _),List.take_of_length_le (by rw [mkSS_len];exact Nat.le_refl _),List.drop_of_length_le (Nat.le_refl _),List.append_nil]) (0,l) ⟨by simp,by simp⟩
 simp only [List.take_zero,totSS] at h1
 have h1':Z54 1 0 l=some y:=by show ev _=_;simpa using h1
 subst h2
 simp only [Z55,c_Z55,h1',ob]
theorem heldIntSS_k (l:List D) (hl:l.length≤1048576) (hi:∀ d∈l,d.items.length≤1048576):Z59 (mkSS 1 l) 1=some (1+(totSS l:Int)):=by
 obtain ⟨y,h1,h2⟩:=CT (N:=fun m (i:Nat)=>n_Z58 m (mkSS 1 l) (1+(totSS (l.take i):Int)) (i:Int)) (fun i=>i≤l.length) (fun i=>l.length - i)
  (fun s y=>y=.inr (1+(totSS l:Int))) (by
  intro i hi1
  by_cases hlt:i<l.length
  ·refine .inr ⟨i+1,by omega,by omega,fun y hy=>hy,fun m=>?_⟩
   have hw:IntKind.i64.wrap ((i:Int)+1)=((i+1:Nat):Int):=HW (by omega)
   have h2:(i:Int)<(mkSS 1 l).length:=by rw [mkSS_len];omega
   have hb:=totSS_le l i hi
   have hm:=heldIntS_k (l[i]?.getD (.int 0)).items.length (1+(totSS (l.take i):Int)) (by omega) (hi _ (WS hlt))
   have hneg:¬ (1+(totSS (l.take i):Int)+((l[i]?.getD (.int 0)).items.length:Int))<0:=by omega
   simp only [n_Z58,c_Z58,h2,decide_true,cond_true,Int.natCast_nonneg,and_self,if_true,tn,List.getD_eq_getElem?_getD,mkSS_get l 1 i hlt,Td,hm,ob,hw,hneg,decide_false,cond_false,totSS_succ l i hlt]
   rw [show (1:Int)+(totSS (List.take i l):Int)+((l[i]?.getD (D.int 0)).items.length:Int)=1+((totSS (List.take i l)+(l[i]?.getD (D.int 0)).items.length:Nat):Int) by omega]
   cases n_Z58 m (mkSS 1 l) (1+((totSS (List.take i l)+(l[i]?.getD (D.int 0)).items.length:Nat):Int)) ((i+1:Nat):Int)<;>rfl
  ·have hi':i=l.length:=by omega
   subst hi'
   have h2:¬ (l.length:Int)<(mkSS 1 l).length:=by rw [mkSS_len];omega
   refine .inl ⟨_,rfl,fun m=>?_⟩
   simp only [n_Z58,c_Z58,h2,decide_false,cond_false]
   rw [List.take_of_length_le (Nat.le_refl _)]) 0 (by omega)
 simp only [List.take_zero,totSS] at h1
 have h1':Z58 (mkSS 1 l) 1 0=some y:=by show ev _=_;simpa using h1
 subst h2
 simp only [Z59,c_Z59,h1',ob,Sum.elim_inr]
def stp (s:Nat→Int) (e:Nat×Nat):Nat→Int:=fun v=>if v=e.1∨v=e.2 then min (s e.1) (s e.2) else s v
def passL (E:List (Nat×Nat)) (s:Nat→Int):Nat→Int:=E.foldl stp s
def iterL (E:List (Nat×Nat)):Nat→(Nat→Int)→Nat→Int
 | 0,s=>s
 | k+1,s=>iterL E k (passL E s)
def allE (E:List (Nat×Nat)) (s:Nat→Int):Prop:=∀ e∈E,s e.1=s e.2
def doneE (E:List (Nat×Nat)) (s:Nat→Int) (e:Nat×Nat):Prop:=s e.1=s e.2∧∀ f∈E,min (s f.1) (s f.2)<s e.1→s f.1=s f.2
theorem stp_id {s:Nat→Int} {e:Nat×Nat} (h:s e.1=s e.2):stp s e=s:=by
 funext v
 unfold stp
 by_cases hv:v=e.1∨v=e.2
 ·rw [if_pos hv]
  rcases hv with rfl | rfl<;>omega
 ·rw [if_neg hv]
theorem stp_done {E:List (Nat×Nat)} {s:Nat→Int} {e f:Nat×Nat} (hf:f∈E) (h:doneE E s e):doneE E (stp s f) e∧stp s f e.1=s e.1:=by
 by_cases hq:s f.1=s f.2
 ·rw [stp_id hq];exact ⟨h,rfl⟩
 ·obtain ⟨h1,h2⟩:=h
  have hm:s e.1≤min (s f.1) (s f.2):=by
   rcases Int.lt_or_le (min (s f.1) (s f.2)) (s e.1) with h3 | h3
   ·exact absurd (h2 f hf h3) hq
   ·exact h3
  have hin:∀ v,(v=f.1∨v=f.2)→stp s f v=min (s f.1) (s f.2):=fun v hv=>by unfold stp;rw [if_pos hv]
  have hout:∀ v,¬ (v=f.1∨v=f.2)→stp s f v=s v:=fun v hv=>by unfold stp;rw [if_neg hv]
  have keep:∀ v,s v=s e.1→stp s f v=s e.1:=by
   intro v hv
   by_cases hi:v=f.1∨v=f.2
   ·rw [hin v hi]
    rcases hi with rfl | rfl<;>omega
   ·rw [hout v hi,hv]
  have k1:=keep e.1 rfl
  have k2:=keep e.2 h1.symm
  refine ⟨⟨by rw [k1,k2],fun g hg hlt=>?_⟩,k1⟩
  rw [k1] at hlt
  have low:∀ v,stp s f v<s e.1→stp s f v=s v:=by
   intro v hv
   by_cases hi:v=f.1∨v=f.2
   ·rw [hin v hi] at hv;omega
   ·exact hout v hi
  have low':∀ v,s v<s e.1→stp s f v=s v:=by
   intro v hv
   by_cases hi:v=f.1∨v=f.2
   ·exfalso
    rcases hi with rfl | rfl<;>omega
   ·exact hout v hi
  have hl:min (s g.1) (s g.2)<s e.1:=by
   rcases Int.lt_or_le (stp s f g.1) (s e.1) with h3 | h3
   ·have:=low _ h3;omega
   ·have h4:stp s f g.2<s e.1:=by omega
    have:=low _ h4;omega
  have he:=h2 g hg hl
  rw [low' g.1 (by omega),low' g.2 (by omega)]
  exact he
theorem fold_done {E:List (Nat×Nat)} {e:Nat×Nat}:∀ {l:List (Nat×Nat)} {s:Nat→Int},(∀ f∈l,f∈E)→doneE E s e→doneE E (l.foldl stp s) e∧l.foldl stp s e.1=s e.1
 | [],s,_,h=>⟨h,rfl⟩
 | f::l,s,hl,h=>by
  obtain ⟨h1,h2⟩:=stp_done (hl f (by simp)) h
  obtain ⟨h3,h4⟩:=fold_done (l:=l) (fun g hg=>hl g (by simp [hg])) h1
  exact ⟨h3,h4.trans h2⟩
theorem exists_least {α:Type} (m:α→Int):∀ (l:List α) (P:α→Prop),(∃ a∈l,P a)→∃ a∈l,P a∧∀ b∈l,P b→m a≤m b
 | [],P,⟨a,h,_⟩=>by cases h
 | x::l,P,h=>by
  by_cases hl:∃ a∈l,P a
  ·obtain ⟨a,h1,h2,h3⟩:=exists_least m l P hl
   by_cases hx:P x∧m x<m a
   ·refine ⟨x,by simp,hx.1,fun b hb hP=>?_⟩
    rcases List.mem_cons.1 hb with rfl | hb
    ·omega
    ·have:=h3 b hb hP;omega
   ·refine ⟨a,by simp [h1],h2,fun b hb hP=>?_⟩
    rcases List.mem_cons.1 hb with rfl | hb
    ·rcases Int.lt_or_le (m b) (m a) with h4 | h4
     ·exact absurd ⟨hP,h4⟩ hx
     ·exact h4
    ·exact h3 b hb hP
  ·obtain ⟨a,h1,h2⟩:=h
   rcases List.mem_cons.1 h1 with rfl | h1
   ·refine ⟨a,by simp,h2,fun b hb hP=>?_⟩
    rcases List.mem_cons.1 hb with rfl | hb
    ·exact Int.le_refl _
    ·exact absurd ⟨b,hb,hP⟩ hl
   ·exact absurd ⟨a,h1,h2⟩ hl
theorem pass_more {E:List (Nat×Nat)} {s:Nat→Int} (h:¬ allE E s):∃ e∈E,¬ doneE E s e∧doneE E (passL E s) e:=by
 have h0:∃ e∈E,s e.1≠s e.2:=Classical.byContradiction fun hn=>h fun e he=>Classical.byContradiction fun hne=>hn ⟨e,he,hne⟩
 obtain ⟨e,he,hne,hmin⟩:=exists_least (fun e=>min (s e.1) (s e.2)) E (fun e=>s e.1≠s e.2) h0
 refine ⟨e,he,fun hd=>hne hd.1,?_⟩
 obtain ⟨u,w,hu,hw⟩:∃ u w,s u=min (s e.1) (s e.2)∧((u=e.1∧w=e.2)∨(u=e.2∧w=e.1)):=by
  rcases Int.le_total (s e.1) (s e.2) with hle | hle
  ·exact ⟨e.1,e.2,by omega,.inl ⟨rfl,rfl⟩⟩
  ·exact ⟨e.2,e.1,by omega,.inr ⟨rfl,rfl⟩⟩
 have d0:doneE E s (u,u):=⟨rfl,fun f hf hlt=>Classical.byContradiction fun hq=>by
  have h1:=hmin f hf hq
  simp only at hlt h1
  omega⟩
 obtain ⟨l1,l2,hl⟩:=List.append_of_mem he
 have hsub1:∀ f∈l1,f∈E:=fun f hf=>by rw [hl];simp [hf]
 have hsub2:∀ f∈l2,f∈E:=fun f hf=>by rw [hl];simp [hf]
 obtain ⟨d1,v1⟩:=fold_done (e:=(u,u)) hsub1 d0
 obtain ⟨d2,v2⟩:=stp_done he d1
 simp only at v1 v2
 have hp:passL E s=l2.foldl stp (stp (l1.foldl stp s) e):=by
  unfold passL
  rw [hl,List.foldl_append,List.foldl_cons]
 rw [hp]
 have hwv:stp (l1.foldl stp s) e w=l1.foldl stp s u:=by
  have hin:stp (l1.foldl stp s) e w=min (l1.foldl stp s e.1) (l1.foldl stp s e.2):=by
   unfold stp;rw [if_pos (by rcases hw with ⟨_,rfl⟩ | ⟨_,rfl⟩<;>simp)]
  have hnl:¬ min (l1.foldl stp s e.1) (l1.foldl stp s e.2)<l1.foldl stp s u:=by
   intro hlt
   have hq:=d1.2 e he hlt
   rcases hw with ⟨rfl,_⟩ | ⟨rfl,_⟩<;>omega
  rw [hin]
  rcases hw with ⟨rfl,_⟩ | ⟨rfl,_⟩<;>omega
 have d3:doneE E (stp (l1.foldl stp s) e) e:=by
  have h2:=d2.2
  simp only at h2
  rcases hw with ⟨rfl,rfl⟩ | ⟨rfl,rfl⟩
  ·exact ⟨by rw [v2,hwv],h2⟩
  ·refine ⟨by rw [v2,hwv],?_⟩
   rw [hwv,← v2];exact h2
 exact (fold_done hsub2 d3).1
theorem countP_lt {α:Type} {p q:α→Bool}:∀ {l:List α},(∀ a∈l,p a=true→q a=true)→(∃ a∈l,p a=false∧q a=true)→l.countP p<l.countP q
 | [],_,⟨a,h,_⟩=>by cases h
 | x::l,h,⟨a,h1,h2,h3⟩=>by
  have hle:l.countP p≤l.countP q:=List.countP_mono_left (fun a ha hp=>h a (by simp [ha]) hp)
  rw [List.countP_cons,List.countP_cons]
  rcases List.mem_cons.1 h1 with rfl | h1
  ·simp [h2,h3];omega
  ·have:=countP_lt (l:=l) (fun a ha hp=>h a (by simp [ha]) hp) ⟨a,h1,h2,h3⟩
   have hx:=h x (by simp)
   cases hpx:p x
   ·cases hqx:q x<;>simp<;>omega
   ·simp [hx hpx];omega
open Classical in
noncomputable def cntE (E:List (Nat×Nat)) (s:Nat→Int):Nat:=E.countP (fun e=>decide (doneE E s e))
theorem pass_id {E:List (Nat×Nat)} {s:Nat→Int} (h:allE E s):passL E s=s:=by
 have:∀ l:List (Nat×Nat),(∀ e∈l,e∈E)→l.foldl stp s=s:=by
  intro l
  induction l with
  | nil=>intro _;rfl
  | cons a l ih=>
   intro hl
   rw [List.foldl_cons,stp_id (h a (hl a (by simp)))]
   exact ih (fun e he=>hl e (by simp [he]))
 exact this E (fun e he=>he)
theorem iter_id {E:List (Nat×Nat)} {s:Nat→Int} (h:allE E s):∀ k,iterL E k s=s
 | 0=>rfl
 | k+1=>by rw [iterL,pass_id h];exact iter_id h k
theorem cnt_lt {E:List (Nat×Nat)} {s:Nat→Int} (h:¬ allE E s):cntE E s<cntE E (passL E s):=by
 unfold cntE
 obtain ⟨e,he,h1,h2⟩:=pass_more h
 exact countP_lt (fun f hf hp=>by
  simp only [decide_eq_true_eq] at hp ⊢
  exact (fold_done (fun g hg=>hg) hp).1) ⟨e,he,by simp [h1],by simp [h2]⟩
theorem iter_all {E:List (Nat×Nat)}:∀ (k:Nat) (s:Nat→Int),E.length≤cntE E s+k→allE E (iterL E k s)
 | 0,s,h=>by
  intro e he
  have hc:cntE E s=E.length:=Nat.le_antisymm List.countP_le_length (by omega)
  unfold cntE at hc
  rw [List.countP_eq_length] at hc
  have:=hc e he
  simp only [decide_eq_true_eq] at this
  exact this.1
 | k+1,s,h=>by
  rw [iterL]
  by_cases ha:allE E s
  ·rw [pass_id ha]
   rw [iter_id ha]
   exact ha
  ·exact iter_all k _ (by have:=cnt_lt ha;omega)
theorem iter_full (E:List (Nat×Nat)) (s:Nat→Int):allE E (iterL E E.length s):=iter_all _ _ (by omega)
def lst (n:Nat) (s:Nat→Int):List D:=(List.range n).map (fun v=>.int (s v))
theorem lst_len {n:Nat} {s:Nat→Int}:(lst n s).length=n:=by simp [lst]
theorem lst_get {n v:Nat} {s:Nat→Int} (h:v<n):(lst n s)[v]?.getD (.int 0)=.int (s v):=by simp [lst,h]
theorem lst_set {n a:Nat} {s:Nat→Int} {x:Int}:(lst n s).set a (.int x)=lst n (fun v=>if v=a then x else s v):=by
 apply List.ext_getElem
 ·simp [lst]
 ·intro i h1 h2
  simp only [lst,List.getElem_set,List.getElem_map,List.getElem_range]
  by_cases h:a=i
  ·subst h;simp
  ·have h':¬ i=a:=fun e=>h e.symm
   simp [h,h']
def edgeOf (d:D):Nat×Nat:=((d.fld 0).toInt.toNat,(d.fld 1).toInt.toNat)
def edges (r:List D):List (Nat×Nat):=r.map edgeOf
def validJ (n:Nat) (r:List D):Prop:=∀ i,i<r.length→∃ a b:Nat,((r[i]?.getD (.int 0)).fld 0).toInt=(a:Int)∧((r[i]?.getD (.int 0)).fld 1).toInt=(b:Int)∧a<b∧b<n∧(edges r)[i]?=some (a,b)
theorem validJ_of {n:Nat} {r:List D} (h:∀ i,i<r.length→joinBad n r i=false):validJ n r:=by
 intro i hi
 have hb:=h i hi
 unfold joinBad at hb
 rw [Bool.or_eq_false_iff] at hb
 have h1:=hb.1
 simp only [decide_eq_false_iff_not,Classical.not_not] at h1
 obtain ⟨h2,h3,h4⟩:=h1
 refine ⟨(jA r i).toNat,(jB r i).toNat,?_,?_,by omega,by omega,?_⟩
 ·unfold jA at h2 h3 ⊢;omega
 ·unfold jA at h2 h3;unfold jB at h3 ⊢;omega
 ·simp only [edges,List.getElem?_map,List.getElem?_eq_getElem hi,Option.map_some,oj]
  simp only [edgeOf,jA,jB,List.getElem?_eq_getElem hi,Option.getD_some]
theorem validJ_take {n:Nat} {r:List D} (h:validJ n r) (k:Nat):validJ n (r.take k):=by
 intro i hi
 rw [List.length_take] at hi
 obtain ⟨a,b,h1,h2,h3,h4,h5⟩:=h i (by omega)
 have e1:(r.take k)[i]?=r[i]?:=by rw [List.getElem?_take];simp;omega
 refine ⟨a,b,by rw [e1];exact h1,by rw [e1];exact h2,h3,h4,?_⟩
 simp only [edges,List.getElem?_map,e1] at h5 ⊢
 exact h5
theorem iter_add {E:List (Nat×Nat)}:∀ (a b:Nat) (s:Nat→Int),iterL E (a+b) s=iterL E b (iterL E a s)
 | 0,b,s=>by rw [Nat.zero_add];rfl
 | a+1,b,s=>by
  rw [show a+1+b=(a+b)+1 by omega]
  simp only [iterL]
  exact iter_add a b _
def finalS (r:List D):Nat→Int:=iterL (edges r) (edges r).length (fun v=>(v:Int))
theorem iter_end {E:List (Nat×Nat)} {s:Nat→Int} {k:Nat} (h:allE E (iterL E k s)):iterL E k s=iterL E E.length s:=by
 have h1:=iter_add (E:=E) k E.length s
 have h2:=iter_add (E:=E) E.length k s
 rw [iter_id h] at h1
 rw [iter_id (iter_full E s)] at h2
 rw [← h1,← h2,Nat.add_comm]
theorem stp_lst {n a b:Nat} {s:Nat→Int} {x:Int} (hx:x=min (s a) (s b)):((lst n s).set a (.int x)).set b (.int x)=lst n (stp s (a,b)):=by
 rw [lst_set,lst_set]
 congr 1
 funext v
 unfold stp
 simp only
 subst hx
 by_cases h1:v=b
 ·simp [h1]
 ·by_cases h2:v=a
  ·simp [h1,h2]
  ·simp [h1,h2]
theorem take_fold {E:List (Nat×Nat)} {i:Nat} {e:Nat×Nat} (h:E[i]?=some e) (s:Nat→Int):(E.take (i+1)).foldl stp s=stp ((E.take i).foldl stp s) e:=by
 obtain ⟨hi,he⟩:=List.getElem?_eq_some_iff.1 h
 rw [List.take_succ_eq_append_getElem hi,List.foldl_append,he]
 rfl
theorem edges_len {r:List D}:(edges r).length=r.length:=by simp [edges]
theorem least_eq (a b:Int):Z14 a b=some (min a b):=by
 unfold Z14 c_Z14
 by_cases h:a<b
 ·simp only [h,decide_true,cond_true];congr 1;omega
 ·simp only [h,decide_false,cond_false];congr 1;omega
theorem sLab10 (n:Nat) (r:List D) (hn:n≤1048576) (hr:r.length≤1048576) (hv:validJ n r) (s0:Nat→Int) :
  ∃ more,Z15 r false 0 (lst n s0)=some (r,more,lst n (passL (edges r) s0))∧(more=false→allE (edges r) s0)∧(more=true→¬ allE (edges r) s0):=by
 obtain ⟨y,h1,h2⟩:=CT (N:=fun m (s:Bool×Nat×List D)=>n_Z15 m r s.1 (s.2.1:Int) s.2.2)
  (fun s=>s.2.1≤r.length∧s.2.2=lst n (((edges r).take s.2.1).foldl stp s0)∧(s.1=false→((edges r).take s.2.1).foldl stp s0=s0∧∀ e∈(edges r).take s.2.1,s0 e.1=s0 e.2)∧(s.1=true→¬ allE (edges r) s0))
  (fun s=>r.length - s.2.1) (fun s y=>y.1=r∧y.2.2=lst n (passL (edges r) s0)∧(y.2.1=false→allE (edges r) s0)∧(y.2.1=true→¬ allE (edges r) s0)) (by
  rintro ⟨more,i,acc⟩ ⟨hi,hacc,hf,ht⟩
  simp only at hi hacc hf ht ⊢
  subst hacc
  by_cases hlt:i<r.length
  ·obtain ⟨a,b,ea,eb,hab,hbn,he⟩:=hv i hlt
   have h1:(i:Int)<r.length:=by omega
   have hw:IntKind.i64.wrap ((i:Int)+1)=((i+1:Nat):Int):=HW (by omega)
   have ga:(a:Int)<n:=by omega
   have gb:(b:Int)<n:=by omega
   have ga':a+1≤n:=by omega
   have gb':b+1≤n:=by omega
   generalize hs:((edges r).take i).foldl stp s0=s at hf
   have hfold:((edges r).take (i+1)).foldl stp s0=stp s (a,b):=by rw [take_fold he,hs]
   by_cases hq:s a=s b
   ·refine .inr ⟨(more,i+1,lst n (((edges r).take (i+1)).foldl stp s0)),⟨by simp;omega,rfl,fun hm=>?_,ht⟩,by simp;omega,fun y hy=>hy,fun m=>?_⟩
    ·obtain ⟨k1,k2⟩:=hf hm
     refine ⟨by rw [hfold,stp_id (e:=(a,b)) hq,k1],fun e hme=>?_⟩
     obtain ⟨hi',he'⟩:=List.getElem?_eq_some_iff.1 he
     rw [List.take_succ_eq_append_getElem hi',he',List.mem_append] at hme
     rcases hme with hme | hme
     ·exact k2 e hme
     ·simp only [List.mem_singleton] at hme
      subst hme
      rw [← k1];exact hq
    ·simp only [hfold,stp_id (e:=(a,b)) hq]
     simp only [n_Z15,c_Z15,h1,decide_true,cond_true,Int.natCast_nonneg,and_self,if_true,tn,List.getD_eq_getElem?_getD,ea,eb,lst_len,ga,gb,ga',gb',lst_get (show a<n by omega),lst_get hbn,CA,hq,Bool.not_true,cond_false,hw]
     cases n_Z15 m r more ((i+1:Nat):Int) (lst n s)<;>rfl
   ·refine .inr ⟨(true,i+1,lst n (((edges r).take (i+1)).foldl stp s0)),⟨by simp;omega,rfl,fun hm=>(by cases hm),fun _=>?_⟩,by simp;omega,fun y hy=>hy,fun m=>?_⟩
    ·cases more with
     | true=>exact ht rfl
     | false=>
      obtain ⟨k1,k2⟩:=hf rfl
      intro hall
      have:=hall (a,b) (List.mem_of_getElem? he)
      rw [← k1] at this
      exact hq this
    ·simp only [hfold]
     rw [← stp_lst (n:=n) (x:=min (s a) (s b)) rfl]
     simp only [n_Z15,c_Z15,h1,decide_true,cond_true,Int.natCast_nonneg,and_self,if_true,tn,List.getD_eq_getElem?_getD,ea,eb,lst_len,ga,gb,ga',gb',lst_get (show a<n by omega),lst_get hbn,CA,hq,decide_false,Bool.not_false,hw,least_eq,ob,List.length_set]
     cases n_Z15 m r true ((i+1:Nat):Int) (((lst n s).set a (.int (min (s a) (s b)))).set b (.int (min (s a) (s b))))<;>rfl
  ·have hi':i=r.length:=by omega
   subst hi'
   have hall:(edges r).take r.length=edges r:=List.take_of_length_le (by rw [edges_len];exact Nat.le_refl _)
   rw [hall] at hf
   refine .inl ⟨(r,more,lst n (passL (edges r) s0)),⟨rfl,rfl,fun hm=>(hf hm).2,ht⟩,fun m=>?_⟩
   simp [n_Z15,c_Z15,hall,passL]) (false,0,lst n s0) ⟨by simp,by simp,fun _=>(by simp),fun h=>(by cases h)⟩
 obtain ⟨y1,y2,y3⟩:=y
 simp only at h2
 obtain ⟨rfl,rfl,h3,h4⟩:=h2
 exact ⟨y2,h1,h3,h4⟩
theorem sLab7 (n:Nat) (r:List D) (hn:n≤1048576) (hr:r.length≤1048576) (hv:validJ n r):Z16 r true (lst n (fun v=>(v:Int)))=some (lst n (finalS r)):=by
 obtain ⟨y,h1,h2⟩:=CT (N:=fun m (s:Bool×(Nat→Int))=>n_Z16 m r s.1 (lst n s.2))
  (fun s=>∃ k,s.2=iterL (edges r) k (fun v=>(v:Int))∧(s.1=false→allE (edges r) s.2))
  (fun s=>if s.1=true then 1+((edges r).length - cntE (edges r) s.2) else 0) (fun s y=>y=lst n (finalS r)) (by
  rintro ⟨more,s⟩ ⟨k,hk,hall⟩
  simp only at hk hall ⊢
  cases more with
  | false=>
   refine .inl ⟨_,rfl,fun m=>?_⟩
   have:=iter_end (E:=edges r) (s:=fun v=>(v:Int)) (k:=k) (by rw [← hk];exact hall rfl)
   simp only [n_Z16,c_Z16,cond_false,finalS,← this,hk]
  | true=>
   obtain ⟨more',e1,e2,e3⟩:=sLab10 n r hn hr hv s
   refine .inr ⟨(more',passL (edges r) s),⟨k+1,?_,fun hm=>?_⟩,?_,fun y hy=>hy,fun m=>?_⟩
   ·simp only
    rw [iter_add,← hk];rfl
   ·simp only at hm ⊢
    rw [pass_id (e2 hm)];exact e2 hm
   ·cases more' with
    | false=>simp;omega
    | true=>
     have h1:=cnt_lt (e3 rfl)
     have h2:cntE (edges r) (passL (edges r) s)≤(edges r).length:=by unfold cntE;exact List.countP_le_length
     simp only [if_true]
     omega
   ·simp only [n_Z16,c_Z16,cond_true,e1,ob]
    cases n_Z16 m r more' (lst n (passL (edges r) s))<;>rfl) (true,fun v=>(v:Int)) ⟨0,rfl,fun h=>(by cases h)⟩
 subst h2
 exact h1
theorem lst_succ {i:Nat} {s:Nat→Int}:lst (i+1) s=lst i s++[.int (s i)]:=by simp [lst,List.range_succ]
theorem sLab_eq (n:Nat) (r:List D) (hn:n≤1048576) (hr:r.length≤1048576) (hv:validJ n r):Z17 (n:Int) r=some (lst n (finalS r)):=by
 have h3:Z13 (n:Int) r 0 []=some (r,lst n (fun v=>(v:Int))):=by
  obtain ⟨y,h1,h2⟩:=CT (N:=fun m (i:Nat)=>n_Z13 m (n:Int) r (i:Int) (lst i (fun v=>(v:Int)))) (fun i=>i≤n) (fun i=>n - i) (fun s y=>y=(r,lst n (fun v=>(v:Int)))) (by
   intro i hi
   by_cases hlt:i<n
   ·refine .inr ⟨i+1,by omega,by omega,fun y hy=>hy,fun m=>?_⟩
    have h1:(i:Int)<n:=by omega
    have hw:IntKind.i64.wrap ((i:Int)+1)=((i+1:Nat):Int):=HW (by omega)
    have h2:(lst i (fun v=>(v:Int))).length+([D.int (i:Int)]:List D).length≤4294967296:=by simp [lst_len];omega
    rw [lst_succ]
    simp only [n_Z13,c_Z13,h1,decide_true,cond_true,h2,if_true,hw]
    cases n_Z13 m (n:Int) r ((i+1:Nat):Int) (lst i (fun v=>(v:Int))++[.int (i:Int)])<;>rfl
   ·have:i=n:=by omega
    subst this
    exact .inl ⟨_,rfl,fun m=>by simp [n_Z13,c_Z13]⟩) 0 (by omega)
  subst h2
  exact h1
 simp only [Z17,c_Z17,h3,sLab7 n r hn hr hv,ob]
theorem min_if (x y:Int):(if y<x then y else x)=min x y:=by
 by_cases h:y<x<;>simp [h]<;>omega
theorem iLab10 (n:Nat) (r:List D) (hn:n≤1048576) (hr:r.length≤1048576) (hv:validJ n r) (s0:Nat→Int) (x1 x2:Int):Z32 r x1 x2 r r.length 0 (lst n s0)=some (r,x1,x2,lst n (passL (edges r) s0)):=by
 obtain ⟨y,h1,h2⟩:=CT (N:=fun m (i:Nat)=>n_Z32 m r x1 x2 r r.length (i:Int) (lst n (((edges r).take i).foldl stp s0))) (fun i=>i≤r.length) (fun i=>r.length - i) (fun s y=>y=(r,x1,x2,lst n (passL (edges r) s0))) (by
  intro i hi
  by_cases hlt:i<r.length
  ·obtain ⟨a,b,ea,eb,hab,hbn,he⟩:=hv i hlt
   have h1:(i:Int)<r.length:=by omega
   have hw:IntKind.i64.wrap ((i:Int)+1)=((i+1:Nat):Int):=HW (by omega)
   have ga:(a:Int)<n:=by omega
   have gb:(b:Int)<n:=by omega
   have ga':a+1≤n:=by omega
   have gb':b+1≤n:=by omega
   refine .inr ⟨i+1,by omega,by omega,fun y hy=>hy,fun m=>?_⟩
   rw [take_fold he]
   generalize ((edges r).take i).foldl stp s0=s
   rw [← stp_lst (n:=n) (x:=min (s a) (s b)) rfl]
   simp only [n_Z32,c_Z32,h1,decide_true,cond_true,Int.natCast_nonneg,and_self,if_true,tn,List.getD_eq_getElem?_getD,ea,eb,lst_len,ga,gb,ga',gb',lst_get (show a<n by omega),lst_get hbn,CA,hw,List.length_set,min_if]
   cases n_Z32 m r x1 x2 r r.length ((i+1:Nat):Int) (((lst n s).set a (.int (min (s a) (s b)))).set b (.int (min (s a) (s b))))<;>rfl
  ·have hi':i=r.length:=by omega
   subst hi'
   have hall:(edges r).take r.length=edges r:=List.take_of_length_le (by rw [edges_len];exact Nat.le_refl _)
   exact .inl ⟨_,rfl,fun m=>by simp [n_Z32,c_Z32,hall,passL]⟩) 0 (by omega)
 subst h2
 show ev _=_
 simpa using h1
theorem iLab_eq (n:Nat) (r:List D) (hn:n≤1048576) (hr:r.length≤1048576) (hv:validJ n r):Z34 (n:Int) r=some (lst n (finalS r)):=by
 have h3:Z31 r (n:Int) 0 []=some (r,lst n (fun v=>(v:Int))):=by
  obtain ⟨y,h1,h2⟩:=CT (N:=fun m (i:Nat)=>n_Z31 m r (n:Int) (i:Int) (lst i (fun v=>(v:Int)))) (fun i=>i≤n) (fun i=>n - i) (fun s y=>y=(r,lst n (fun v=>(v:Int)))) (by
   intro i hi
   by_cases hlt:i<n
   ·refine .inr ⟨i+1,by omega,by omega,fun y hy=>hy,fun m=>?_⟩
    have h1:(i:Int)<n:=by omega
    have hw:IntKind.i64.wrap ((i:Int)+1)=((i+1:Nat):Int):=HW (by omega)
    have h2:(lst i (fun v=>(v:Int))).length+([D.int (i:Int)]:List D).length≤4294967296:=by simp [lst_len];omega
    rw [lst_succ]
    simp only [n_Z31,c_Z31,h1,decide_true,cond_true,h2,if_true,hw]
    cases n_Z31 m r (n:Int) ((i+1:Nat):Int) (lst i (fun v=>(v:Int))++[.int (i:Int)])<;>rfl
   ·have:i=n:=by omega
    subst this
    exact .inl ⟨_,rfl,fun m=>by simp [n_Z31,c_Z31]⟩) 0 (by omega)
  subst h2
  exact h1
 have h8:Z33 r r.length 0 (lst n (fun v=>(v:Int)))=some (lst n (finalS r)):=by
  obtain ⟨y,h1,h2⟩:=CT (N:=fun m (i:Nat)=>n_Z33 m r r.length (i:Int) (lst n (iterL (edges r) i (fun v=>(v:Int))))) (fun i=>i≤r.length) (fun i=>r.length - i) (fun s y=>y=lst n (finalS r)) (by
   intro i hi
   by_cases hlt:i<r.length
   ·refine .inr ⟨i+1,by omega,by omega,fun y hy=>hy,fun m=>?_⟩
    have h1:(i:Int)<r.length:=by omega
    have hw:IntKind.i64.wrap ((i:Int)+1)=((i+1:Nat):Int):=HW (by omega)
    rw [iter_add]
    simp only [n_Z33,c_Z33,h1,decide_true,cond_true,iLab10 n r hn hr hv,ob,hw,iterL]
    cases n_Z33 m r r.length ((i+1:Nat):Int) (lst n (passL (edges r) (iterL (edges r) i (fun v=>(v:Int)))))<;>rfl
   ·have hi':i=r.length:=by omega
    subst hi'
    exact .inl ⟨_,rfl,fun m=>by simp [n_Z33,c_Z33,finalS,edges_len]⟩) 0 (by omega)
  subst h2
  exact h1
 simp only [Z34,c_Z34,h3,h8,ob]
theorem mapIx_cons (d:D) (l:List D) (k:Int):HZ (d::l) k=if k=(d.fld 0).toInt then some 0 else (HZ l k).map (·+1):=by
 unfold HZ
 rw [List.findIdx?_cons]
 by_cases h:k=(d.fld 0).toInt
 ·rw [if_pos h];simp [h]
 ·rw [if_neg h];simp [h]
theorem mapGet_cons (d:D) (l:List D) (k:Int):Qq (d::l) k=if k=(d.fld 0).toInt then (d.fld 1).toInt else Qq l k:=by
 unfold Qq
 rw [mapIx_cons]
 by_cases h:k=(d.fld 0).toInt
 ·simp [h]
 ·rw [if_neg h,if_neg h]
  cases HZ l k<;>simp
theorem mapPut_cons (d:D) (l:List D) (k v:Int):QZ (d::l) k v=if k=(d.fld 0).toInt then .node [.int k,.int v]::l else d::QZ l k v:=by
 unfold QZ
 rw [mapIx_cons]
 by_cases h:k=(d.fld 0).toInt
 ·simp [h]
 ·rw [if_neg h,if_neg h]
  cases HZ l k<;>simp
theorem mapGet_put (k v k':Int):∀ (l:List D),Qq (QZ l k v) k'=if k'=k then v else Qq l k'
 | []=>by
  have e:QZ [] k v=[.node [.int k,.int v]]:=rfl
  rw [e,mapGet_cons]
  rfl
 | d::l=>by
  rw [mapPut_cons]
  by_cases h:k=(d.fld 0).toInt
  ·rw [if_pos h,mapGet_cons,mapGet_cons]
   show (if k'=k then v else Qq l k')=_
   by_cases h2:k'=k
   ·rw [if_pos h2,if_pos h2]
   ·rw [if_neg h2,if_neg h2,if_neg (by rw [← h];exact h2)]
  ·rw [if_neg h,mapGet_cons,mapGet_cons,mapGet_put k v k' l]
   by_cases h2:k'=(d.fld 0).toInt
   ·rw [if_pos h2,if_pos h2,if_neg (fun e=>h (by rw [← e];exact h2))]
   ·rw [if_neg h2,if_neg h2]
structure Lab (E:List (Nat×Nat)) (s:Nat→Int):Prop where
 rng:∀ v:Nat,0≤s v∧s v≤v
 con:∀ T:Nat→Prop,(∀ e∈E,T e.1↔T e.2)→∀ v,T v→T (s v).toNat
theorem Lab.one {E:List (Nat×Nat)} {s:Nat→Int} {e:Nat×Nat} (he:e∈E) (h:Lab E s):Lab E (stp s e):=by
 have hm:min (s e.1) (s e.2)=s e.1∨min (s e.1) (s e.2)=s e.2:=by omega
 have r1:=h.rng e.1
 have r2:=h.rng e.2
 refine ⟨fun v=>?_,fun T hT v hv=>?_⟩
 ·unfold stp
  split
  ·rename_i hc
   rcases hc with rfl | rfl<;>omega
  ·exact h.rng v
 ·unfold stp
  split
  ·rename_i hc
   have h12:T e.1∧T e.2:=by
    rcases hc with rfl | rfl
    ·exact ⟨hv,(hT e he).1 hv⟩
    ·exact ⟨(hT e he).2 hv,hv⟩
   rcases hm with hm | hm
   ·rw [hm];exact h.con T hT _ h12.1
   ·rw [hm];exact h.con T hT _ h12.2
  ·exact h.con T hT v hv
theorem Lab.fold {E:List (Nat×Nat)}:∀ {l:List (Nat×Nat)} {s:Nat→Int},(∀ f∈l,f∈E)→Lab E s→Lab E (l.foldl stp s)
 | [],s,_,h=>h
 | e::l,s,hl,h=>Lab.fold (l:=l) (fun f hf=>hl f (List.mem_cons_of_mem _ hf)) (h.one (hl e (List.mem_cons_self ..)))
theorem Lab.iter {E:List (Nat×Nat)}:∀ (k:Nat) {s:Nat→Int},Lab E s→Lab E (iterL E k s)
 | 0,s,h=>h
 | k+1,s,h=>Lab.iter k (Lab.fold (l:=E) (fun f hf=>hf) h)
theorem finalS_lab (r:List D):Lab (edges r) (finalS r):=Lab.iter _ ⟨fun v=>by omega,fun T _ v hv=>by simpa using hv⟩
structure LabOK (s:Nat→Int):Prop where
 rng:∀ v:Nat,0≤s v∧s v≤v
 root:∀ v:Nat,s (s v).toNat=s v
theorem finalS_ok (r:List D):LabOK (finalS r):=by
 have h:=finalS_lab r
 refine ⟨h.rng,fun v=>?_⟩
 exact h.con (fun u=>finalS r u=finalS r v) (fun e he=>by
  have:=iter_full (edges r) (fun v=>(v:Int)) e he
  show finalS r e.1=_↔finalS r e.2=_
  unfold finalS
  rw [this]) v rfl
def rootB (s:Nat→Int) (i:Nat):Bool:=decide (s i=(i:Int))
def roots (m:Nat) (s:Nat→Int):List Nat:=(List.range m).filter (rootB s)
def clsN (n:Nat) (s:Nat→Int) (h:Nat):List Nat:=(List.range n).filter (fun k=>decide (s k=(h:Int)))
def cls (n:Nat) (s:Nat→Int) (h:Nat):List D:=(clsN n s h).map (fun k=>D.int ((k:Nat):Int))
def vesL (m n:Nat) (s:Nat→Int):List D:=(roots m s).map (fun h=>.node (cls n s h))
theorem roots_succ {m:Nat} {s:Nat→Int}:roots (m+1) s=roots m s++(if rootB s m then [m] else []):=by
 unfold roots
 rw [List.range_succ,List.filter_append,List.filter_cons,List.filter_nil]
theorem clsN_succ {m h:Nat} {s:Nat→Int}:clsN (m+1) s h=clsN m s h++(if s m=(h:Int) then [m] else []):=by
 unfold clsN
 rw [List.range_succ,List.filter_append]
 congr 1
 rw [List.filter_cons]
 by_cases h:s m=(h:Int)<;>simp [h]
theorem cls_succ {m h:Nat} {s:Nat→Int}:cls (m+1) s h=cls m s h++(if s m=(h:Int) then [.int (m:Int)] else []):=by
 unfold cls
 rw [clsN_succ,List.map_append]
 congr 1
 split<;>rfl
theorem roots_le (m:Nat) (s:Nat→Int):(roots m s).length≤m:=by
 have:=List.length_filter_le (rootB s) (List.range m)
 simpa [roots] using this
theorem cls_le (n:Nat) (s:Nat→Int) (h:Nat):(cls n s h).length≤n:=by
 have:=List.length_filter_le (fun k=>decide (s k=(h:Int))) (List.range n)
 simpa [cls,clsN] using this
theorem roots_mem {m h:Nat} {s:Nat→Int}:h∈roots m s↔h<m∧s h=(h:Int):=by simp [roots,rootB]
theorem roots_nodup (m:Nat) (s:Nat→Int):(roots m s).Nodup:=List.Pairwise.filter _ List.nodup_range
theorem nodup_inj {l:List Nat} (h:l.Nodup) {i j:Nat} (hi:i<l.length) (hj:j<l.length) (e:l[i]=l[j]):i=j:=by
 have hp:=List.pairwise_iff_getElem.1 h
 by_cases h1:i<j
 ·exact absurd e (hp i j hi hj h1)
 ·by_cases h2:j<i
  ·exact absurd e.symm (hp j i hj hi h2)
  ·omega
theorem roots_at {h:Nat} {s:Nat→Int} (hr:s h=(h:Int)):∀ (m:Nat),h<m→(roots m s)[(roots h s).length]?=some h
 | 0,hm=>by omega
 | m+1,hm=>by
  rw [roots_succ]
  by_cases e:h=m
  ·subst e
   have:rootB s h=true:=by simp [rootB,hr]
   rw [List.getElem?_append_right (Nat.le_refl _),this]
   simp
  ·have ih:=roots_at hr m (by omega)
   have hlt:(roots h s).length<(roots m s).length:=(List.getElem?_eq_some_iff.1 ih).1
   rw [List.getElem?_append_left hlt]
   exact ih
theorem cls_none {n h:Nat} {s:Nat→Int} (hs:LabOK s) (hn:n≤h):cls n s h=[]:=by
 unfold cls clsN
 rw [List.map_eq_nil_iff,List.filter_eq_nil_iff]
 intro k hk
 rw [List.mem_range] at hk
 have:=(hs.rng k).2
 simp
 omega
theorem vesL_root {s:Nat→Int} (hs:LabOK s) {j:Nat} (hj:s j=(j:Int)):vesL (j+1) (j+1) s=vesL j j s++[.node [.int (j:Int)]]:=by
 unfold vesL
 have hr:rootB s j=true:=by simp [rootB,hj]
 rw [roots_succ,hr,List.map_append]
 congr 1
 ·refine List.map_congr_left (fun h hh=>?_)
  have:=(roots_mem.1 hh).1
  have hne:¬ s j=(h:Int):=by omega
  rw [cls_succ,if_neg hne,List.append_nil]
 ·show [D.node (cls (j+1) s j)]=_
  rw [cls_succ,if_pos hj,cls_none hs (Nat.le_refl _)]
  rfl
theorem vesL_add {s:Nat→Int} (hs:LabOK s) {j h:Nat} (hj:s j=(h:Int)) (hh:h<j):vesL (j+1) (j+1) s=(vesL j j s).set (roots h s).length (.node ((cls j s h)++[.int (j:Int)])):=by
 have hr:rootB s j=false:=by
  simp only [rootB,decide_eq_false_iff_not];omega
 have hroot:s h=(h:Int):=by
  have:=hs.root j
  rw [hj] at this
  simpa using this
 have hat:=roots_at hroot j hh
 unfold vesL
 rw [roots_succ,hr]
 simp only [Bool.false_eq_true,if_false,List.append_nil]
 refine List.ext_getElem (by simp) (fun i h1 h2=>?_)
 have hi:i<(roots j s).length:=by simpa using h1
 rw [List.getElem_set]
 simp only [List.getElem_map]
 have hget:(roots j s)[i]?=some (roots j s)[i]:=List.getElem?_eq_getElem hi
 by_cases e:(roots h s).length=i
 ·subst e
  rw [hat] at hget
  simp only [oj] at hget
  rw [if_pos rfl,← hget,cls_succ,if_pos hj]
 ·rw [if_neg e,cls_succ]
  have:¬ s j=((roots j s)[i]:Int):=by
   rw [hj]
   intro q
   have q':h=(roots j s)[i]:=by omega
   obtain ⟨hlt,hq⟩:=List.getElem?_eq_some_iff.1 hat
   exact e (nodup_inj (roots_nodup j s) hlt hi (by rw [hq,← q']))
  rw [if_neg this,List.append_nil]
theorem vesL_at {s:Nat→Int} {j h:Nat} (hroot:s h=(h:Int)) (hh:h<j):((vesL j j s).getD (roots h s).length (.int 0)).items=cls j s h:=by
 unfold vesL
 rw [List.getD_eq_getElem?_getD,List.getElem?_map,roots_at hroot j hh]
 rfl
theorem vesL_len (m n:Nat) (s:Nat→Int):(vesL m n s).length=(roots m s).length:=by simp [vesL]
theorem vessels_eq (n:Nat) (r:List D) (hn:n≤12) (hr:r.length≤1048576) (hv:validJ n r):Z36 (n:Int) r=some (vesL n n (finalS r)):=by
 have hs:=finalS_ok r
 generalize hS:finalS r=s at hs
 have key:∀ (m j:Nat) (M:List D),j+m=n→(∀ h,h<j→s h=(h:Int)→Qq M h=((roots h s).length:Int))→Z35 n j (vesL j j s) M (lst n s)=some (vesL n n s):=by
  intro m
  induction m with
  | zero=>
   intro j M hj hM
   have:j=n:=by omega
   subst this
   rw [Z35_fx]
   unfold c_Z35
   simp
  | succ m ih=>
   intro j M hj hM
   have hjn:j<n:=by omega
   have g0:(j:Int)<n:=by omega
   have g1:(0:Int)≤(j:Int)∧(j:Int)<(lst n s).length:=by rw [lst_len];omega
   have g2:j+1≤(lst n s).length:=by rw [lst_len];omega
   have hget:((lst n s).getD j (.int 0)).toInt=s j:=by rw [List.getD_eq_getElem?_getD,lst_get hjn];rfl
   have hrl:=roots_le j s
   have hrng:=hs.rng j
   rw [Z35_fx]
   unfold c_Z35
   simp only [g0,decide_true,cond_true,if_pos g1,tn,if_pos g2,hget]
   by_cases hj0:s j=(j:Int)
   ·have g3:(roots j s).length+[D.node []].length≤4294967296:=by simp only [List.length_cons,List.length_nil];omega
    have hlen:(vesL j j s++[D.node []]).length=(roots j s).length+1:=by simp [vesL_len]
    have g4:(0:Int)≤((roots j s).length:Int)∧((roots j s).length:Int)<((vesL j j s++[D.node []]).length:Int):=by rw [hlen];omega
    have g5:(roots j s).length+1≤(vesL j j s++[D.node []]).length:=by rw [hlen];omega
    have hitem:((vesL j j s++[D.node []]).getD (roots j s).length (.int 0)).items=[]:=by
     rw [List.getD_eq_getElem?_getD,List.getElem?_append_right (by rw [vesL_len];exact Nat.le_refl _),vesL_len]
     simp [Td]
    have g6:([]:List D).length+[D.int (j:Int)].length≤4294967296:=by simp only [List.length_cons,List.length_nil];omega
    have hset:(vesL j j s++[D.node []]).set (roots j s).length (.node [.int (j:Int)])=vesL (j+1) (j+1) s:=by
     rw [vesL_root hs hj0,List.set_append_right _ _ (by rw [vesL_len];exact Nat.le_refl _),vesL_len]
     simp
    simp only [hj0,decide_true,cond_true,if_pos g3,vesL_len,mapGet_put,if_true,if_pos g4,tn,if_pos g5,hitem,if_pos g6,Nat.le_refl,List.nil_append,hset,HW (show j<4611686018427387904 by omega)]
    rw [ih (j+1) _ (by omega) (fun h hh hr=>by
     rw [mapGet_put]
     by_cases e:h=j
     ·subst e;rw [if_pos rfl]
     ·rw [if_neg (by omega)];exact hM h (by omega) hr)]
    rfl
   ·obtain ⟨h,hh⟩:∃ h:Nat,s j=(h:Int):=⟨(s j).toNat,by omega⟩
    have hhj:h<j:=by omega
    have hroot:s h=(h:Int):=by
     have:=hs.root j
     rw [hh] at this
     simpa using this
    have hm:=hM h hhj hroot
    have hlt:(roots h s).length<(roots j s).length:=(List.getElem?_eq_some_iff.1 (roots_at hroot j hhj)).1
    have g4:(0:Int)≤((roots h s).length:Int)∧((roots h s).length:Int)<((vesL j j s).length:Int):=by rw [vesL_len];omega
    have g5:(roots h s).length+1≤(vesL j j s).length:=by rw [vesL_len];omega
    have hcl:=cls_le j s h
    have g6:(cls j s h).length+[D.int (j:Int)].length≤4294967296:=by simp only [List.length_cons,List.length_nil];omega
    have hne:¬ (h:Int)=(j:Int):=by omega
    simp only [hh,hne,decide_false,cond_false,hm,if_pos g4,tn,if_pos g5,vesL_at hroot hhj,if_pos g6,Nat.le_refl,if_true,← vesL_add hs hh hhj,HW (show j<4611686018427387904 by omega)]
    rw [ih (j+1) M (by omega) (fun h' hh' hr=>by
     by_cases e:h'=j
     ·subst e;exact absurd hr hj0
     ·exact hM h' (by omega) hr)]
    rfl
 have h0:Z35 n 0 [] [] (lst n s)=_:=key n 0 [] (by omega) (fun h hh=>by omega)
 have hl:=iLab_eq n r (by omega) hr hv
 rw [hS] at hl
 simp only [Z36,c_Z36,hl,lst_len,h0,ob]
theorem sVessels_eq (n:Nat) (r:List D) (hn:n≤12) (hr:r.length≤1048576) (hv:validJ n r):Z20 (n:Int) r=some (vesL n n (finalS r)):=by
 have hs:=finalS_ok r
 generalize hS:finalS r=s at hs
 have k8:∀ (m k:Nat) (acc out:List D) (i:Nat),k+m=n→acc.length≤k→Z18 n i k (lst n s) out acc=some ((n:Int),(i:Int),lst n s,out,acc++(((List.range n).drop k).filter (fun k=>decide (s k=(i:Int)))).map (fun k=>D.int ((k:Nat):Int))):=by
  intro m
  induction m with
  | zero=>
   intro k acc out i hk ha
   have:k=n:=by omega
   subst this
   rw [Z18_fx]
   unfold c_Z18
   rw [List.drop_of_length_le (by simp)]
   simp
  | succ m ih=>
   intro k acc out i hk ha
   have hkn:k<n:=by omega
   have g0:(k:Int)<n:=by omega
   have g1:(0:Int)≤(k:Int)∧(k:Int)<(lst n s).length:=by rw [lst_len];omega
   have g2:k+1≤(lst n s).length:=by rw [lst_len];omega
   have hget:((lst n s).getD k (.int 0)).toInt=s k:=by rw [List.getD_eq_getElem?_getD,lst_get hkn];rfl
   have g3:acc.length+[D.int (k:Int)].length≤4294967296:=by simp only [List.length_cons,List.length_nil];omega
   rw [Z18_fx]
   unfold c_Z18
   rw [List.drop_eq_getElem_cons (show k<(List.range n).length by simpa using hkn),List.getElem_range,List.filter_cons]
   simp only [g0,decide_true,cond_true,if_pos g1,tn,if_pos g2,hget,if_pos g3,HW (show k<4611686018427387904 by omega)]
   by_cases e:s k=(i:Int)
   ·simp only [e,decide_true,cond_true,if_true]
    rw [ih (k+1) _ out i (by omega) (by simp;omega),List.map_cons,List.append_assoc]
    rfl
   ·simp only [e,decide_false,cond_false]
    rw [ih (k+1) acc out i (by omega) (by omega)]
    rfl
 have hdrop:∀ i,i≤n→(((List.range n).drop i).filter (fun k=>decide (s k=(i:Int)))).map (fun k=>D.int ((k:Nat):Int))=cls n s i:=by
  intro i hi
  unfold cls clsN
  have:List.range n=(List.range n).take i++(List.range n).drop i:=(List.take_append_drop ..).symm
  conv=>rhs;rw [this,List.filter_append]
  have h0:((List.range n).take i).filter (fun k=>decide (s k=(i:Int)))=[]:=by
   rw [List.filter_eq_nil_iff]
   intro k hk
   rw [List.take_range,List.mem_range] at hk
   have:=(hs.rng k).2
   simp
   omega
  rw [h0]
  rfl
 have k4:∀ (m i:Nat),i+m=n→Z19 n i (lst n s) (vesL i n s)=some (vesL n n s):=by
  intro m
  induction m with
  | zero=>
   intro i hi
   have:i=n:=by omega
   subst this
   rw [Z19_fx]
   unfold c_Z19
   simp
  | succ m ih=>
   intro i hi
   have hin:i<n:=by omega
   have g0:(i:Int)<n:=by omega
   have h8:=k8 (n - i) i [] (vesL i n s) i (by omega) (by simp)
   rw [List.nil_append,hdrop i (by omega)] at h8
   have hrl:=roots_le i s
   have g3:(vesL i n s).length+[D.node (cls n s i)].length≤4294967296:=by rw [vesL_len];simp only [List.length_cons,List.length_nil];omega
   have hnext:=ih (i+1) (by omega)
   have hsucc:vesL (i+1) n s=vesL i n s++(if rootB s i then [.node (cls n s i)] else []):=by
    unfold vesL
    rw [roots_succ,List.map_append]
    congr 1
    split<;>rfl
   rw [Z19_fx]
   unfold c_Z19
   simp only [g0,decide_true,cond_true,h8,ob,if_pos g3,HW (show i<4611686018427387904 by omega)]
   by_cases hr:s i=(i:Int)
   ·have hb:rootB s i=true:=by simp [rootB,hr]
    have hpos:(0:Int)<(cls n s i).length:=by
     have hm:D.int (i:Int)∈cls n s i:=List.mem_map.2 ⟨i,by simp [clsN,hin,hr],rfl⟩
     have:=List.length_pos_of_mem hm
     omega
    rw [hsucc,hb] at hnext
    simp only [if_true] at hnext
    simp only [hpos,decide_true,cond_true,hnext,ob]
   ·have hb:rootB s i=false:=by simp [rootB,hr]
    have hz:cls n s i=[]:=by
     unfold cls clsN
     rw [List.map_eq_nil_iff,List.filter_eq_nil_iff]
     intro k hk hq
     have hq':s k=(i:Int):=by simpa using hq
     have:=hs.root k
     rw [hq'] at this
     exact hr (by simpa using this)
    rw [hsucc,hb] at hnext
    simp only [Bool.false_eq_true,if_false,List.append_nil] at hnext
    rw [hz]
    simp only [List.length_nil,Int.natCast_zero,Int.lt_irrefl,decide_false,cond_false,hnext,ob]
 have h0:Z19 n 0 (lst n s) []=_:=k4 n 0 (by omega)
 have hl:=sLab_eq n r (by omega) hr hv
 rw [hS] at hl
 simp only [Z20,c_Z20,hl,h0,ob]
theorem jp_same (l r:List D) (hl:l.length≤1048576) (hr:r.length≤1048576):∃ y,Z21 l r=some y∧Z37 l r=some y∧y.1.length≤1048576∧∀ d∈y.1,d.items.length≤1048576:=by
 obtain ⟨b,h1,h2,h3⟩:=sherds_good l r hl hr
 simp only [Z21,c_Z21,Z37,c_Z37,h1,h2,ob]
 cases b with
 | false=>exact ⟨_,rfl,rfl,by simp,by simp⟩
 | true=>
  obtain ⟨k1,k2,k3⟩:=h3 rfl
  have hv:=validJ_of k3
  simp only [Bool.not_true,cond_false,vessels_eq l.length r k1 hr hv,sVessels_eq l.length r k1 hr hv,ob]
  refine ⟨_,rfl,rfl,?_,fun d hd=>?_⟩
  ·have:=roots_le l.length (finalS r)
   simp only [vesL_len];omega
  ·obtain ⟨h,_,rfl⟩:=List.mem_map.1 hd
   have:=cls_le l.length (finalS r) h
   simp only [Td];omega
theorem pure_FnExactVesselsOf (x0 x1:List D) (h0:x0.length≤maxLen) (w0:∀ d∈x0,wfD (.struct [.int .i64,.int .i64,.int .i64,.int .i64]) d) (h1:x1.length≤maxLen) (w1:∀ d∈x1,wfD (.struct [.int .i64,.int .i64]) d):Z60 x0 x1=some true:=by
 unfold maxLen at h0 h1
 have hw:IntKind.i64.wrap (1048576 - (x0.length:Int))=1048576 - (x0.length:Int):=QS (by omega) (by omega)
 by_cases hl:x0.length≤1048576
 ·have h2:¬ (1048576 - (x0.length:Int))<0:=by omega
  have hw2:IntKind.i64.wrap (1048576 - (x0.length:Int) - (x1.length:Int))=1048576 - (x0.length:Int) - (x1.length:Int):=QS (by omega) (by omega)
  by_cases hr:(1048576 - (x0.length:Int) - (x1.length:Int))<0
  ·simp [Z60,c_Z60,Z1,c_Z1,Z2,c_Z2,hw,h2,hw2,hr]
  ·have hr':x1.length≤1048576:=by omega
   obtain ⟨y,hb1,hb2,hb3,hb4⟩:=jp_same x0 x1 hl hr'
   obtain ⟨k1,l1,e1,e1'⟩:=markSherdS_ok x0 hl
   obtain ⟨k2,l2,e2,e2'⟩:=markJoinS_ok x1 k1 e1' hr'
   have e3:¬ k2<0:=by omega
   have e4:=markIntSS_k y.1 hb3 hb4
   have e5:=heldIntSS_k y.1 hb3 hb4
   have e6:¬ (1+(totSS y.1:Int))<0:=by omega
   simp [Z60,c_Z60,Z1,c_Z1,Z2,c_Z2,hw,h2,hw2,hr,toSherdS_id x0 hl w0,toJoinS_id x1 hr' w1,hb1,hb2,eqSherdS_self x0 hl,eqJoinS_self x1 hr',eqIntSS_self y.1 hb3 hb4,e1,e2,e3,e4,e5,e6]
 ·have h2:(1048576 - (x0.length:Int))<0:=by omega
  simp [Z60,c_Z60,Z1,c_Z1,hw,h2]
end Go.Proofs.Ytaahhnjdbejfhaa
