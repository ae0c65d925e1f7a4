/- The law FnExactBestOrder over plain values. No condition beside those of the statement. -/
import Derived.Test.YtkanhbelkdpmbaaClMFnExactBestOrder
import Derived.Test.YtkanhbelkdpmbaaRaiU5
set_option linter.unusedVariables false
set_option linter.unusedSimpArgs false
set_option maxRecDepth 100000
namespace Go.Proofs.Ytkanhbelkdpmbaa
open Go Go.Rai
theorem Z19_fx (x0:List D) (x1 x2:Int) (x3:List D):Z19 x0 x1 x2 x3=c_Z19 (Z19) x0 x1 x2 x3 some:=
 C7 (N:=fun n (p:List D×Int×Int×List D)=>n_Z19 n p.1 p.2.1 p.2.2.1 p.2.2.2) (C:=fun f p=>c_Z19 (fun x0 x1 x2 x3=>f (x0,x1,x2,x3)) p.1 p.2.1 p.2.2.1 p.2.2.2 some) (fun _=>rfl) (fun _ _=>rfl) (fun hD f fs h p=>by
  unfold c_Z19
  repeat' first | exact Lim.const hD | exact h _ | apply Lim.ite | apply Lim.cond | apply Lim.bind hD | apply Lim.sum | intro _) (x0,x1,x2,x3)
theorem Z26_fx (x0:List D) (x1 x2:Int):Z26 x0 x1 x2=c_Z26 (Z26) x0 x1 x2 some:=
 C7 (N:=fun n (p:List D×Int×Int)=>n_Z26 n p.1 p.2.1 p.2.2) (C:=fun f p=>c_Z26 (fun x0 x1 x2=>f (x0,x1,x2)) p.1 p.2.1 p.2.2 some) (fun _=>rfl) (fun _ _=>rfl) (fun hD f fs h p=>by
  unfold c_Z26
  repeat' first | exact Lim.const hD | exact h _ | apply Lim.ite | apply Lim.cond | apply Lim.bind hD | apply Lim.sum | intro _) (x0,x1,x2)
theorem Z29_fx (G_spec_l16Search_extend:List D→Bool→List D→Int→List D→Option (List D×Bool×List D×Int)) (x0 x1:Int) (x2:List D) (x3:Bool) (x4:List D) (x5:Int) (x6:List D):Z29 G_spec_l16Search_extend x0 x1 x2 x3 x4 x5 x6=c_Z29 G_spec_l16Search_extend (Z29 G_spec_l16Search_extend) x0 x1 x2 x3 x4 x5 x6 some:=
 C7 (N:=fun n (p:Int×Int×List D×Bool×List D×Int×List D)=>n_Z29 G_spec_l16Search_extend n p.1 p.2.1 p.2.2.1 p.2.2.2.1 p.2.2.2.2.1 p.2.2.2.2.2.1 p.2.2.2.2.2.2) (C:=fun f p=>c_Z29 G_spec_l16Search_extend (fun x0 x1 x2 x3 x4 x5 x6=>f (x0,x1,x2,x3,x4,x5,x6)) p.1 p.2.1 p.2.2.1 p.2.2.2.1 p.2.2.2.2.1 p.2.2.2.2.2.1 p.2.2.2.2.2.2 some) (fun _=>rfl) (fun _ _=>rfl) (fun hD f fs h p=>by
  unfold c_Z29
  repeat' first | exact Lim.const hD | exact h _ | apply Lim.ite | apply Lim.cond | apply Lim.bind hD | apply Lim.sum | intro _) (x0,x1,x2,x3,x4,x5,x6)
theorem Z40_fx (x0:List D) (x1 x2:Int) (x3:List D):Z40 x0 x1 x2 x3=c_Z40 (Z40) x0 x1 x2 x3 some:=
 C7 (N:=fun n (p:List D×Int×Int×List D)=>n_Z40 n p.1 p.2.1 p.2.2.1 p.2.2.2) (C:=fun f p=>c_Z40 (fun x0 x1 x2 x3=>f (x0,x1,x2,x3)) p.1 p.2.1 p.2.2.1 p.2.2.2 some) (fun _=>rfl) (fun _ _=>rfl) (fun hD f fs h p=>by
  unfold c_Z40
  repeat' first | exact Lim.const hD | exact h _ | apply Lim.ite | apply Lim.cond | apply Lim.bind hD | apply Lim.sum | intro _) (x0,x1,x2,x3)
theorem Z43_fx (x0:List D) (x1:Int) (x2:List D) (x3 x4 x5 x6:Int) (x7 x8:List D):Z43 x0 x1 x2 x3 x4 x5 x6 x7 x8=c_Z43 (Z43) x0 x1 x2 x3 x4 x5 x6 x7 x8 some:=
 C7 (N:=fun n (p:List D×Int×List D×Int×Int×Int×Int×List D×List D)=>n_Z43 n p.1 p.2.1 p.2.2.1 p.2.2.2.1 p.2.2.2.2.1 p.2.2.2.2.2.1 p.2.2.2.2.2.2.1 p.2.2.2.2.2.2.2.1 p.2.2.2.2.2.2.2.2) (C:=fun f p=>c_Z43 (fun x0 x1 x2 x3 x4 x5 x6 x7 x8=>f (x0,x1,x2,x3,x4,x5,x6,x7,x8)) p.1 p.2.1 p.2.2.1 p.2.2.2.1 p.2.2.2.2.1 p.2.2.2.2.2.1 p.2.2.2.2.2.2.1 p.2.2.2.2.2.2.2.1 p.2.2.2.2.2.2.2.2 some) (fun _=>rfl) (fun _ _=>rfl) (fun hD f fs h p=>by
  unfold c_Z43
  repeat' first | exact Lim.const hD | exact h _ | apply Lim.ite | apply Lim.cond | apply Lim.bind hD | apply Lim.sum | intro _) (x0,x1,x2,x3,x4,x5,x6,x7,x8)
theorem Z44_fx (G_impl_permutations:List D→Option (List D)) (x0 x1:List D) (x2 x3:Int) (x4:List D):Z44 G_impl_permutations x0 x1 x2 x3 x4=c_Z44 G_impl_permutations (Z44 G_impl_permutations) x0 x1 x2 x3 x4 some:=
 C7 (N:=fun n (p:List D×List D×Int×Int×List D)=>n_Z44 G_impl_permutations n p.1 p.2.1 p.2.2.1 p.2.2.2.1 p.2.2.2.2) (C:=fun f p=>c_Z44 G_impl_permutations (fun x0 x1 x2 x3 x4=>f (x0,x1,x2,x3,x4)) p.1 p.2.1 p.2.2.1 p.2.2.2.1 p.2.2.2.2 some) (fun _=>rfl) (fun _ _=>rfl) (fun hD f fs h p=>by
  unfold c_Z44
  repeat' first | exact Lim.const hD | exact h _ | apply Lim.ite | apply Lim.cond | apply Lim.bind hD | apply Lim.sum | intro _) (x0,x1,x2,x3,x4)
theorem Z55_fx (x0:List D) (x1:Nat) (x2 x3 x4:Int) (x5:List D):Z55 x0 x1 x2 x3 x4 x5=c_Z55 (Z55) x0 x1 x2 x3 x4 x5 some:=
 C7 (N:=fun n (p:List D×Nat×Int×Int×Int×List D)=>n_Z55 n p.1 p.2.1 p.2.2.1 p.2.2.2.1 p.2.2.2.2.1 p.2.2.2.2.2) (C:=fun f p=>c_Z55 (fun x0 x1 x2 x3 x4 x5=>f (x0,x1,x2,x3,x4,x5)) p.1 p.2.1 p.2.2.1 p.2.2.2.1 p.2.2.2.2.1 p.2.2.2.2.2 some) (fun _=>rfl) (fun _ _=>rfl) (fun hD f fs h p=>by
  unfold c_Z55
  repeat' first | exact Lim.const hD | exact h _ | apply Lim.ite | apply Lim.cond | apply Lim.bind hD | apply Lim.sum | intro _) (x0,x1,x2,x3,x4,x5)
theorem Z56_fx (x0:List D) (x1 x2 x3:Int) (x4:List D):Z56 x0 x1 x2 x3 x4=c_Z56 (Z56) x0 x1 x2 x3 x4 some:=
 C7 (N:=fun n (p:List D×Int×Int×Int×List D)=>n_Z56 n p.1 p.2.1 p.2.2.1 p.2.2.2.1 p.2.2.2.2) (C:=fun f p=>c_Z56 (fun x0 x1 x2 x3 x4=>f (x0,x1,x2,x3,x4)) p.1 p.2.1 p.2.2.1 p.2.2.2.1 p.2.2.2.2 some) (fun _=>rfl) (fun _ _=>rfl) (fun hD f fs h p=>by
  unfold c_Z56
  repeat' first | exact Lim.const hD | exact h _ | apply Lim.ite | apply Lim.cond | apply Lim.bind hD | apply Lim.sum | intro _) (x0,x1,x2,x3,x4)
theorem toIntS_id (l:List D) (hl:l.length≤1048576) (w:∀ d∈l,wfD (.int .i64) d):Z5 l=some l:=by
 have key:Z4 l 0 (List.replicate l.length (.int 0))=some l:=by
  refine NJ (N:=n_Z4) (fun m i acc hi hacc=>?_) (fun m acc hacc=>?_)
  ·obtain ⟨a,hd,_⟩:=w _ (VC hi)
   have hw:IntKind.i64.wrap ((i:Int)+1)=(i:Int)+1:=UH (by omega) (by omega)
   have h2:(i:Int)<acc.length:=by omega
   have h3:i+1≤acc.length:=by omega
   have h1:(i:Int)<l.length:=by omega
   simp [n_Z4,c_Z4,h1,h2,h3,hw,hd,KQ]
  ·simp [n_Z4,c_Z4]
 have h4:(l.length:Int)≤4294967296:=by omega
 simp [Z5,c_Z5,key,h4]
theorem eqIntS_self (l:List D) (hl:l.length≤1048576):Z60 l l=some true:=by
 have key:Z59 l l 0=some (.inr ()):=by
  refine NK (N:=fun n i=>n_Z59 n l l i) (len:=l.length) (fun m i hi=>?_) (fun m=>?_)
  ·have hw:IntKind.i64.wrap ((i:Int)+1)=(i:Int)+1:=UH (by omega) (by omega)
   have h1:(i:Int)<l.length:=by omega
   simp [n_Z59,c_Z59,h1,hw]
  ·simp [n_Z59,c_Z59]
 simp [Z60,c_Z60,key]
theorem l1In_eq (x a b:Int):Z9 x a b=some (btw x a b):=by
 unfold Z9 c_Z9 btw
 by_cases h:a≤x <;> simp [h]
theorem within_eq (x a b:Int):Z33 x a b=some (btw x a b):=by
 unfold Z33 c_Z33 btw
 by_cases h:a≤x <;> simp [h]
theorem fxScan {α:Type} {F:Int→Option α} {len:Nat} (p:Nat→Bool) (bad:Nat→α) {fin:α}
  (hs:∀ i:Nat,i<len→F (i:Int)=bif p i then some (bad i) else F ((i+1:Nat):Int)) (he:F (len:Int)=some fin) :
  F 0=some (match Qz p len with | some i=>bad i | none=>fin):=by
 have key:∀ k (i:Nat),i+k=len→(∀ j,j<i→p j=false)→F (i:Int)=some (match Qz p len with | some i=>bad i | none=>fin):=by
  intro k
  induction k with
  | zero=>
   intro i h1 h3
   have hi:i=len:=by omega
   subst hi
   rw [he]
   cases hf:Qz p i with
   | none=>rfl
   | some j=>
    obtain ⟨q1,q2,_⟩:=KR hf
    rw [h3 j q1] at q2
    cases q2
  | succ k ih=>
   intro i h1 h3
   rw [hs i (by omega)]
   cases hp:p i with
   | true=>
    rw [cond_true]
    have:Qz p len=some i:=by
     unfold Qz
     rw [List.find?_range_eq_some]
     exact ⟨hp,List.mem_range.2 (by omega),fun j hj=>by simp [h3 j hj]⟩
    rw [this]
   | false=>
    rw [cond_false]
    refine ih (i+1) (by omega) (fun j hj=>?_)
    by_cases hji:j=i
    ·subst hji; exact hp
    ·exact h3 j (by omega)
 exact key len 0 (by omega) (fun j hj=>by omega)
def allN (p:Nat→Bool) (len:Nat):Bool:=(Qz (fun i=>!p i) len).isNone
theorem allN_iff {p:Nat→Bool} {len:Nat}:allN p len=true↔∀ i,i<len→p i=true:=by
 unfold allN
 constructor
 ·intro h i hi
  cases hf:Qz (fun i=>!p i) len with
  | none=>simpa using KS hf i hi
  | some j=>rw [hf] at h; cases h
 ·intro h
  cases hf:Qz (fun i=>!p i) len with
  | none=>rfl
  | some i=>obtain ⟨h1,h2,_⟩:=KR hf; rw [h i h1] at h2; cases h2
theorem fxAll {α:Type} {F:Int→Option α} {len:Nat} (p:Nat→Bool) (bad:α) {fin:α}
  (hs:∀ i:Nat,i<len→F (i:Int)=bif p i then F ((i+1:Nat):Int) else some bad) (he:F (len:Int)=some fin) :
  F 0=some (bif allN p len then fin else bad):=by
 have:=fxScan (F:=F) (len:=len) (fun i=>!p i) (fun _=>bad) (fin:=fin) (fun i hi=>by rw [hs i hi]; cases p i <;> rfl) he
 rw [this]
 unfold allN
 cases Qz (fun i=>!p i) len <;> rfl
theorem wfRow {d:D} (h:wfD (.slice (.int .i64)) d):d=.node d.items∧d.items.length≤maxLen∧∀ x∈d.items,wfD (.int .i64) x:=by
 obtain ⟨l,rfl,h1,h2⟩:=h
 exact ⟨rfl,h1,h2⟩
theorem szTable_eq (l:List D) (hl:l.length≤maxLen) (w:∀ d∈l,wfD (.slice (.int .i64)) d):∃ v,Z3 l 1048576=some v∧(v<0∨(l.length≤1048576∧∀ d∈l,d.items.length≤1048576)):=by
 unfold maxLen at hl
 have hw:IntKind.i64.wrap (1048576 - (l.length:Int))=1048576 - (l.length:Int):=UH (by omega) (by omega)
 simp only [Z3,c_Z3,Z2,c_Z2,hw]
 by_cases h0:1048576 - (l.length:Int)<0
 ·exact ⟨-1,by simp [h0],.inl (by omega)⟩
 ·obtain ⟨y,h1,h2⟩:=NL (N:=fun m (s:Nat×Int)=>n_Z1 m l s.2 (s.1:Int)) (fun s=>s.1≤l.length∧0≤s.2∧s.2≤1048576) (fun s=>l.length - s.1)
   (fun s y=>match y with | .inl (_,r)=>r=-1 | .inr r=>0≤r∧∀ d∈l.drop s.1,d.items.length≤1048576) (by
   rintro ⟨i,s⟩ ⟨hi,hs1,hs2⟩
   simp only at hi hs1 hs2 ⊢
   by_cases hlt:i<l.length
   ·have hlt':(i:Int)<l.length:=by omega
    obtain ⟨_,r1,_⟩:=wfRow (w _ (VC hlt))
    unfold maxLen at r1
    have hw2:IntKind.i64.wrap (s - ((l[i]?.getD (.int 0)).items.length:Int))=s - ((l[i]?.getD (.int 0)).items.length:Int):=UH (by omega) (by omega)
    by_cases hneg:s - ((l[i]?.getD (.int 0)).items.length:Int)<0
    ·refine .inl ⟨.inl (-1,-1),rfl,fun m=>?_⟩
     simp only [n_Z1,c_Z1,Z0,c_Z0,hlt',decide_true,cond_true,Int.natCast_nonneg,and_self,if_true,Int.toNat_natCast,List.getD_eq_getElem?_getD,hw2,hneg,Option.bind_some]
     rfl
    ·refine .inr ⟨(i+1,s - ((l[i]?.getD (.int 0)).items.length:Int)),⟨by simp; omega,by simp only; omega,by simp only; omega⟩,by simp; omega,fun y hy=>?_,fun m=>?_⟩
     ·cases y with
      | inl y=>exact hy
      | inr r=>
       refine ⟨hy.1,fun d hd=>?_⟩
       rw [NM hlt] at hd
       rcases List.mem_cons.1 hd with rfl | hd
       ·omega
       ·exact hy.2 d hd
     ·simp only [n_Z1,c_Z1,Z0,c_Z0,hlt',decide_true,cond_true,Int.natCast_nonneg,and_self,if_true,Int.toNat_natCast,List.getD_eq_getElem?_getD,hw2,hneg,decide_false,cond_false,Option.bind_some,Uz (show i<4611686018427387904 by omega)]
      cases n_Z1 m l (s - ((l[i]?.getD (.int 0)).items.length:Int)) ((i+1:Nat):Int) <;> rfl
   ·have hlt':¬ (i:Int)<l.length:=by omega
    exact .inl ⟨.inr s,⟨hs1,by rw [qN hlt]; simp⟩,fun m=>by simp [n_Z1,c_Z1,hlt']⟩) (0,1048576 - (l.length:Int)) ⟨by simp,by simp only; omega,by simp only; omega⟩
  have h1':Z1 l (1048576 - (l.length:Int)) 0=some y:=h1
  simp only [h0,decide_false,cond_false,h1',Option.bind_some]
  cases y with
  | inl y=>
   obtain ⟨a,b⟩:=y
   have hb:b=-1:=h2
   subst hb
   exact ⟨-1,rfl,.inl (by omega)⟩
  | inr r=>
   have h3:¬ r<0:=by have:=h2.1; omega
   refine ⟨r,by simp [h3],.inr ⟨by omega,fun d hd=>h2.2 d (by simpa using hd)⟩⟩
theorem toTable_id (l:List D) (hl:l.length≤1048576) (w:∀ d∈l,wfD (.slice (.int .i64)) d) (hr:∀ d∈l,d.items.length≤1048576):Z8 l=some l:=by
 have key:Z6 l 0 (List.replicate l.length (.node []))=some l:=by
  refine NJ (N:=n_Z6) (fun m i acc hi hacc=>?_) (fun m acc hacc=>?_)
  ·obtain ⟨r0,r1,r2⟩:=wfRow (w _ (VC hi))
   have hid:=toIntS_id (l[i]?.getD (.int 0)).items (hr _ (VC hi)) r2
   have hw:IntKind.i64.wrap ((i:Int)+1)=(i:Int)+1:=UH (by omega) (by omega)
   have h2:(i:Int)<acc.length:=by omega
   have h3:i+1≤acc.length:=by omega
   have h1:(i:Int)<l.length:=by omega
   simp only [n_Z6,c_Z6,h1,h2,h3,hw,hid,decide_true,cond_true,Int.natCast_nonneg,and_self,if_true,Int.toNat_natCast,List.getD_eq_getElem?_getD,Option.bind_some,← r0]
   cases n_Z6 m l (↑i+1) (acc.set i (l[i]?.getD (D.int 0))) <;> rfl
  ·simp [n_Z6,c_Z6]
 have h4:(l.length:Int)≤4294967296:=by omega
 simp [Z8,c_Z8,Z7,c_Z7,key,h4]
theorem eqTable_self (l:List D) (hl:l.length≤1048576) (hr:∀ d∈l,d.items.length≤1048576):Z63 l l=some true:=by
 have key:Z61 l l 0=some (.inr ()):=by
  refine NK (N:=fun n i=>n_Z61 n l l i) (len:=l.length) (fun m i hi=>?_) (fun m=>?_)
  ·have hw:IntKind.i64.wrap ((i:Int)+1)=(i:Int)+1:=UH (by omega) (by omega)
   have h1:(i:Int)<l.length:=by omega
   have hs:=eqIntS_self (l[i]?.getD (.int 0)).items (hr _ (VC hi))
   simp only [n_Z61,c_Z61,h1,hw,hs,decide_true,cond_true,Int.natCast_nonneg,and_self,if_true,Int.toNat_natCast,List.getD_eq_getElem?_getD,Option.bind_some,Bool.not_true,cond_false]
   cases n_Z61 m l l (↑i+1) <;> rfl
  ·simp [n_Z61,c_Z61]
 simp [Z63,c_Z63,Z62,c_Z62,key]
def cellP (r:List D) (i:Nat):Bool:=!btw (r[i]?.getD (.int 0)).toInt 0 1000
def rowB (n:Int) (d:D):Bool:=btw (d.items.length:Int) 1 10&&(decide ((d.items.length:Int)=n)&&(Qz (cellP d.items) d.items.length).isNone)
theorem L11_eq (a b:Int) (r l:List D) (hr:r.length≤10):Z10 a b r 0 l=some (match Qz (cellP r) r.length with | some _=>.inl (false,a,b,l) | none=>.inr (a,b,l)):=by
 refine XY (N:=fun m i=>n_Z10 m a b r i l) _ (fun _=>.inl (false,a,b,l)) (fun m i hi=>?_) (fun m=>?_)
 ·have hw:IntKind.i64.wrap ((i:Int)+1)=(i:Int)+1:=UH (by omega) (by omega)
  have h1:(i:Int)<r.length:=by omega
  simp only [n_Z10,c_Z10,h1,hw,l1In_eq,cellP,decide_true,cond_true,Int.natCast_nonneg,and_self,if_true,Int.toNat_natCast,List.getD_eq_getElem?_getD,Option.bind_some]
  cases btw (r[i]?.getD (D.int 0)).toInt 0 1000 <;> simp
 ·simp [n_Z10,c_Z10]
theorem contains_eq (r:List D) (hr:r.length≤10):Z37 r=some (!(Qz (cellP r) r.length).isNone):=by
 have:Z35 r r.length 0=some (match Qz (cellP r) r.length with | some i=>.inl (i:Int) | none=>.inr ()):=by
  refine XY (N:=fun m i=>n_Z35 m r r.length i) _ (fun i=>.inl (i:Int)) (fun m i hi=>?_) (fun m=>?_)
  ·have hw:IntKind.i64.wrap ((i:Int)+1)=(i:Int)+1:=UH (by omega) (by omega)
   have h1:(i:Int)<r.length:=by omega
   simp only [n_Z35,c_Z35,Z34,c_Z34,h1,hw,within_eq,cellP,decide_true,cond_true,Int.natCast_nonneg,and_self,if_true,Int.toNat_natCast,List.getD_eq_getElem?_getD,Option.bind_some]
   cases btw (r[i]?.getD (D.int 0)).toInt 0 1000 <;> simp
  ·simp [n_Z35,c_Z35]
 simp only [Z37,c_Z37,Z36,c_Z36,this,Option.bind_some]
 cases Qz (cellP r) r.length <;> simp
theorem rows_eq (l:List D) (hl:l.length≤7) (n:Int) (hn:n=(((l[0]?.getD (D.int 0)).items.length:Nat):Int)) :
  Z11 l.length 0 l=some (match Qz (fun i=>!rowB n (l[i]?.getD (.int 0))) l.length with | some _=>.inl false | none=>.inr ()) ∧
  Z38 l l.length 0 l=some (match Qz (fun i=>!rowB n (l[i]?.getD (.int 0))) l.length with | some _=>.inl false | none=>.inr ()):=by
 constructor
 ·refine XY (N:=fun m i=>n_Z11 m l.length i l) _ (fun _=>.inl false) (fun m i hi=>?_) (fun m=>?_)
  ·have hw:IntKind.i64.wrap ((i:Int)+1)=(i:Int)+1:=UH (by omega) (by omega)
   have h1:(i:Int)<l.length:=by omega
   have h0:(0:Int)<l.length:=by omega
   simp only [n_Z11,c_Z11,h1,h0,hw,l1In_eq,decide_true,cond_true,Int.natCast_nonneg,and_self,if_true,Int.toNat_natCast,List.getD_eq_getElem?_getD,Option.bind_some,Int.toNat_zero,← hn,Int.le_refl]
   generalize l[i]?.getD (D.int 0)=d
   unfold rowB
   cases hb:btw (d.items.length:Int) 1 10 with
   | false=>simp
   | true=>
    have:=WG.1 hb
    rw [L11_eq _ _ _ _ (by omega)]
    cases decide ((d.items.length:Int)=n) with
    | false=>simp
    | true=>cases Qz (cellP d.items) d.items.length <;> simp [hw]
  ·simp [n_Z11,c_Z11]
 ·refine XY (N:=fun m i=>n_Z38 m l l.length i l) _ (fun _=>.inl false) (fun m i hi=>?_) (fun m=>?_)
  ·have hw:IntKind.i64.wrap ((i:Int)+1)=(i:Int)+1:=UH (by omega) (by omega)
   have h1:(i:Int)<l.length:=by omega
   have h0:(0:Int)<l.length:=by omega
   simp only [n_Z38,c_Z38,h1,h0,hw,within_eq,decide_true,cond_true,Int.natCast_nonneg,and_self,if_true,Int.toNat_natCast,List.getD_eq_getElem?_getD,Option.bind_some,Int.toNat_zero,← hn,Int.le_refl]
   generalize l[i]?.getD (D.int 0)=d
   unfold rowB
   cases hb:btw (d.items.length:Int) 1 10 with
   | false=>simp
   | true=>
    have:=WG.1 hb
    rw [contains_eq _ (by omega)]
    cases decide ((d.items.length:Int)=n) with
    | false=>simp
    | true=>cases Qz (cellP d.items) d.items.length <;> simp
  ·simp [n_Z38,c_Z38]
structure GoodT (l:List D):Prop where
 n1:1≤l.length
 n7:l.length≤7
 c1:1≤(l[0]?.getD (D.int 0)).items.length
 c10:(l[0]?.getD (D.int 0)).items.length≤10
 len:∀ i,i<l.length→(l[i]?.getD (D.int 0)).items.length=(l[0]?.getD (D.int 0)).items.length
 cell:∀ i j,i<l.length→j<(l[0]?.getD (D.int 0)).items.length→(0:Int)≤((l[i]?.getD (D.int 0)).items[j]?.getD (D.int 0)).toInt∧((l[i]?.getD (D.int 0)).items[j]?.getD (D.int 0)).toInt≤1000
theorem table_good (l:List D):∃ b,Z12 l=some b∧Z39 l=some b∧(b=true→GoodT l):=by
 simp only [Z12,c_Z12,Z39,c_Z39,l1In_eq,within_eq,Option.bind_some]
 cases hb:btw (l.length:Int) 1 7 with
 | false=>exact ⟨false,by simp,by simp,by simp⟩
 | true=>
  have hbb:=WG.1 hb
  obtain ⟨h1,h2⟩:=rows_eq l (by omega) _ rfl
  simp only [h1,h2,Bool.not_true,cond_false,Option.bind_some]
  cases hf:Qz (fun i=>!rowB _ (l[i]?.getD (D.int 0))) l.length with
  | some i=>exact ⟨false,by simp,by simp,by simp⟩
  | none=>
   refine ⟨true,by simp,by simp,fun _=>?_⟩
   have hall:=KS hf
   have hrow:∀ i,i<l.length→btw ((l[i]?.getD (D.int 0)).items.length:Int) 1 10=true∧((l[i]?.getD (D.int 0)).items.length:Int)=((l[0]?.getD (D.int 0)).items.length:Int)∧(Qz (cellP (l[i]?.getD (D.int 0)).items) (l[i]?.getD (D.int 0)).items.length).isNone=true:=by
    intro i hi
    have:=hall i hi
    unfold rowB at this
    rw [Bool.not_eq_false',Bool.and_eq_true,Bool.and_eq_true,decide_eq_true_eq] at this
    exact this
   have h0:=hrow 0 (by omega)
   have h01:=WG.1 h0.1
   refine ⟨by omega,by omega,by omega,by omega,fun i hi=>by have:=(hrow i hi).2.1; omega,fun i j hi hj=>?_⟩
   have hr:=hrow i hi
   have hn:Qz (cellP (l[i]?.getD (D.int 0)).items) (l[i]?.getD (D.int 0)).items.length=none:=by
    cases hq:Qz (cellP (l[i]?.getD (D.int 0)).items) (l[i]?.getD (D.int 0)).items.length with
    | none=>rfl
    | some _=>rw [hq] at hr; simp at hr
   have hc:=KS hn j (by have:=hr.2.1; omega)
   unfold cellP at hc
   rw [Bool.not_eq_false',WG] at hc
   exact hc
theorem sum_same (r:List D) (hr:r.length≤1048576):∃ y,Z14 r=some y∧Z52 r=some y:=by
 obtain ⟨y,y',h1,h2,rfl⟩:=XZ (N:=fun m (s:Nat×Int)=>n_Z13 m r s.2 (s.1:Int)) (N':=fun m (s:Nat×Int)=>n_Z51 m s.2 r r.length (s.1:Int)) (fun s=>s.1≤r.length) (fun s=>r.length - s.1) (fun y y'=>y=y') (by
  rintro ⟨i,s⟩ hi
  simp only at hi ⊢
  by_cases hlt:i<r.length
  ·have h1:(i:Int)<r.length:=by omega
   have hw:IntKind.i64.wrap ((i:Int)+1)=((i+1:Nat):Int):=Uz (by omega)
   refine .inr ⟨(i+1,IntKind.i64.wrap (s+(r[i]?.getD (D.int 0)).toInt)),by simp; omega,by simp; omega,fun m=>⟨?_,?_⟩⟩
   ·simp only [n_Z13,c_Z13,h1,decide_true,cond_true,Int.natCast_nonneg,and_self,if_true,Int.toNat_natCast,List.getD_eq_getElem?_getD,hw]
    exact Option.bind_fun_some _
   ·simp only [n_Z51,c_Z51,h1,decide_true,cond_true,Int.natCast_nonneg,and_self,if_true,Int.toNat_natCast,List.getD_eq_getElem?_getD,hw]
    exact Option.bind_fun_some _
  ·have h1:¬ (i:Int)<r.length:=by omega
   exact .inl ⟨s,s,rfl,fun m=>⟨by simp [n_Z13,c_Z13,h1],by simp [n_Z51,c_Z51,h1]⟩⟩) (0,0) (by simp)
 have h1':Z13 r 0 0=some y:=h1
 have h2':Z51 0 r r.length 0=some y:=h2
 exact ⟨y,by simp [Z14,c_Z14,h1'],by simp [Z52,c_Z52,h2']⟩
theorem share_sp {l:List D} (hg:GoodT l) {a j:Nat} (ha:a<l.length) (hj:j<(l[0]?.getD (D.int 0)).items.length):∃ v,Z15 (l[a]?.getD (D.int 0)).items (j:Int)=some v:=by
 have hc:=hg.c10
 have hl:=hg.len a ha
 obtain ⟨y,h1,h2⟩:=sum_same (l[a]?.getD (D.int 0)).items (by omega)
 have e1:(a:Int)<l.length:=by omega
 have e2:(j:Int)<((l[a]?.getD (D.int 0)).items.length:Int):=by omega
 simp only [Z15,c_Z15,h1,h2,Option.bind_some,e1,e2,Int.natCast_nonneg,and_self,if_true,Int.toNat_natCast,List.getD_eq_getElem?_getD]
 by_cases h0:y=0
 ·exact ⟨0,by simp [h0]⟩
 ·exact ⟨_,by simp only [h0,decide_false,cond_false,ne_eq,not_false_eq_true,if_true]; rfl⟩
theorem most_if (x y:Int):Z16 x y=some (if y > x then y else x):=by
 unfold Z16 c_Z16
 by_cases h:y<x
 ·have h':¬ x<y:=by omega
  simp [h,h']
 ·by_cases h2:x<y
  ·simp [h,h2]
  ·have:x=y:=by omega
   simp [this]
theorem dist_sp {l:List D} (hg:GoodT l) {a b:Nat} (ha:a<l.length) (hb:b<l.length):∃ v,Z18 l (a:Int) (b:Int)=some v:=by
 have hc:=hg.c10
 have hla:=hg.len a ha
 have h07:=hg.n1
 have hn7:=hg.n7
 obtain ⟨y,y',h1,h2,rfl⟩:=XZ (N:=fun m (s:Nat×Int)=>n_Z17 m (a:Int) (b:Int) s.2 (s.1:Int) l) (N':=fun m (s:Nat×Int)=>n_Z17 m (a:Int) (b:Int) s.2 (s.1:Int) l) (fun s=>s.1≤(l[0]?.getD (D.int 0)).items.length) (fun s=>(l[0]?.getD (D.int 0)).items.length - s.1) (fun y y'=>y=y') (by
  rintro ⟨j,s⟩ hj
  simp only at hj ⊢
  have e1:(a:Int)<l.length:=by omega
  have e2:(b:Int)<l.length:=by omega
  by_cases hlt:j<(l[0]?.getD (D.int 0)).items.length
  ·have e3:(j:Int)<((l[0]?.getD (D.int 0)).items.length:Int):=by omega
   have e4:(j:Int)<((l[a]?.getD (D.int 0)).items.length:Int):=by omega
   have hw:IntKind.i64.wrap ((j:Int)+1)=((j+1:Nat):Int):=Uz (by omega)
   obtain ⟨u,u1⟩:=share_sp hg ha hlt
   obtain ⟨v,v1⟩:=share_sp hg hb hlt
   refine .inr ⟨(j+1,IntKind.i64.wrap (s+if IntKind.i64.wrap (v - u) > IntKind.i64.wrap (u - v) then IntKind.i64.wrap (v - u) else IntKind.i64.wrap (u - v))),by simp; omega,by simp; omega,fun m=>⟨?_,?_⟩⟩
   ·simp only [n_Z17,c_Z17,e1,e2,e4,decide_true,cond_true,Int.natCast_nonneg,and_self,if_true,Int.toNat_natCast,List.getD_eq_getElem?_getD,u1,v1,most_if,Option.bind_some,hw]
    exact Option.bind_fun_some _
   ·simp only [n_Z17,c_Z17,e1,e2,e4,decide_true,cond_true,Int.natCast_nonneg,and_self,if_true,Int.toNat_natCast,List.getD_eq_getElem?_getD,u1,v1,most_if,Option.bind_some,hw]
    exact Option.bind_fun_some _
  ·have e3:¬ (j:Int)<((l[0]?.getD (D.int 0)).items.length:Int):=by omega
   have e4:¬ (j:Int)<((l[a]?.getD (D.int 0)).items.length:Int):=by omega
   exact .inl ⟨s,s,rfl,fun m=>⟨by simp only [n_Z17,c_Z17,e1,e4,decide_false,cond_false,Int.natCast_nonneg,and_self,if_true,Int.toNat_natCast,List.getD_eq_getElem?_getD],by simp only [n_Z17,c_Z17,e1,e4,decide_false,cond_false,Int.natCast_nonneg,and_self,if_true,Int.toNat_natCast,List.getD_eq_getElem?_getD]⟩⟩) (0,0) (by simp)
 have h1':Z17 (a:Int) (b:Int) 0 0 l=some y:=h1
 have e0:(0:Int)<l.length:=by omega
 have e9:l≠[]:=by intro h; simp [h] at e0
 exact ⟨y,by simp [Z18,c_Z18,h1']⟩
def Tt {ι β:Type} (I:ι→Prop) (P:β→Prop) (e:ι→Option β):Prop:=∃ y,P y∧∀ i,I i→e i=some y
theorem Tt.pure {ι β:Type} {I:ι→Prop} {P:β→Prop} {y:β} (h:P y):Tt I P (fun _=>some y):=⟨y,h,fun _ _=>rfl⟩
theorem Tt.bind {ι α β:Type} {I:ι→Prop} {Q:α→Prop} {P:β→Prop} {t:ι→Option α} {f:α→ι→Option β} (h:Tt I Q t) (k:∀ v,Q v→Tt I P (fun i=>f v i)) :
  Tt I P (fun i=>(t i).bind (fun v=>f v i)):=by
 obtain ⟨v,hv,ht⟩:=h
 obtain ⟨y,hy,hk⟩:=k v hv
 exact ⟨y,hy,fun i hi=>by show (t i).bind _=_; rw [ht i hi]; exact hk i hi⟩
theorem Tt.ite {ι β:Type} {I:ι→Prop} {P:β→Prop} {c:Prop} [Decidable c] {x y:ι→Option β} (h:c) (k:Tt I P x):Tt I P (fun i=>if c then x i else y i):=by
 simpa only [if_pos h] using k
theorem Tt.cnd {ι β:Type} {I:ι→Prop} {P:β→Prop} {b:Bool} {x y:ι→Option β} (h1:b=true→Tt I P x) (h2:b=false→Tt I P y):Tt I P (fun i=>bif b then x i else y i):=by
 cases b with
 | true=>exact h1 rfl
 | false=>exact h2 rfl
theorem Tt.dec {ι β:Type} {I:ι→Prop} {P:β→Prop} {p:Prop} [Decidable p] {x y:ι→Option β} (h1:p→Tt I P x) (h2:¬ p→Tt I P y):Tt I P (fun i=>bif decide p then x i else y i):=
 Tt.cnd (fun h=>h1 (of_decide_eq_true h)) (fun h=>h2 (of_decide_eq_false h))
theorem Tt.ndec {ι β:Type} {I:ι→Prop} {P:β→Prop} {p:Prop} [Decidable p] {x y:ι→Option β} (h1:¬ p→Tt I P x) (h2:p→Tt I P y):Tt I P (fun i=>bif !decide p then x i else y i):=by
 by_cases h:p
 ·simpa only [decide_eq_true h,Bool.not_true,cond_false] using h2 h
 ·simpa only [decide_eq_false h,Bool.not_false,cond_true] using h1 h
theorem Tt.con {ι β:Type} {I:ι→Prop} {Q:β→Prop} {t:Option β} (h:∃ y,t=some y∧Q y):Tt I Q (fun _=>t):=by
 obtain ⟨y,h1,h2⟩:=h
 exact ⟨y,h2,fun _ _=>h1⟩
theorem Tt.mono {ι β:Type} {I J:ι→Prop} {P Q:β→Prop} {e:ι→Option β} (h:Tt I P e) (hI:∀ i,J i→I i) (hP:∀ y,P y→Q y):Tt J Q e:=by
 obtain ⟨y,h1,h2⟩:=h
 exact ⟨y,hP y h1,fun i hi=>h2 i (hI i hi)⟩
theorem Tt.out {β:Type} {P:β→Prop} {t:Option β} (h:Tt (fun _:Unit=>True) P (fun _=>t)):∃ y,t=some y∧P y:=by
 obtain ⟨y,h1,h2⟩:=h
 exact ⟨y,h2 () trivial,h1⟩
theorem Tt.loop {X Y:Type} (N:Nat→X→Option Y) (Inv:X→Prop) (μ:X→Nat) (Post:X→Y→Prop)
  (step:∀ x,Inv x→(∀ x',Inv x'→μ x'<μ x→Tt (fun m=>μ x≤m) (Post x') (fun m=>N m x'))→Tt (fun m=>μ x≤m) (Post x) (fun m=>N (m+1) x)) :
  ∀ x,Inv x→∃ y,ev (fun n=>N n x)=some y∧Post x y:=by
 have key:∀ k x,Inv x→μ x≤k→Tt (fun m=>μ x<m) (Post x) (fun m=>N m x):=by
  intro k
  induction k with
  | zero=>
   intro x hi hk
   obtain ⟨y,h1,h2⟩:=step x hi (fun x' _ h=>absurd h (by omega))
   refine ⟨y,h1,fun m hm=>?_⟩
   obtain ⟨m,rfl⟩:∃ m',m=m'+1:=⟨m - 1,by omega⟩
   exact h2 m (by omega)
  | succ k ih=>
   intro x hi hk
   obtain ⟨y,h1,h2⟩:=step x hi (fun x' hx' h=>(ih x' hx' (by omega)).mono (fun m hm=>by omega) (fun _ h=>h))
   refine ⟨y,h1,fun m hm=>?_⟩
   obtain ⟨m,rfl⟩:∃ m',m=m'+1:=⟨m - 1,by omega⟩
   exact h2 m (by omega)
 intro x hi
 obtain ⟨y,h1,h2⟩:=key (μ x) x hi (Nat.le_refl _)
 exact ⟨y,Uv (μ x+1) (fun m hm=>h2 m (by omega)),h1⟩
theorem wq (n:Int):IntKind.i64.wrap n=(n+9223372036854775808) % 18446744073709551616 - 9223372036854775808:=by
 unfold IntKind.wrap
 simp [IntKind.signed,IntKind.bits]
 omega
theorem ev_spec {Y:Type} {f:Nat→Option Y} {y:Y} (h:ev f=some y):∃ n,∀ m,n≤m→f m=some y:=by
 unfold ev at h
 split at h
 ·rename_i hx
  simp only [Option.some.injEq] at h
  rw [← h]
  exact hx.choose_spec
 ·cases h
theorem ev_succ {Y:Type} {f g:Nat→Option Y} (h:∀ m,f (m+1)=g m) {y:Y} (hy:ev g=some y):ev f=some y:=by
 obtain ⟨n,hn⟩:=ev_spec hy
 refine Uv (n+1) (fun m hm=>?_)
 obtain ⟨m,rfl⟩:∃ m',m=m'+1:=⟨m - 1,by omega⟩
 rw [h]; exact hn m (by omega)
def rgP (l o:List D) (t:Int) (n:Nat) (y:Int×Int):Prop:=(y.1=-1∧y.2=-1)∨(0≤y.1∧y.1≤y.2∧y.2<n∧((l.getD ((o.getD y.1.toNat (.int 0)).toInt).toNat (.int 0)).items.getD t.toNat (.int 0)).toInt≠0)
theorem rgP_mono {l o:List D} {t:Int} {n:Nat} {y:Int×Int} (h:rgP l o t n y):rgP l o t (n+1) y:=by
 rcases h with h | ⟨h1,h2,h3,h4⟩
 ·exact .inl h
 ·exact .inr ⟨h1,h2,by omega,h4⟩
theorem rgP_ext {l o:List D} {t:Int} {i:Nat} {f u:Int} (h:rgP l o t i (f,u)) (hf:0≤f):rgP l o t (i+1) (f,(i:Int)):=by
 rcases h with ⟨h1,h2⟩ | ⟨h1,h2,h3,h4⟩
 ·simp only at h1; omega
 ·simp only at h1 h2 h3 h4; exact .inr ⟨h1,by simp only; omega,by simp only; omega,h4⟩
theorem rgP_new {l o:List D} {t:Int} {i:Nat} (h:((l.getD ((o.getD i (.int 0)).toInt).toNat (.int 0)).items.getD t.toNat (.int 0)).toInt≠0):rgP l o t (i+1) ((i:Int),(i:Int)):=
 .inr ⟨by simp only; omega,by simp only; omega,by simp only; omega,h⟩
theorem range_post {l o:List D} (hg:GoodT l) (ho:o.length≤1048576) (hr:∀ d∈o,0≤d.toInt∧d.toInt<l.length) (t:Int) (ht0:0≤t) (ht:t<((l[0]?.getD (D.int 0)).items.length:Int)) :
  ∃ y,Z22 l o t=some y∧Z47 l o t=some y∧rgP l o t o.length y:=by
 have hc10:=hg.c10
 obtain ⟨y,y',h1,h2,hR⟩:=XZ (N:=fun m (x:Int×Int×Nat)=>n_Z21 m o t x.1 x.2.1 x.2.2 l) (N':=fun m (x:Int×Int×Nat)=>n_Z46 m t x.1 x.2.1 o o.length x.2.2 l)
  (fun x=>x.2.2≤o.length∧rgP l o t x.2.2 (x.1,x.2.1)) (fun x=>o.length - x.2.2) (fun y y'=>y=y'∧rgP l o t o.length y) (by
   rintro ⟨f,u,i⟩ ⟨hi,hp⟩
   simp only at hi hp
   by_cases hlt:i<o.length
   ·right
    have hd:=hr _ (VB hlt)
    obtain ⟨a,ha⟩:∃ a:Nat,(o.getD i (D.int 0)).toInt=(a:Int):=⟨((o.getD i (D.int 0)).toInt).toNat,by omega⟩
    have hal:a<l.length:=by omega
    have hrow:=hg.len a hal
    rw [← List.getD_eq_getElem?_getD] at hrow
    have hw:IntKind.i64.wrap ((i:Int)+1)=((i+1:Nat):Int):=Uz (by omega)
    have e1:∀ m,n_Z21 (m+1) o t f u (i:Int) l=bif decide (0<((l.getD a (D.int 0)).items.getD t.toNat (D.int 0)).toInt) then bif decide (f<0) then n_Z21 m o t i i ((i+1:Nat):Int) l else n_Z21 m o t f i ((i+1:Nat):Int) l else n_Z21 m o t f u ((i+1:Nat):Int) l:=by
     intro m
     show c_Z21 (n_Z21 m) o t f u i l some=_
     unfold c_Z21
     simp only [Option.bind_fun_some,Int.toNat_natCast,hw,ha]
     rw [decide_eq_true (show (i:Int)<(o.length:Int) by omega),cond_true,if_pos (by omega),if_pos (by omega),if_pos (by omega)]
    have e2:∀ m,n_Z46 (m+1) t f u o o.length (i:Int) l=bif decide (0<((l.getD a (D.int 0)).items.getD t.toNat (D.int 0)).toInt) then bif decide (f<0) then n_Z46 m t i i o o.length ((i+1:Nat):Int) l else n_Z46 m t f i o o.length ((i+1:Nat):Int) l else n_Z46 m t f u o o.length ((i+1:Nat):Int) l:=by
     intro m
     show c_Z46 (n_Z46 m) t f u o o.length i l some=_
     unfold c_Z46
     simp only [Option.bind_fun_some,Int.toNat_natCast,hw,ha]
     rw [decide_eq_true (show (i:Int)<(o.length:Int) by omega),cond_true,if_pos (by omega),if_pos (by omega),if_pos (by omega)]
    have ha':((o.getD i (D.int 0)).toInt).toNat=a:=by omega
    cases q1:decide (0<((l.getD a (D.int 0)).items.getD t.toNat (D.int 0)).toInt) with
    | false=>exact ⟨(f,u,i+1),⟨by simp only; omega,rgP_mono hp⟩,by simp only; omega,fun m=>⟨by show n_Z21 (m+1) o t f u (i:Int) l=_; rw [e1,q1]; rfl,by show n_Z46 (m+1) t f u o o.length (i:Int) l=_; rw [e2,q1]; rfl⟩⟩
    | true=>
     cases q2:decide (f<0) with
     | false=>exact ⟨(f,i,i+1),⟨by simp only; omega,rgP_ext hp (by simpa using q2)⟩,by simp only; omega,fun m=>⟨by show n_Z21 (m+1) o t f u (i:Int) l=_; rw [e1,q1,q2]; rfl,by show n_Z46 (m+1) t f u o o.length (i:Int) l=_; rw [e2,q1,q2]; rfl⟩⟩
     | true=>exact ⟨(i,i,i+1),⟨by simp only; omega,rgP_new (by rw [ha']; have:=of_decide_eq_true q1; omega)⟩,by simp only; omega,fun m=>⟨by show n_Z21 (m+1) o t f u (i:Int) l=_; rw [e1,q1,q2]; rfl,by show n_Z46 (m+1) t f u o o.length (i:Int) l=_; rw [e2,q1,q2]; rfl⟩⟩
   ·left
    refine ⟨(f,u),(f,u),⟨rfl,by rw [show o.length=i by omega]; exact hp⟩,fun m=>⟨?_,?_⟩⟩
    ·show c_Z21 (n_Z21 m) o t f u i l some=_
     unfold c_Z21
     rw [decide_eq_false (by omega)]; rfl
    ·show c_Z46 (n_Z46 m) t f u o o.length i l some=_
     unfold c_Z46
     rw [decide_eq_false (by omega)]; rfl) (-1,-1,0) ⟨by simp,.inl ⟨rfl,rfl⟩⟩
 obtain ⟨rfl,hP⟩:=hR
 have k1:Z21 o t (-1) (-1) 0 l=some y:=h1
 have k2:Z46 t (-1) (-1) o o.length 0 l=some y:=h2
 refine ⟨y,?_,?_,hP⟩
 ·simp only [Z22,c_Z22,k1,Option.bind_some]
 ·simp only [Z47,c_Z47,k2,Option.bind_some]
def cnt (p:Nat→Bool):Nat→Nat
 | 0=>0
 | k+1=>cnt p k+(bif p k then 1 else 0)
theorem cnt_le (p:Nat→Bool):∀ k,cnt p k≤k
 | 0=>Nat.le_refl 0
 | k+1=>by have:=cnt_le p k; unfold cnt; cases p k <;> simp <;> omega
theorem cnt_stop {p:Nat→Bool} {a:Nat}:∀ {b:Nat},a≤b→(∀ j,a≤j→j<b→p j=false)→cnt p b=cnt p a
 | 0,h,_=>by rw [show a=0 by omega]
 | b+1,h,hp=>by
  rcases Nat.lt_or_ge a (b+1) with hlt | hge
  ·show cnt p b+(bif p b then 1 else 0)=_
   rw [hp b (by omega) (by omega),cnt_stop (b:=b) (by omega) (fun j h1 h2=>hp j h1 (by omega))]
   rfl
  ·rw [show a=b+1 by omega]
def zeroA (l o:List D) (t:Nat) (j:Nat):Bool:=decide (((l.getD ((o.getD j (.int 0)).toInt).toNat (.int 0)).items.getD t (.int 0)).toInt=0)
def gapP (l o:List D) (t:Nat) (f u:Int) (j:Nat):Bool:=decide (f<j)&&(decide ((j:Int)<u)&&zeroA l o t j)
theorem specGap7 {l o:List D} (hg:GoodT l) (hn:o.length=l.length) (hr:∀ d∈o,0≤d.toInt∧d.toInt<l.length) {t:Nat} (ht:t<(l[0]?.getD (D.int 0)).items.length) {f u:Int} (h:rgP l o t o.length (f,u)) (acc:Nat) (hacc:acc≤1000) :
  Z23 o (acc:Int) (t:Int) u f l=some (o,((acc+cnt (gapP l o t f u) o.length:Nat):Int),(t:Int),l):=by
 have hn7:=hg.n7
 have hc10:=hg.c10
 rcases h with ⟨h1,h2⟩ | ⟨h1,h2,h3,h4⟩
 ·simp only at h1 h2
  subst h1 h2
  have hz:cnt (gapP l o t (-1) (-1)) o.length=0:=cnt_stop (a:=0) (by omega) (fun j _ _=>by
   unfold gapP; rw [decide_eq_false (show ¬ (j:Int)< -1 by omega)]; simp)
  rw [hz]
  refine Uv (f:=fun m=>n_Z23 m o (acc:Int) (t:Int) (-1) (-1) l) 1 (fun m hm=>?_)
  obtain ⟨m,rfl⟩:∃ m',m=m'+1:=⟨m - 1,by omega⟩
  rfl
 ·simp only at h1 h2 h3 h4
  obtain ⟨f,rfl⟩:∃ k:Nat,f=(k:Int):=⟨f.toNat,by omega⟩
  obtain ⟨u,rfl⟩:∃ k:Nat,u=(k:Int):=⟨u.toNat,by omega⟩
  have key:∀ k,∀ i m,i+k=u→f≤i→k<m→n_Z23 m o ((acc+cnt (gapP l o t f u) i:Nat):Int) (t:Int) (u:Int) (i:Int) l=some (o,((acc+cnt (gapP l o t f u) o.length:Nat):Int),(t:Int),l):=by
   intro k
   induction k with
   | zero=>
    intro i m hi hf hm
    obtain ⟨m,rfl⟩:∃ m',m=m'+1:=⟨m - 1,by omega⟩
    obtain rfl:i=u:=by omega
    show c_Z23 (n_Z23 m) o _ t _ i l some=_
    unfold c_Z23
    rw [decide_eq_false (by omega),cond_false,cnt_stop (a:=i) (b:=o.length) (by omega) (fun j q1 _=>by
     unfold gapP; rw [decide_eq_false (show ¬ (j:Int)<(i:Int) by omega)]; simp)]
   | succ k ih=>
    intro i m hi hf hm
    obtain ⟨m,rfl⟩:∃ m',m=m'+1:=⟨m - 1,by omega⟩
    have hio:i<o.length:=by omega
    have hd:=hr _ (VB hio)
    obtain ⟨a,ha⟩:∃ a:Nat,(o.getD i (D.int 0)).toInt=(a:Int):=⟨((o.getD i (D.int 0)).toInt).toNat,by omega⟩
    have hrow:=hg.len a (by omega)
    rw [← List.getD_eq_getElem?_getD] at hrow
    have hc:=cnt_le (gapP l o t f u) i
    have hz:zeroA l o t i=decide (((l.getD a (D.int 0)).items.getD t (D.int 0)).toInt=0):=by
     unfold zeroA; rw [ha,Int.toNat_natCast]
    show c_Z23 (n_Z23 m) o _ t u i l some=_
    unfold c_Z23
    simp only [Option.bind_fun_some,Int.toNat_natCast,ha]
    rw [decide_eq_true (show (i:Int)<(u:Int) by omega),cond_true,if_pos (by omega),if_pos (by omega),if_pos (by omega),Uz (by omega),Uz (by omega),← hz]
    have hnext:=ih (i+1) m (by omega) (by omega) (by omega)
    have hsucc:cnt (gapP l o t f u) (i+1)=cnt (gapP l o t f u) i+(bif gapP l o t f u i then 1 else 0):=rfl
    cases hq:zeroA l o t i with
    | true=>
     have hfi:f≠i:=by
      rintro rfl
      rw [hz] at hq
      have:=of_decide_eq_true hq
      rw [Int.toNat_natCast,Int.toNat_natCast,ha,Int.toNat_natCast] at h4
      exact h4 this
     have:gapP l o t f u i=true:=by
      unfold gapP
      rw [hq,decide_eq_true (show (f:Int)<(i:Int) by omega),decide_eq_true (show (i:Int)<(u:Int) by omega)]; rfl
     rw [this] at hsucc
     simp only [cond_true] at hsucc ⊢
     rw [hsucc] at hnext
     exact hnext
    | false=>
     have:gapP l o t f u i=false:=by unfold gapP; rw [hq]; simp
     rw [this] at hsucc
     simp only [cond_false] at hsucc ⊢
     rw [hsucc] at hnext
     exact hnext
  have h0:cnt (gapP l o t f u) f=0:=cnt_stop (a:=0) (by omega) (fun j _ q=>by
   unfold gapP; rw [decide_eq_false (show ¬ (f:Int)<(j:Int) by omega)]; rfl)
  refine Uv (f:=fun m=>n_Z23 m o (acc:Int) (t:Int) (u:Int) (f:Int) l) (u - f+1) (fun m hm=>?_)
  have:=key (u - f) f m (by omega) (by omega) (by omega)
  rw [h0] at this
  exact this
def sumN (g:List Nat):Nat:=g.foldr (·+·) 0
def nD (g:List Nat):List D:=g.map (fun (k:Nat)=>D.int (k:Int))
theorem nD_len (g:List Nat):(nD g).length=g.length:=by simp [nD]
theorem nD_get (g:List Nat) (i:Nat):((nD g).getD i (.int 0)).toInt=((g.getD i 0:Nat):Int):=by
 simp only [nD,List.getD_eq_getElem?_getD,List.getElem?_map]
 cases g[i]? <;> rfl
theorem nD_set (g:List Nat) (i v:Nat):(nD g).set i (D.int (v:Int))=nD (g.set i v):=by simp [nD,List.map_set]
theorem sumN_set:∀ (g:List Nat) (i:Nat),i<g.length→sumN (g.set i (g.getD i 0+1))=sumN g+1
 | [],i,h=>by simp at h
 | x::g,0,_=>by simp [sumN]; omega
 | x::g,i+1,h=>by
  have:=sumN_set g i (by simpa using h)
  simp only [sumN,List.set_cons_succ,List.foldr_cons,List.getD_cons_succ] at this ⊢
  omega
theorem sumN_get:∀ (g:List Nat) (i:Nat),g.getD i 0≤sumN g
 | [],i=>by simp [sumN]
 | x::g,0=>by simp [sumN]
 | x::g,i+1=>by
  have:=sumN_get g i
  simp only [sumN,List.foldr_cons,List.getD_cons_succ] at this ⊢
  omega
theorem implGap7 {l o:List D} (hg:GoodT l) (hn:o.length=l.length) (hr:∀ d∈o,0≤d.toInt∧d.toInt<l.length) {t:Nat} (ht:t<(l[0]?.getD (D.int 0)).items.length) (f u c:Int) (g:List Nat) (hgl:g.length=o.length) (hs:sumN g≤1000) :
  ∃ g':List Nat,g'.length=o.length∧sumN g'=sumN g+cnt (gapP l o t f u) o.length ∧
   Z48 o (t:Int) f u c (t:Int) o o.length 0 l (nD g)=some (o,c,(t:Int),l,nD g'):=by
 have hn7:=hg.n7
 have hc10:=hg.c10
 have key:∀ k,∀ i (e:List Nat),i+k=o.length→e.length=o.length→sumN e=sumN g+cnt (gapP l o t f u) i→∃ g':List Nat,g'.length=o.length∧sumN g'=sumN g+cnt (gapP l o t f u) o.length∧∀ m,k<m →
   n_Z48 m o (t:Int) f u c (t:Int) o o.length (i:Int) l (nD e)=some (o,c,(t:Int),l,nD g'):=by
  intro k
  induction k with
  | zero=>
   intro i e hi he hse
   obtain rfl:i=o.length:=by omega
   refine ⟨e,he,hse,fun m hm=>?_⟩
   obtain ⟨m,rfl⟩:∃ m',m=m'+1:=⟨m - 1,by omega⟩
   show c_Z48 (n_Z48 m) o t f u c t o o.length o.length l (nD e) some=_
   unfold c_Z48
   rw [decide_eq_false (by omega)]; rfl
  | succ k ih=>
   intro i e hi he hse
   have hio:i<o.length:=by omega
   have hd:=hr _ (VB hio)
   obtain ⟨a,ha⟩:∃ a:Nat,(o.getD i (D.int 0)).toInt=(a:Int):=⟨((o.getD i (D.int 0)).toInt).toNat,by omega⟩
   have hrow:=hg.len a (by omega)
   rw [← List.getD_eq_getElem?_getD] at hrow
   have hc:=cnt_le (gapP l o t f u) i
   have hz:zeroA l o t i=decide (((l.getD a (D.int 0)).items.getD t (D.int 0)).toInt=0):=by
    unfold zeroA; rw [ha,Int.toNat_natCast]
   have hge:=sumN_get e i
   have hset:(nD e).set i (D.int (IntKind.i64.wrap (((e.getD i 0:Nat):Int)+1)))=nD (e.set i (e.getD i 0+1)):=by
    rw [Uz (by omega),nD_set]
   have step:∀ m,n_Z48 (m+1) o (t:Int) f u c (t:Int) o o.length (i:Int) l (nD e) =
     bif gapP l o t f u i then n_Z48 m o (t:Int) f u c (t:Int) o o.length ((i+1:Nat):Int) l (nD (e.set i (e.getD i 0+1))) else n_Z48 m o (t:Int) f u c (t:Int) o o.length ((i+1:Nat):Int) l (nD e):=by
    intro m
    show c_Z48 (n_Z48 m) o t f u c t o o.length i l (nD e) some=_
    unfold c_Z48
    simp only [Option.bind_fun_some,Int.toNat_natCast,ha,nD_len,nD_get,hset]
    rw [decide_eq_true (show (i:Int)<(o.length:Int) by omega),cond_true,if_pos (by omega),if_pos (by omega),if_pos (by omega),if_pos (by omega),if_pos (by omega),if_pos (by omega),if_pos (by omega),Uz (by omega),← hz]
    unfold gapP
    cases decide (f<(i:Int)) <;> cases decide ((i:Int)<u) <;> cases zeroA l o t i <;> rfl
   have hsucc:cnt (gapP l o t f u) (i+1)=cnt (gapP l o t f u) i+(bif gapP l o t f u i then 1 else 0):=rfl
   cases hq:gapP l o t f u i with
   | true=>
    rw [hq,cond_true] at hsucc
    obtain ⟨g',r1,r2,r3⟩:=ih (i+1) (e.set i (e.getD i 0+1)) (by omega) (by simpa using he) (by rw [sumN_set e i (by omega),hse,hsucc]; omega)
    refine ⟨g',r1,r2,fun m hm=>?_⟩
    obtain ⟨m,rfl⟩:∃ m',m=m'+1:=⟨m - 1,by omega⟩
    rw [step,hq,cond_true]
    exact r3 m (by omega)
   | false=>
    rw [hq,cond_false] at hsucc
    obtain ⟨g',r1,r2,r3⟩:=ih (i+1) e (by omega) he (by rw [hse,hsucc]; omega)
    refine ⟨g',r1,r2,fun m hm=>?_⟩
    obtain ⟨m,rfl⟩:∃ m',m=m'+1:=⟨m - 1,by omega⟩
    rw [step,hq,cond_false]
    exact r3 m (by omega)
 obtain ⟨g',r1,r2,r3⟩:=key o.length 0 g (by omega) hgl (by simp [cnt])
 exact ⟨g',r1,r2,Uv (f:=fun m=>n_Z48 m o (t:Int) f u c (t:Int) o o.length 0 l (nD g)) (o.length+1) (fun m hm=>r3 m (by omega))⟩
theorem sumOf_nD (g:List Nat) (hl:g.length≤1000) (hs:sumN g≤1000000):Z52 (nD g)=some ((sumN g:Nat):Int):=by
 have key:∀ k i m,i+k=g.length→k<m→n_Z51 m ((sumN (g.take i):Nat):Int) (nD g) g.length (i:Int)=some ((sumN g:Nat):Int):=by
  intro k
  induction k with
  | zero=>
   intro i m hi hm
   obtain ⟨m,rfl⟩:∃ m',m=m'+1:=⟨m - 1,by omega⟩
   obtain rfl:i=g.length:=by omega
   show c_Z51 (n_Z51 m) _ (nD g) g.length g.length some=_
   unfold c_Z51
   rw [decide_eq_false (by omega),cond_false,List.take_length]
  | succ k ih=>
   intro i m hi hm
   obtain ⟨m,rfl⟩:∃ m',m=m'+1:=⟨m - 1,by omega⟩
   have hil:i<g.length:=by omega
   have e1:sumN (g.take (i+1))=sumN (g.take i)+g.getD i 0:=by
    rw [List.take_succ_eq_append_getElem hil,List.getD_eq_getElem?_getD,List.getElem?_eq_getElem hil]
    have:∀ (a:List Nat) (x:Nat),sumN (a++[x])=sumN a+x:=by
     intro a x
     induction a with
     | nil=>simp [sumN]
     | cons y a ih=>simp only [sumN,List.cons_append,List.foldr_cons] at ih ⊢; omega
    exact this _ _
   have e2:sumN (g.take (i+1))≤sumN g:=by
    have:∀ (a:List Nat) (n:Nat),sumN (a.take n)≤sumN a:=by
     intro a
     induction a with
     | nil=>intro n; simp [sumN]
     | cons y a ih=>intro n; cases n with
      | zero=>simp [sumN]
      | succ n=>have:=ih n; simp only [sumN,List.take_succ_cons,List.foldr_cons] at this ⊢; omega
    exact this _ _
   show c_Z51 (n_Z51 m) _ (nD g) g.length i some=_
   unfold c_Z51
   simp only [Option.bind_fun_some,Int.toNat_natCast,nD_len,nD_get]
   rw [decide_eq_true (show (i:Int)<(g.length:Int) by omega),cond_true,if_pos (by omega),Uz (by omega),UH (by omega) (by omega)]
   have:=ih (i+1) m (by omega) (by omega)
   rw [e1] at this
   rw [show (((sumN (g.take i):Nat):Int)+((g.getD i 0:Nat):Int))=((sumN (g.take i)+g.getD i 0:Nat):Int) by omega]
   exact this
 have:Z51 0 (nD g) g.length 0=some ((sumN g:Nat):Int):=Uv (f:=fun m=>n_Z51 m 0 (nD g) g.length 0) (g.length+1) (fun m hm=>key g.length 0 m (by omega) (by omega))
 simp only [Z52,c_Z52,nD_len,this,Option.bind_some]
theorem gaps_same {l o:List D} (hg:GoodT l) (hn:o.length=l.length) (hr:∀ d∈o,0≤d.toInt∧d.toInt<l.length) :
  ∃ v:Nat,v≤1000∧Z25 l o=some (v:Int)∧Z53 l o=some (v:Int)∧∃ g:List Nat,g.length=o.length∧sumN g=v∧Z50 l o=some (nD g):=by
 have hn7:=hg.n7
 have hn1:=hg.n1
 have hc10:=hg.c10
 obtain ⟨c,hc⟩:∃ c,(l[0]?.getD (D.int 0)).items.length=c:=⟨_,rfl⟩
 have hc':(l.getD (Int.toNat 0) (D.int 0)).items.length=c:=by rw [List.getD_eq_getElem?_getD]; exact hc
 obtain ⟨y,y',h1,h2,v,g,hv,rfl,rfl,hgl,hgs⟩:=XZ (N:=fun m (x:Nat×List Nat)=>n_Z24 m o ((sumN x.2:Nat):Int) (x.1:Int) l) (N':=fun m (x:Nat×List Nat)=>n_Z49 m o (c:Int) (x.1:Int) l (nD x.2))
  (fun x=>x.1≤c∧x.2.length=o.length∧sumN x.2≤10 * x.1) (fun x=>c - x.1) (fun y y'=>∃ (v:Nat) (g:List Nat),v≤1000∧y=(v:Int)∧y'=nD g∧g.length=o.length∧sumN g=v) (by
   rintro ⟨t,e⟩ ⟨htc,hel,hes⟩
   simp only at htc hel hes
   by_cases hlt:t<c
   ·right
    obtain ⟨r,q1,q2,q3⟩:=range_post hg (by omega) hr (t:Int) (by omega) (by omega)
    obtain ⟨f,u⟩:=r
    have s1:=specGap7 hg hn hr (t:=t) (by omega) q3 (sumN e) (by omega)
    obtain ⟨g',r1,r2,r3⟩:=implGap7 hg hn hr (t:=t) (by omega) f u (c:Int) e hel (by omega)
    have hcl:=cnt_le (gapP l o t f u) o.length
    rw [← r2] at s1
    have hw:IntKind.i64.wrap ((t:Int)+1)=((t+1:Nat):Int):=Uz (by omega)
    refine ⟨(t+1,g'),⟨by simp only; omega,r1,by simp only; omega⟩,by simp only; omega,fun m=>⟨?_,?_⟩⟩
    ·show c_Z24 (n_Z24 m) o _ t l some=_
     unfold c_Z24
     simp only [Option.bind_fun_some,hc',q1,Option.bind_some,s1,hw]
     rw [if_pos (by omega),decide_eq_true (show (t:Int)<(c:Int) by omega),cond_true]
    ·show c_Z49 (n_Z49 m) o c t l (nD e) some=_
     unfold c_Z49
     simp only [Option.bind_fun_some,q2,Option.bind_some,r3,hw]
     rw [decide_eq_true (show (t:Int)<(c:Int) by omega),cond_true]
   ·left
    refine ⟨((sumN e:Nat):Int),nD e,⟨sumN e,e,by omega,rfl,rfl,hel,rfl⟩,fun m=>⟨?_,?_⟩⟩
    ·show c_Z24 (n_Z24 m) o _ t l some=_
     unfold c_Z24
     simp only [hc']
     rw [if_pos (by omega),decide_eq_false (by omega)]; rfl
    ·show c_Z49 (n_Z49 m) o c t l (nD e) some=_
     unfold c_Z49
     rw [decide_eq_false (by omega)]; rfl) (0,List.replicate o.length 0) ⟨by omega,by simp,by
    have:∀ n,sumN (List.replicate n 0)=0:=by
     intro n
     induction n with
     | zero=>rfl
     | succ n ih=>simp only [List.replicate_succ,sumN,List.foldr_cons] at ih ⊢; omega
    simp only [this]; omega⟩
 have z0:∀ n,sumN (List.replicate n 0)=0:=by
  intro n
  induction n with
  | zero=>rfl
  | succ n ih=>simp only [List.replicate_succ,sumN,List.foldr_cons] at ih ⊢; omega
 have zD:nD (List.replicate o.length 0)=List.replicate o.length (D.int 0):=by simp [nD]
 have k1:Z24 o 0 0 l=some (v:Int):=by
  have:=h1
  simp only [z0] at this
  exact this
 have k2:Z49 o (c:Int) 0 l (List.replicate o.length (D.int 0))=some (nD g):=by
  have:=h2
  simp only [zD] at this
  exact this
 have k3:Z50 l o=some (nD g):=by
  simp only [Z50,c_Z50,hc',Int.toNat_natCast,k2,Option.bind_some]
  rw [if_pos (by omega),if_pos (by omega)]
 refine ⟨v,hv,?_,?_,g,hgl,hgs,k3⟩
 ·simp only [Z25,c_Z25,k1,Option.bind_some]
 ·simp only [Z53,c_Z53,k3,Option.bind_some,sumOf_nD g (by omega) (by omega),hgs]
theorem len_sp {l o:List D} (hg:GoodT l) (ho:o.length≤1048576) (hr:∀ d∈o,0≤d.toInt∧d.toInt<l.length) :
  ∃ y,Z20 l o=some y:=by
 have key:∀ (m i:Nat) (s:Int),1≤i→i+m=o.length∨(o.length<i∧m=0)→∃ y,Z19 o s i l=some y:=by
  intro m
  induction m with
  | zero=>
   intro i s h1 h2
   refine ⟨s,?_⟩
   rw [Z19_fx]; unfold c_Z19
   rw [decide_eq_false (by omega)]; rfl
  | succ m ih=>
   intro i s h1 h2
   have hlt:i<o.length:=by omega
   have hp:IntKind.i64.wrap ((i:Int) - 1)=((i - 1:Nat):Int):=qO (by omega) (by omega)
   have hw:IntKind.i64.wrap ((i:Int)+1)=((i+1:Nat):Int):=Uz (by omega)
   have hd:=hr _ (VB hlt)
   have hd':=hr _ (VB (show i - 1<o.length by omega))
   obtain ⟨a,ha⟩:∃ a:Nat,(o.getD i (D.int 0)).toInt=(a:Int):=⟨((o.getD i (D.int 0)).toInt).toNat,by omega⟩
   obtain ⟨b,hb⟩:∃ b:Nat,(o.getD (i - 1) (D.int 0)).toInt=(b:Int):=⟨((o.getD (i - 1) (D.int 0)).toInt).toNat,by omega⟩
   obtain ⟨v,q1⟩:=dist_sp hg (a:=b) (b:=a) (by omega) (by omega)
   obtain ⟨y,hy⟩:=ih (i+1) (IntKind.i64.wrap (s+v)) (by omega) (by omega)
   refine ⟨y,?_⟩
   rw [Z19_fx]
   unfold c_Z19
   simp only [Option.bind_fun_some,Int.toNat_natCast,hw,hp,ha,hb,q1,Option.bind_some]
   rw [decide_eq_true (show (i:Int)<(o.length:Int) by omega),cond_true,if_pos (by omega),if_pos (by omega)]
   exact hy
 by_cases h0:o.length=0
 ·obtain ⟨y,hy⟩:=key 0 1 0 (by omega) (by omega)
  exact ⟨y,by simp only [Z20,c_Z20,show Z19 o 0 1 l=some y from hy,Option.bind_some]⟩
 ·obtain ⟨y,hy⟩:=key (o.length - 1) 1 0 (by omega) (by omega)
  exact ⟨y,by simp only [Z20,c_Z20,show Z19 o 0 1 l=some y from hy,Option.bind_some]⟩
def permL:Nat→List Nat→List (List Nat)
 | 0,_=>[[]]
 | m+1,l=>(List.range l.length).flatMap fun i=>(permL m (l.eraseIdx i)).map (fun p=>l.getD i 0::p)
def permF (m:Nat) (l:List Nat):Nat→Nat→List (List Nat)
 | 0,_=>[]
 | k+1,i=>(permL m (l.eraseIdx i)).map (fun p=>l.getD i 0::p)++permF m l k (i+1)
theorem permF_eq (m:Nat) (l:List Nat):∀ k i,permF m l k i=(List.range' i k).flatMap fun i=>(permL m (l.eraseIdx i)).map (fun p=>l.getD i 0::p)
 | 0,i=>rfl
 | k+1,i=>by rw [permF,permF_eq m l k (i+1),List.range'_succ,List.flatMap_cons]
theorem permL_succ (m:Nat) (l:List Nat):permL (m+1) l=permF m l l.length 0:=by rw [permF_eq,permL,List.range_eq_range']
theorem getD_lt {l:List Nat} {i:Nat} (h:i<l.length):l.getD i 0=l[i]:=by simp [List.getD_eq_getElem?_getD,h]
theorem perm_erase {l:List Nat} {i:Nat} (h:i<l.length):(l[i]::l.eraseIdx i).Perm l:=by
 induction l generalizing i with
 | nil=>simp at h
 | cons a l ih=>
  cases i with
  | zero=>simp
  | succ i=>
   have h':i<l.length:=by simpa using h
   have:=ih h'
   simp only [List.getElem_cons_succ,List.eraseIdx_cons_succ]
   exact (List.Perm.swap a l[i] _).trans (List.Perm.cons a this)
theorem permL_perm:∀ (m:Nat) (l:List Nat),l.length=m→∀ p∈permL m l,p.Perm l
 | 0,l,hl,p,hp=>by
  have:l=[]:=List.eq_nil_of_length_eq_zero hl
  subst this
  simp [permL] at hp
  subst hp
  exact List.Perm.refl _
 | m+1,l,hl,p,hp=>by
  rw [permL,List.mem_flatMap] at hp
  obtain ⟨i,hi,hp⟩:=hp
  rw [List.mem_range] at hi
  obtain ⟨q,hq,rfl⟩:=List.mem_map.1 hp
  have h1:=permL_perm m (l.eraseIdx i) (by rw [List.length_eraseIdx_of_lt hi]; omega) q hq
  rw [getD_lt hi]
  exact (List.Perm.cons _ h1).trans (perm_erase hi)
theorem permL_len (m:Nat) (l:List Nat) (hl:l.length=m):∀ p∈permL m l,p.length=m:=fun p hp=>(permL_perm m l hl p hp).length_eq.trans hl
theorem permL_count:∀ (m:Nat) (l:List Nat),l.length=m→(permL m l).length≤m ^ m
 | 0,l,_=>by simp [permL]
 | m+1,l,hl=>by
  rw [permL_succ]
  have key:∀ k i,i+k=l.length→(permF m l k i).length≤k * m ^ m:=by
   intro k
   induction k with
   | zero=>intro i _; simp [permF]
   | succ k ih=>
    intro i hi
    have h1:=permL_count m (l.eraseIdx i) (by rw [List.length_eraseIdx_of_lt (by omega)]; omega)
    have h2:=ih (i+1) (by omega)
    rw [permF,List.length_append,List.length_map,Nat.succ_mul]; omega
  have h:=key l.length 0 (by omega)
  refine Nat.le_trans h ?_
  rw [hl]
  rw [Nat.pow_succ,Nat.mul_comm]
  exact Nat.mul_le_mul_right _ (Nat.pow_le_pow_left (by omega) m)
section
variable {σ:Type} (step:σ→List Nat→σ)
def extS (n:Nat):Nat→List Nat→σ→σ
 | 0,o,s=>step s o
 | m+1,o,s=>(List.range n).foldl (fun s i=>if i∈o then s else extS n m (o++[i]) s) s
theorem foldl_skip {α:Type} (f:σ→α→σ) (p:α→Bool):∀ (l:List α) (s:σ),l.foldl (fun s i=>if p i then s else f s i) s=(l.filter (fun i=>!p i)).foldl f s
 | [],s=>rfl
 | a::l,s=>by
  rw [List.foldl_cons,List.filter_cons,foldl_skip f p l]
  cases p a <;> simp
theorem filter_erase {l:List Nat} (hn:l.Nodup) {i:Nat} (hi:i<l.length):l.filter (fun x=>!decide (x=l[i]))=l.eraseIdx i:=by
 induction l generalizing i with
 | nil=>simp at hi
 | cons a l ih=>
  rw [List.nodup_cons] at hn
  cases i with
  | zero=>
   simp only [List.getElem_cons_zero,List.eraseIdx_cons_zero,List.filter_cons,decide_true,Bool.not_true,Bool.false_eq_true,if_false]
   exact List.filter_eq_self.2 (fun x hx=>by
    have:¬ x=a:=fun e=>hn.1 (e ▸ hx)
    simp [this])
  | succ i=>
   have h':i<l.length:=by simpa using hi
   simp only [List.getElem_cons_succ,List.eraseIdx_cons_succ,List.filter_cons]
   have:¬ a=l[i]:=fun e=>hn.1 (e ▸ List.getElem_mem h')
   simp only [this,decide_false,Bool.not_false,if_true]
   rw [ih hn.2 h']
theorem extS_eq (n:Nat):∀ (m:Nat) (o:List Nat) (s:σ),((List.range n).filter (fun i=>!decide (i∈o))).length=m→extS step n m o s=(permL m ((List.range n).filter (fun i=>!decide (i∈o)))).foldl (fun s p=>step s (o++p)) s
 | 0,o,s,hm=>by rw [extS,permL]; simp
 | m+1,o,s,hm=>by
  rw [extS]
  have h1:=foldl_skip (fun s i=>extS step n m (o++[i]) s) (fun i=>decide (i∈o)) (List.range n) s
  simp only [decide_eq_true_eq] at h1
  rw [h1]
  generalize hR:(List.range n).filter (fun i=>!decide (i∈o))=R at hm ⊢
  have hnd:R.Nodup:=by rw [← hR]; exact List.nodup_range.filter _
  have hsub:∀ i (hi:i<R.length),(List.range n).filter (fun x=>!decide (x∈o++[R[i]]))=R.eraseIdx i:=by
   intro i hi
   rw [← filter_erase hnd hi]
   generalize hy:R[i]=y
   rw [← hR,List.filter_filter]
   refine List.filter_congr (fun x _=>?_)
   simp only [List.mem_append,List.mem_singleton]
   by_cases h1:x∈o <;> by_cases h2:x=y <;> simp [h1,h2]
  rw [permL_succ]
  have key:∀ k i s,i+k=R.length→(R.drop i).foldl (fun s i=>extS step n m (o++[i]) s) s=(permF m R k i).foldl (fun s p=>step s (o++p)) s:=by
   intro k
   induction k with
   | zero=>
    intro i s hi
    rw [List.drop_of_length_le (by omega)]; rfl
   | succ k ih=>
    intro i s hi
    have hil:i<R.length:=by omega
    rw [List.drop_eq_getElem_cons hil,List.foldl_cons,permF,List.foldl_append,ih (i+1) _ (by omega)]
    congr 1
    rw [extS_eq n m (o++[R[i]]) s (by rw [hsub i hil,List.length_eraseIdx_of_lt hil]; omega),hsub i hil,List.foldl_map,getD_lt hil]
    simp
  exact key R.length 0 s (by omega)
end
def PL (ps:List (List Nat)):List D:=ps.map (fun p=>D.node (nD p))
theorem PL_len {ps:List (List Nat)}:(PL ps).length=ps.length:=by simp [PL]
theorem PL_get {ps:List (List Nat)} {i:Nat} (h:i<ps.length):((PL ps).getD i (.int 0)).items=nD (ps.getD i []):=by
 rw [List.getD_eq_getElem?_getD,List.getD_eq_getElem?_getD,PL,List.getElem?_map,List.getElem?_eq_getElem h]; rfl
theorem clone16 (l:List D) (hl:l.length≤1000):Z41 l=some l:=by
 have h:([]:List D).length+l.length≤4294967296:=by simp; omega
 unfold Z41 c_Z41
 by_cases h1:1≤l.length
 ·rw [if_pos h1,if_pos h]; rfl
 ·have:l=[]:=List.eq_nil_of_length_eq_zero (by omega)
  subst this
  simp [C0]
theorem delete16 (o:List D) (ho:o.length≤1048576) {p:Nat} (hp:p<o.length):Z42 o p ((p+1:Nat):Int)=some (o.take p++o.drop (p+1)):=by
 unfold Z42 c_Z42
 have e1:List.take (o.length - (p+1)) (List.drop (p+1) o)=o.drop (p+1):=List.take_of_length_le (by rw [List.length_drop]; exact Nat.le_refl _)
 have e2:(o.drop (p+1)).length=o.length - (p+1):=List.length_drop
 have e3:p - 0+(o.drop (p+1)).length=o.length - 1:=by rw [e2]; omega
 rw [if_pos (by omega),if_pos (by omega),decide_eq_false (by omega),cond_false,if_pos (by omega),if_pos (by omega)]
 simp only [Int.toNat_natCast,e1,Nat.zero_add,Nat.sub_zero]
 simp only [Nat.sub_zero] at e3
 have e4:o.drop (p+(o.drop (p+1)).length)=o.drop (o.length - 1):=by rw [e3]
 have e5:(o.take p++o.drop (p+1)++o.drop (o.length - 1)).length=o.length:=by
  simp only [List.length_append,List.length_take,List.length_drop]; omega
 rw [if_pos (by omega),if_pos (by omega)]
 simp only [e3,e5,e4]
 rw [if_pos (by omega),if_pos (by omega)]
 have e6:(o.take p++o.drop (p+1)).length=o.length - 1:=by
  simp only [List.length_append,List.length_take,List.length_drop]; omega
 have e7:List.take (o.length - 1) (o.take p++o.drop (p+1)++o.drop (o.length - 1))=o.take p++o.drop (p+1):=by
  rw [List.take_append_of_le_length (by omega),List.take_of_length_le (by omega)]
 simp only [e7]
 rw [if_pos (by simp only [List.length_append,e6,List.length_replicate,List.length_drop,e5]; omega)]
 simp only [List.drop_zero]
 rw [List.append_assoc,List.take_append_of_le_length (by omega),List.take_of_length_le (by omega)]
theorem nD_erase (l:List Nat) (i:Nat):(nD l).take i++(nD l).drop (i+1)=nD (l.eraseIdx i):=by
 rw [List.eraseIdx_eq_take_drop_succ]; simp [nD,List.map_take,List.map_drop]
theorem pL9 (first:Nat) (x0 x2:List D) (x3 x4:Int) (qs:List (List Nat)) (hq:qs.length≤1000000) (hlen:∀ q∈qs,q.length≤100):∀ (m i:Nat) (acc:List (List Nat)),i+m=qs.length→acc.length+m≤4000000000 →
  Z43 x0 first x2 x3 x4 qs.length i (PL acc) (PL qs)=some (x0,x2,x3,x4,PL (acc++(qs.drop i).map (first::·))):=by
 intro m
 induction m with
 | zero=>
  intro i acc hi ha
  have:i=qs.length:=by omega
  subst this
  rw [Z43_fx]; unfold c_Z43; simp
 | succ m ih=>
  intro i acc hi ha
  have hil:i<qs.length:=by omega
  rw [Z43_fx]
  unfold c_Z43
  have h1:(i:Int)<qs.length:=by omega
  have h2:(i:Int)<(PL qs).length:=by rw [PL_len]; omega
  have h3:i+1≤(PL qs).length:=by rw [PL_len]; omega
  have hg:qs.getD i []=qs[i]:=by simp [List.getD_eq_getElem?_getD,hil]
  have hl:=hlen _ (List.getElem_mem hil)
  have h4:[D.int (first:Int)].length+(nD qs[i]).length≤4294967296:=by rw [nD_len]; simp; omega
  have h5:(PL acc).length+[D.node ([D.int (first:Int)]++nD qs[i])].length≤4294967296:=by rw [PL_len]; simp; omega
  have e:PL acc++[D.node ([D.int (first:Int)]++nD qs[i])]=PL (acc++[first::qs[i]]):=by simp [PL,nD]
  simp only [h1,h2,h3,decide_true,cond_true,Int.natCast_nonneg,and_self,if_true,Int.toNat_natCast,PL_get hil,hg,h4,h5,e,Uz (show i<4611686018427387904 by omega),Option.bind_fun_some]
  rw [ih (i+1) _ (by omega) (by simp; omega),List.drop_eq_getElem_cons hil,List.map_cons,List.append_assoc]
  rfl
theorem pL5 {G:List D→Option (List D)} (k:Nat) (hk:k≤6) (l:List Nat) (hl:l.length=k+1) (hG:∀ r:List Nat,r.length=k→G (nD r)=some (PL (permL k r))):∀ (m i:Nat) (acc:List (List Nat)),i+m=l.length→acc.length+m * 46656≤1000000 →
  Z44 G (nD l) (nD l) l.length i (PL acc)=some (PL (acc++permF k l m i)):=by
 intro m
 induction m with
 | zero=>
  intro i acc hi ha
  have:i=l.length:=by omega
  subst this
  rw [Z44_fx]; unfold c_Z44; simp [permF]
 | succ m ih=>
  intro i acc hi ha
  have hil:i<l.length:=by omega
  rw [Z44_fx]
  unfold c_Z44
  have h1:(i:Int)<l.length:=by omega
  have h2:(i:Int)<(nD l).length:=by rw [nD_len]; omega
  have hd:=delete16 (nD l) (by rw [nD_len]; omega) (p:=i) (by rw [nD_len]; exact hil)
  rw [nD_erase] at hd
  have hle:(l.eraseIdx i).length=k:=by rw [List.length_eraseIdx_of_lt hil]; omega
  have hcount:=permL_count k (l.eraseIdx i) hle
  have hpow:k ^ k≤46656:=by
   have h6:k ^ k≤6 ^ k:=Nat.pow_le_pow_left hk k
   have h66:6 ^ k≤6 ^ 6:=Nat.pow_le_pow_right (by omega) hk
   omega
  have h9:=pL9 (l.getD i 0) (nD l) (nD l) l.length i (permL k (l.eraseIdx i)) (by omega) (fun q hq=>by have:=permL_len k _ hle q hq; omega) (permL k (l.eraseIdx i)).length 0 acc (by omega) (by omega)
  have h9:Z43 (nD l) ((l.getD i 0:Nat):Int) (nD l) l.length i (permL k (l.eraseIdx i)).length 0 (PL acc) (PL (permL k (l.eraseIdx i)))=_:=h9
  simp only [h1,h2,decide_true,cond_true,Int.natCast_nonneg,and_self,if_true,Int.toNat_natCast,clone16 (nD l) (by rw [nD_len]; omega),Option.bind_some,Uz (show i<4611686018427387904 by omega),hd,hG _ hle,nD_get,PL_len,h9,List.drop_zero,Option.bind_fun_some]
  rw [Nat.succ_mul] at ha
  rw [ih (i+1) _ (by omega) (by simp; omega),permF,List.append_assoc]
theorem permsN:∀ (k m:Nat) (l:List Nat),l.length=k→k≤7→k<m→n_Z45 m (nD l)=some (PL (permL k l)):=by
 intro k
 induction k with
 | zero=>
  intro m l hl _ hm
  obtain ⟨m,rfl⟩:∃ m',m=m'+1:=⟨m - 1,by omega⟩
  have:l=[]:=List.eq_nil_of_length_eq_zero hl
  subst this
  rfl
 | succ k ih=>
  intro m l hl hk hm
  obtain ⟨m,rfl⟩:∃ m',m=m'+1:=⟨m - 1,by omega⟩
  show c_Z45 (n_Z45 m) (nD l) some=_
  unfold c_Z45
  have h0:¬ (l.length:Int)=0:=by omega
  have h5:=pL5 (G:=n_Z45 m) k (by omega) l hl (fun r hr=>ih m r hr (by omega) (by omega)) l.length 0 [] (by omega) (by simp; omega)
  have h5:Z44 (n_Z45 m) (nD l) (nD l) l.length 0 []=_:=h5
  simp only [h0,decide_false,cond_false,nD_len,h5,Option.bind_some,List.nil_append,permL_succ]
theorem perms_eq (l:List Nat) (hl:l.length≤7):Z45 (nD l)=some (PL (permL l.length l)):=
 Uv (f:=fun m=>n_Z45 m (nD l)) (l.length+1) (fun m hm=>permsN l.length m l rfl hl (by omega))
def stL (c:List Nat→Int) (s:List Nat×Int) (p:List Nat):List Nat×Int:=if c p<s.2 then (p,c p) else s
section
variable {t:List D} {c:List Nat→Int} {ps:List (List Nat)} (hc:∀ p∈ps,Z54 (nD p) t=some (c p)) (hne:∀ p∈ps,1≤p.length) (hl:ps.length≤1000000)
include hc hne hl
theorem lL10v:∀ (m i b:Nat),i+m=ps.length→b<ps.length→∃ b':Nat,Z55 t b (c (ps.getD b [])) ps.length i (PL ps)=some (b',c (ps.getD b' []),PL ps)∧b'<ps.length∧(ps.getD b' [],c (ps.getD b' []))=(ps.drop i).foldl (stL c) (ps.getD b [],c (ps.getD b [])):=by
 intro m
 induction m with
 | zero=>
  intro i b hi hb
  have:i=ps.length:=by omega
  subst this
  refine ⟨b,?_,hb,by simp⟩
  rw [Z55_fx]; unfold c_Z55; simp
 | succ m ih=>
  intro i b hi hb
  have hil:i<ps.length:=by omega
  have hg:ps.getD i []=ps[i]:=by simp [List.getD_eq_getElem?_getD,hil]
  have hgb:ps.getD b []=ps[b]:=by simp [List.getD_eq_getElem?_getD,hb]
  have h1:(i:Int)<ps.length:=by omega
  have h2:(i:Int)<(PL ps).length:=by rw [PL_len]; omega
  have h3:i+1≤(PL ps).length:=by rw [PL_len]; omega
  have h4:b+1≤(PL ps).length:=by rw [PL_len]; omega
  have h5:1≤(nD ps[b]).length:=by rw [nD_len]; exact hne _ (List.getElem_mem hb)
  rw [Z55_fx]
  unfold c_Z55
  simp only [h1,h2,h3,h4,decide_true,cond_true,Int.natCast_nonneg,and_self,if_true,Int.toNat_natCast,PL_get hil,hg,PL_get hb,hgb,h5,hc _ (List.getElem_mem hil),Option.bind_some,Uz (show i<4611686018427387904 by omega),Option.bind_fun_some]
  rw [List.drop_eq_getElem_cons hil,List.foldl_cons]
  by_cases hlt:c ps[i]<c ps[b]
  ·have e:stL c (ps[b],c ps[b]) ps[i]=(ps[i],c ps[i]):=if_pos hlt
   obtain ⟨b',q1,q2,q3⟩:=ih (i+1) i (by omega) hil
   rw [hg] at q1 q3
   simp only [hlt,decide_true,cond_true,e]
   exact ⟨b',q1,q2,q3⟩
  ·have e:stL c (ps[b],c ps[b]) ps[i]=(ps[b],c ps[b]):=if_neg hlt
   obtain ⟨b',q1,q2,q3⟩:=ih (i+1) b (by omega) hb
   rw [hgb] at q1 q3
   simp only [hlt,decide_false,cond_false,e]
   exact ⟨b',q1,q2,q3⟩
theorem lL10 (h0:0<ps.length):∃ b':Nat,Z56 t 0 ps.length 0 (PL ps)=some (.inl (b',c (ps.getD b' []),PL ps))∧b'<ps.length∧(ps.getD b' [],c (ps.getD b' []))=ps.tail.foldl (stL c) (ps.getD 0 [],c (ps.getD 0 [])):=by
 have hg:ps.getD 0 []=ps[0]:=by simp [List.getD_eq_getElem?_getD,h0]
 obtain ⟨b',q1,q2,q3⟩:=lL10v hc hne hl (ps.length - 1) 1 0 (by omega) h0
 rw [List.drop_one] at q3
 refine ⟨b',?_,q2,q3⟩
 have h1:(0:Int)<ps.length:=by omega
 have h2:(0:Int)<(PL ps).length:=by rw [PL_len]; omega
 have h3:0+1≤(PL ps).length:=by rw [PL_len]; omega
 have w1:IntKind.i64.wrap (0+1)=1:=by decide
 have z0:(0:Int).toNat=0:=rfl
 rw [hg] at q1
 have q1:Z55 t 0 (c ps[0]) ps.length 1 (PL ps)=_:=q1
 rw [Z56_fx]
 unfold c_Z56
 simp only [h1,h2,h3,decide_true,cond_true,Int.le_refl,and_self,if_true,z0,PL_get h0,hg,hc _ (List.getElem_mem h0),Option.bind_some,w1,q1]
end
theorem lL3 (t:List D) (n:Nat) (hn:n≤7):∀ (m i:Nat),i+m=n→Z40 t n i (nD (List.range i))=some (t,nD (List.range n)):=by
 intro m
 induction m with
 | zero=>
  intro i hi
  have:i=n:=by omega
  subst this
  rw [Z40_fx]; unfold c_Z40; simp
 | succ m ih=>
  intro i hi
  rw [Z40_fx]
  unfold c_Z40
  have h1:(i:Int)<n:=by omega
  have h2:(nD (List.range i)).length+[D.int (i:Int)].length≤4294967296:=by rw [nD_len]; simp; omega
  have e:nD (List.range i)++[D.int (i:Int)]=nD (List.range (i+1)):=by simp [nD,List.range_succ]
  simp only [h1,h2,decide_true,cond_true,if_true,e,Uz (show i<4611686018427387904 by omega),Option.bind_fun_some]
  exact ih (i+1) (by omega)
theorem permL_pos:∀ (m:Nat) (l:List Nat),l.length=m→0<(permL m l).length
 | 0,l,_=>by simp [permL]
 | m+1,l,hl=>by
  have h:=permL_pos m (l.eraseIdx 0) (by rw [List.length_eraseIdx_of_lt (by omega)]; omega)
  rw [permL_succ,hl,permF,List.length_append,List.length_map]; omega
def leastN (c:List Nat→Int) (n:Nat):List Nat×Int:=(permL n (List.range n)).tail.foldl (stL c) ((permL n (List.range n)).getD 0 [],c ((permL n (List.range n)).getD 0 []))
theorem foldl_in {α β:Type} {f:β→α→β} (I:β→Prop):∀ (l:List α) (b:β),I b→(∀ b,I b→∀ a∈l,I (f b a))→I (l.foldl f b)
 | [],b,h,_=>h
 | a::l,b,h,hs=>foldl_in I l (f b a) (hs b h a (by simp)) (fun b hb x hx=>hs b hb x (by simp [hx]))
theorem least_eq {t:List D} {c:List Nat→Int} {n:Nat} (h1:1≤n) (hn:n≤7) (hc:∀ p∈permL n (List.range n),Z54 (nD p) t=some (c p)):Z57 n t=some (nD (leastN c n).1,(leastN c n).2):=by
 have hr:(List.range n).length=n:=List.length_range
 have hcount:=permL_count n (List.range n) hr
 have hpow:n ^ n≤823543:=by
  have h6:n ^ n≤7 ^ n:=Nat.pow_le_pow_left hn n
  have h66:7 ^ n≤7 ^ 7:=Nat.pow_le_pow_right (by omega) hn
  omega
 have hp:=perms_eq (List.range n) (by rw [hr]; exact hn)
 rw [hr] at hp
 have h3:=lL3 t n hn n 0 (by omega)
 have h3:Z40 t n 0 []=_:=h3
 obtain ⟨b,q1,q2,q3⟩:=lL10 hc (fun p hp=>by rw [permL_len n _ hr p hp]; exact h1) (by omega) (permL_pos n _ hr)
 have h4:b+1≤(permL n (List.range n)).length:=by omega
 simp only [Z57,c_Z57,h3,Option.bind_some,hp,PL_len,q1,Sum.elim_inl,h4,if_true,PL_get q2]
 unfold leastN
 rw [← q3]
theorem hasN_eq (o:List Nat) (i:Nat) (ho:o.length≤1000):Z27 (nD o) i=some (decide (i∈o)):=by
 have key:∀ (m j:Nat),j+m=o.length→Z26 (nD o) i j=some (if i∈o.drop j then .inl true else .inr ()):=by
  intro m
  induction m with
  | zero=>
   intro j hj
   have:j=o.length:=by omega
   subst this
   rw [Z26_fx]; unfold c_Z26; simp [nD_len]
  | succ m ih=>
   intro j hj
   have hjl:j<o.length:=by omega
   rw [Z26_fx]
   unfold c_Z26
   have h1:(j:Int)<(nD o).length:=by rw [nD_len]; omega
   simp only [h1,decide_true,cond_true,Int.natCast_nonneg,and_self,if_true,Int.toNat_natCast,nD_get,getD_lt hjl,Uz (show j<4611686018427387904 by omega),Option.bind_fun_some]
   rw [List.drop_eq_getElem_cons hjl]
   by_cases e:o[j]=i
   ·have e':((o[j]:Nat):Int)=(i:Int):=by omega
    have e3:i∈o[j]::o.drop (j+1):=by rw [e]; exact List.mem_cons_self
    rw [if_pos e3]
    simp only [e',decide_true,cond_true]
   ·have e':¬ ((o[j]:Nat):Int)=(i:Int):=by omega
    have e2:¬ i=o[j]:=fun h=>e h.symm
    simp only [e',decide_false,cond_false,ih (j+1) (by omega),List.mem_cons,e2,false_or]
 have h:=key o.length 0 (by omega)
 have h:Z26 (nD o) i 0=_:=h
 simp only [Z27,c_Z27,h,Option.bind_some,List.drop_zero]
 by_cases hm:i∈o <;> simp [hm]
def stS (c:List Nat→Int) (s:List Nat×Int) (p:List Nat):List Nat×Int:=if s.1.length=0 then (p,c p) else if c p<s.2 then (p,c p) else s
section
variable {t:List D} {g:Bool} {c:List Nat→Int} {n:Nat} (hn:n≤7) (ht:t.length=n)
 (hc:∀ p:List Nat,p.length=n→(∀ x∈p,x<n)→∀ s:List Nat×Int,c_Z30 (fun _ _ _ _ _=>none) t g (nD s.1) s.2 (nD p) some=some (t,g,nD (stS c s p).1,(stS c s p).2))
include hn ht hc
theorem extN:∀ (k m:Nat) (o:List Nat) (s:List Nat×Int),o.length+k=n→o.Nodup→(∀ x∈o,x<n)→k<m→n_Z30 m t g (nD s.1) s.2 (nD o)=some (t,g,nD (extS (stS c) n k o s).1,(extS (stS c) n k o s).2):=by
 intro k
 induction k with
 | zero=>
  intro m o s ho hnd hlt hm
  obtain ⟨m,rfl⟩:∃ m',m=m'+1:=⟨m - 1,by omega⟩
  have h:=hc o (by omega) hlt s
  show c_Z30 (n_Z30 m) t g (nD s.1) s.2 (nD o) some=_
  have hlen:((nD o).length:Int)=(t.length:Int):=by rw [nD_len]; omega
  unfold c_Z30 at h ⊢
  simp only [hlen,decide_true,cond_true] at h ⊢
  exact h
 | succ k ih=>
  intro m o s ho hnd hlt hm
  obtain ⟨m,rfl⟩:∃ m',m=m'+1:=⟨m - 1,by omega⟩
  have key:∀ (r i:Nat) (s:List Nat×Int),i+r=n→Z29 (n_Z30 m) n i t g (nD s.1) s.2 (nD o)=some (t,g,nD (((List.range' i r).foldl (fun s i=>if i∈o then s else extS (stS c) n k (o++[i]) s) s).1),(((List.range' i r).foldl (fun s i=>if i∈o then s else extS (stS c) n k (o++[i]) s) s).2)):=by
   intro r
   induction r with
   | zero=>
    intro i s hi
    have:i=n:=by omega
    subst this
    rw [Z29_fx]; unfold c_Z29; simp
   | succ r ihr=>
    intro i s hi
    have hin:i<n:=by omega
    rw [Z29_fx]
    unfold c_Z29
    have h1:(i:Int)<n:=by omega
    have h2:([]:List D).length+(nD o).length≤4294967296:=by rw [nD_len]; simp; omega
    have hown:Z28 (nD o)=some (nD o):=by
     simp only [Z28,c_Z28,if_pos h2,List.nil_append]
    have h3:(nD o).length+[D.int (i:Int)].length≤4294967296:=by rw [nD_len]; simp; omega
    have e:nD o++[D.int (i:Int)]=nD (o++[i]):=by simp [nD]
    rw [List.range'_succ,List.foldl_cons]
    simp only [h1,decide_true,cond_true,hasN_eq o i (by omega),Option.bind_some,Uz (show i<4611686018427387904 by omega),Option.bind_fun_some]
    by_cases hm2:i∈o
    ·simp only [hm2,decide_true,Bool.not_true,cond_false,if_true]
     exact ihr (i+1) s (by omega)
    ·have hi2:=ih m (o++[i]) s (by simp; omega) (List.nodup_append.2 ⟨hnd,by simp,fun a ha b hb=>by
      simp only [List.mem_singleton] at hb
      subst hb
      intro e2; subst e2; exact hm2 ha⟩) (fun x hx=>by
      rcases List.mem_append.1 hx with h | h
      ·exact hlt x h
      ·simp only [List.mem_singleton] at h; omega) (by omega)
     simp only [hm2,decide_false,Bool.not_false,cond_true,if_false,hown,Option.bind_some,h3,if_true,e,hi2]
     exact ihr (i+1) _ (by omega)
  have h9:=key n 0 s (by omega)
  rw [← List.range_eq_range'] at h9
  have h9:Z29 (n_Z30 m) n 0 t g (nD s.1) s.2 (nD o)=_:=h9
  show c_Z30 (n_Z30 m) t g (nD s.1) s.2 (nD o) some=_
  unfold c_Z30
  have hlen:¬ ((nD o).length:Int)=(n:Int):=by rw [nD_len]; omega
  have hti:(t.length:Int)=(n:Int):=by omega
  simp only [hlen,decide_false,cond_false,hti,h9,Option.bind_some]
  rfl
omit hc in
theorem fold_same (h1:1≤n):(permL n (List.range n)).foldl (stS c) ([],0)=leastN c n:=by
 have hr:(List.range n).length=n:=List.length_range
 have hpos:=permL_pos n _ hr
 have hall:=permL_len n (List.range n) hr
 unfold leastN
 generalize permL n (List.range n)=ps at hpos hall ⊢
 cases ps with
 | nil=>simp at hpos
 | cons p ps=>
  rw [List.foldl_cons]
  have e:stS c ([],0) p=(p,c p):=by simp [stS]
  rw [e]
  have e0:(p::ps).getD 0 []=p:=rfl
  rw [e0,List.tail_cons]
  have key:∀ (l:List (List Nat)) (s:List Nat×Int),s.1.length=n→(∀ q∈l,q.length=n)→l.foldl (stS c) s=l.foldl (stL c) s:=by
   intro l
   induction l with
   | nil=>intro s _ _; rfl
   | cons q l ih=>
    intro s hs hq
    have e1:stS c s q=stL c s q:=by
     unfold stS stL
     rw [if_neg (by omega)]
    rw [List.foldl_cons,List.foldl_cons,e1]
    refine ih _ ?_ (fun x hx=>hq x (by simp [hx]))
    unfold stL
    split
    ·exact hq q (by simp)
    ·exact hs
  exact key ps (p,c p) (hall p (by simp)) (fun q hq=>hall q (by simp [hq]))
theorem sBest_eq (h1:1≤n):Z31 t g=some (nD (leastN c n).1,(leastN c n).2):=by
 have hx:=extS_eq (stS c) n n [] ([],0) (by rw [List.filter_eq_self.2 (by simp)]; exact List.length_range)
 have hf:(List.range n).filter (fun i=>!decide (i∈([]:List Nat)))=List.range n:=List.filter_eq_self.2 (by simp)
 rw [hf] at hx
 simp only [List.nil_append] at hx
 have he:Z30 t g (nD []) 0 (nD [])=some (t,g,nD (extS (stS c) n n [] ([],0)).1,(extS (stS c) n n [] ([],0)).2):=
  Uv (f:=fun m=>n_Z30 m t g (nD []) 0 (nD [])) (n+1) (fun m hm=>extN hn ht hc n m [] ([],0) (by simp) List.nodup_nil (by simp) (by omega))
 have he:Z30 t g [] 0 []=_:=he
 simp only [Z31,c_Z31,he,Option.bind_some,hx,fold_same hn ht h1]
end
theorem leastN_len (c:List Nat→Int) (n:Nat):(leastN c n).1.length=n:=by
 have hr:(List.range n).length=n:=List.length_range
 have hpos:=permL_pos n _ hr
 have hall:=permL_len n (List.range n) hr
 unfold leastN
 generalize permL n (List.range n)=ps at hpos hall ⊢
 refine foldl_in (fun s:List Nat×Int=>s.1.length=n) ps.tail _ ?_ (fun s hs q hq=>?_)
 ·cases ps with
  | nil=>simp at hpos
  | cons p ps=>exact hall p (by simp)
 ·unfold stL
  split
  ·exact hall q (List.mem_of_mem_tail hq)
  ·exact hs
def markd (cell:Int→D) (c:Int) (n:Nat):List D:=(List.range n).map (fun (i:Nat)=>cell (1+c * (i:Int)))
theorem markd_len {cell:Int→D} {c:Int} {n:Nat}:(markd cell c n).length=n:=by simp [markd]
theorem markd_get {cell:Int→D} {c:Int} {n i:Nat} (h:i<n):(markd cell c n)[i]?.getD (.int 0)=cell (1+c * (i:Int)):=by
 simp [markd,h]
theorem mark_loop {N:Nat→Int→Int→List D→Option (Int×List D)} {n:Nat} {c:Int} {cell:Int→D}
  (hs:∀ m (i:Nat) acc,i<n→acc.length=n→N (m+1) (1+c * (i:Int)) (i:Int) acc=N m (1+c * ((i+1:Nat):Int)) ((i+1:Nat):Int) (acc.set i (cell (1+c * (i:Int)))))
  (he:∀ m acc,acc.length=n→N (m+1) (1+c * (n:Int)) (n:Int) acc=some (1+c * (n:Int),acc)) {l:List D} (hl:l.length=n) :
  ev (fun m=>N m 1 0 l)=some (1+c * (n:Int),markd cell c n):=by
 have key:∀ k,∀ m (i:Nat) acc,i+k=n→k<m→acc.length=n→acc.take i=(markd cell c n).take i→N m (1+c * (i:Int)) (i:Int) acc=some (1+c * (n:Int),markd cell c n):=by
  intro k
  induction k with
  | zero=>
   intro m i acc h1 h2 h3 h4
   obtain ⟨m,rfl⟩:∃ m',m=m'+1:=⟨m - 1,by omega⟩
   have hi:i=n:=by omega
   subst hi
   rw [he m acc h3]
   rw [List.take_of_length_le (by omega),List.take_of_length_le (by rw [markd_len]; exact Nat.le_refl _)] at h4
   rw [h4]
  | succ k ih=>
   intro m i acc h1 h2 h3 h4
   obtain ⟨m,rfl⟩:∃ m',m=m'+1:=⟨m - 1,by omega⟩
   rw [hs m i acc (by omega) h3]
   refine ih m (i+1) _ (by omega) (by omega) (by simpa using h3) ?_
   have hi:i<(markd cell c n).length:=by rw [markd_len]; omega
   rw [List.take_succ_eq_append_getElem (by simp; omega),List.take_succ_eq_append_getElem hi]
   rw [List.take_set_of_le (by omega),h4]
   simp [markd]
 have:=Uv (f:=fun m=>N m 1 0 l) (n+1) (fun m hm=>by
  have:=key n m 0 l (by omega) (by omega) hl (by simp)
  simpa using this)
 exact this
theorem held_loop {X:Type} {N:Nat→Int→Int→Option X} {n:Nat} {c:Int} {x:X}
  (hs:∀ m (i:Nat),i<n→N (m+1) (1+c * (i:Int)) (i:Int)=N m (1+c * ((i+1:Nat):Int)) ((i+1:Nat):Int))
  (he:∀ m,N (m+1) (1+c * (n:Int)) (n:Int)=some x):ev (fun m=>N m 1 0)=some x:=by
 have key:∀ k,∀ m (i:Nat),i+k=n→k<m→N m (1+c * (i:Int)) (i:Int)=some x:=by
  intro k
  induction k with
  | zero=>
   intro m i h1 h2
   obtain ⟨m,rfl⟩:∃ m',m=m'+1:=⟨m - 1,by omega⟩
   have hi:i=n:=by omega
   subst hi
   exact he m
  | succ k ih=>
   intro m i h1 h2
   obtain ⟨m,rfl⟩:∃ m',m=m'+1:=⟨m - 1,by omega⟩
   rw [hs m i (by omega)]
   exact ih m (i+1) (by omega) (by omega)
 exact Uv (f:=fun m=>N m 1 0) (n+1) (fun m hm=>by
  have:=key n m 0 (by omega) (by omega)
  simpa using this)
def markd2 (cell:Int→D) (k0:Int) (n:Nat):List D:=(List.range n).map (fun (i:Nat)=>cell (k0+(i:Int)))
theorem markd2_len {cell:Int→D} {k0:Int} {n:Nat}:(markd2 cell k0 n).length=n:=by simp [markd2]
theorem markd2_get {cell:Int→D} {k0:Int} {n i:Nat} (h:i<n):(markd2 cell k0 n)[i]?.getD (.int 0)=cell (k0+(i:Int)):=by
 simp [markd2,h]
theorem mark_loop2 {N:Nat→Int→Int→List D→Option (Int×List D)} {n:Nat} {k0:Int} {cell:Int→D}
  (hs:∀ m (i:Nat) acc,i<n→acc.length=n→N (m+1) (k0+(i:Int)) (i:Int) acc=N m (k0+((i+1:Nat):Int)) ((i+1:Nat):Int) (acc.set i (cell (k0+(i:Int)))))
  (he:∀ m acc,acc.length=n→N (m+1) (k0+(n:Int)) (n:Int) acc=some (k0+(n:Int),acc)) {l:List D} (hl:l.length=n) :
  ev (fun m=>N m k0 0 l)=some (k0+(n:Int),markd2 cell k0 n):=by
 have key:∀ k,∀ m (i:Nat) acc,i+k=n→k<m→acc.length=n→acc.take i=(markd2 cell k0 n).take i→N m (k0+(i:Int)) (i:Int) acc=some (k0+(n:Int),markd2 cell k0 n):=by
  intro k
  induction k with
  | zero=>
   intro m i acc h1 h2 h3 h4
   obtain ⟨m,rfl⟩:∃ m',m=m'+1:=⟨m - 1,by omega⟩
   have hi:i=n:=by omega
   subst hi
   rw [he m acc h3]
   rw [List.take_of_length_le (by omega),List.take_of_length_le (by rw [markd2_len]; exact Nat.le_refl _)] at h4
   rw [h4]
  | succ k ih=>
   intro m i acc h1 h2 h3 h4
   obtain ⟨m,rfl⟩:∃ m',m=m'+1:=⟨m - 1,by omega⟩
   rw [hs m i acc (by omega) h3]
   refine ih m (i+1) _ (by omega) (by omega) (by simpa using h3) ?_
   have hi:i<(markd2 cell k0 n).length:=by rw [markd2_len]; omega
   rw [List.take_succ_eq_append_getElem (by simp; omega),List.take_succ_eq_append_getElem hi]
   rw [List.take_set_of_le (by omega),h4]
   simp [markd2]
 have:=Uv (f:=fun m=>N m k0 0 l) (n+1) (fun m hm=>by
  have:=key n m 0 l (by omega) (by omega) hl (by simp)
  simpa using this)
 exact this
theorem held_loop2 {X:Type} {N:Nat→Int→Int→Option X} {n:Nat} {k0:Int} {x:X}
  (hs:∀ m (i:Nat),i<n→N (m+1) (k0+(i:Int)) (i:Int)=N m (k0+((i+1:Nat):Int)) ((i+1:Nat):Int))
  (he:∀ m,N (m+1) (k0+(n:Int)) (n:Int)=some x):ev (fun m=>N m k0 0)=some x:=by
 have key:∀ k,∀ m (i:Nat),i+k=n→k<m→N m (k0+(i:Int)) (i:Int)=some x:=by
  intro k
  induction k with
  | zero=>
   intro m i h1 h2
   obtain ⟨m,rfl⟩:∃ m',m=m'+1:=⟨m - 1,by omega⟩
   have hi:i=n:=by omega
   subst hi
   exact he m
  | succ k ih=>
   intro m i h1 h2
   obtain ⟨m,rfl⟩:∃ m',m=m'+1:=⟨m - 1,by omega⟩
   rw [hs m i (by omega)]
   exact ih m (i+1) (by omega) (by omega)
 exact Uv (f:=fun m=>N m k0 0) (n+1) (fun m hm=>by
  have:=key n m 0 (by omega) (by omega)
  simpa using this)
def intsFrom (k:Int) (n:Nat):List D:=(List.range n).map (fun (i:Nat)=>.int (k+(i:Int)))
theorem intsFrom_len {k:Int} {n:Nat}:(intsFrom k n).length=n:=by simp [intsFrom]
theorem intsFrom_get {k:Int} {n i:Nat} (h:i<n):(intsFrom k n)[i]?.getD (.int 0)=.int (k+(i:Int)):=by simp [intsFrom,h]
theorem markIntS_k (l:List D) (k0:Int) (hk:0≤k0∧k0≤4611686018427387904) (hl:l.length≤1048576):Z65 l k0=some (k0+(l.length:Int),intsFrom k0 l.length):=by
 have key:Z64 k0 0 l=some (k0+(l.length:Int),markd2 (fun k=>.int k) k0 l.length):=by
  refine mark_loop2 (N:=n_Z64) (fun m i acc hi hacc=>?_) (fun m acc hacc=>?_) rfl
  ·have hw:IntKind.i64.wrap ((i:Int)+1)=(i:Int)+1:=UH (by omega) (by omega)
   have w1:IntKind.i64.wrap (k0+(i:Int)+1)=k0+((i:Int)+1):=by rw [UH (by omega) (by omega)]; omega
   have h2:(i:Int)<acc.length:=by omega
   have h3:i+1≤acc.length:=by omega
   simp [n_Z64,c_Z64,h2,h3,hw,w1]
  ·have h1:¬ (l.length:Int)<acc.length:=by omega
   simp [n_Z64,c_Z64,h1]
 simp only [Z65,c_Z65,key,Option.bind_some]
 rfl
theorem heldIntS_k (n:Nat) (k0:Int) (hk:0≤k0∧k0≤4611686018427387904) (hn:n≤1048576):Z70 (intsFrom k0 n) k0=some (k0+(n:Int)):=by
 have key:Z69 (intsFrom k0 n) k0 0=some (.inr (k0+(n:Int))):=by
  refine held_loop2 (n:=n) (N:=fun m k i=>n_Z69 m (intsFrom k0 n) k i) (fun m i hi=>?_) (fun m=>?_)
  ·have hw:IntKind.i64.wrap ((i:Int)+1)=(i:Int)+1:=UH (by omega) (by omega)
   have w1:IntKind.i64.wrap (k0+(i:Int)+1)=k0+((i:Int)+1):=by rw [UH (by omega) (by omega)]; omega
   have h2:(i:Int)<n:=by omega
   simp [n_Z69,c_Z69,intsFrom_len,h2,hw,w1,intsFrom_get hi,KQ]
  ·simp [n_Z69,c_Z69,intsFrom_len]
 simp only [Z70,c_Z70,key,Option.bind_some,Sum.elim_inr]
def mkSS (k:Int):List D→List D
 | []=>[]
 | d::l=>.node (intsFrom k d.items.length)::mkSS (k+(d.items.length:Int)) l
def totSS:List D→Nat
 | []=>0
 | d::l=>d.items.length+totSS l
theorem mkSS_len:∀ (l:List D) (k:Int),(mkSS k l).length=l.length
 | [],_=>rfl
 | d::l,k=>by simp [mkSS,mkSS_len l]
theorem mkSS_get:∀ (l:List D) (k:Int) (i:Nat),i<l.length→(mkSS k l)[i]?.getD (.int 0)=.node (intsFrom (k+(totSS (l.take i):Int)) (l[i]?.getD (.int 0)).items.length)
 | [],_,_,h=>by simp at h
 | d::l,k,0,_=>by simp [mkSS,totSS]
 | d::l,k,i+1,h=>by
  have:=mkSS_get l (k+(d.items.length:Int)) i (by simpa using h)
  simp only [mkSS,List.getElem?_cons_succ,List.take_succ_cons,totSS]
  rw [this]
  congr 2
  omega
theorem totSS_succ:∀ (l:List D) (i:Nat),i<l.length→totSS (l.take (i+1))=totSS (l.take i)+(l[i]?.getD (.int 0)).items.length
 | [],_,h=>by simp at h
 | d::l,0,_=>by simp [totSS]
 | d::l,i+1,h=>by
  have:=totSS_succ l i (by simpa using h)
  simp only [List.take_succ_cons,totSS,List.getElem?_cons_succ] at this ⊢
  omega
theorem totSS_le:∀ (l:List D) (i:Nat),(∀ d∈l,d.items.length≤1048576)→totSS (l.take i)≤i * 1048576
 | l,0,_=>by simp [totSS]
 | [],i+1,_=>by simp [totSS]
 | d::l,i+1,h=>by
  have:=totSS_le l i (fun x hx=>h x (by simp [hx]))
  have h1:=h d (by simp)
  simp only [List.take_succ_cons,totSS,Nat.succ_mul]
  omega
theorem markIntSS_k (l:List D) (hl:l.length≤1048576) (hi:∀ d∈l,d.items.length≤1048576):Z67 l 1=some (1+(totSS l:Int),mkSS 1 l):=by
 obtain ⟨y,h1,h2⟩:=NL (N:=fun m (s:Nat×List D)=>n_Z66 m (1+(totSS (l.take s.1):Int)) (s.1:Int) s.2) (fun s=>s.1≤l.length∧s.2=(mkSS 1 l).take s.1++l.drop s.1) (fun s=>l.length - s.1)
  (fun s y=>y=(1+(totSS l:Int),mkSS 1 l)) (by
  rintro ⟨i,acc⟩ ⟨hi1,hacc⟩
  simp only at hi1 hacc ⊢
  have hlen:acc.length=l.length:=by rw [hacc]; simp [mkSS_len]; omega
  by_cases hlt:i<l.length
  ·refine .inr ⟨(i+1,(mkSS 1 l).take (i+1)++l.drop (i+1)),⟨by simp; omega,rfl⟩,by simp; omega,fun y hy=>hy,fun m=>?_⟩
   have hw:IntKind.i64.wrap ((i:Int)+1)=((i+1:Nat):Int):=Uz (by omega)
   have h2:(i:Int)<acc.length:=by omega
   have h3:i+1≤acc.length:=by omega
   have hgd:acc[i]?.getD (.int 0)=l[i]?.getD (.int 0):=by
    rw [hacc,List.getElem?_append_right (by simp [mkSS_len]; omega)]
    simp only [List.length_take,mkSS_len,List.getElem?_drop]
    congr 2
    omega
   have hb:=totSS_le l i hi
   have hm:=markIntS_k (l[i]?.getD (.int 0)).items (1+(totSS (l.take i):Int)) (by omega) (hi _ (VC hlt))
   have hset:acc.set i (.node (intsFrom (1+(totSS (l.take i):Int)) (l[i]?.getD (.int 0)).items.length))=(mkSS 1 l).take (i+1)++l.drop (i+1):=by
    have hlt2:i<(mkSS 1 l).length:=by rw [mkSS_len]; exact hlt
    have hg:=mkSS_get l 1 i hlt
    rw [List.getElem?_eq_getElem hlt2] at hg
    simp only [Option.getD_some] at hg
    rw [hacc,List.set_append_right _ _ (by simp [mkSS_len]; omega),List.take_succ_eq_append_getElem hlt2,hg]
    have:i - (List.take i (mkSS 1 l)).length=0:=by simp [mkSS_len]; omega
    rw [this,NM hlt]
    simp
   simp only [n_Z66,c_Z66,h2,h3,decide_true,cond_true,Int.natCast_nonneg,and_self,if_true,Int.toNat_natCast,List.getD_eq_getElem?_getD,hgd,hm,Option.bind_some,hw,hset,totSS_succ l i hlt]
   rw [show (1:Int)+(totSS (List.take i l):Int)+((l[i]?.getD (D.int 0)).items.length:Int)=1+((totSS (List.take i l)+(l[i]?.getD (D.int 0)).items.length:Nat):Int) by omega]
   cases n_Z66 m (1+((totSS (List.take i l)+(l[i]?.getD (D.int 0)).items.length:Nat):Int)) ((i+1:Nat):Int) ((mkSS 1 l).take (i+1)++l.drop (i+1)) <;> rfl
  ·have hi':i=l.length:=by omega
   subst hi'
   have h2:¬ (l.length:Int)<acc.length:=by omega
   refine .inl ⟨_,rfl,fun m=>?_⟩
   simp only [n_Z66,c_Z66,h2,decide_false,cond_false]
   rw [hacc,List.take_of_length_le (Nat.le_refl _),List.take_of_length_le (by rw [mkSS_len]; exact Nat.le_refl _),List.drop_of_length_le (Nat.le_refl _),List.append_nil]) (0,l) ⟨by simp,by simp⟩
 simp only [List.take_zero,totSS] at h1
 have h1':Z66 1 0 l=some y:=by show ev _=_; simpa using h1
 subst h2
 simp only [Z67,c_Z67,h1',Option.bind_some]
theorem markTable_ok (l:List D) (hl:l.length≤1048576) (hr:∀ d∈l,d.items.length≤1048576):∃ (k:Int) (l':List D),Z68 l 1=some (k,l')∧0≤k:=
 ⟨1+(totSS l:Int),mkSS 1 l,by simp only [Z68,c_Z68,markIntSS_k l hl hr,Option.bind_some],by omega⟩
noncomputable def costG (t:List D) (p:List Nat):Int:=(Z25 t (nD p)).getD 0
theorem nD_rng {n:Nat} {p:List Nat} (h:∀ x∈p,x<n):∀ d∈nD p,0≤d.toInt∧d.toInt<(n:Int):=by
 intro d hd
 obtain ⟨x,hx,rfl⟩:=List.mem_map.1 hd
 have:=h x hx
 simp only [KQ]; omega
theorem bo_same (l:List D):∃ y,Z32 l=some y∧Z58 l=some y∧y.1.length≤1048576:=by
 obtain ⟨b,h1,h2,h3⟩:=table_good l
 simp only [Z32,c_Z32,Z58,c_Z58,h1,h2,Option.bind_some]
 cases b with
 | false=>exact ⟨_,rfl,rfl,by simp⟩
 | true=>
  have hg:=h3 rfl
  have hn7:=hg.n7
  have hn1:=hg.n1
  have cost:∀ p:List Nat,p.length=l.length→(∀ x∈p,x<l.length)→Z25 l (nD p)=some (costG l p)∧Z53 l (nD p)=some (costG l p)∧∃ y,Z20 l (nD p)=some y:=by
   intro p hp hx
   obtain ⟨v,_,q1,q2,_⟩:=gaps_same hg (o:=nD p) (by rw [nD_len]; exact hp) (nD_rng hx)
   obtain ⟨y,q3⟩:=len_sp hg (o:=nD p) (by rw [nD_len]; omega) (nD_rng hx)
   refine ⟨?_,?_,y,q3⟩
   ·unfold costG; rw [q1]; rfl
   ·unfold costG; rw [q1,q2]; rfl
  have hr:(List.range l.length).length=l.length:=List.length_range
  have hi:=least_eq (t:=l) (c:=costG l) hn1 hn7 (fun p hp=>by
   have hpp:=permL_perm l.length _ hr p hp
   obtain ⟨_,q2,_⟩:=cost p (by rw [hpp.length_eq,hr]) (fun x hx=>List.mem_range.1 ((hpp.mem_iff).1 hx))
   simp only [Z54,c_Z54,q2,Option.bind_some])
  have hs:=sBest_eq (t:=l) (g:=true) (c:=costG l) hn7 rfl (fun p hp hx s=>by
   obtain ⟨q1,_,y,q3⟩:=cost p hp hx
   have hlen:(p.length:Int)=(l.length:Int):=by omega
   unfold c_Z30 stS
   simp only [nD_len,hlen,decide_true,cond_true,q3,Option.bind_some,q1]
   by_cases e:s.1.length=0
   ·have e':(s.1.length:Int)=0:=by omega
    simp only [e',e,decide_true,cond_true,if_true]
    rfl
   ·have e':¬ (s.1.length:Int)=0:=by omega
    by_cases hlt:costG l p<s.2
    ·simp only [e,e',hlt,decide_true,decide_false,cond_true,cond_false,if_true,if_false]
    ·simp only [e,e',hlt,decide_false,cond_false,if_false]) hn1
  simp only [Bool.not_true,cond_false,hi,hs,Option.bind_some]
  exact ⟨_,rfl,rfl,by simp only [nD_len,leastN_len]; omega⟩
theorem pure_FnExactBestOrder (x0:List D) (h0:x0.length≤maxLen) (w0:∀ d∈x0,wfD (.slice (.int .i64)) d):Z71 x0=some true:=by
 obtain ⟨v,hv,hv2⟩:=szTable_eq x0 h0 w0
 by_cases hneg:v<0
 ·simp [Z71,c_Z71,hv,hneg]
 ·obtain ⟨hl,hr⟩:=hv2.resolve_left hneg
  obtain ⟨y,hb1,hb2,hb3⟩:=bo_same x0
  obtain ⟨k1,l1,e1,e1'⟩:=markTable_ok x0 hl hr
  have e3:¬ k1<0:=by omega
  have e4:=markIntS_k y.1 1 (by omega) hb3
  have e5:=heldIntS_k y.1.length 1 (by omega) hb3
  have e6:¬ (1+(y.1.length:Int))<0:=by omega
  simp [Z71,c_Z71,hv,hneg,toTable_id x0 hl w0 hr,hb1,hb2,eqTable_self x0 hl hr,eqIntS_self y.1 hb3,e1,e3,e4,e5,e6]
end Go.Proofs.Ytkanhbelkdpmbaa
