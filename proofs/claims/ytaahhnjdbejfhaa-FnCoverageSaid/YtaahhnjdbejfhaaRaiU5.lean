/- An evaluator of the model's programs over plain values, proved sound, part 5 of 6. It is used by the claim's law; it has no condition of its own. -/
import Derived.Test.YtaahhnjdbejfhaaRaiU4
import Derived.Orders
import Derived.Carry
import Derived.ChangeOld
import Derived.WideShapes
import Derived.RowKit
set_option linter.unusedVariables false
set_option linter.unusedSectionVars false
set_option linter.unusedSimpArgs false
namespace Go.Rai
variable [Inhabited Qk]
def VV (P:Program) (ops:Array Oper) (o:Oper) (sl:List V) (b:BL) (v:V) (b1:BL):Prop:=
 ∀ (Pn:Nat→Option Value) (w0:World) (F0:List Nat) (a:Act) (w:World),(∀ t,o.dst=some t→Pn t=none)→Rel Pn w0 F0 ⟨sl,b⟩ a w→∀ (K:Act→World→Prop) (Q:Exit→Act→World→Prop),
  (∀ a' w',Rel Pn w0 F0 ⟨Qy sl o.dst v,b1⟩ a' w'→K a' w')→(if Region.wanted o (yielded ops a.tmps) then o.wp P a w K Q ∨ (o.asks P a w∧LetsOut Q) else K (a.put o.dst undef) w)
def P9 (P:Program) (ops:Array Oper) (o:Oper) (sl:List V) (b:BL) (v:V) (b1:BL) (rd T W N L qf qp:List Nat):Prop:=
 (∀ s,s ∉ W→Jb b1 s=Jb b s) ∧
 ∀ sl' b',(∀ t ∈ rd,Jw sl' t=Jw sl t)→QP b b' T→XV b b' L→(∀ s ∈ N,s ∉ Jl sl'∧s ∉ Jv b')→Ub qf qp sl'=true→(∀ s,s ∈ qf ∨ s ∈ qp→s ∉ Jv b') →
  ∃ b1',VV P ops o sl' b' v b1'∧(∀ s ∈ W,Jb b1' s=Jb b1 s)∧(∀ s,s ∉ W→Jb b1' s=Jb b' s)
structure Oi (P:Program) (ops:Array Oper) (o:Oper) (σ:St) (r:Rec) (σ':St):Prop where
 sl:σ'.sl=Qy σ.sl o.dst r.v
 dst:r.dst=o.dst
 bar:r.bar=true→VV P ops o σ.sl σ.bl r.v σ'.bl∧∀ s,(s ∈ Jd r.v ∨ s ∈ Jv σ'.bl)→s ∈ r.nm
 loc:r.bar=false→P9 P ops o σ.sl σ.bl r.v σ'.bl r.rd r.T r.W r.N r.L r.qf r.qp∧(∀ s ∈ r.W,s ∈ r.T)∧(∀ s ∈ r.N,s ∈ r.W)∧(∀ s,(s ∈ Jd r.v ∨ ∃ t ∈ r.W,∃ c,Jb σ'.bl t=some c∧s ∈ Jd c)→s ∈ r.nm)∧(∀ s ∈ r.L,s ∉ r.W)∧(r.sm=true→∀ s ∈ r.W,UX (Jb σ.bl s) (Jb σ'.bl s))
 nb:r.bar=true→r.N=[]
 qb:r.bar=true→r.qf=[]∧r.qp=[]
 bn:∀ s,(r.bar=true∧s ∈ Jv σ'.bl ∨ ∃ t ∈ r.W,∃ c,Jb σ'.bl t=some c∧s ∈ Jd c)→s ∈ r.bn
section
variable {P:Program} {A:Ann} {w w' w0:World} {F0:List Nat} {sl sl':List V} {a:Act} {b b' b1 bl:BL} {G:GT} {o:Oper} {v:V} {c:List Jk} {ops:Array Oper}
theorem WP {b:BL}:∀ {W:List Nat} {s t:Nat} {c:V},t ∈ W→Jb b t=some c→s ∈ Jd c→s ∈ VG b W
 | [],s,t,c,ht,_,_=>by cases ht
 | u :: W,s,t,c,ht,hl,hs=>by
  unfold VG
  rcases List.mem_cons.1 ht with rfl | ht
  ·rw [hl];simp only [Ju];exact .inl hs
  ·have:=WP ht hl hs
   split
   ·simp only [Ju];exact .inr this
   ·exact this
theorem X2 {R:Type} {all:List Oper} {σ:St} {bar:Bool} {T W N L:List Nat} {sm:Bool} {κ:Rec→St→Option R}:HD all σ o bar v b T W N L sm κ =
  κ ⟨v,cat (Cb all o) (Ul (Jn o.op)),o.dst,bar,T,W,N,Cc bar v b W,L,sm,WB bar b W,[],[]⟩ ⟨Qy σ.sl o.dst v,b⟩:=by
 unfold HD
 rw [CO,UT]
 simp only [OO]
 cases sm<;>rfl
theorem qu {R:Type} {all:List Oper} {σ:St} {T W N qf qp:List Nat} {κ:Rec→St→Option R}:Ki all σ o v b T W N qf qp κ =
  κ ⟨v,cat (Cb all o) (Ul (Jn o.op)),o.dst,false,T,W,N,Cc false v b W,[],false,WB false b W,qf,qp⟩ ⟨Qy σ.sl o.dst v,b⟩:=by
 unfold Ki
 rw [CO,UT]
 simp only [OO]
theorem X3 {b:BL} {bar:Bool} {W:List Nat} {s:Nat} (h:bar=true∧s ∈ Jv b ∨ ∃ t ∈ W,∃ c,Jb b t=some c∧s ∈ Jd c) (hb:bar=false):s ∈ WB bar b W:=by
 subst hb
 rcases h with ⟨h,_⟩ | ⟨t,ht,c,hc,hs⟩
 ·cases h
 ·exact WP ht hc hs
def Uo (all:List Oper) (sl:List V) (o:Oper):Prop:=
 match o.guard with
 | none=>True
 | some (j,want)=>∃ t,Hx all j=some t∧Jw sl t=.bool want
theorem KM {E:Env} (hs:Jy E sl a) (h:Uo ops.toList sl o):Region.wanted o (yielded ops a.tmps)=true:=by
 unfold Uo at h
 cases hg:o.guard with
 | none=>simp [Region.wanted,hg]
 | some jw=>
  obtain ⟨j,want⟩:=jw
  rw [hg] at h
  obtain ⟨t,h1,h2⟩:=h
  simp [Region.wanted,hg,S4 hs h1 h2]
theorem qv (h:Uo ops.toList sl o) (ha:∀ t ∈ Cb ops.toList o,Jw sl' t=Jw sl t):Uo ops.toList sl' o:=by
 unfold Uo at h ⊢
 cases hg:o.guard with
 | none=>trivial
 | some jw=>
  obtain ⟨j,want⟩:=jw
  rw [hg] at h
  obtain ⟨t,h1,h2⟩:=h
  exact ⟨t,h1,by rw [ha t (by simp [Cb,hg,h1])];exact h2⟩
def OW (all:List Oper) (sl:List V) (o:Oper):Prop:=
 ∃ j want t,o.guard=some (j,want)∧Hx all j=some t∧(Jw sl t=.void ∨ Jw sl t=.bool (!want))
theorem qw {E:Env} (hs:Jy E sl a) (h:OW ops.toList sl o):Region.wanted o (yielded ops a.tmps)=false:=by
 obtain ⟨j,want,t,hg,h1,h2⟩:=h
 rcases h2 with h2 | h2
 ·simp [Region.wanted,hg,jD hs h1 h2]
 ·cases want<;>simp [Region.wanted,hg,S4 hs h1 h2]
theorem qx (h:OW ops.toList sl o) (ha:∀ t ∈ Cb ops.toList o,Jw sl' t=Jw sl t):OW ops.toList sl' o:=by
 obtain ⟨j,want,t,hg,h1,h2⟩:=h
 exact ⟨j,want,t,hg,h1,by rw [ha t (by simp [Cb,hg,h1])];exact h2⟩
theorem UW.g (h:UW P o sl b v b1) (hw:Uo ops.toList sl o):VV P ops o sl b v b1:=by
 intro Pn w0 F0 a w hdst hr K Q hK
 obtain ⟨⟨G,hc,hs⟩,hl,hd,hpin⟩:=hr
 rw [KM hs hw]
 simp only [if_true]
 exact .inl (h hdst ⟨⟨G,hc,hs⟩,hl,hd,hpin⟩ hK)
theorem KN (h:OW ops.toList sl o):VV P ops o sl b .void b:=by
 intro Pn w0 F0 a w hdst hr K Q hK
 obtain ⟨⟨G,hc,hs⟩,hl,hd,hpin⟩:=hr
 rw [qw hs h]
 simp only [Bool.false_eq_true,if_false]
 exact hK _ _ (Rel.put hc hs hl hd hpin hdst (OE.2 ⟨rfl,rfl⟩))
theorem X1.g {gs rd T W N L qf qp:List Nat} (h:X1 P o sl b v b1 (cat gs rd) T W N L qf qp) (hg:gs=Cb ops.toList o) (hw:Uo ops.toList sl o):P9 P ops o sl b v b1 (cat gs rd) T W N L qf qp:=by
 refine ⟨h.1,fun sl' b' h1 h2 hL h3 h4 h5=>?_⟩
 obtain ⟨b1',k1,k2⟩:=h.2 sl' b' h1 h2 hL h3 h4 h5
 exact ⟨b1',UW.g k1 (qv hw (fun t ht=>h1 t (by rw [Qd,hg];simp [ht]))),k2⟩
theorem KO (HT:JN P A.ty) {R:Type} {oc:OC R} (hoc:HS P A oc) {σ:St} {κ:St→Option R} {r:R} (h:CH oc A σ o κ=some r):∃ sl1 v b1,κ ⟨Qy sl1 o.dst v,b1⟩=some r∧OV P o σ.sl σ.bl sl1 v b1∧((∀ t x,o.op ≠ .box t x)→sl1=σ.sl):=by
 suffices hs:(∃ v b1,κ ⟨Qy σ.sl o.dst v,b1⟩=some r∧UW P o σ.sl σ.bl v b1) ∨ (∃ t x sl1 v b1,o.op=.box t x∧κ ⟨Qy sl1 o.dst v,b1⟩=some r∧OV P o σ.sl σ.bl sl1 v b1) by
  rcases hs with ⟨v,b1,h1,h2⟩ | ⟨t,x,sl1,v,b1,h0,h1,h2⟩
  ·exact ⟨σ.sl,v,b1,h1,fun x1 x2 _ _ x3=>h2 x1 x2 x3,fun _=>rfl⟩
  ·exact ⟨sl1,v,b1,h1,h2,fun hn=>absurd h0 (hn t x)⟩
 have prim:Wb A σ o κ=some r→∃ v b1,κ ⟨Qy σ.sl o.dst v,b1⟩=some r∧UW P o σ.sl σ.bl v b1:=by
  intro h
  unfold Wb at h
  split at h
  ·rename_i c v b hp
   obtain ⟨h1,h2⟩:=UU h
   rw [UT] at h2
   exact ⟨v,b,h2,HE HT hp h1⟩
  ·cases h
 unfold CH at h
 split at h
 ·rename_i cl ho
  split at h
  ·rename_i fo hcal
   split at h
   ·rename_i g caps hf
    unfold Tp at h
    split at h
    ·rename_i hb
     rw [Je] at hb
     obtain ⟨hnt,hna⟩:=hb
     split at h
     ·rename_i hio
      split at h
      ·rename_i c1 ws hp
       obtain ⟨h1,h2⟩:=UU h
       rw [Ha] at h2
       obtain ⟨res,outs,k1,hco⟩:=hoc _ _ _ _ h2
       split at k1
       ·rename_i how
        split at k1
        ·rename_i v b2 hpl
         rw [UT] at k1
         exact .inl ⟨v,b2,k1,PE (io:=fun _=>false) ho hcal hf hio hnt hna hp h1 hco how hpl⟩
        ·cases k1
       ·cases k1
      ·cases h
     ·split at h
      ·rename_i s p vio c0 hone
       unfold Yp at hone
       split at hone
       ·rename_i v0 h1o
        split at hone
        ·rename_i s0 p0 hloc
         split at hone
         ·rename_i c00 hl0
          split at hone
          ·rename_i hc0
           simp only [oj,pj] at hone
           obtain ⟨rfl,rfl,rfl,rfl⟩:=hone
           unfold Tn at h
           split at h
           ·rename_i c1 x hget
            split at h
            ·rename_i hchk
             rw [Je,Je] at hchk
             split at h
             ·rename_i c2 hal
              split at h
              ·rename_i c3 ws hp
               obtain ⟨h1,h2⟩:=UU h
               rw [Ha] at h2
               obtain ⟨res,outs,k1,hco⟩:=hoc _ _ _ _ h2
               split at k1
               ·rename_i y hout
                split at k1
                ·rename_i hb3
                 rw [Je,Je] at hb3
                 rw [Ca] at k1
                 split at k1
                 ·rename_i r0 b3 hpl
                  rw [UT] at k1
                  exact .inl ⟨r0,b3,k1,qm ho hcal hf hnt hna h1o hloc hl0 hc0 hchk.1.1 hget (CS hchk.1.2) hchk.2 hal hp h1 hco hout hb3.1 hb3.2.1 hb3.2.2 hpl⟩
                 ·cases k1
                ·cases k1
               ·cases k1
              ·cases h
             ·cases h
            ·cases h
           ·cases h
          ·cases hone
         ·cases hone
        ·cases hone
       ·cases hone
      ·unfold To at h
       split at h
       ·rename_i hroot
        rw [Je] at hroot
        split at h
        ·rename_i c1 ws b1 hp
         obtain ⟨h1,h2⟩:=UU h
         rw [Ha,Ca] at h2
         obtain ⟨res,outs,k1,hco⟩:=hoc _ _ _ _ h2
         split at k1
         ·rename_i how
          split at k1
          ·rename_i b2 hre
           split at k1
           ·rename_i v b3 hpl
            rw [UT] at k1
            exact .inl ⟨v,b3,k1,PL ho hcal hf hnt hna hroot.1 hroot.2 hp h1 hco how hre hpl⟩
           ·cases k1
          ·cases k1
         ·cases k1
        ·cases h
       ·cases h
    ·cases h
   ·cases h
  ·exact .inl (prim h)
 ·rename_i t a x ho
  split at h
  ·rename_i c b hp
   obtain ⟨h1,h2⟩:=UU h
   rw [UT] at h2
   have hp':C3 (A.ty t) σ.sl σ.bl (opd σ.sl a) (opd σ.sl x)=some (c,b):=by
    unfold Ys at hp
    split at hp
    ·split at hp
     ·split at hp
      ·cases hp
      ·split at hp
       ·exact hp
       ·cases hp
     ·cases hp
    ·cases hp
   exact .inl ⟨.void,b,h2,PS HT ho hp' h1⟩
  ·split at h
   ·rename_i c v b hp
    obtain ⟨h1,h2⟩:=UU h
    rw [UT] at h2
    exact .inl ⟨v,b,h2,HE HT hp h1⟩
   ·split at h
    ·rename_i c b hp
     obtain ⟨h1,h2⟩:=UU h
     rw [UT] at h2
     exact .inl ⟨.void,b,h2,qh HT ho hp h1⟩
    ·split at h
     ·rename_i c b hp
      obtain ⟨h1,h2⟩:=UU h
      rw [UT] at h2
      exact .inl ⟨.void,b,h2,PS HT ho hp h1⟩
     ·cases h
 ·rename_i t x ho
  split at h
  ·rename_i c v b u y hp
   obtain ⟨h1,h2⟩:=UU h
   rw [CO,HQ,UT] at h2
   exact .inr ⟨t,x,_,v,b,ho,h2,qi HT ho hp h1⟩
  ·exact .inl (prim h)
 ·exact .inl (prim h)
theorem qy (sl:List V) (d:Option Nat) (v:V):Qy sl d (Oe d (Qy sl d v))=Qy sl d v:=by
 cases d with
 | none=>rfl
 | some t=>
  simp only [Qy,Oe,OP]
  by_cases h:t<sl.length
  ·simp [h]
  ·have:∀ (l:List V) (t:Nat) (x y:V),¬ t<l.length→JD l t x=JD l t y:=by
    intro l
    induction l with
    | nil=>intro t x y _;rfl
    | cons a l ih=>
     intro t x y ht
     cases t with
     | zero=>simp at ht
     | succ t=>simp only [JD];rw [ih t x y (by simpa using ht)]
   exact this sl t _ _ h
theorem qz {σ:St} (hp:JE A σ.sl σ.bl o.dst o.op=some (c,v,b1)) (hsm:Kj σ o.op=true):∀ s ∈ Of σ o.op,UX (Jb σ.bl s) (Jb b1 s):=by
 intro s hs
 unfold Kj at hsm
 split at hsm
 ·rename_i t a x hop
  rw [hop] at hp hs
  split at hsm
  ·rename_i s0 p ha
   simp only [Of,ha,Jd,List.mem_singleton] at hs
   subst hs
   split at hsm
   ·rename_i c0 hc0
    rw [show (JO (c0.outer p)=true)=(c0.outer p=false) by cases c0.outer p<;>simp [JO]] at hsm
    simp only [JE] at hp
    split at hp
    ·cases hp
    ·simp only [ha,O8,hc0] at hp
     split at hp
     ·rename_i cs y hg
      split at hp
      ·split at hp
       ·simp only [oj,pj] at hp
        obtain ⟨_,_,rfl⟩:=hp
        rw [hc0,JG,if_pos rfl]
        exact .inr ⟨c0,_,rfl,rfl,Pl p c0 _ ⟨_,hg⟩ hsm⟩
       ·cases hp
      ·cases hp
     ·cases hp
   ·cases hsm
  ·cases hsm
 ·cases hsm
theorem KP (HT:JN P A.ty) {R:Type} {oc:OC R} (hoc:HS P A oc) {σ:St} {κ:Rec→St→Option R} {r:R} (hw:Uo ops.toList σ.sl o) (h:WD oc A ops.toList σ o κ=some r) :
  ∃ rc σ',κ rc σ'=some r∧Oi P ops o σ rc σ':=by
 have prim:∀ {T W N L:List Nat} {sm:Bool},(∀ s ∈ W,s ∈ T)→(∀ s ∈ N,s ∈ W)→(∀ s ∈ L,s ∉ W)→(∀ c v b1,JE A σ.sl σ.bl o.dst o.op=some (c,v,b1)→(∀ x ∈ c,x.ok)→OT P o σ.sl σ.bl v b1 (cat (Cb ops.toList o) (Ul (Jn o.op))) T W N L∧(sm=true→∀ s ∈ W,UX (Jb σ.bl s) (Jb b1 s))) →
   VJ A ops.toList σ o false T W N L sm κ=some r→∃ rc σ',κ rc σ'=some r∧Oi P ops o σ rc σ':=by
  intro T W N L sm hWT hNW hLW hloc h
  unfold VJ at h
  split at h
  ·rename_i c v b hp
   obtain ⟨h1,h2⟩:=UU h
   rw [X2] at h2
   refine ⟨_,_,h2,rfl,rfl,fun hb=>(by cases hb),fun _=>⟨(hloc c v b hp h1).1.q.g rfl hw,hWT,hNW,?_,hLW,(hloc c v b hp h1).2⟩,fun hb=>(by cases hb),fun hb=>(by cases hb),fun s hs=>X3 hs rfl⟩
   rintro s (hs | ⟨t,ht,c',hc',hs⟩)
   ·simp only [Cc,Ju];exact .inl hs
   ·simp only [Cc,Ju];exact .inr (WP ht hc' hs)
  ·cases h
 have barr:(∀ t x,o.op ≠ .box t x)→CH oc A σ o (fun σ'=>HD ops.toList σ o true (Oe o.dst σ'.sl) σ'.bl [] [] [] [] false κ)=some r→∃ rc σ',κ rc σ'=some r∧Oi P ops o σ rc σ':=by
  intro hbx h
  obtain ⟨sl1,v,b1,h1,h2,h3⟩:=KO HT hoc h
  obtain rfl:=h3 hbx
  rw [X2] at h1
  have hput:=qy σ.sl o.dst v
  have h2':UW P o σ.sl σ.bl (Oe o.dst (Qy σ.sl o.dst v)) b1:=by
   intro Pn w0 F0 a w hdst hr K Q hK
   refine h2 hdst hr (fun a' w' hr'=>hK a' w' ?_)
   rw [hput]
   exact hr'
  refine ⟨_,_,h1,rfl,rfl,fun _=>⟨UW.g h2' hw,?_⟩,fun hb=>(by cases hb),fun _=>rfl,fun _=>⟨rfl,rfl⟩,fun s hs=>hs.elim (fun hs=>hs.2) (fun ⟨t,ht,_⟩=>by cases ht)⟩
  intro s hs
  simp only [Cc,Ju]
  exact hs
 unfold WD at h
 split at h
 ·rename_i hcl
  exact prim (fun s hs=>by cases hs) (fun s hs=>by cases hs) (fun s _ hs=>by cases hs) (fun c v b1 hp hk=>⟨jS HT (by rw [hcl]) hp hk,fun hb=>by cases hb⟩) h
 ·rename_i hcl
  exact prim (fun s hs=>hs) (fun s hs=>hs) (fun s hs=>by cases hs) (fun c v b1 hp hk=>⟨(jU HT (by rw [hcl]) hp hk).l,fun hb=>by cases hb⟩) h
 ·rename_i hcl
  split at h
  ·exact prim (fun s hs=>hs) (fun s hs=>by cases hs) (fun s hs=>by cases hs) (fun c v b1 hp hk=>⟨(jV HT (by rw [hcl]) hp hk).l,fun hsm=>qz hp hsm⟩) h
  ·exact barr (by intro t x hb;simp_all [cls]) h
 ·split at h
  ·rename_i cl hop
   split at h
   ·rename_i fo hcal
    split at h
    ·rename_i g caps hf
     split at h
     ·rename_i hio
      unfold Pa at h
      split at h
      ·rename_i hb
       rw [Je] at hb
       rw [Ca] at h
       split at h
       ·rename_i c1 ws hp
        obtain ⟨h1,h2⟩:=UU h
        rw [Ha] at h2
        obtain ⟨res,outs,k1,hco⟩:=hoc _ _ _ _ h2
        split at k1
        ·rename_i how
         split at k1
         ·rename_i v b2 hpl
          simp only [X2] at k1
          refine ⟨_,_,k1,rfl,rfl,fun hb=>(by cases hb),fun _=>⟨(j7 hop hcal hf hio hb.1 hb.2 WL hp h1 hco how hpl).l.q.g rfl hw,fun s hs=>(by simp only [Ju];exact .inr hs),fun s hs=>hs,?_,fun s hs=>(by cases hs),fun hb=>(by cases hb)⟩,fun hb=>(by cases hb),fun hb=>(by cases hb),fun s hs=>X3 hs rfl⟩
          rintro s (hs | ⟨t,ht,c',hc',hs⟩)
          ·simp only [Cc,Ju];exact .inl hs
          ·simp only [Cc,Ju];exact .inr (WP ht hc' hs)
         ·cases k1
        ·cases k1
       ·cases h
      ·cases h
     ·split at h
      ·exact barr (by intro t x hb;simp_all [cls]) h
      ·unfold Pb at h
       split at h
       ·rename_i hb
        rw [Je] at hb
        rw [Ca,Ca] at h
        split at h
        ·rename_i hroots
         split at h
         ·rename_i c1 ws b2 hp
          split at h
          ·rename_i c2 us hp2
           obtain ⟨h1,h2⟩:=UU h
           rw [Ha,Ca] at h2
           obtain ⟨res,outs,k1,hco⟩:=hoc _ _ _ _ h2
           split at k1
           ·rename_i how
            split at k1
            ·rename_i b3 hre
             split at k1
             ·rename_i v b4 hpl
              simp only [qu] at k1
              refine ⟨_,_,k1,rfl,rfl,fun hb=>(by cases hb),fun _=>⟨(qt hop hcal hf hb.1 hb.2 WL WL hroots hp hp2 h1 hco how hre hpl).g rfl hw,fun s hs=>(by simp only [Ju] at hs ⊢;rcases hs with hs | hs;exact .inl (.inr hs);exact .inr hs),fun s hs=>(by simp only [Ju];exact .inr hs),?_,fun s hs=>(by cases hs),fun hb=>(by cases hb)⟩,fun hb=>(by cases hb),fun hb=>(by cases hb),fun s hs=>X3 hs rfl⟩
              rintro s (hs | ⟨t,ht,c',hc',hs⟩)
              ·simp only [Cc,Ju];exact .inl hs
              ·simp only [Cc,Ju];exact .inr (WP ht hc' hs)
             ·cases k1
            ·cases k1
           ·cases k1
          ·cases h
         ·cases h
        ·cases h
       ·cases h
    ·cases h
   ·cases h
  ·cases h
 ·rename_i hcl
  split at h
  ·rename_i hok
   exact prim (fun s hs=>by
    simp only [OR,Og,Ju] at hs ⊢
    split at hs
    ·rename_i c hop
     split at hs
     ·rename_i s0 r hm
      simp only [Ju] at hs
      rcases hs with hs | hs
      ·refine .inl ?_
       have hops:Jn (Op.call c)=c.args.toList:=by
        simp only [hop,cls] at hcl
        simp only [Jn]
        split at hcl<;>simp_all
       rw [hop,hops,hm]
       simp only [Jl,Ju]
       exact .inl hs
      ·exact .inr hs
     ·exact .inr hs
    ·exact .inr hs) (fun s hs=>by
    simp only [Og]
    split
    ·rename_i c hop
     split
     ·simp only [Ju];exact .inr hs
     ·exact hs
    ·exact hs) (fun s hs=>by cases hs) (fun c v b1 hp hk=>⟨(jY HT (by rw [hcl]) hok hp hk).l,fun hb=>by cases hb⟩) h
  ·exact barr (by intro t x hb;simp_all [cls]) h
 ·exact barr (by intro t x hb;simp_all [cls]) h
theorem KQ {R:Type} {σ:St} {κ:Rec→St→Option R} {r:R} (hw:OW ops.toList σ.sl o) (h:HD ops.toList σ o false .void σ.bl [] [] [] [] false κ=some r) :
  ∃ rc σ',κ rc σ'=some r∧Oi P ops o σ rc σ':=by
 rw [X2] at h
 refine ⟨_,_,h,rfl,rfl,fun hb=>(by cases hb),fun _=>⟨⟨fun _ _=>rfl,fun sl' b' h1 h2 hL h3 _ _=>⟨b',KN (qx hw (fun t ht=>h1 t (by rw [Qd];simp [ht]))),fun s hs=>(by cases hs),fun _ _=>rfl⟩⟩,fun s hs=>hs,fun s hs=>hs,?_,fun s hs=>(by cases hs),fun hb=>(by cases hb)⟩,fun hb=>(by cases hb),fun hb=>(by cases hb),fun s hs=>X3 hs rfl⟩
 rintro s (hs | ⟨t,ht,_⟩)
 ·simp [Jd] at hs
 ·cases ht
theorem Na (HT:JN P A.ty) {R:Type} {oc:OC R} (hoc:HS P A oc) {r:R}:∀ {l:List Oper} {σ:St} {κ:List Rec→St→Option R},Cx oc A ops.toList l σ κ=some r →
  ∃ (rc:Nat→Rec) (st:Nat→St),st 0=σ∧(∀ j o,l[j]?=some o→Oi P ops o (st j) (rc j) (st (j + 1)))∧κ ((List.range l.length).map rc) (st l.length)=some r
 | [],σ,κ,h=>⟨fun _=>default,fun _=>σ,rfl,fun j o hj=>(by simp at hj),h⟩
 | o :: l,σ,κ,h=>by
  have next:(∃ rc σ',Cx oc A ops.toList l σ' (fun rs=>κ (rc :: rs))=some r∧Oi P ops o σ rc σ')→∃ (rc:Nat→Rec) (st:Nat→St),st 0=σ∧(∀ j o',(o :: l)[j]?=some o'→Oi P ops o' (st j) (rc j) (st (j + 1)))∧κ ((List.range (o :: l).length).map rc) (st (o :: l).length)=some r:=by
   rintro ⟨rc0,σ',h1,h2⟩
   obtain ⟨rc,st,k1,k2,k3⟩:=Na HT hoc h1
   refine ⟨fun j=>match j with | 0=>rc0 | j + 1=>rc j,fun j=>match j with | 0=>σ | j + 1=>st j,rfl,?_,?_⟩
   ·intro j o' hj
    cases j with
    | zero=>
     simp only [List.getElem?_cons_zero,oj] at hj
     subst hj
     simp only [k1]
     exact h2
    | succ j=>
     simp only [List.getElem?_cons_succ] at hj
     exact k2 j o' hj
   ·rw [List.length_cons,List.range_succ_eq_map,List.map_cons,List.map_map]
    exact k3
  apply next
  unfold Cx at h
  split at h
  ·rename_i hg
   exact KP HT hoc (by simp [Uo,hg]) h
  ·rename_i j want hg
   split at h
   ·rename_i t hd
    split at h
    ·rename_i hv
     exact KQ ⟨j,want,t,hg,hd,.inl hv⟩ h
    ·rename_i bb hv
     have hsame:JD σ.sl t (.bool bb)=σ.sl:=Ww hv (by simp)
     have hσ:(⟨σ.sl,σ.bl⟩:St)=σ:=rfl
     cases bb with
     | true=>
      simp only [cond_true,HQ] at h
      rw [hsame,hσ] at h
      cases want with
      | true=>exact KP HT hoc (by simp only [Uo,hg];exact ⟨t,hd,hv⟩) h
      | false=>exact KQ ⟨j,false,t,hg,hd,.inr hv⟩ h
     | false=>
      simp only [cond_false,HQ] at h
      rw [hsame,hσ] at h
      cases want with
      | true=>exact KQ ⟨j,true,t,hg,hd,.inr hv⟩ h
      | false=>exact KP HT hoc (by simp only [Uo,hg];exact ⟨t,hd,hv⟩) h
    ·cases h
   ·cases h
theorem KR (HT:JN P A.ty) {R:Type} {oc:OC R} (hoc:HS P A oc) {σ:St} {κ:St→Option R} {r:R} (h:HL oc A σ o κ=some r):∃ sl1 v b1,κ ⟨Qy sl1 o.dst v,b1⟩=some r∧OV P o σ.sl σ.bl sl1 v b1:=by
 unfold HL at h
 split at h
 ·rename_i t x y ho
  split at h
  ·rename_i c sl b hp
   obtain ⟨h1,h2⟩:=UU h
   rw [Ha,UT] at h2
   unfold Tq at hp
   split at hp
   ·split at hp
    ·cases hp
    ·split at hp
     ·cases hp
     ·split at hp
      ·cases hp
      ·split at hp
       ·cases hp
       ·split at hp
        ·rename_i hq
         simp only [oj,pj] at hp
         obtain ⟨rfl,rfl,rfl⟩:=hp
         exact ⟨_,_,_,h2,qe HT ho hq h1⟩
        ·cases hp
   ·cases hp
  ·obtain ⟨sl1,v,b1,h1,h2,_⟩:=KO HT hoc h
   exact ⟨sl1,v,b1,h1,h2⟩
 ·obtain ⟨sl1,v,b1,h1,h2,_⟩:=KO HT hoc h
  exact ⟨sl1,v,b1,h1,h2⟩
theorem KS (HT:JN P A.ty) {R:Type} {oc:OC R} (hoc:HS P A oc) {Pn:Nat→Option Value} {r:R} {Q:Exit→Act→World→Prop}:∀ {l:List Oper} {σ:St} {a:Act} {w:World} {κ:St→Option R},(∀ o ∈ l,∀ t,o.dst=some t→Pn t=none)→Rel Pn w0 F0 σ a w→Hy oc A ops.toList l σ κ=some r →
  (∀ σ' a' w',κ σ'=some r→Rel Pn w0 F0 σ' a' w'→Q .normal a' w')→wpList P ops Q l a w
 | [],σ,a,w,κ,_,hr,h,hK=>hK _ _ _ h hr
 | o :: l,σ,a,w,κ,hd,hr,h,hK=>by
  have hr0:Rel Pn w0 F0 ⟨σ.sl,σ.bl⟩ a w:=hr
  have useb:∀ {sl1:List V} {v:V} {b1:BL},Uo ops.toList σ.sl o→OV P o σ.sl σ.bl sl1 v b1→Hy oc A ops.toList l ⟨Qy sl1 o.dst v,b1⟩ κ=some r→wpList P ops Q (o :: l) a w:=by
   intro sl1 v b1 hw hsem hrest
   obtain ⟨G,hc,hs⟩:=hr0.core
   unfold wpList
   rw [KM hs hw]
   simp only [if_true]
   exact .inl (hsem (hd o (by simp)) hr0 (fun a' w' hr'=>KS HT hoc (fun o' ho'=>hd o' (by simp [ho'])) hr' hrest hK))
  have use:∀ {v:V} {b1:BL},VV P ops o σ.sl σ.bl v b1→Hy oc A ops.toList l ⟨Qy σ.sl o.dst v,b1⟩ κ=some r→wpList P ops Q (o :: l) a w:=by
   intro v b1 hsem hrest
   have:=hsem Pn w0 F0 a w (hd o (by simp)) hr0 (wpList P ops Q l) Q (fun a' w' hr'=>KS HT hoc (fun o' ho'=>hd o' (by simp [ho'])) hr' hrest hK)
   unfold wpList
   exact this
  have go:Uo ops.toList σ.sl o→HL oc A σ o (fun σ'=>Hy oc A ops.toList l σ' κ)=some r→wpList P ops Q (o :: l) a w:=by
   intro hw hp
   obtain ⟨sl1,v,b1,h1,h2⟩:=KR HT hoc hp
   exact useb hw h2 h1
  have skip:OW ops.toList σ.sl o→QZ σ o.dst .void σ.bl (fun σ'=>Hy oc A ops.toList l σ' κ)=some r→wpList P ops Q (o :: l) a w:=by
   intro hw hp
   rw [UT] at hp
   exact use (KN hw) hp
  unfold Hy at h
  split at h
  ·rename_i hg
   exact go (by simp [Uo,hg]) h
  ·rename_i j want hg
   split at h
   ·rename_i t hdt
    split at h
    ·rename_i hv
     exact skip ⟨j,want,t,hg,hdt,.inl hv⟩ h
    ·rename_i bb hv
     have hsame:JD σ.sl t (.bool bb)=σ.sl:=Ww hv (by simp)
     have hσ:(⟨σ.sl,σ.bl⟩:St)=σ:=rfl
     cases bb with
     | true=>
      simp only [cond_true,HQ] at h
      rw [hsame,hσ] at h
      cases want with
      | true=>exact go (by simp only [Uo,hg];exact ⟨t,hdt,hv⟩) h
      | false=>exact skip ⟨j,false,t,hg,hdt,.inr hv⟩ h
     | false=>
      simp only [cond_false,HQ] at h
      rw [hsame,hσ] at h
      cases want with
      | true=>exact skip ⟨j,true,t,hg,hdt,.inr hv⟩ h
      | false=>exact go (by simp only [Uo,hg];exact ⟨t,hdt,hv⟩) h
    ·cases h
   ·cases h
theorem qA {v:V} {Pn:Nat→Option Value} {K:Act→World→Prop} {Q:Exit→Act→World→Prop} (hprim:Jo P w0 F0 sl a w o v b1) (hdst:∀ t,o.dst=some t→Pn t=none) (hl:a.tmps.size=sl.length) (hd:a.defers=[]) (hpin:∀ t v,Pn t=some v→a.tmps.getD t undef=v)
  (hK:∀ a' w',Rel Pn w0 F0 ⟨Qy sl o.dst v,b1⟩ a' w'→K a' w'):o.wp P a w K Q:=by
 obtain ⟨vv,w',G',hrun,k1,k2,k3⟩:=hprim
 have hrel:=Rel.put (d:=o.dst) k1 k2 hl hd hpin hdst k3
 unfold Oper.wp
 rcases hrun with hrun | ⟨hrun,hvv⟩
 ·rw [hrun];exact hK _ _ hrel
 ·rw [hrun];subst hvv;exact hK _ _ hrel
theorem Nb {R:Type} {x y:Option R} {r:R} (h:VL x y=some r):x=some r∧y=some r:=by
 unfold VL at h
 split at h
 ·rename_i he
  exact ⟨h,by rw [← he];exact h⟩
 ·cases h
theorem qB (HT:JN P A.ty) {Pn:Nat→Option Value} {σ:St} {c:List Jk} {l:List D} {ng:Bool} (h:Kn A σ o=some (c,l,ng)) (hk:∀ k ∈ c,k.ok) (hdst:∀ t,o.dst=some t→Pn t=none) (hr:Rel Pn w0 F0 ⟨σ.sl,σ.bl⟩ a w) :
  o.guard=none∧∃ r:Bool,(r=ng ∨ (r=JO ng∧¬ 1≤l.length))∧∀ (K:Act→World→Prop) (Q:Exit→Act→World→Prop),(∀ a' w',Rel Pn w0 F0 ⟨Qy σ.sl o.dst (.bool r),σ.bl⟩ a' w'→K a' w')→o.wp P a w K Q:=by
 unfold Kn at h
 split at h
 ·cases h
 ·rename_i hg
  refine ⟨hg,?_⟩
  split at h
  ·rename_i op t x y ty hop
   split at h
   ·rename_i ht
    split at h
    ·rename_i hye
     split at h
     ·cases h
     ·rename_i v hv hxe
      split at h
      ·rename_i c0 e0 l0 hel
       obtain ⟨⟨G,hc,hs⟩,hl,hd,hpin⟩:=hr
       have hop2:(op=.eql ∨ op=.neq)∧c0=c∧l0=l∧ng=(match op with | .eql=>false | _=>true):=by
        cases op<;>simp at h<;>obtain ⟨rfl,rfl,rfl⟩:=h<;>simp
       obtain ⟨hop3,rfl,rfl,hng⟩:=hop2
       have hx:=JJ hs x
       have hy:=JJ hs y
       rw [hye] at hy
       obtain ⟨hy,_⟩:=OH.1 hy
       obtain ⟨te,hdd⟩:=Wl HT ht
       obtain ⟨Ad,cap,F,h1,h2,_⟩:=Wj hc hx hel hk
       have hprim:Jo P w0 F0 σ.sl a w o (.bool (H8 op Ad.isNone)) σ.bl:=by
        refine Jo.pure hc hs (YM hop hop3 (fun p hp'=>by rw [h1] at hp';cases hp') (by rw [h1];rfl) ?_) (QL.2 ⟨rfl,rfl⟩)
        rw [hy,h1,Op.equalIn]
        cases Ad<;>simp [QO hdd]
       refine ⟨H8 op Ad.isNone,?_,fun K Q hK=>qA hprim hdst hl hd hpin hK⟩
       rcases h2 with ⟨g,_⟩ | ⟨ad,_,_,g,_⟩
       ·subst g
        cases Ad with
        | none=>right;refine ⟨?_,by simp⟩;rcases hop3 with rfl | rfl<;>simp [hng,H8,JO]
        | some _=>left;rcases hop3 with rfl | rfl<;>simp [hng,H8]
       ·left;subst g;rcases hop3 with rfl | rfl<;>simp [hng,H8]
      ·cases h
    ·cases h
   ·cases h
  ·cases h
theorem X4 (HT:JN P A.ty) {R:Type} {oc:OC R} (hoc:HS P A oc) {Pn:Nat→Option Value} {r:R} {Q:Exit→Act→World→Prop}:∀ {l:List Oper} {σ:St} {a:Act} {w:World} {κ:St→Option R},(∀ o ∈ l,∀ t,o.dst=some t→Pn t=none)→Rel Pn w0 F0 σ a w→UL oc A ops.toList l σ κ=some r →
  (∀ σ' a' w',κ σ'=some r→Rel Pn w0 F0 σ' a' w'→Q .normal a' w')→wpList P ops Q l a w
 | [],σ,a,w,κ,_,hr,h,hK=>hK _ _ _ h hr
 | o :: l,σ,a,w,κ,hd,hr,h,hK=>by
  have hr0:Rel Pn w0 F0 ⟨σ.sl,σ.bl⟩ a w:=hr
  have useb:∀ {sl1:List V} {v:V} {b1:BL},Uo ops.toList σ.sl o→OV P o σ.sl σ.bl sl1 v b1→UL oc A ops.toList l ⟨Qy sl1 o.dst v,b1⟩ κ=some r→wpList P ops Q (o :: l) a w:=by
   intro sl1 v b1 hw hsem hrest
   obtain ⟨G,hc,hs⟩:=hr0.core
   unfold wpList
   rw [KM hs hw]
   simp only [if_true]
   exact .inl (hsem (hd o (by simp)) hr0 (fun a' w' hr'=>X4 HT hoc (fun o' ho'=>hd o' (by simp [ho'])) hr' hrest hK))
  have use:∀ {v:V} {b1:BL},VV P ops o σ.sl σ.bl v b1→UL oc A ops.toList l ⟨Qy σ.sl o.dst v,b1⟩ κ=some r→wpList P ops Q (o :: l) a w:=by
   intro v b1 hsem hrest
   have:=hsem Pn w0 F0 a w (hd o (by simp)) hr0 (wpList P ops Q l) Q (fun a' w' hr'=>X4 HT hoc (fun o' ho'=>hd o' (by simp [ho'])) hr' hrest hK)
   unfold wpList
   exact this
  have go:Uo ops.toList σ.sl o→HL oc A σ o (fun σ'=>UL oc A ops.toList l σ' κ)=some r→wpList P ops Q (o :: l) a w:=by
   intro hw hp
   obtain ⟨sl1,v,b1,h1,h2⟩:=KR HT hoc hp
   exact useb hw h2 h1
  have skip:OW ops.toList σ.sl o→QZ σ o.dst .void σ.bl (fun σ'=>UL oc A ops.toList l σ' κ)=some r→wpList P ops Q (o :: l) a w:=by
   intro hw hp
   rw [UT] at hp
   exact use (KN hw) hp
  unfold UL at h
  split at h
  ·rename_i c ls ng hn
   obtain ⟨hk,h⟩:=UU h
   obtain ⟨hg,r0,hr1,hwp⟩:=qB HT hn hk (hd o (by simp)) hr0
   have hrest:UL oc A ops.toList l ⟨Qy σ.sl o.dst (.bool r0),σ.bl⟩ κ=some r:=by
    split at h
    ·rename_i hl1
     rw [UT] at h
     rcases hr1 with rfl | ⟨_,hl2⟩
     ·exact h
     ·exact absurd hl1 hl2
    ·obtain ⟨h1,h2⟩:=Nb h
     rw [UT] at h1 h2
     rcases hr1 with rfl | ⟨rfl,_⟩
     ·exact h1
     ·exact h2
   have hwd:Region.wanted o (yielded ops a.tmps)=true:=by simp [Region.wanted,hg]
   unfold wpList
   rw [hwd]
   simp only [if_true]
   exact .inl (hwp _ _ (fun a' w' hr'=>X4 HT hoc (fun o' ho'=>hd o' (by simp [ho'])) hr' hrest hK))
  ·split at h
   ·rename_i hg
    exact go (by simp [Uo,hg]) h
   ·rename_i j want hg
    split at h
    ·rename_i t hdt
     split at h
     ·rename_i hv
      exact skip ⟨j,want,t,hg,hdt,.inl hv⟩ h
     ·rename_i bb hv
      have hsame:JD σ.sl t (.bool bb)=σ.sl:=Ww hv (by simp)
      have hσ:(⟨σ.sl,σ.bl⟩:St)=σ:=rfl
      cases bb with
      | true=>
       simp only [cond_true,HQ] at h
       rw [hsame,hσ] at h
       cases want with
       | true=>exact go (by simp only [Uo,hg];exact ⟨t,hdt,hv⟩) h
       | false=>exact skip ⟨j,false,t,hg,hdt,.inr hv⟩ h
      | false=>
       simp only [cond_false,HQ] at h
       rw [hsame,hσ] at h
       cases want with
       | true=>exact skip ⟨j,true,t,hg,hdt,.inr hv⟩ h
       | false=>exact go (by simp only [Uo,hg];exact ⟨t,hdt,hv⟩) h
     ·cases h
    ·cases h
end
end Go.Rai
namespace Go.Rai
variable [Inhabited Qk]
theorem Nc (e:Edge):Kk e=Region.binds .any e:=by
 unfold Kk Region.binds
 cases e.ground<;>rfl
theorem KT:∀ {l acc:List Nat} {i:Nat},i ∈ WE l acc→i ∈ l ∨ i ∈ acc
 | [],acc,i,h=>.inr h
 | a :: l,acc,i,h=>by
  unfold WE at h
  split at h
  ·exact (KT h).imp (fun h=>by simp [h]) id
  ·rcases KT h with h | h
   ·exact .inl (by simp [h])
   ·rcases List.mem_cons.1 h with rfl | h
    ·exact .inl (by simp)
    ·exact .inr h
theorem KU {acc:List (List Nat)}:∀ {es:List Edge} {l r:List Nat},VK acc es l=some r →
  (∀ e ∈ es,Region.binds .any e=true→e.on<acc.length)∧∀ i ∈ r,i ∈ l ∨ ∃ e ∈ es,Region.binds .any e=true∧(i=e.on ∨ ∃ p,acc[e.on]?=some p∧i ∈ p)
 | [],l,r,h=>by
  simp only [VK,oj] at h
  subst h
  exact ⟨fun e he=>(by cases he),fun i hi=>.inl hi⟩
 | e :: es,l,r,h=>by
  unfold VK at h
  split at h
  ·rename_i hb
   rw [Nc] at hb
   split at h
   ·rename_i p hp
    rw [Vh] at hp
    obtain ⟨h1,h2⟩:=KU h
    refine ⟨fun e' he' hb'=>?_,fun i hi=>?_⟩
    ·rcases List.mem_cons.1 he' with rfl | he'
     ·exact (List.getElem?_eq_some_iff.1 hp).1
     ·exact h1 e' he' hb'
    ·rcases h2 i hi with h2 | ⟨e',he',h3⟩
     ·rcases KT h2 with h2 | h2
      ·rcases List.mem_cons.1 h2 with h2 | h2
       ·exact .inr ⟨e,by simp,hb,.inl h2⟩
       ·exact .inr ⟨e,by simp,hb,.inr ⟨p,hp,h2⟩⟩
      ·exact .inl h2
     ·exact .inr ⟨e',by simp [he'],h3⟩
   ·cases h
  ·rename_i hb
   rw [Nc] at hb
   obtain ⟨h1,h2⟩:=KU h
   refine ⟨fun e' he' hb'=>?_,fun i hi=>?_⟩
   ·rcases List.mem_cons.1 he' with rfl | he'
    ·rw [hb] at hb';cases hb'
    ·exact h1 e' he' hb'
   ·rcases h2 i hi with h2 | ⟨e',he',h3⟩
    ·exact .inl h2
    ·exact .inr ⟨e',by simp [he'],h3⟩
theorem KV:∀ {l:List Oper} {acc bs:List (List Nat)},HU acc l=some bs→∃ tl,bs=acc ++ tl∧tl.length=l.length ∧
  ∀ k o,l[k]?=some o→∃ r,bs[acc.length + k]?=some r∧(∀ e ∈ o.after.toList,Region.binds .any e=true→e.on<acc.length + k)∧∀ i ∈ r,∃ e ∈ o.after.toList,Region.binds .any e=true∧(i=e.on ∨ ∃ p,bs[e.on]?=some p∧i ∈ p)
 | [],acc,bs,h=>by
  simp only [HU,oj] at h
  subst h
  exact ⟨[],by simp,rfl,fun k o hk=>by simp at hk⟩
 | o :: l,acc,bs,h=>by
  unfold HU at h
  split at h
  ·rename_i r hr
   rw [Qd] at h
   obtain ⟨tl,e1,e2,e3⟩:=KV h
   refine ⟨r :: tl,by simp [e1],by simp [e2],fun k o' hk=>?_⟩
   cases k with
   | zero=>
    simp only [List.getElem?_cons_zero,oj] at hk
    subst hk
    obtain ⟨h1,h2⟩:=KU hr
    refine ⟨r,by simp [e1],fun e he hb=>by simpa using h1 e he hb,fun i hi=>?_⟩
    rcases h2 i hi with h2 | ⟨e,he,hb,h3⟩
    ·cases h2
    ·refine ⟨e,he,hb,h3.imp id ?_⟩
     rintro ⟨p,hp,hi⟩
     have hlt:=h1 e he hb
     refine ⟨p,?_,hi⟩
     rw [e1,List.append_assoc,List.getElem?_append_left hlt]
     exact hp
   | succ k=>
    simp only [List.getElem?_cons_succ] at hk
    obtain ⟨r',h1,h2,h3⟩:=e3 k o' hk
    have:(acc ++ [r]).length + k=acc.length + (k + 1):=by simp;omega
    rw [this] at h1 h2
    exact ⟨r',h1,h2,h3⟩
  ·cases h
section
variable (st:Nat→St) (rc:Nat→Rec) (len:Nat)
def slC (E:Nat→Bool):Nat→Nat→V
 | 0,t=>Jw (st 0).sl t
 | k + 1,t=>if E k=true∧(rc k).dst=some t∧t<len then (rc k).v else slC E k t
def UM (k s:Nat):Prop:=(rc k).bar=true ∨ s ∈ (rc k).W
open Classical in
noncomputable def QM (E:Nat→Bool):Nat→Nat→Option V
 | 0,s=>Jb (st 0).bl s
 | k + 1,s=>if E k=true∧UM rc k s then Jb (st (k + 1)).bl s else QM E k s
theorem WQ {E:Nat→Bool} {t j n:Nat} (hj:j≤n) (h:∀ i,i<n→(rc i).dst=some t→(E i=true ↔ i<j)):slC st rc len E n t=slC st rc len (fun _=>true) j t:=by
 have low:∀ k,k≤j→slC st rc len E k t=slC st rc len (fun _=>true) k t:=by
  intro k
  induction k with
  | zero=>intro _;rfl
  | succ k ih=>
   intro hk
   simp only [slC]
   rw [ih (by omega)]
   by_cases hd:(rc k).dst=some t
   ·have:=(h k (by omega) hd).2 (by omega)
    simp [this]
   ·simp [hd]
 have high:∀ k,j≤k→k≤n→slC st rc len E k t=slC st rc len E j t:=by
  intro k hk
  induction k with
  | zero=>
   intro _
   have:j=0:=by omega
   rw [this]
  | succ k ih=>
   intro hn
   by_cases he:j=k + 1
   ·rw [he]
   ·simp only [slC]
    rw [ih (by omega) (by omega),if_neg]
    rintro ⟨h1,h2,h3⟩
    have:=(h k (by omega) h2).1 h1
    omega
 rw [high n hj (Nat.le_refl n),low j (Nat.le_refl j)]
theorem VW {E:Nat→Bool} {s j n:Nat} (hj:j≤n) (h:∀ i,i<n→UM rc i s→(E i=true ↔ i<j)):QM st rc E n s=QM st rc (fun _=>true) j s:=by
 have low:∀ k,k≤j→QM st rc E k s=QM st rc (fun _=>true) k s:=by
  intro k
  induction k with
  | zero=>intro _;rfl
  | succ k ih=>
   intro hk
   simp only [QM]
   rw [ih (by omega)]
   by_cases hd:UM rc k s
   ·have:=(h k (by omega) hd).2 (by omega)
    rw [if_pos ⟨this,hd⟩,if_pos ⟨rfl,hd⟩]
   ·rw [if_neg (fun h=>hd h.2),if_neg (fun h=>hd h.2)]
 have high:∀ k,j≤k→k≤n→QM st rc E k s=QM st rc E j s:=by
  intro k hk
  induction k with
  | zero=>
   intro _
   have:j=0:=by omega
   rw [this]
  | succ k ih=>
   intro hn
   by_cases he:j=k + 1
   ·rw [he]
   ·rw [QM]
    rw [ih (by omega) (by omega),if_neg]
    rintro ⟨h1,h2⟩
    have:=(h k (by omega) h2).1 h1
    omega
 rw [high n hj (Nat.le_refl n),low j (Nat.le_refl j)]
theorem qC {E E':Nat→Bool} {s n:Nat} (h:∀ i,i<n→UM rc i s→E' i=E i):QM st rc E' n s=QM st rc E n s:=by
 induction n with
 | zero=>rfl
 | succ n ih=>
  simp only [QM]
  rw [ih (fun i hi=>h i (by omega))]
  by_cases hd:UM rc n s
  ·rw [h n (by omega) hd]
  ·simp [hd]
theorem qD {E E':Nat→Bool} {t j n:Nat} (hj:j<n) (h0:∀ i,i<n→i ≠ j→E' i=E i) (h1:E' j=true) (h2:∀ i,i<n→i ≠ j→(rc i).dst=some t→(rc j).dst ≠ some t) :
  slC st rc len E' n t=if (rc j).dst=some t∧t<len then (rc j).v else slC st rc len E n t:=by
 have key:∀ k,k≤n→slC st rc len E' k t=if j<k∧(rc j).dst=some t∧t<len then (rc j).v else slC st rc len E k t:=by
  intro k
  induction k with
  | zero=>intro _;simp [slC]
  | succ k ih=>
   intro hk
   simp only [slC]
   rw [ih (by omega)]
   by_cases hkj:k=j
   ·subst hkj
    by_cases hd:(rc k).dst=some t∧t<len
    ·simp [h1,hd]
    ·have:¬ (E' k=true∧(rc k).dst=some t∧t<len):=fun h=>hd h.2
     have e2:¬ (E k=true∧(rc k).dst=some t∧t<len):=fun h=>hd h.2
     simp [hd]
   ·rw [h0 k (by omega) hkj]
    by_cases hd:E k=true∧(rc k).dst=some t∧t<len
    ·have hne:=h2 k (by omega) hkj hd.2.1
     simp [hd,hne]
    ·rw [if_neg hd,if_neg hd]
     have:(j<k + 1∧(rc j).dst=some t∧t<len) ↔ (j<k∧(rc j).dst=some t∧t<len):=by
      constructor
      ·rintro ⟨a,b⟩;exact ⟨by omega,b⟩
      ·rintro ⟨a,b⟩;exact ⟨by omega,b⟩
     simp only [this]
 rw [key n (Nat.le_refl n)]
 simp [hj]
theorem Nd {E:Nat→Bool} {t n:Nat}:slC st rc len E n t=Jw (st 0).sl t ∨ ∃ i,i<n∧E i=true∧slC st rc len E n t=(rc i).v:=by
 induction n with
 | zero=>exact .inl rfl
 | succ n ih=>
  simp only [slC]
  by_cases hd:E n=true∧(rc n).dst=some t∧t<len
  ·rw [if_pos hd]
   exact .inr ⟨n,by omega,hd.1,rfl⟩
  ·rw [if_neg hd]
   rcases ih with h | ⟨i,h1,h2,h3⟩
   ·exact .inl h
   ·exact .inr ⟨i,by omega,h2,h3⟩
theorem Nf {E:Nat→Bool} {s n:Nat}:QM st rc E n s=Jb (st 0).bl s ∨ ∃ i,i<n∧E i=true∧UM rc i s∧QM st rc E n s=Jb (st (i + 1)).bl s:=by
 induction n with
 | zero=>exact .inl rfl
 | succ n ih=>
  simp only [QM]
  by_cases hd:E n=true∧UM rc n s
  ·rw [if_pos hd]
   exact .inr ⟨n,by omega,hd.1,hd.2,rfl⟩
  ·rw [if_neg hd]
   rcases ih with h | ⟨i,h1,h2,h3⟩
   ·exact .inl h
   ·exact .inr ⟨i,by omega,h2,h3⟩
end
theorem Oj {a:Bool}:JO a=true ↔ a=false:=by cases a<;>simp [JO]
theorem HF:∀ {l m:List Nat},Ui l m=true→∀ s ∈ l,s ∉ m
 | [],m,_,s,hs=>by cases hs
 | a :: l,m,h,s,hs=>by
  unfold Ui at h
  rw [Je,Oj] at h
  rcases List.mem_cons.1 hs with rfl | hs
  ·intro hm;rw [UJ.2 hm] at h;cases h.1
  ·exact HF h.2 s hs
structure X5 (ri rj:Rec):Prop where
 v:ioV rj.qf rj.qp ri.v=true
 f:∀ s,s ∈ rj.qf ∨ s ∈ rj.qp→s ∉ ri.bn
theorem Ng {ri rj:Rec} (h:XN ri rj=true):X5 ri rj:=by
 unfold XN at h
 rw [Je,Je] at h
 exact ⟨h.1,fun s hs=>hs.elim (HF h.2.1 s) (HF h.2.2 s)⟩
structure WR (i:Nat) (ri:Rec) (bj:List Nat) (rj:Rec):Prop where
 q1:X5 ri rj
 q2:i ∉ bj→X5 rj ri
 dst:∀ t,ri.dst=some t→rj.dst ≠ some t
 nm:∀ s ∈ rj.N,s ∉ ri.nm
 free:i ∉ bj→ri.bar=false∧rj.bar=false∧(∀ t,ri.dst=some t→t ∉ rj.rd)∧(∀ t,rj.dst=some t→t ∉ ri.rd)∧(∀ s ∈ ri.W,s ∉ rj.T)∧(∀ s ∈ rj.W,s ∉ ri.T)∧(∀ s ∈ ri.N,s ∉ rj.nm)∧(∀ s ∈ ri.W,s ∈ rj.L→ri.sm=true)∧(∀ s ∈ rj.W,s ∈ ri.L→rj.sm=true)
theorem qE {i:Nat} {ri rj:Rec} {bj:List Nat} (h:Kl i ri bj rj=true):WR i ri bj rj:=by
 unfold Kl at h
 rw [Je,Je,Oj] at h
 obtain ⟨⟨h1,hq⟩,h2⟩:=h
 have hq:=Ng hq
 have hd:∀ t,ri.dst=some t→rj.dst ≠ some t:=by
  intro t e1 e2
  rw [e1,e2] at h1
  simp [Pf] at h1
 split at h2
 ·rename_i hin
  exact ⟨hq,fun hn=>absurd (UJ.1 hin) hn,hd,HF h2,fun hn=>absurd (UJ.1 hin) hn⟩
 ·simp only [Je,Oj] at h2
  obtain ⟨hq2,⟨a1,a2⟩,⟨a3,a4⟩,⟨a5,a6⟩,⟨b1,b2⟩,a7,a8⟩:=h2
  have bor_spec:∀ {m:Bool} {l k:List Nat},bor m (Ui l k)=true→∀ s ∈ l,s ∈ k→m=true:=by
   intro m l k hb s hs hk
   cases m with
   | true=>rfl
   | false=>exact absurd hk (HF (show Ui l k=true from hb) s hs)
  exact ⟨hq,fun _=>Ng hq2,hd,HF a7,fun _=>⟨a1,a2,fun t ht=>HF a3 t (by simp [ht,J0]),fun t ht=>HF a4 t (by simp [ht,J0]),HF a5,HF a6,HF a8,bor_spec b1,bor_spec b2⟩⟩
theorem Nh {bj:List Nat} {rj:Rec}:∀ {l:List Rec} {i:Nat},XO i l bj rj=true→∀ k r,l[k]?=some r→WR (i + k) r bj rj
 | [],i,_,k,r,hk=>by simp at hk
 | r0 :: l,i,h,k,r,hk=>by
  unfold XO at h
  rw [Je] at h
  cases k with
  | zero=>
   simp only [List.getElem?_cons_zero,oj] at hk
   subst hk
   exact qE h.1
  | succ k=>
   simp only [List.getElem?_cons_succ] at hk
   have:=Nh h.2 k r hk
   rw [show i + 1 + k=i + (k + 1) by omega] at this
   exact this
theorem Ni {σ:St}:∀ {l:List Nat},XP σ l=true→∀ s ∈ l,Uh σ.sl σ.bl .undef s=true
 | [],_,s,hs=>by cases hs
 | a :: l,h,s,hs=>by
  unfold XP at h
  rw [Je] at h
  rcases List.mem_cons.1 hs with rfl | hs
  ·exact h.1
  ·exact Ni h.2 s hs
theorem X6 {σ:St}:∀ {rs pre:List Rec} {bs:List (List Nat)},WF σ pre bs rs=true→∀ k rj,rs[k]?=some rj →
  ((∀ s ∈ rj.N,Uh σ.sl σ.bl .undef s=true)∧Ub rj.qf rj.qp σ.sl=true∧∀ s,s ∈ rj.qf ∨ s ∈ rj.qp→s ∉ Jv σ.bl)∧∃ bj,bs[k]?=some bj∧∀ i ri,(pre ++ rs)[i]?=some ri→i<pre.length + k→WR i ri bj rj
 | [],pre,bs,_,k,rj,hk=>by simp at hk
 | r0 :: rs,pre,[],h,_,_,_=>by simp [WF] at h
 | r0 :: rs,pre,b0 :: bs,h,k,rj,hk=>by
  unfold WF at h
  rw [Je,Je,Je,Qd] at h
  obtain ⟨⟨⟨h1,h0⟩,h2⟩,h3⟩:=h
  unfold Pg at h0
  rw [Je,Je] at h0
  cases k with
  | zero=>
   simp only [List.getElem?_cons_zero,oj] at hk
   subst hk
   refine ⟨⟨Ni h1,h0.1,fun s hs=>hs.elim (HF h0.2.1 s) (HF h0.2.2 s)⟩,b0,rfl,fun i ri hi hlt=>?_⟩
   rw [List.getElem?_append_left (by simpa using hlt)] at hi
   simpa using Nh h2 i ri hi
  | succ k=>
   simp only [List.getElem?_cons_succ] at hk
   obtain ⟨k1,bj,k2,k3⟩:=X6 h3 k rj hk
   refine ⟨k1,bj,by simpa using k2,fun i ri hi hlt=>?_⟩
   exact k3 i ri (by simpa using hi) (by simp;omega)
end Go.Rai
namespace Go.Rai
variable [Inhabited Qk]
def HG:BL→BL
 | []=>[]
 | (k,v) :: r=>(k,v) :: Qj (HG r) k
theorem WS:∀ (b:BL) (s:Nat),Jb (HG b) s=Jb b s
 | [],s=>rfl
 | (k,v) :: r,s=>by
  simp only [HG,Jb]
  cases h:Nat.beq k s with
  | true=>rfl
  | false=>
   simp only
   rw [Ur,WS r s,if_neg]
   intro he;subst he;rw [Nat.beq_refl] at h;cases h
theorem KW:∀ {b:BL} {s:Nat} {x:Nat × V},x ∈ Qj b s→x ∈ b∧x.1 ≠ s
 | [],s,x,h=>by simp [Qj] at h
 | (k,v) :: r,s,x,h=>by
  unfold Qj at h
  split at h
  ·have:=KW h
   exact ⟨by simp [this.1],this.2⟩
  ·rename_i hb
   rcases List.mem_cons.1 h with rfl | h
   ·refine ⟨by simp,fun he=>?_⟩
    simp only at he
    subst he
    rw [Nat.beq_refl] at hb;cases hb
   ·have:=KW h
    exact ⟨by simp [this.1],this.2⟩
theorem Nj:∀ {b:BL} {k:Nat} {v:V},(k,v) ∈ HG b→Jb b k=some v
 | [],k,v,h=>by simp [HG] at h
 | (k0,v0) :: r,k,v,h=>by
  simp only [HG] at h
  rcases List.mem_cons.1 h with h | h
  ·simp only [pj] at h
   obtain ⟨rfl,rfl⟩:=h
   simp [Jb,Nat.beq_refl]
  ·obtain ⟨h1,h2⟩:=KW h
   have:=Nj h1
   simp only [Jb]
   have hb:Nat.beq k0 k=false:=by
    cases hq:Nat.beq k0 k with
    | false=>rfl
    | true=>exact absurd (Nat.eq_of_beq_eq_true hq).symm h2
   rw [hb]
   exact this
theorem Nk:∀ {b:BL} {s:Nat},s ∈ Jv b→∃ k c,(k,c) ∈ b∧s ∈ Jd c
 | [],s,h=>by simp [Jv] at h
 | (k,c) :: r,s,h=>by
  simp only [Jv,Ju] at h
  rcases h with h | h
  ·exact ⟨k,c,by simp,h⟩
  ·obtain ⟨k',c',h1,h2⟩:=Nk h
   exact ⟨k',c',by simp [h1],h2⟩
theorem Nl {b:BL} {s:Nat} (h:s ∈ Jv (HG b)):∃ k c,Jb b k=some c∧s ∈ Jd c:=by
 obtain ⟨k,c,h1,h2⟩:=Nk h
 exact ⟨k,c,Nj h1,h2⟩
theorem Nm:∀ {sl:List V} {s:Nat},s ∈ Jl sl→∃ t,s ∈ Jd (Jw sl t)
 | [],s,h=>by simp [Jl] at h
 | v :: sl,s,h=>by
  simp only [Jl,Ju] at h
  rcases h with h | h
  ·exact ⟨0,h⟩
  ·obtain ⟨t,ht⟩:=Nm h
   exact ⟨t + 1,ht⟩
theorem Nn {Lf Lp:List Nat}:∀ {sl:List V},(∀ t,ioV Lf Lp (Jw sl t)=true)→Ub Lf Lp sl=true
 | [],_=>rfl
 | v :: sl,h=>by
  simp only [Ub]
  rw [Je]
  exact ⟨h 0,Nn (fun t=>h (t + 1))⟩
section
variable {Pn:Nat→Option Value} {P:Program} {A:Ann} {w w' w0:World} {F0:List Nat} {sl sl':List V} {a:Act} {b b' b1 bl:BL} {G:GT} {o:Oper} {v:V} {c:List Jk} {ops:Array Oper}
theorem Np (hb:∀ s,Jb b' s=Jb b s) {X:List Nat} {k:Nat}:Uk b' G X k ↔ Uk b G X k:=by
 unfold Uk
 simp only [hb]
theorem Jx.ext (hb:∀ s,Jb b' s=Jb b s) {X:List Nat}:Jx (Ja w b G X) (Ja w b' G X) (fun _=>False):=by
 refine ⟨⟨fun k hk=>⟨⟨hk.1,fun ho=>hk.2 ((Np hb).1 ho)⟩,rfl⟩,Nat.le_refl _,fun _ _ h=>h⟩,fun s _=>?_⟩
 exact Ux.same (hb s) rfl (fun c rc F _ _=>Uj.refl)
theorem Rel.ext (h:Rel Pn w0 F0 ⟨sl,b⟩ a w) (hl:sl'.length=sl.length) (hs:∀ t,Jw sl' t=Jw sl t) (hb:∀ s,Jb b' s=Jb b s):Rel Pn w0 F0 ⟨sl',b'⟩ a w:=by
 obtain ⟨⟨G,hc,hv⟩,h1,h2,h3⟩:=h
 have hg:Jx (Ja w b G []) (Ja w b' G []) (fun _=>False):=Jx.ext hb
 refine ⟨⟨G,⟨⟨?_,?_,hc.ok.xnd,hc.ok.xlt⟩,hc.frame,fun k hk=>hc.own k ((Np hb).1 hk),hc.size,hc.os,hc.tape,hc.output⟩,?_⟩,by rw [h1,← hl],h2,h3⟩
 ·intro s c hsc
  have hsc':Jb b s=some c:=by rw [← hb s];exact hsc
  obtain ⟨rc,F,Fc,g1,g2,g3⟩:=hc.ok.root s c hsc'
  exact ⟨rc,F,Fc,g1,hg.inV (fun _ _=>id) (fun _ _=>rfl) g2,g3⟩
 ·intro s s' c c' rc rc' F F' hne k1 k2
  exact hc.ok.apart s s' c c' rc rc' F F' hne (by rw [← hb s];exact k1) (by rw [← hb s'];exact k2)
 ·intro t
  rw [hs t]
  exact TX hg (fun _ _=>id) (fun _ hb=>by cases hb) (hv t)
structure Inv (Pn:Nat→Option Value) (w0:World) (F0:List Nat) (st:Nat→St) (rc:Nat→Rec) (n:Nat) (E:Nat→Bool) (a:Act) (w:World):Prop where
 rel:∃ sl b,Rel Pn w0 F0 ⟨sl,b⟩ a w∧sl.length=(st 0).sl.length∧(∀ t,Jw sl t=slC st rc (st 0).sl.length E n t)∧(∀ s,Jb b s=QM st rc E n s)
structure Reg (P:Program) (ops:Array Oper) (st:Nat→St) (rc:Nat→Rec) (B:Nat→List Nat):Prop where
 done:∀ j o,ops[j]?=some o→Oi P ops o (st j) (rc j) (st (j + 1))
 edge:∀ j o,ops[j]?=some o→∀ e ∈ o.after,Region.binds .any e=true→e.on<j
 bef:∀ j o,ops[j]?=some o→∀ i ∈ B j,∃ e ∈ o.after,Region.binds .any e=true∧(i=e.on ∨ i ∈ B e.on)
 pair:∀ i j,i<j→j<ops.size→WR i (rc i) (B j) (rc j)
 new:∀ j,j<ops.size→∀ s ∈ (rc j).N,Uh (st 0).sl (st 0).bl .undef s=true
 start:∀ j,j<ops.size→Ub (rc j).qf (rc j).qp (st 0).sl=true∧∀ s,s ∈ (rc j).qf ∨ s ∈ (rc j).qp→s ∉ Jv (st 0).bl
def QF (listed:Array Bool) (j:Nat):Bool:=listed.getD j false
def Hb (ops:Array Oper) (listed:Array Bool):Prop:=
 ∀ j o,ops[j]?=some o→listed.getD j false=true→∀ e ∈ o.after,Region.binds .any e=true→listed.getD e.on false=true
variable {st:Nat→St} {rc:Nat→Rec} {B:Nat→List Nat} {n:Nat}
theorem Reg.before (h:Reg P ops st rc B) {listed:Array Bool} (hcl:Hb ops listed):∀ (j:Nat) (o:Oper),ops[j]?=some o→(∀ e ∈ o.after,Region.binds .any e=true→listed.getD e.on false=true)→∀ i ∈ B j,i<j∧listed.getD i false=true:=by
 intro j
 induction j using Nat.strongRecOn with
 | _ j ih=>
  intro o ho hr i hi
  obtain ⟨e,he,hb,h1⟩:=h.bef j o ho i hi
  have hlt:=h.edge j o ho e he hb
  rcases h1 with rfl | h1
  ·exact ⟨hlt,hr e he hb⟩
  ·have hsz:e.on<ops.size:=Nat.lt_trans hlt (Array.getElem?_eq_some_iff.1 ho).1
   have ho':ops[e.on]?=some ops[e.on]:=Array.getElem?_eq_getElem hsz
   have:=ih e.on hlt _ ho' (hcl e.on _ ho' (hr e he hb)) i h1
   exact ⟨by omega,this.2⟩
theorem Reg.ord (h:Reg P ops st rc B) {listed:Array Bool} (hcl:Hb ops listed) {j:Nat} {o:Oper} (ho:ops[j]?=some o) (hr:∀ e ∈ o.after,Region.binds .any e=true→listed.getD e.on false=true) (hn:listed.getD j false=false)
  {i:Nat} (hi:i<ops.size) (hij:i ≠ j) (hc:i ∈ B j ∨ j ∈ B i):(listed.getD i false=true ↔ i<j):=by
 have ho':ops[i]?=some ops[i]:=Array.getElem?_eq_getElem hi
 rcases hc with hc | hc
 ·have:=h.before hcl j o ho hr i hc
  exact ⟨fun _=>this.1,fun _=>this.2⟩
 ·constructor
  ·intro hl
   have:=(h.before hcl i _ ho' (hcl i _ ho' hl) j hc).2
   rw [hn] at this;cases this
  ·intro hlt
   have:∀ (k:Nat) (o:Oper),ops[k]?=some o→∀ i ∈ B k,i<k:=by
    intro k
    induction k using Nat.strongRecOn with
    | _ k ih=>
     intro o ho i hi
     obtain ⟨e,he,hb,h1⟩:=h.bef k o ho i hi
     have hlt:=h.edge k o ho e he hb
     rcases h1 with rfl | h1
     ·exact hlt
     ·have hsz:e.on<ops.size:=Nat.lt_trans hlt (Array.getElem?_eq_some_iff.1 ho).1
      have:=ih e.on hlt _ (Array.getElem?_eq_getElem hsz) i h1
      omega
   have:=this i _ ho' j hc
   omega
theorem Reg.slots (h:Reg P ops st rc B):∀ j,j≤ops.size→(st j).sl.length=(st 0).sl.length∧(∀ t,Jw (st j).sl t=slC st rc (st 0).sl.length (fun _=>true) j t)∧(∀ s,Jb (st j).bl s=QM st rc (fun _=>true) j s):=by
 intro j
 induction j with
 | zero=>intro _;exact ⟨rfl,fun _=>rfl,fun _=>rfl⟩
 | succ j ih=>
  intro hj
  obtain ⟨h1,h2,h3⟩:=ih (by omega)
  have ho:ops[j]?=some ops[j]:=Array.getElem?_eq_getElem (by omega)
  have hd:=h.done j _ ho
  refine ⟨?_,?_,?_⟩
  ·rw [hd.sl]
   cases hdd:ops[j].dst with
   | none=>exact h1
   | some t=>simp only [Qy];rw [VD];exact h1
  ·intro t
   rw [hd.sl]
   simp only [slC]
   rw [hd.dst]
   cases hdd:ops[j].dst with
   | none=>simp [Qy,h2]
   | some u=>
    simp only [Qy,OP,h1]
    by_cases hu:t=u∧u<(st 0).sl.length
    ·obtain ⟨rfl,hu⟩:=hu
     simp [hu]
    ·rw [if_neg hu,h2,if_neg]
     rintro ⟨_,e1,e2⟩
     simp only [oj] at e1
     subst e1
     exact hu ⟨rfl,e2⟩
  ·intro s
   simp only [QM]
   by_cases hw:UM rc j s
   ·rw [if_pos ⟨rfl,hw⟩]
   ·rw [if_neg (fun h=>hw h.2),← h3]
    unfold UM at hw
    have hb:(rc j).bar=false:=by
     cases hq:(rc j).bar with
     | false=>rfl
     | true=>exact absurd (.inl hq) hw
    exact (hd.loc hb).1.1 s (fun hm=>hw (.inr hm))
theorem Reg.step (h:Reg P ops st rc B) {Q:Exit→Act→World→Prop} {listed:Array Bool} (hsz:listed.size=ops.size) (hcl:Hb ops listed) {j:Nat} (hj:j ∈ Region.ready .any ops listed) (hD:∀ o ∈ ops.toList,∀ t,o.dst=some t→Pn t=none)
  (hi:Inv Pn w0 F0 st rc ops.size (QF listed) a w) {K:Act→World→Prop} (hK:∀ a' w',Inv Pn w0 F0 st rc ops.size (QF (listed.setIfInBounds j true)) a' w'→K a' w'):wpOp P ops Q j K a w:=by
 obtain ⟨hnl,o,ho,hr⟩:=mem_ready.1 hj
 have hjn:j<ops.size:=(Array.getElem?_eq_some_iff.1 ho).1
 have hdst:∀ t,o.dst=some t→Pn t=none:=hD o (by have h':=Array.mem_of_getElem? ho;simpa using h')
 have hnl':listed.getD j false=false:=by
  rw [Array.getD_eq_getD_getElem?] at hnl ⊢
  rw [Array.getElem?_eq_getElem (by omega)] at hnl ⊢
  exact hnl
 let E':Nat→Bool:=QF (listed.setIfInBounds j true)
 have e1:E' j=true:=by
  show (listed.setIfInBounds j true).getD j false=true
  rw [Array.getD_eq_getD_getElem?,Array.getElem?_setIfInBounds_self_of_lt (by omega)]
  rfl
 have e0:∀ i,i ≠ j→E' i=QF listed i:=by
  intro i hij
  show (listed.setIfInBounds j true).getD i false=listed.getD i false
  rw [Array.getD_eq_getD_getElem?,Array.getD_eq_getD_getElem?,Array.getElem?_setIfInBounds_ne (Ne.symm hij)]
 have hord:=fun {i:Nat} (hi:i<ops.size) (hij:i ≠ j) (hc:i ∈ B j ∨ j ∈ B i)=>h.ord hcl ho hr hnl' hi hij hc
 have hpair:∀ i,i<ops.size→i ≠ j→¬ (i ∈ B j ∨ j ∈ B i)→(rc i).bar=false∧(rc j).bar=false∧(∀ t,(rc i).dst=some t→t ∉ (rc j).rd)∧(∀ s ∈ (rc i).W,s ∉ (rc j).T)∧(∀ s ∈ (rc j).W,s ∉ (rc i).T):=by
  intro i hin hij hc
  rw [not_or] at hc
  rcases Nat.lt_or_ge i j with hlt | hge
  ·obtain ⟨a1,a2,a3,a4,a5,a6,a7,a8,a9⟩:=(h.pair i j hlt hjn).free hc.1
   exact ⟨a1,a2,a3,a5,a6⟩
  ·obtain ⟨a1,a2,a3,a4,a5,a6,a7,a8,a9⟩:=(h.pair j i (by omega) hin).free hc.2
   exact ⟨a2,a1,a4,a6,a5⟩
 have hdsts:∀ i t,i<ops.size→i ≠ j→(rc i).dst=some t→(rc j).dst ≠ some t:=by
  intro i t hin hij hd
  rcases Nat.lt_or_ge i j with hlt | hge
  ·exact (h.pair i j hlt hjn).dst t hd
  ·intro hd'
   exact (h.pair j i (by omega) hin).dst t hd' hd
 have hdone:=h.done j o ho
 obtain ⟨t1,t2,t3⟩:=h.slots j (by omega)
 obtain ⟨u1,u2,u3⟩:=h.slots (j + 1) (by omega)
 obtain ⟨sl,b,i1,i2,i3,i4⟩:=hi.rel
 unfold wpOp
 rw [ho]
 cases hbar:(rc j).bar with
 | true=>
  have hall:∀ i,i<ops.size→i ≠ j→(QF listed i=true ↔ i<j):=by
   intro i hin hij
   apply hord hin hij
   apply Classical.byContradiction
   intro hc
   have:=(hpair i hin hij hc).2.1
   rw [hbar] at this;cases this
  have hall':∀ i,i<ops.size→(QF listed i=true ↔ i<j):=by
   intro i hin
   by_cases hij:i=j
   ·subst hij
    constructor
    ·intro hl;have hl':listed.getD i false=true:=hl;rw [hnl'] at hl';cases hl'
    ·intro hl;omega
   ·exact hall i hin hij
  have hrel:Rel Pn w0 F0 ⟨(st j).sl,(st j).bl⟩ a w:=by
   refine i1.ext (by rw [t1,i2]) (fun t=>?_) (fun s=>?_)
   ·rw [i3,t2,WQ st rc _ (Nat.le_of_lt hjn) (fun i hin _=>hall' i hin)]
   ·rw [i4,t3,VW st rc (Nat.le_of_lt hjn) (fun i hin _=>hall' i hin)]
  refine (hdone.bar hbar).1 Pn w0 F0 a w hdst hrel K Q (fun a' w' hr'=>hK a' w' ⟨_,_,hr',?_,fun t=>?_,fun s=>?_⟩)
  ·rw [← hdone.sl,u1]
  ·rw [← hdone.sl,u2]
   refine (WQ st rc _ (by omega) (fun i hin _=>?_)).symm
   by_cases hij:i=j
   ·subst hij;exact ⟨fun _=>by omega,fun _=>e1⟩
   ·rw [show QF (listed.setIfInBounds j true) i=QF listed i from e0 i hij,hall i hin hij];omega
  ·rw [u3]
   refine (VW st rc (by omega) (fun i hin _=>?_)).symm
   by_cases hij:i=j
   ·subst hij;exact ⟨fun _=>by omega,fun _=>e1⟩
   ·rw [show QF (listed.setIfInBounds j true) i=QF listed i from e0 i hij,hall i hin hij];omega
 | false=>
  obtain ⟨⟨hframe,hloc⟩,hWT,hNW,hnm,hLW,hsm⟩:=hdone.loc hbar
  have own:¬ (QF listed j=true)∧¬ (j<j):=⟨fun hl=>(by have hl':listed.getD j false=true:=hl;rw [hnl'] at hl';cases hl'),by omega⟩
  have a1:∀ t ∈ (rc j).rd,Jw sl t=Jw (st j).sl t:=by
   intro t ht
   rw [i3,t2]
   refine WQ st rc _ (Nat.le_of_lt hjn) (fun i hin hd=>?_)
   by_cases hij:i=j
   ·subst hij;exact ⟨fun x=>absurd x own.1,fun x=>absurd x own.2⟩
   ·apply hord hin hij
    apply Classical.byContradiction
    intro hc
    exact (hpair i hin hij hc).2.2.1 t hd ht
  have a2:QP (st j).bl (HG b) (rc j).T:=by
   intro s hs
   rw [WS,i4,t3]
   refine VW st rc (Nat.le_of_lt hjn) (fun i hin hd=>?_)
   by_cases hij:i=j
   ·subst hij;exact ⟨fun x=>absurd x own.1,fun x=>absurd x own.2⟩
   ·apply hord hin hij
    apply Classical.byContradiction
    intro hc
    obtain ⟨p1,p2,p3,p4,p5⟩:=hpair i hin hij hc
    rcases hd with hd | hd
    ·rw [p1] at hd;cases hd
    ·exact p4 s hd hs
  have named:∀ s ∈ (rc j).N,∀ i,i<ops.size→QF listed i=true→s ∉ (rc i).nm:=by
   intro s hs i hin hl
   have hij:i ≠ j:=fun e=>own.1 (e ▸ hl)
   rcases Nat.lt_or_ge i j with hlt | hge
   ·exact (h.pair i j hlt hjn).nm s hs
   ·have hnb:j ∉ B i:=by
     intro hc
     have:=(hord hin hij (.inr hc)).1 hl
     omega
    exact ((h.pair j i (by omega) hin).free hnb).2.2.2.2.2.2.1 s hs
  have a3:∀ s ∈ (rc j).N,s ∉ Jl sl∧s ∉ Jv (HG b):=by
   intro s hs
   have hu:=C6 (h.new j hjn s hs)
   constructor
   ·intro hm
    obtain ⟨t,ht⟩:=Nm hm
    rw [i3] at ht
    rcases Nd st rc _ (E:=QF listed) (t:=t) (n:=ops.size) with he | ⟨i,hin,hl,he⟩
    ·rw [he] at ht;exact hu.2.1 (YC ht)
    ·rw [he] at ht
     have ho':ops[i]?=some ops[i]:=Array.getElem?_eq_getElem hin
     have hd':=h.done i _ ho'
     refine named s hs i hin hl ?_
     cases hb':(rc i).bar with
     | true=>exact (hd'.bar hb').2 s (.inl ht)
     | false=>exact (hd'.loc hb').2.2.2.1 s (.inl ht)
   ·intro hm
    obtain ⟨k,c,hk,hc⟩:=Nl hm
    rw [i4] at hk
    rcases Nf st rc (E:=QF listed) (s:=k) (n:=ops.size) with he | ⟨i,hin,hl,hw,he⟩
    ·rw [he] at hk;exact hu.2.2.1 k c hk hc
    ·rw [he] at hk
     have ho':ops[i]?=some ops[i]:=Array.getElem?_eq_getElem hin
     have hd':=h.done i _ ho'
     refine named s hs i hin hl ?_
     cases hb':(rc i).bar with
     | true=>exact (hd'.bar hb').2 s (.inr (Cr hk hc))
     | false=>
      rcases hw with hw | hw
      ·rw [hb'] at hw;cases hw
      ·exact (hd'.loc hb').2.2.2.1 s (.inr ⟨k,hw,c,hk,hc⟩)
  have quiet:∀ i,i<ops.size→QF listed i=true→X5 (rc i) (rc j):=by
   intro i hin hl
   have hij:i ≠ j:=fun e=>own.1 (e ▸ hl)
   rcases Nat.lt_or_ge i j with hlt | hge
   ·exact (h.pair i j hlt hjn).q1
   ·have hnb:j ∉ B i:=by
     intro hc
     have:=(hord hin hij (.inr hc)).1 hl
     omega
    exact (h.pair j i (by omega) hin).q2 hnb
  have a4:Ub (rc j).qf (rc j).qp sl=true:=by
   refine Nn (fun t=>?_)
   rw [i3]
   rcases Nd st rc _ (E:=QF listed) (t:=t) (n:=ops.size) with he | ⟨i,hin,hl,he⟩
   ·rw [he];exact KC (h.start j hjn).1
   ·rw [he];exact (quiet i hin hl).v
  have a5:∀ s,s ∈ (rc j).qf ∨ s ∈ (rc j).qp→s ∉ Jv (HG b):=by
   intro s hs hm
   obtain ⟨k,c,hk,hc⟩:=Nl hm
   rw [i4] at hk
   rcases Nf st rc (E:=QF listed) (s:=k) (n:=ops.size) with he | ⟨i,hin,hl,hw,he⟩
   ·rw [he] at hk;exact (h.start j hjn).2 s hs (Cr hk hc)
   ·rw [he] at hk
    have ho':ops[i]?=some ops[i]:=Array.getElem?_eq_getElem hin
    have hd':=h.done i _ ho'
    refine (quiet i hin hl).f s hs (hd'.bn s ?_)
    rcases hw with hw | hw
    ·exact .inl ⟨hw,Cr hk hc⟩
    ·exact .inr ⟨k,hw,c,hk,hc⟩
  have aL:XV (st j).bl (HG b) (rc j).L:=by
   intro s hs
   rw [WS,i4,t3]
   have hjw:¬ UM rc j s:=by
    unfold UM
    rw [hbar]
    rintro (hx | hx)
    ·cases hx
    ·exact hLW s hs hx
   have usm:∀ i,i<ops.size→i ≠ j→¬ (i ∈ B j ∨ j ∈ B i)→UM rc i s→UX (Jb (st i).bl s) (Jb (st (i + 1)).bl s):=by
    intro i hin hij hc hw
    have hb':=(hpair i hin hij hc).1
    have hwi:s ∈ (rc i).W:=by
     rcases hw with hw | hw
     ·rw [hb'] at hw;cases hw
     ·exact hw
    have ho':ops[i]?=some ops[i]:=Array.getElem?_eq_getElem hin
    refine ((h.done i _ ho').loc hb').2.2.2.2.2 ?_ s hwi
    rw [not_or] at hc
    rcases Nat.lt_or_ge i j with hlt | hge
    ·exact ((h.pair i j hlt hjn).free hc.1).2.2.2.2.2.2.2.1 s hwi hs
    ·exact ((h.pair j i (by omega) hin).free hc.2).2.2.2.2.2.2.2.2 s hwi hs
   have still:∀ i,i<ops.size→¬ UM rc i s→Jb (st (i + 1)).bl s=Jb (st i).bl s:=by
    intro i hin hw
    have ho':ops[i]?=some ops[i]:=Array.getElem?_eq_getElem hin
    unfold UM at hw
    have hb':(rc i).bar=false:=by
     cases hq:(rc i).bar with
     | false=>rfl
     | true=>exact absurd (.inl hq) hw
    exact ((h.done i _ ho').loc hb').1.1 s (fun hm=>hw (.inr hm))
   have low:∀ k,k≤j→UX (QM st rc (fun _=>true) k s) (QM st rc (QF listed) k s):=by
    intro k
    induction k with
    | zero=>intro _;exact WK _
    | succ k ih=>
     intro hk
     have ih:=ih (by omega)
     by_cases hw:UM rc k s
     ·cases hE:QF listed k with
      | true=>
       simp only [QM]
       rw [if_pos ⟨rfl,hw⟩,if_pos ⟨hE,hw⟩]
       exact WK _
      | false=>
       have hc:¬ (k ∈ B j ∨ j ∈ B k):=by
        intro hc
        have h1:=(hord (by omega) (by omega) hc).2 (by omega)
        have hE':listed.getD k false=false:=hE
        rw [h1] at hE';cases hE'
       have hs1:=usm k (by omega) (by omega) hc hw
       have hk3:=(h.slots k (by omega)).2.2 s
       simp only [QM]
       rw [if_pos ⟨rfl,hw⟩,if_neg (fun hx=>by rw [hE] at hx;cases hx.1)]
       rw [← hk3] at ih
       exact Pk (jP hs1) ih
     ·simp only [QM]
      rw [if_neg (fun hx=>hw hx.2),if_neg (fun hx=>hw hx.2)]
      exact ih
   have high:∀ k,j≤k→k≤ops.size→UX (QM st rc (fun _=>true) j s) (QM st rc (QF listed) k s):=by
    intro k hk
    induction k with
    | zero=>
     intro _
     have h0:j=0:=by omega
     rw [h0]
     exact WK _
    | succ k ih=>
     intro hn
     by_cases he:j=k + 1
     ·have:=low j (Nat.le_refl j)
      rw [← he];exact this
     ·have ih:=ih (by omega) (by omega)
      by_cases hw:QF listed k=true∧UM rc k s
      ·have hkj:k ≠ j:=fun e=>by rw [e] at hw;exact own.1 hw.1
       simp only [QM]
       rw [if_pos hw,← t3]
       have chain:∀ m,j≤m→m≤k + 1→UX (Jb (st j).bl s) (Jb (st m).bl s):=by
        intro m hm
        induction m with
        | zero=>
         intro _
         have h0:j=0:=by omega
         rw [h0];exact WK _
        | succ m ihm=>
         intro hm2
         by_cases he2:j=m + 1
         ·rw [he2];exact WK _
         ·have ihm:=ihm (by omega) (by omega)
          by_cases hwm:UM rc m s
          ·have hmj:m ≠ j:=fun e=>by rw [e] at hwm;exact hjw hwm
           refine Pk ihm (usm m (by omega) hmj ?_ hwm)
           intro hc
           have hlm:listed.getD m false=true:=by
            by_cases hmk:m=k
            ·rw [hmk];exact hw.1
            ·have ho':ops[k]?=some ops[k]:=Array.getElem?_eq_getElem (by omega)
             have hin:m ∈ B k:=by
              apply Classical.byContradiction
              intro hnb
              obtain ⟨q1,q2,q3,q4,q5,q6,q7,q8,q9⟩:=(h.pair m k (by omega) (by omega)).free hnb
              have hTk:s ∈ (rc k).T:=by
               rcases hw.2 with hx | hx
               ·rw [q2] at hx;cases hx
               ·exact ((h.done k _ ho').loc q2).2.1 s hx
              rcases hwm with hx | hx
              ·rw [q1] at hx;cases hx
              ·exact q5 s hx hTk
             exact (h.before hcl k _ ho' (hcl k _ ho' hw.1) m hin).2
           have:=(hord (by omega) hmj hc).1 hlm
           omega
          ·rw [still m (by omega) hwm];exact ihm
       exact chain (k + 1) (by omega) (Nat.le_refl _)
      ·simp only [QM]
       rw [if_neg hw]
       exact ih
   exact high ops.size (by omega) (Nat.le_refl _)
  obtain ⟨b1',k1,k2,k3⟩:=hloc sl (HG b) a1 a2 aL a3 a4 a5
  have hrel:Rel Pn w0 F0 ⟨sl,HG b⟩ a w:=i1.ext rfl (fun _=>rfl) (fun s=>WS b s)
  refine k1 Pn w0 F0 a w hdst hrel K Q (fun a' w' hr'=>hK a' w' ⟨_,_,hr',?_,fun t=>?_,fun s=>?_⟩)
  ·cases hdd:o.dst with
   | none=>exact i2
   | some t=>simp only [Qy];rw [VD,i2]
  ·rw [qD st rc _ hjn (fun i _ hij=>e0 i hij) e1 (fun i hin hij hd=>hdsts i t hin hij hd),hdone.dst]
   cases hdd:o.dst with
   | none=>simp [Qy,i3]
   | some u=>
    simp only [Qy,OP,i2]
    by_cases hu:t=u∧u<(st 0).sl.length
    ·obtain ⟨rfl,hu⟩:=hu
     simp [hu]
    ·rw [if_neg hu,i3,if_neg]
     rintro ⟨e1,e2⟩
     simp only [oj] at e1
     subst e1
     exact hu ⟨rfl,e2⟩
  ·by_cases hw:s ∈ (rc j).W
   ·rw [k2 s hw,u3]
    refine (VW st rc (by omega) (fun i hin hd=>?_)).symm
    by_cases hij:i=j
    ·subst hij;exact ⟨fun _=>by omega,fun _=>e1⟩
    ·rw [show QF (listed.setIfInBounds j true) i=QF listed i from e0 i hij]
     have:QF listed i=true ↔ i<j:=by
      apply hord hin hij
      apply Classical.byContradiction
      intro hc
      obtain ⟨p1,p2,p3,p4,p5⟩:=hpair i hin hij hc
      rcases hd with hd | hd
      ·rw [p1] at hd;cases hd
      ·exact p4 s hd (hWT s hw)
     rw [this];omega
   ·rw [k3 s hw,WS,i4]
    refine (qC st rc (fun i hin hd=>?_)).symm
    by_cases hij:i=j
    ·subst hij
     rcases hd with hd | hd
     ·rw [hbar] at hd;cases hd
     ·exact absurd hd hw
    ·exact e0 i hij
theorem Reg.all (h:Reg P ops st rc B) {listed:Array Bool} (hsz:listed.size=ops.size) (hr:Region.ready .any ops listed=[]):∀ j,j<ops.size→listed.getD j false=true:=by
 intro j
 induction j using Nat.strongRecOn with
 | _ j ih=>
  intro hj
  cases hl:listed.getD j false with
  | true=>rfl
  | false=>
   have ho:ops[j]?=some ops[j]:=Array.getElem?_eq_getElem hj
   have:j ∈ Region.ready .any ops listed:=by
    refine mem_ready.2 ⟨?_,_,ho,fun e he hb=>?_⟩
    ·rw [Array.getD_eq_getD_getElem?] at hl ⊢
     rw [Array.getElem?_eq_getElem (by omega)] at hl ⊢
     exact hl
    ·have:=h.edge j _ ho e he hb
     exact ih e.on this (by omega)
   rw [hr] at this
   cases this
def left (listed:Array Bool) (n:Nat):Nat:=(List.range n).countP (fun i=>!listed.getD i false)
theorem Nq {listed:Array Bool} {n j:Nat} (hn:listed.size=n) (hj:j<n) (hl:listed.getD j false=false):left (listed.setIfInBounds j true) n + 1=left listed n:=by
 unfold left
 have hmem:j ∈ List.range n:=List.mem_range.2 hj
 have hnd:(List.range n).Nodup:=List.nodup_range
 have key:∀ (l:List Nat),l.Nodup→j ∈ l→l.countP (fun i=>!(listed.setIfInBounds j true).getD i false) + 1=l.countP (fun i=>!listed.getD i false):=by
  intro l
  induction l with
  | nil=>intro _ h;cases h
  | cons x l ih=>
   intro hnd hm
   rw [List.nodup_cons] at hnd
   by_cases hx:x=j
   ·subst hx
    have hrest:∀ (m:List Nat),x ∉ m→m.countP (fun i=>!(listed.setIfInBounds x true).getD i false)=m.countP (fun i=>!listed.getD i false):=by
     intro m hm
     apply List.countP_congr
     intro y hy
     have hne:x ≠ y:=fun e=>hm (e ▸ hy)
     rw [Array.getD_eq_getD_getElem?,Array.getD_eq_getD_getElem?,Array.getElem?_setIfInBounds_ne hne]
    rw [List.countP_cons,List.countP_cons,hrest l hnd.1]
    have h1:(listed.setIfInBounds x true).getD x false=true:=by
     rw [Array.getD_eq_getD_getElem?,Array.getElem?_setIfInBounds_self_of_lt (by omega)]
     rfl
    simp [h1,hl]
   ·have hm':j ∈ l:=(List.mem_cons.1 hm).resolve_left (fun e=>hx e.symm)
    rw [List.countP_cons,List.countP_cons,← ih hnd.2 hm']
    have h1:(listed.setIfInBounds j true).getD x false=listed.getD x false:=by
     rw [Array.getD_eq_getD_getElem?,Array.getD_eq_getD_getElem?,Array.getElem?_setIfInBounds_ne (fun e=>hx e.symm)]
    rw [h1]
    omega
 exact key _ hnd hmem
theorem Nr {listed:Array Bool} (hcl:Hb ops listed) {j:Nat} (hj:j ∈ Region.ready .any ops listed):Hb ops (listed.setIfInBounds j true):=by
 obtain ⟨hnl,o,ho,hr⟩:=mem_ready.1 hj
 have up:∀ i,listed.getD i false=true→(listed.setIfInBounds j true).getD i false=true:=by
  intro i hi
  rw [Array.getD_eq_getD_getElem?] at hi ⊢
  by_cases hij:j=i
  ·subst hij
   by_cases hlt:j<listed.size
   ·rw [Array.getElem?_setIfInBounds_self_of_lt hlt];rfl
   ·rw [Array.setIfInBounds_eq_of_size_le (by omega)];exact hi
  ·rw [Array.getElem?_setIfInBounds_ne hij];exact hi
 intro i o' ho' hi e he hb
 by_cases hij:j=i
 ·subst hij
  rw [ho] at ho'
  simp only [oj] at ho'
  subst ho'
  exact up _ (hr e he hb)
 ·rw [Array.getD_eq_getD_getElem?,Array.getElem?_setIfInBounds_ne hij,← Array.getD_eq_getD_getElem?] at hi
  exact up _ (hcl i o' ho' hi e he hb)
theorem Reg.any (h:Reg P ops st rc B) {Q:Exit→Act→World→Prop} (hD:∀ o ∈ ops.toList,∀ t,o.dst=some t→Pn t=none) (hQ:∀ a' w',Rel Pn w0 F0 (st ops.size) a' w'→Q .normal a' w'):∀ (fuel:Nat) (listed:Array Bool) (a:Act) (w:World),listed.size=ops.size→Hb ops listed→left listed ops.size=fuel →
  Inv Pn w0 F0 st rc ops.size (QF listed) a w→wpAny P .any ops Q fuel listed a w:=by
 have fin:∀ (listed:Array Bool) (a:Act) (w:World),listed.size=ops.size→Inv Pn w0 F0 st rc ops.size (QF listed) a w→Region.ready .any ops listed=[]→Q .normal a w:=by
  intro listed a w hsz hi hr
  have hall:=h.all hsz hr
  obtain ⟨sl,b,i1,i2,i3,i4⟩:=hi.rel
  obtain ⟨t1,t2,t3⟩:=h.slots ops.size (Nat.le_refl _)
  refine hQ a w ?_
  have:=i1.ext (sl':=(st ops.size).sl) (b':=(st ops.size).bl) (by rw [t1,i2]) (fun t=>?_) (fun s=>?_)
  ·exact this
  ·rw [i3,t2,WQ (E:=QF listed) st rc _ (Nat.le_refl _) (fun i hin _=>⟨fun _=>hin,fun _=>hall i hin⟩)]
  ·rw [i4,t3,VW (E:=QF listed) st rc (Nat.le_refl _) (fun i hin _=>⟨fun _=>hin,fun _=>hall i hin⟩)]
 intro fuel
 induction fuel with
 | zero=>
  intro listed a w hsz hcl hle hi
  have hr:Region.ready .any ops listed=[]:=by
   apply List.eq_nil_iff_forall_not_mem.2
   intro j hj
   obtain ⟨hnl,o,ho,hr⟩:=mem_ready.1 hj
   have hjn:j<ops.size:=(Array.getElem?_eq_some_iff.1 ho).1
   have hnl':listed.getD j false=false:=by
    rw [Array.getD_eq_getD_getElem?] at hnl ⊢
    rw [Array.getElem?_eq_getElem (by omega)] at hnl ⊢
    exact hnl
   have:=Nq hsz hjn hnl'
   omega
  exact ⟨hr,fin listed a w hsz hi hr⟩
 | succ fuel ih=>
  intro listed a w hsz hcl hle hi
  refine ⟨fin listed a w hsz hi,fun j hj=>?_⟩
  refine h.step hsz hcl hj hD hi (fun a' w' hi'=>?_)
  obtain ⟨hnl,o,ho,hr⟩:=mem_ready.1 hj
  have hjn:j<ops.size:=(Array.getElem?_eq_some_iff.1 ho).1
  have hnl':listed.getD j false=false:=by
   rw [Array.getD_eq_getD_getElem?] at hnl ⊢
   rw [Array.getElem?_eq_getElem (by omega)] at hnl ⊢
   exact hnl
  have:=Nq hsz hjn hnl'
  exact ih _ a' w' (by simp [hsz]) (Nr hcl hj) (by omega) hi'
theorem Rel.drew (h:Rel Pn w0 F0 ⟨sl,b⟩ a w):Rel Pn w0 F0 ⟨sl,b⟩ a { w with drawn:=w.drawn + 1 }:=by
 obtain ⟨⟨G,hc,hv⟩,h1,h2,h3⟩:=h
 obtain ⟨k1,k2⟩:=hc.x.drew
 exact ⟨⟨G,k1.c,hv.goes k2 (fun _ _=>id)⟩,h1,h2,h3⟩
theorem Ns (HT:JN P A.ty) {R:Type} {oc:OC R} (hoc:HS P A oc) {r:R} {Q:Exit→Act→World→Prop} {σ:St} {κ:St→Option R} (hD:∀ o ∈ ops.toList,∀ t,o.dst=some t→Pn t=none) (hr:Rel Pn w0 F0 σ a w) {bs:List (List Nat)} (hbs:HU [] ops.toList=some bs) (h:WI oc A ops.toList σ bs κ=some r)
  (hK:∀ σ' a' w',κ σ'=some r→Rel Pn w0 F0 σ' a' w'→Q .normal a' w'):wpAny P .any ops Q ops.size (Array.replicate ops.size false) a { w with drawn:=w.drawn + 1 }:=by
 unfold WI at h
 ·obtain ⟨rc,st,k1,k2,k3⟩:=Na HT hoc h
  split at k3
  ·rename_i hok
   obtain ⟨tl,e1,e2,e3⟩:=KV hbs
   simp only [List.nil_append] at e1
   subst e1
   have hn:ops.toList.length=ops.size:=by simp
   have hget:∀ j o,ops[j]?=some o→ops.toList[j]?=some o:=fun j o ho=>(by rw [Array.getElem?_toList];exact ho)
   have hrec:∀ j,j<ops.size→((List.range ops.toList.length).map rc)[j]?=some (rc j):=by
    intro j hj
    simp [hj]
   have hreg:Reg P ops st rc (fun j=>bs.getD j []):=by
    refine ⟨fun j o ho=>k2 j o (hget j o ho),fun j o ho e he hb=>?_,fun j o ho i hi=>?_,fun i j hij hj=>?_,fun j hj s hs=>?_,fun j hj=>?_⟩
    ·obtain ⟨r',_,h2,_⟩:=e3 j o (hget j o ho)
     have:=h2 e (by simpa using he) hb
     simpa using this
    ·obtain ⟨r',h1,_,h3⟩:=e3 j o (hget j o ho)
     have hbj:bs.getD j []=r':=by
      rw [List.getD_eq_getElem?_getD]
      rw [show ([]:List (List Nat)).length + j=j by simp] at h1
      rw [h1];rfl
     rw [hbj] at hi
     obtain ⟨e,he,hb,h4⟩:=h3 i hi
     refine ⟨e,by simpa using he,hb,h4.imp id ?_⟩
     rintro ⟨p,hp,hi'⟩
     rw [List.getD_eq_getElem?_getD,hp]
     exact hi'
    ·obtain ⟨_,bj,h2,h3⟩:=X6 hok j (rc j) (hrec j hj)
     have hbj:bs.getD j []=bj:=by
      rw [List.getD_eq_getElem?_getD,h2];rfl
     show WR i (rc i) (bs.getD j []) (rc j)
     rw [hbj]
     exact h3 i (rc i) (by simpa using hrec i (by omega)) (by simpa using hij)
    ·rw [k1]
     exact (X6 hok j (rc j) (hrec j hj)).1.1 s hs
    ·rw [k1]
     exact (X6 hok j (rc j) (hrec j hj)).1.2
   have hfalse:∀ i,QF (Array.replicate ops.size false) i=false:=by
    intro i
    show (Array.replicate ops.size false).getD i false=false
    rw [Array.getD_eq_getD_getElem?]
    by_cases hi:i<ops.size
    ·rw [Array.getElem?_eq_getElem (by simpa using hi)];simp
    ·rw [Array.getElem?_eq_none (by simpa using hi)];rfl
   refine hreg.any (w0:=w0) (F0:=F0) hD (fun a' w' hr'=>hK (st ops.size) a' w' (by rw [← hn];exact k3) hr') ops.size _ a _ (by simp) ?_ ?_ ?_
   ·intro j o ho hl
    have h':QF (Array.replicate ops.size false) j=true:=hl
    rw [hfalse] at h';cases h'
   ·unfold left
    rw [List.countP_eq_length.2]
    ·simp
    ·intro i _
     have h':(Array.replicate ops.size false).getD i false=false:=hfalse i
     rw [h'];rfl
   ·have hr':Rel Pn w0 F0 ⟨σ.sl,σ.bl⟩ a w:=hr
    refine ⟨σ.sl,σ.bl,hr'.drew,by rw [k1],fun t=>?_,fun s=>?_⟩
    ·rw [WQ st rc _ (Nat.zero_le _) (fun i _ _=>⟨fun hl=>(by rw [hfalse] at hl;cases hl),fun hl=>(by omega)⟩)]
     simp [slC,k1]
    ·rw [VW st rc (Nat.zero_le _) (fun i _ _=>⟨fun hl=>(by rw [hfalse] at hl;cases hl),fun hl=>(by omega)⟩)]
     simp [QM,k1]
  ·cases k3
theorem Nt:∀ {l:List Oper} {acc bs:List (List Nat)} {o:Oper},HU acc (l ++ [o])=some bs→∃ bp b,HU acc l=some bp∧bs=bp ++ [b]
 | [],acc,bs,o,h=>by
  simp only [List.nil_append,HU] at h
  split at h
  ·rename_i b hb
   simp only [HU,oj] at h
   exact ⟨acc,b,rfl,by rw [← h,Qd]⟩
  ·cases h
 | x :: l,acc,bs,o,h=>by
  simp only [List.cons_append,HU] at h
  split at h
  ·rename_i b hb
   obtain ⟨bp,b',h1,h2⟩:=Nt h
   exact ⟨bp,b',by simp only [HU,hb];exact h1,h2⟩
  ·cases h
theorem Nu:∀ {l:List Oper} {bs:List (List Nat)} {pre:List Oper} {bp:List (List Nat)} {o:Oper},Cy l bs=some (pre,bp,o)→l=pre ++ [o]∧o.guard=none∧bs=bp ++ [WH bs]∧pre.length=bp.length
 | [],bs,pre,bp,o,h=>by simp [Cy] at h
 | [x],[b],pre,bp,o,h=>by
  simp only [Cy] at h
  split at h
  ·rename_i hg
   simp only [oj,pj] at h
   obtain ⟨rfl,rfl,rfl⟩:=h
   exact ⟨rfl,hg,rfl,rfl⟩
  ·cases h
 | [x],[],pre,bp,o,h=>by simp [Cy] at h
 | [x],b :: b' :: bs,pre,bp,o,h=>by simp [Cy] at h
 | x :: y :: l,[],pre,bp,o,h=>by simp [Cy] at h
 | x :: y :: l,b :: bs,pre,bp,o,h=>by
  simp only [Cy] at h
  split at h
  ·rename_i pre' bp' o' hq
   simp only [oj,pj] at h
   obtain ⟨rfl,rfl,rfl⟩:=h
   obtain ⟨h1,h2,h3,h4⟩:=Nu hq
   cases bs with
   | nil=>simp [Cy] at hq
   | cons b' bs=>
    refine ⟨by rw [h1];rfl,h2,?_,by simp [h4]⟩
    show b :: b' :: bs=b :: (bp' ++ [WH (b' :: bs)])
    rw [← h3]
  ·cases h
theorem Nv:∀ {n:Nat} {l:List Nat},XQ n l=true→∀ i,i<n→i ∈ l
 | 0,l,_,i,hi=>by omega
 | n + 1,l,h,i,hi=>by
  simp only [XQ,Je] at h
  by_cases e:i=n
  ·subst e;exact UJ.1 h.1
  ·exact Nv h.2 i (by omega)
theorem KX {n:Nat}:∀ {l:List Oper},WG n l=true→∀ o ∈ l,∀ j want,o.guard=some (j,want)→j<n
 | [],_,o,ho=>by cases ho
 | x :: l,h,o,ho=>by
  intro j want hg
  simp only [WG] at h
  rcases List.mem_cons.1 ho with rfl | ho
  ·rw [hg] at h
   simp only [Je] at h
   have:=Nat.le_of_ble_eq_true h.1
   omega
  ·split at h
   ·exact KX h o ho j want hg
   ·rw [Je] at h
    exact KX h.2 o ho j want hg
theorem qF {o:Oper} {a:Act} {K K':Act→World→Prop} {Q Q':Exit→Act→World→Prop} (hK:∀ a w,K a w→K' a w) (hp:∀ ch a w,Q (.panic ch) a w→Q' (.panic ch) a w) (hl:LetsOut Q→LetsOut Q') {r:Result Next} (h:o.upon P a K Q r):o.upon P a K' Q' r:=by
 cases r with
 | ok n w'=>
  cases n<;>simp only [Oper.upon] at h ⊢ <;>
   first
    | exact hK _ _ h
    | exact Calls.mono h (fun e w'' he=>by cases e<;>first | exact hK _ _ he | exact hp _ _ _ he | exact hl he)
    | exact Rows.mono h (fun _ _ he=>hK _ _ he)
 | halt x w'=>cases x<;>simp only [Oper.upon] at h ⊢<;>first | exact hp _ _ _ h | exact h
theorem qG {Q Q':Exit→Act→World→Prop} {pre:List Oper} {ol:Oper} (hops:ops.toList=pre ++ [ol]) (hQp:∀ ch a w,Q' (.panic ch) a w→Q (.panic ch) a w) (hQl:LetsOut Q'→LetsOut Q)
  (hedge:∀ j o,ops[j]?=some o→∀ e ∈ o.after,Region.binds .any e=true→e.on<j)
  (hcov:∀ listed:Array Bool,Hb ops listed→(∀ e ∈ ol.after,Region.binds .any e=true→listed.getD e.on false=true)→∀ i,i<pre.length→listed.getD i false=true)
  (hgd:∀ o ∈ pre,∀ j want,o.guard=some (j,want)→j<pre.length)
  (hQn:∀ a w,Q' .normal a w→wpOp P ops Q pre.length (fun a w=>Q .normal a w) a w) :
  ∀ (fuel:Nat) (l:Array Bool) (a:Act) (w:World),l.size=pre.length→Hb pre.toArray l→wpAny P .any pre.toArray Q' fuel l a w→wpAny P .any ops Q (fuel + 1) (l.push false) a w:=by
 have hn:ops.size=pre.length + 1:=by rw [← Array.length_toList,hops];simp
 have hgl:ops[pre.length]?=some ol:=by rw [← Array.getElem?_toList,hops];simp
 have hgp:∀ j,j<pre.length→ops[j]?=pre[j]?:=fun j hj=>by rw [← Array.getElem?_toList,hops,List.getElem?_append_left hj]
 have hgp':∀ j:Nat,pre.toArray[j]?=pre[j]?:=fun j=>by simp
 have pushD:∀ (l:Array Bool),l.size=pre.length→∀ (i:Nat) (d:Bool),i<pre.length→(l.push false).getD i d=l.getD i d:=by
  intro l hl i d hi
  rw [Array.getD_eq_getD_getElem?,Array.getD_eq_getD_getElem?,Array.getElem?_push_lt (by omega)]
  rw [Array.getElem?_eq_getElem (by omega)]
 have pushL:∀ (l:Array Bool) (d:Bool),l.size=pre.length→(l.push false).getD pre.length d=false:=by
  intro l d hl
  rw [Array.getD_eq_getD_getElem?,← hl,Array.getElem?_push_size];rfl
 have closedP:∀ (l:Array Bool),l.size=pre.length→Hb pre.toArray l→Hb ops (l.push false):=by
  intro l hl hc j o ho hj e he hb
  have hjn:j<ops.size:=(Array.getElem?_eq_some_iff.1 ho).1
  by_cases hjm:j=pre.length
  ·subst hjm
   rw [pushL l false hl] at hj;cases hj
  ·have hjp:j<pre.length:=by omega
   rw [pushD l hl j false hjp] at hj
   have hlt:=hedge j o ho e he hb
   rw [pushD l hl e.on false (by omega)]
   exact hc j o (by rw [hgp' j,← hgp j hjp];exact ho) hj e he hb
 have rdy:∀ (l:Array Bool),l.size=pre.length→∀ j,j<pre.length→(j ∈ Region.ready .any ops (l.push false) ↔ j ∈ Region.ready .any pre.toArray l):=by
  intro l hl j hj
  rw [mem_ready,mem_ready,pushD l hl j true hj]
  refine and_congr_right fun _=>?_
  constructor
  ·rintro ⟨o,ho,h⟩
   refine ⟨o,by rw [hgp' j,← hgp j hj];exact ho,fun e he hb=>?_⟩
   have:=h e he hb
   have hlt:=hedge j o ho e he hb
   rwa [pushD l hl e.on false (by omega)] at this
  ·rintro ⟨o,ho,h⟩
   have ho':ops[j]?=some o:=by rw [hgp j hj,← hgp' j];exact ho
   refine ⟨o,ho',fun e he hb=>?_⟩
   have hlt:=hedge j o ho' e he hb
   rw [pushD l hl e.on false (by omega)]
   exact h e he hb
 have none_left:∀ (l:Array Bool),l.size=pre.length→Hb pre.toArray l→pre.length ∈ Region.ready .any ops (l.push false)→Region.ready .any pre.toArray l=[]:=by
  intro l hl hc hm
  obtain ⟨_,o,ho,hr⟩:=mem_ready.1 hm
  rw [hgl] at ho
  obtain rfl:=Option.some.inj ho
  apply List.eq_nil_iff_forall_not_mem.2
  intro j hj
  obtain ⟨hnl,o',ho',_⟩:=mem_ready.1 hj
  have hjp:j<pre.length:=by
   have:=(Array.getElem?_eq_some_iff.1 ho').1
   simpa using this
  have hall:=hcov (l.push false) (closedP l hl hc) hr j hjp
  rw [pushD l hl j false hjp] at hall
  rw [Array.getD_eq_getD_getElem?] at hnl hall
  rw [Array.getElem?_eq_getElem (by omega)] at hnl hall
  simp only [Option.getD_some] at hnl hall
  rw [hall] at hnl;cases hnl
 have last_ready:∀ (l:Array Bool),l.size=pre.length→Hb pre.toArray l→Region.ready .any pre.toArray l=[]→pre.length ∈ Region.ready .any ops (l.push false):=by
  intro l hl hc hr
  have hall:∀ j,j<pre.length→l.getD j false=true:=by
   intro j
   induction j using Nat.strongRecOn with
   | _ j ih=>
    intro hj
    cases hq:l.getD j false with
    | true=>rfl
    | false=>
     have hpj:pre.toArray[j]?=some pre[j]:=by simp [hj]
     have:j ∈ Region.ready .any pre.toArray l:=by
      refine mem_ready.2 ⟨?_,_,hpj,fun e he hb=>?_⟩
      ·rw [Array.getD_eq_getD_getElem?] at hq ⊢
       rw [Array.getElem?_eq_getElem (by omega)] at hq ⊢
       exact hq
      ·have hlt:=hedge j pre[j] (by rw [hgp j hj,← hgp' j];exact hpj) e he hb
       exact ih e.on hlt (by omega)
     rw [hr] at this;cases this
  refine mem_ready.2 ⟨pushL l true hl,ol,hgl,fun e he hb=>?_⟩
  have hlt:=hedge pre.length ol hgl e he hb
  rw [pushD l hl e.on false hlt]
  exact hall e.on hlt
 have only:∀ (l:Array Bool),l.size=pre.length→Region.ready .any pre.toArray l=[]→∀ j ∈ Region.ready .any ops (l.push false),j=pre.length:=by
  intro l hl hr j hj
  by_cases hjp:j<pre.length
  ·have:=(rdy l hl j hjp).1 hj
   rw [hr] at this;cases this
  ·obtain ⟨_,o,ho,_⟩:=mem_ready.1 hj
   have:=(Array.getElem?_eq_some_iff.1 ho).1
   omega
 have done:∀ (l:Array Bool),l.size=pre.length→Region.ready .any pre.toArray l=[]→Hb pre.toArray l→Region.ready .any ops ((l.push false).setIfInBounds pre.length true)=[]:=by
  intro l hl hr hc
  apply List.eq_nil_iff_forall_not_mem.2
  intro j hj
  obtain ⟨hnl,o,ho,h2⟩:=mem_ready.1 hj
  have hjn:=(Array.getElem?_eq_some_iff.1 ho).1
  by_cases hjm:j=pre.length
  ·subst hjm
   rw [Array.getD_eq_getD_getElem?,Array.getElem?_setIfInBounds_self_of_lt (by simp;omega)] at hnl
   cases hnl
  ·have hjp:j<pre.length:=by omega
   have hget:∀ i d,i<pre.length→((l.push false).setIfInBounds pre.length true).getD i d=l.getD i d:=by
    intro i d hi
    rw [Array.getD_eq_getD_getElem?,Array.getElem?_setIfInBounds_ne (by omega),← Array.getD_eq_getD_getElem?,pushD l hl i d hi]
   have:j ∈ Region.ready .any pre.toArray l:=by
    refine mem_ready.2 ⟨by rw [← hget j true hjp];exact hnl,o,by rw [hgp' j,← hgp j hjp];exact ho,fun e he hb=>?_⟩
    have hlt:=hedge j o ho e he hb
    rw [← hget e.on false (by omega)]
    exact h2 e he hb
   rw [hr] at this;cases this
 have fin:∀ (fuel:Nat) (l:Array Bool) (a:Act) (w:World),l.size=pre.length→Hb pre.toArray l→Region.ready .any pre.toArray l=[]→Q' .normal a w→wpAny P .any ops Q (fuel + 1) (l.push false) a w:=by
  intro fuel l a w hl hc hr hq
  have hlr:=last_ready l hl hc hr
  refine ⟨fun h=>(by rw [h] at hlr;cases hlr),fun j hj=>?_⟩
  obtain rfl:=only l hl hr j hj
  refine wpOp_mono (fun a' w' hk=>?_) (hQn a w hq)
  have hd:=done l hl hr hc
  cases fuel with
  | zero=>exact ⟨hd,hk⟩
  | succ fuel=>exact ⟨fun _=>hk,fun i hi=>(by rw [hd] at hi;cases hi)⟩
 have opq:∀ (j:Nat) (K K':Act→World→Prop) (a:Act) (w:World),j<pre.length→(∀ a w,K a w→K' a w)→wpOp P pre.toArray Q' j K a w→wpOp P ops Q j K' a w:=by
  intro j K K' a w hj hKK h
  unfold wpOp at h ⊢
  rw [hgp j hj]
  rw [hgp' j] at h
  cases ho:pre[j]? with
  | none=>rw [ho] at h;exact hKK _ _ h
  | some o=>
   rw [ho] at h
   simp only at h ⊢
   have hmem:o ∈ pre:=List.mem_of_getElem? ho
   have hw:Region.wanted o (yielded ops a.tmps)=Region.wanted o (yielded pre.toArray a.tmps):=by
    unfold Region.wanted
    cases hg:o.guard with
    | none=>rfl
    | some gj=>
     obtain ⟨g,want⟩:=gj
     have hlt:=hgd o hmem g want hg
     simp only [yielded,hgp g hlt,hgp' g]
   rw [hw]
   split at h
   ·rename_i hw'
    rw [if_pos hw']
    rcases h with h | ⟨h1,h2⟩
    ·exact .inl (qF hKK hQp hQl h)
    ·exact .inr ⟨h1,hQl h2⟩
   ·rename_i hw'
    rw [if_neg hw']
    exact hKK _ _ h
 intro fuel
 induction fuel with
 | zero=>
  intro l a w hl hc h
  exact fin 0 l a w hl hc h.1 h.2
 | succ fuel ih=>
  intro l a w hl hc h
  by_cases hr:Region.ready .any pre.toArray l=[]
  ·exact fin (fuel + 1) l a w hl hc hr (h.1 hr)
  ·refine ⟨fun hr'=>?_,fun j hj=>?_⟩
   ·exfalso
    apply hr
    apply List.eq_nil_iff_forall_not_mem.2
    intro j hj
    have hjp:j<pre.length:=by
     obtain ⟨_,o,ho,_⟩:=mem_ready.1 hj
     have:=(Array.getElem?_eq_some_iff.1 ho).1
     simpa using this
    have:=(rdy l hl j hjp).2 hj
    rw [hr'] at this;cases this
   ·have hjn:j<pre.length + 1:=by
     obtain ⟨_,o,ho,_⟩:=mem_ready.1 hj
     have:=(Array.getElem?_eq_some_iff.1 ho).1
     omega
    by_cases hjm:j=pre.length
    ·subst hjm
     exact absurd (none_left l hl hc hj) hr
    ·have hjp:j<pre.length:=by omega
     have hj':=(rdy l hl j hjp).1 hj
     refine opq j _ _ a w hjp (fun a' w' hk=>?_) (h.2 j hj')
     have hset:(l.push false).setIfInBounds j true=(l.setIfInBounds j true).push false:=by
      apply Array.ext_getElem?
      intro i
      by_cases hij:j=i
      ·subst hij
       rw [Array.getElem?_setIfInBounds_self_of_lt (by simp;omega),Array.getElem?_push_lt (by simp;omega)]
       simp
      ·rw [Array.getElem?_setIfInBounds_ne hij]
       by_cases hi:i<l.size
       ·rw [Array.getElem?_push_lt hi,Array.getElem?_push_lt (by simpa using hi)]
        simp [Array.getElem_setIfInBounds_ne hi hij]
       ·by_cases hi2:i=l.size
        ·subst hi2
         rw [Array.getElem?_push_size]
         have:l.size=(l.setIfInBounds j true).size:=by simp
         rw [this,Array.getElem?_push_size]
        ·rw [Array.getElem?_eq_none (by simp;omega),Array.getElem?_eq_none (by simp;omega)]
     rw [hset]
     exact ih _ a' w' (by simp [hl]) (Nr hc hj') hk
theorem qH (HT:JN P A.ty) {R:Type} {oc:OC R} (hoc:HS P A oc) {r:R} {Q:Exit→Act→World→Prop} {σ:St} {κ:St→Option R} (hD:∀ o ∈ ops.toList,∀ t,o.dst=some t→Pn t=none) (hr:Rel Pn w0 F0 σ a w) (h:Km oc A ops.toList σ κ=some r)
  (hK:∀ σ' a' w',κ σ'=some r→Rel Pn w0 F0 σ' a' w'→Q .normal a' w'):wpAny P .any ops Q ops.size (Array.replicate ops.size false) a { w with drawn:=w.drawn + 1 }:=by
 unfold Km at h
 split at h
 ·rename_i bs hbs
  split at h
  ·rename_i pre bpre ol hsp
   unfold Ph at hsp
   split at hsp
   ·rename_i pre' bp' o' hlast
    split at hsp
    ·rename_i hchk
     simp only [oj,pj] at hsp
     obtain ⟨rfl,rfl,rfl⟩:=hsp
     rw [Je,OU] at hchk
     obtain ⟨e1,e2,e3,e4⟩:=Nu hlast
     rw [e1] at hbs
     obtain ⟨bp,b,g1,g2⟩:=Nt hbs
     have hbb:bp=bp':=by
      rw [e3] at g2
      exact (List.append_inj_left' g2 rfl).symm
     subst hbb
     obtain ⟨tl,f1,f2,f3⟩:=KV hbs
     simp only [List.nil_append] at f1
     subst f1
     have hn:ops.size=pre'.length + 1:=by rw [← Array.length_toList,e1];simp
     have hgl:ops[pre'.length]?=some o':=by rw [← Array.getElem?_toList,e1];simp
     have hget:∀ j o,ops[j]?=some o→(pre' ++ [o'])[j]?=some o:=fun j o ho=>by rw [← e1,Array.getElem?_toList];exact ho
     have hedge:∀ j o,ops[j]?=some o→∀ e ∈ o.after,Region.binds .any e=true→e.on<j:=fun j o ho e he hb=>by
      obtain ⟨_,_,h2,_⟩:=f3 j o (hget j o ho)
      have:=h2 e (by simpa using he) hb
      simpa using this
     have hbef:∀ listed:Array Bool,Hb ops listed→∀ (j:Nat) (o:Oper),ops[j]?=some o→(∀ e ∈ o.after,Region.binds .any e=true→listed.getD e.on false=true)→∀ p,bs[j]?=some p→∀ i ∈ p,listed.getD i false=true:=by
      intro listed hcl j
      induction j using Nat.strongRecOn with
      | _ j ih=>
       intro o ho hl p hp i hi
       obtain ⟨r',h1,h2,h3⟩:=f3 j o (hget j o ho)
       have hr':r'=p:=by
        rw [show ([]:List (List Nat)).length + j=j by simp,hp] at h1
        exact (Option.some.inj h1).symm
       subst hr'
       obtain ⟨e,he,hb,h4⟩:=h3 i hi
       have he':e ∈ o.after:=by simpa using he
       have hlt:=hedge j o ho e he' hb
       have hle:=hl e he' hb
       rcases h4 with rfl | ⟨q,hq,hiq⟩
       ·exact hle
       ·have hjn:=(Array.getElem?_eq_some_iff.1 ho).1
        have hoe:ops[e.on]?=some ops[e.on]:=Array.getElem?_eq_getElem (by omega)
        exact ih e.on hlt _ hoe (hcl e.on _ hoe hle) q hq i hiq
     have hbl:bs[pre'.length]?=some (WH bs):=by
      have:=congrArg (fun l:List (List Nat)=>l[bp.length]?) e3
      simp only [List.getElem?_append_right (Nat.le_refl _),Nat.sub_self,List.getElem?_cons_zero] at this
      rw [e4];exact this
     have hmem:∀ o ∈ pre',o ∈ ops.toList:=fun o ho=>by rw [e1];simp [ho]
     have hol:o' ∈ ops.toList:=by rw [e1];simp
     have hpush:(Array.replicate ops.size false:Array Bool)=(Array.replicate pre'.length false).push false:=by
      rw [hn];apply Array.ext';simp [List.replicate_succ']
     rw [hpush,hn]
     let Q':Exit→Act→World→Prop:=fun e a w=>match e with
      | .normal=>wpOp P ops Q pre'.length (fun a w=>Q .normal a w) a w
      | e=>Q e a w
     refine qG (Q:=Q) (Q':=Q') e1 (fun _ _ _ h=>h) ?_ hedge (fun listed hcl hl i hi=>hbef listed hcl pre'.length o' hgl hl _ hbl i (Nv hchk.1 i hi)) (KX hchk.2) (fun _ _ h=>h) pre'.length (Array.replicate pre'.length false) _ _ Array.size_replicate ?_ ?_
     ·intro hl
      first
       | exact hl
       | exact fun a w=>hl a w
     ·intro j o ho hl e he hb
      have:(Array.replicate pre'.length false).getD j false=false:=by
       rw [Array.getD_eq_getD_getElem?]
       by_cases hj:j<pre'.length
       ·rw [Array.getElem?_eq_getElem (by simpa using hj)];simp
       ·rw [Array.getElem?_eq_none (by simpa using hj)];rfl
      rw [this] at hl;cases hl
     ·have h1:WI oc A pre'.toArray.toList σ bp (fun σ'=>HL oc A σ' o' κ)=some r:=by simpa using h
      have:=Ns (ops:=pre'.toArray) (Q:=Q') (w:=w) HT hoc (fun o ho=>hD o (hmem o (by simpa using ho))) hr (by simpa using g1) h1 (fun σ' a' w' hk hr'=>?_)
      ·simpa using this
      ·obtain ⟨sl1,v,b1,m1,m2⟩:=KR HT hoc hk
       show wpOp P ops Q pre'.length (fun a w=>Q .normal a w) a' w'
       unfold wpOp
       rw [hgl]
       have hw:Region.wanted o' (yielded ops a'.tmps)=true:=by unfold Region.wanted;rw [e2]
       simp only [hw,if_true]
       exact .inl (m2 (hD o' hol) (show Rel Pn w0 F0 ⟨σ'.sl,σ'.bl⟩ a' w' from hr') (fun a2 w2 hr2=>hK _ a2 w2 m1 hr2))
    ·cases hsp
   ·cases hsp
  ·exact Ns HT hoc hD hr hbs h hK
 ·cases h
end
end Go.Rai
namespace Go.Rai
variable [Inhabited Qk]
def Ex.to:Ex→Exit
 | .normal=>.normal
 | .exit i=>.exit i
 | .ret=>.ret
def QD (Pn:Nat→Option Value):Code→Prop
 | .region _ ops _=>∀ o ∈ ops.toList,∀ t,o.dst=some t→Pn t=none
 | .seq a b=>QD Pn a∧QD Pn b
 | .cond _ a b=>QD Pn a∧QD Pn b
 | .block _ b=>QD Pn b
 | .loop b=>QD Pn b
 | _=>True
def WT (P:Program) (c:Code) (σ:St) (e:Ex) (σ':St):Prop:=
 ∀ [Inhabited Qk],
 ∀ (Pn:Nat→Option Value) (w0:World) (F0:List Nat) (a:Act) (w:World),QD Pn c→Rel Pn w0 F0 σ a w→∀ (Q:Exit→Act→World→Prop),
  (∀ a' w',Rel Pn w0 F0 σ' a' w'→Q e.to a' w')→Xw P c Q a w
def X7 (P:Program) (C:Code→Prop) {R:Type} (ol:OL R):Prop:=
 ∀ c,C c→∀ σ (κ:Ex→St→Option R) r,ol (Qv c) c σ κ=some r→∃ e σ',κ e σ'=some r∧WT P c σ e σ'
section
variable {Pn:Nat→Option Value} {P:Program} {A:Ann} {w w' w0:World} {F0:List Nat} {sl sl':List V} {a:Act} {b b' b1 bl:BL} {G:GT} {o:Oper} {v:V} {c:List Jk} {ops:Array Oper}
theorem qI {σ:St} (hr:Rel Pn w0 F0 σ a w) {t:Nat} {b:Bool} (h:Jw σ.sl t=.bool b):a.eval (.tmp t)=.bool b:=by
 obtain ⟨⟨G,hc,hs⟩,hl,hd,_⟩:=hr
 have:=hs t
 rw [h] at this
 have:=(QL.1 this).1
 simpa [Act.eval,Array.getD_eq_getD_getElem?] using this
theorem Rel.forget {sl:List V} {b:BL} (h:Rel Pn w0 F0 ⟨sl,b⟩ a w) (t:Nat):Rel Pn w0 F0 ⟨JD sl t .undef,b⟩ a w:=by
 obtain ⟨⟨G,hc,hs⟩,h1,h2,h3⟩:=h
 refine ⟨⟨G,hc,fun u=>?_⟩,by rw [h1];simp only;rw [VD],h2,h3⟩
 rw [OP]
 split
 ·exact rfl
 ·exact hs u
theorem Nw {b:BL} {R:Type} {r:R}:∀ {L:List Nat} {sl:List V} {κ:List V→Option R},Rel Pn w0 F0 ⟨sl,b⟩ a w→XR L sl κ=some r→∃ sl',κ sl'=some r∧Rel Pn w0 F0 ⟨sl',b⟩ a w
 | [],sl,κ,h,hk=>⟨sl,hk,h⟩
 | t :: L,sl,κ,h,hk=>by
  unfold XR at hk
  rw [HQ] at hk
  exact Nw (h.forget t) hk
theorem CU (HT:JN P A.ty) (hm:P.follows .mixedOrders=true) {R:Type} {oc:OC R} (hoc:HS P A oc) {ol:OL R} {C:Code→Prop} (hol:X7 P C ol) {fid:FuncId} {r:R}:∀ (c:Code) (hC:∀ l ∈ JY c,C l) (hD:QD Pn c) {σ:St} {a:Act} {w:World} {κ:Ex→St→Option R} {Q:Exit→Act→World→Prop},
  Rel Pn w0 F0 σ a w→Ue oc ol A fid c σ κ=some r→(∀ e σ' a' w',κ e σ'=some r→Rel Pn w0 F0 σ' a' w'→Q e.to a' w')→c.wp P Q a w
 | .skip,hC,hD,σ,a,w,κ,Q,hr,h,hK=>wp_skip (hK .normal σ a w (by simpa only [Ue] using h) hr)
 | .region id ops draw,hC,hD,σ,a,w,κ,Q,hr,h,hK=>by
  simp only [Ue] at h
  have hr0:Rel Pn w0 F0 ⟨σ.sl,σ.bl⟩ a w:=hr
  obtain ⟨sl',h,hr⟩:=Nw hr0 h
  cases draw with
  | false=>
   simp only at h
   cases hb:A.both fid with
   | false=>
    rw [hb] at h
    exact wp_region_list (KS HT hoc hD hr h (fun σ' a' w' h1 h2=>hK .normal σ' a' w' h1 h2))
   | true=>
    rw [hb] at h
    exact wp_region_list (X4 HT hoc hD hr h (fun σ' a' w' h1 h2=>hK .normal σ' a' w' h1 h2))
  | true=>
   simp only at h
   exact wp_region_any hm (qH HT hoc hD hr h (fun σ' a' w' h1 h2=>hK .normal σ' a' w' h1 h2))
 | .seq x y,hC,hD,σ,a,w,κ,Q,hr,h,hK=>by
  simp only [Ue] at h
  refine wp_seq (CU HT hm hoc hol x (fun l hl=>hC l (by simp [JY,hl])) hD.1 hr h (fun e σ' a' w' h1 h2=>?_))
  cases e with
  | normal=>exact CU HT hm hoc hol y (fun l hl=>hC l (by simp [JY,hl])) hD.2 h2 h1 hK
  | exit i=>exact hK (.exit i) σ' a' w' h1 h2
  | ret=>exact hK .ret σ' a' w' h1 h2
 | .cond c x y,hC,hD,σ,a,w,κ,Q,hr,h,hK=>by
  cases c with
  | tmp t=>
   simp only [Ue] at h
   split at h
   ·rename_i bb hv
    have hsame:JD σ.sl t (.bool bb)=σ.sl:=Ww hv (by simp)
    have hσ:(⟨σ.sl,σ.bl⟩:St)=σ:=rfl
    refine wp_cond (qI hr hv) ?_
    cases bb with
    | true=>
     simp only [cond_true,HQ] at h
     rw [hsame,hσ] at h
     exact CU HT hm hoc hol x (fun l hl=>hC l (by simp [JY,hl])) hD.1 hr h hK
    | false=>
     simp only [cond_false,HQ] at h
     rw [hsame,hσ] at h
     exact CU HT hm hoc hol y (fun l hl=>hC l (by simp [JY,hl])) hD.2 hr h hK
   ·cases h
  | const v=>
   simp only [Ue] at h
   split at h
   ·rename_i bb hv
    have hev:a.eval (.const v)=.bool bb:=by
     cases v<;>simp [W3] at hv
     ·subst hv;rfl
     all_goals (first | (split at hv<;>simp at hv) | skip)
    refine wp_cond hev ?_
    cases bb with
    | true=>exact CU HT hm hoc hol x (fun l hl=>hC l (by simp [JY,hl])) hD.1 hr h hK
    | false=>exact CU HT hm hoc hol y (fun l hl=>hC l (by simp [JY,hl])) hD.2 hr h hK
   ·cases h
  | _=>simp [Ue] at h
 | .block id b,hC,hD,σ,a,w,κ,Q,hr,h,hK=>by
  simp only [Ue] at h
  refine wp_block (CU HT hm hoc hol b (fun l hl=>hC l (by simp [JY,hl])) hD hr h (fun e σ' a' w' h1 h2=>?_))
  cases e with
  | normal=>exact hK .normal σ' a' w' h1 h2
  | exit i=>
   simp only [Ex.to,Exit.inBlock]
   simp only at h1
   split at h1
   ·rename_i hb
    rw [if_pos (Nat.eq_of_beq_eq_true hb)]
    exact hK .normal σ' a' w' h1 h2
   ·rename_i hb
    rw [if_neg (fun he=>by subst he;rw [Nat.beq_refl] at hb;cases hb)]
    exact hK (.exit i) σ' a' w' h1 h2
  | ret=>exact hK .ret σ' a' w' h1 h2
 | .loop b,hC,hD,σ,a,w,κ,Q,hr,h,hK=>by
  simp only [Ue] at h
  obtain ⟨σ',h1,h2⟩:=XJ hr h
  obtain ⟨e,σ2,h3,h4⟩:=hol b (hC b (by simp [JY])) _ _ _ h1
  exact js (h4 Pn w0 F0 a w hD h2 Q (fun a' w' h5=>hK e σ2 a' w' h3 h5))
 | .exit id,hC,hD,σ,a,w,κ,Q,hr,h,hK=>wp_exit (hK (.exit id) σ a w (by simpa only [Ue] using h) hr)
 | .ret,hC,hD,σ,a,w,κ,Q,hr,h,hK=>wp_ret (hK .ret σ a w (by simpa only [Ue] using h) hr)
 | .goto _,hC,hD,σ,a,w,κ,Q,hr,h,hK=>by simp [Ue] at h
 | .label _,hC,hD,σ,a,w,κ,Q,hr,h,hK=>by simp [Ue] at h
 | .refuse _,hC,hD,σ,a,w,κ,Q,hr,h,hK=>by simp [Ue] at h
theorem qJ (HT:JN P A.ty) (hm:P.follows .mixedOrders=true) {oc:OC (Ex × St)} (hoc:HS P A oc) {ol:OL (Ex × St)} {C:Code→Prop} (hol:X7 P C ol) {fid:FuncId} {c:Code} (hC:C c) (hCs:∀ l ∈ JY c,C l) {σ σ':St} {e:Ex}
  (h:Q3 oc ol A fid c σ (fun e σ'=>some (e,σ'))=some (e,σ')):WT P c σ e σ':=by
 intro inst Pn w0 F0 a w hD hr Q hQ
 refine jt (CU HT hm hoc hol c hCs hD hr h (fun e1 σ1 a1 w1 h1 h2=>?_))
 cases e1 with
 | normal=>
  obtain ⟨σ2,h3,h4⟩:=XJ h2 h1
  obtain ⟨e2,σ3,h5,h6⟩:=hol c hC _ _ _ h3
  simp only [oj,pj] at h5
  obtain ⟨rfl,rfl⟩:=h5
  exact h6 Pn w0 F0 a1 w1 hD h4 Q hQ
 | exit i=>
  obtain ⟨σ2,h3,h4⟩:=XJ h2 h1
  simp only [oj,pj] at h3
  obtain ⟨rfl,rfl⟩:=h3
  exact hQ a1 w1 h4
 | ret=>
  obtain ⟨σ2,h3,h4⟩:=XJ h2 h1
  simp only [oj,pj] at h3
  obtain ⟨rfl,rfl⟩:=h3
  exact hQ a1 w1 h4
end
end Go.Rai
namespace Go.Rai
variable [Inhabited Qk]
mutual
theorem Nx {E:Env}:∀ (v:V) {cs:List Value} {F:List Nat},QE v=false→InV E v cs F→F=[]
 | .int _ _,_,_,_,h=>by unfold InV at h;exact h.2
 | .bool _,_,_,_,h=>by unfold InV at h;exact h.2
 | .str _,_,_,_,h=>by unfold InV at h;exact h.2
 | .own e l,_,_,hn,h=>by simp [QE] at hn
 | .ownh _ _ _,_,_,hn,h=>by simp [QE] at hn
 | .arr n e l,_,_,hn,h=>by unfold InV at h;exact Hk (fun d c G hd=>Hl e h.2.1 hd) h.2.2
 | .agg vs,cs,F,hn,h=>by unfold QE at hn;unfold InV at h;exact KY vs hn h
 | .obox v,cs,F,hn,h=>by simp [QE] at hn
 | .tup vs,_,_,_,h=>by unfold InV at h;exact h.elim
 | .undef,_,_,_,h=>by unfold InV at h;exact h.2
 | .void,_,_,_,h=>by unfold InV at h;exact h.2
 | .rd _ _,_,_,_,h=>by unfold InV at h;exact h.1
 | .lst _ _,_,_,hn,_=>by simp [QE] at hn
 | .nilsl,_,_,_,h=>by unfold InV at h;exact h.2
 | .emp _,_,_,_,h=>by unfold InV at h;exact h.2
 | .rp _,_,_,_,h=>by unfold InV at h;exact h.1
 | .full _ _ _,_,_,_,h=>by unfold InV at h;exact h.1
 | .sub _ _ _ _ _,_,_,_,h=>by unfold InV at h;exact h.1
 | .ptr _ _,_,_,_,h=>by unfold InV at h;exact h.1
 | .fn _ caps,_,_,hn,h=>by
  unfold QE at hn
  unfold InV at h
  obtain ⟨vals,_,h1,_⟩:=h
  exact KY caps hn h1
 | .nilfn,_,_,_,h=>by unfold InV at h;exact h.2
 | .nilptr,_,_,_,h=>by unfold InV at h;exact h.2
 | .mp _,_,_,hn,h=>by simp [QE] at hn
 | .mref _,_,_,_,h=>by unfold InV at h;exact h.1
theorem KY {E:Env}:∀ (vs:List V) {cs:List Value} {F:List Nat},Ci vs=false→Jj E vs cs F→F=[]
 | [],_,_,_,h=>by unfold Jj at h;exact h.2
 | v :: vs,cs,F,hn,h=>by
  unfold Ci at hn;rw [OQ] at hn
  unfold Jj at h
  obtain ⟨c1,c2,F1,F2,e1,e2,h1,h2⟩:=h
  rw [e2,Nx v hn.1 h1,KY vs hn.2 h2]
  rfl
end
mutual
theorem Ny (s:Nat):∀ (v:V) (p:List Nat),QE v=false→Qb s p v=v
 | .own e l,p,hn=>by simp [QE] at hn
 | .ownh _ _ _,p,hn=>by simp [QE] at hn
 | .agg vs,p,hn=>by unfold QE at hn;unfold Qb;rw [KZ s vs p 0 hn]
 | .obox v,p,hn=>by simp [QE] at hn
 | .lst _ _,p,hn=>by simp [QE] at hn
 | .fn _ caps,p,hn=>by unfold QE at hn;unfold Qb;rw [KZ s caps p 0 hn]
 | .int _ _,_,_=>rfl
 | .bool _,_,_=>rfl
 | .str _,_,_=>rfl
 | .arr _ _ _,_,_=>rfl
 | .tup _,_,_=>rfl
 | .undef,_,_=>rfl
 | .void,_,_=>rfl
 | .rd _ _,_,_=>rfl
 | .nilsl,_,_=>rfl
 | .emp _,_,_=>rfl
 | .rp _,_,_=>rfl
 | .full _ _ _,_,_=>rfl
 | .sub _ _ _ _ _,_,_=>rfl
 | .ptr _ _,_,_=>rfl
 | .nilfn,_,_=>rfl
 | .nilptr,_,_=>rfl
 | .mp _,p,hn=>by simp [QE] at hn
 | .mref _,_,_=>rfl
theorem KZ (s:Nat):∀ (vs:List V) (p:List Nat) (j:Nat),Ci vs=false→HH s p j vs=vs
 | [],_,_,_=>rfl
 | v :: vs,p,j,hn=>by
  unfold Ci at hn;rw [OQ] at hn
  unfold HH
  rw [Ny s v _ hn.1,KZ s vs _ _ hn.2]
end
theorem K3 {E:Env}:∀ {args:List V} {vals:List Value} {F:List Nat},Tup E args vals F→∃ (css:List (List Value)) (Fs:List (List Nat)),css.length=args.length∧Fs.length=args.length∧vals.length=args.length∧Fs.flatten=F ∧
  ∀ (k:Nat) (x:V),args[k]?=some x→∃ (cs:List Value) (Fk:List Nat) (u:Value),css[k]?=some cs∧Fs[k]?=some Fk∧vals[k]?=some u∧InV E x cs Fk∧Qf x cs u
 | [],vals,F,h=>by
  obtain ⟨rfl,rfl⟩:=h
  exact ⟨[],[],rfl,rfl,rfl,rfl,fun k x hk=>by simp at hk⟩
 | x :: args,vals,F,⟨v,r,F1,F2,e1,e2,⟨cs,h1,h2⟩,h3⟩=>by
  subst e1;subst e2
  obtain ⟨css,Fs,k1,k2,k3,k4,k5⟩:=K3 h3
  refine ⟨cs :: css,F1 :: Fs,by simp [k1],by simp [k2],by simp [k3],by simp [k4],fun k y hk=>?_⟩
  cases k with
  | zero=>
   simp only [List.getElem?_cons_zero,oj] at hk
   subst hk
   exact ⟨cs,F1,v,rfl,rfl,rfl,h1,h2⟩
  | succ k=>
   simp only [List.getElem?_cons_succ] at hk ⊢
   exact k5 k y hk
theorem Nz:∀ {args:List V} {i k:Nat} {c:V},Jb (Hp i args) k=some c→i≤k∧args[k - i]?=some c∧QE c=true
 | [],i,k,c,h=>by simp [Hp,Jb] at h
 | x :: args,i,k,c,h=>by
  unfold Hp at h
  have rest:Jb (Hp (i + 1) args) k=some c→i≤k∧(x :: args)[k - i]?=some c∧QE c=true:=by
   intro h
   obtain ⟨h1,h2,h3⟩:=Nz h
   refine ⟨by omega,?_,h3⟩
   rw [show k - i=(k - (i + 1)) + 1 by omega,List.getElem?_cons_succ]
   exact h2
  split at h
  ·rename_i ho
   simp only [Jb] at h
   split at h
   ·rename_i hb
    have:=Nat.eq_of_beq_eq_true hb
    subst this
    simp only [oj] at h
    subst h
    exact ⟨Nat.le_refl _,by simp,ho⟩
   ·exact rest h
  ·exact rest h
theorem NA:∀ {args:List V} {i j:Nat} {c:V},args[j]?=some c→QE c=true→Jb (Hp i args) (i + j)=some c
 | [],i,j,c,h,_=>by simp at h
 | x :: args,i,j,c,h,ho=>by
  cases j with
  | zero=>
   simp only [List.getElem?_cons_zero,oj] at h
   subst h
   unfold Hp
   rw [ho]
   simp [Jb,Nat.beq_refl]
  | succ j=>
   simp only [List.getElem?_cons_succ] at h
   have ih:=NA (i:=i + 1) h ho
   rw [show i + 1 + j=i + (j + 1) by omega] at ih
   unfold Hp
   split
   ·simp only [Jb]
    have:Nat.beq i (i + (j + 1))=false:=by
     cases hq:Nat.beq i (i + (j + 1)) with
     | false=>rfl
     | true=>have:=Nat.eq_of_beq_eq_true hq;omega
    rw [this]
    exact ih
   ·exact ih
theorem NB:∀ {args:List V} {i j:Nat},Jw (Cz i args) j=match args[j]? with | some c=>Qb (i + j) [] c | none=>.undef
 | [],i,j=>by simp [Cz,Jw]
 | x :: args,i,0=>by simp [Cz,Jw]
 | x :: args,i,j + 1=>by
  simp only [Cz,Jw,List.getElem?_cons_succ]
  rw [NB,show i + 1 + j=i + (j + 1) by omega]
theorem K4:∀ {n:Nat} {l:List V} {j:Nat},Jw (Hq n l) j=Jw l j
 | 0,l,j=>rfl
 | n + 1,[],0=>by simp [Hq,Jw]
 | n + 1,[],j + 1=>by simp only [Hq,Jw];rw [K4];simp [Jw]
 | n + 1,v :: l,0=>by simp [Hq,Jw]
 | n + 1,v :: l,j + 1=>by simp only [Hq,Jw];exact K4
theorem K5:∀ {n:Nat} {l:List V},(Hq n l).length=l.length + (n - l.length)
 | 0,l=>by simp [Hq]
 | n + 1,[]=>by simp [Hq,K5]
 | n + 1,v :: l=>by simp [Hq,K5];omega
theorem NC:∀ {args:List V} {i:Nat},(Cz i args).length=args.length
 | [],i=>rfl
 | x :: args,i=>by simp [Cz,NC]
theorem qK {l:List Nat} (h:Ks l=true):l=[]:=by
 cases l with
 | nil=>rfl
 | cons a l=>simp [Ks] at h
section
variable {P:Program} {A:Ann} {w w' w0:World} {F0:List Nat} {sl sl':List V} {a:Act} {b b' b1 bl:BL} {G:GT} {o:Oper} {v:V} {c:List Jk} {ops:Array Oper}
theorem ND:∀ {Fs:List (List Nat)},Fs.flatten.Nodup→(∀ (i j:Nat) (Fi Fj:List Nat),i ≠ j→Fs[i]?=some Fi→Fs[j]?=some Fj→∀ b ∈ Fi,b ∉ Fj)∧∀ (i:Nat) (Fi:List Nat),Fs[i]?=some Fi→Fi.Nodup
 | [],_=>⟨fun i j Fi Fj _ h=>by simp at h,fun i Fi h=>by simp at h⟩
 | F :: Fs,h=>by
  rw [List.flatten_cons,List.nodup_append] at h
  obtain ⟨h1,h2,h3⟩:=h
  obtain ⟨i1,i2⟩:=ND h2
  have sub:∀ (i:Nat) (Fi:List Nat),Fs[i]?=some Fi→∀ b ∈ Fi,b ∈ Fs.flatten:=fun i Fi hi b hb=>List.mem_flatten.2 ⟨Fi,List.mem_of_getElem? hi,hb⟩
  constructor
  ·intro i j Fi Fj hij hi hj b hb hb'
   cases i with
   | zero=>
    simp only [List.getElem?_cons_zero,oj] at hi
    subst hi
    cases j with
    | zero=>exact hij rfl
    | succ j=>
     simp only [List.getElem?_cons_succ] at hj
     exact h3 b hb b (sub j Fj hj b hb') rfl
   | succ i=>
    simp only [List.getElem?_cons_succ] at hi
    cases j with
    | zero=>
     simp only [List.getElem?_cons_zero,oj] at hj
     subst hj
     exact h3 b hb' b (sub i Fi hi b hb) rfl
    | succ j=>
     simp only [List.getElem?_cons_succ] at hj
     exact i1 i j Fi Fj (by omega) hi hj b hb hb'
  ·intro i Fi hi
   cases i with
   | zero=>
    simp only [List.getElem?_cons_zero,oj] at hi
    subst hi
    exact h1
   | succ i=>
    simp only [List.getElem?_cons_succ] at hi
    exact i2 i Fi hi
theorem qL {args:List V} {vals:List Value} {F:List Nat} {n:Nat} {Pn:Nat→Option Value} (hPn:∀ t v,Pn t=some v→vals[t]?=some v) (ht:Tup (Q2 Kept.K w F) args vals F) (hnd:F.Nodup) (hlt:∀ b ∈ F,b<w.heap.size) (hs:Jl args=[]) :
  Rel Pn w F (Ko n args) { tmps:=vals.toArray ++ Array.replicate (n - vals.length) undef,defers:=[] } w:=by
 obtain ⟨css,Fs,k1,k2,k3,k4,k5⟩:=K3 ht
 let G:GT:=fun k=>match css[k]?,Fs[k]? with
  | some cs,some Fk=>some (cs,Fk)
  | _,_=>none
 have hG:∀ k cs Fk,css[k]?=some cs→Fs[k]?=some Fk→G k=some (cs,Fk):=fun k cs Fk h1 h2=>by simp only [G,h1,h2]
 have hG':∀ k rc F',G k=some (rc,F')→Fs[k]?=some F':=by
  intro k rc F' h
  simp only [G] at h
  split at h
  ·rename_i h1 h2
   simp only [oj,pj] at h
   rw [← h.2];exact h2
  ·cases h
 have sub:∀ (i:Nat) (Fi:List Nat),Fs[i]?=some Fi→∀ b ∈ Fi,b ∈ F:=fun i Fi hi b hb=>by rw [← k4];exact List.mem_flatten.2 ⟨Fi,List.mem_of_getElem? hi,hb⟩
 obtain ⟨ap1,ap2⟩:=ND (Fs:=Fs) (by rw [k4];exact hnd)
 have owned:∀ b,Uk (Hp 0 args) G [] b→b ∈ F:=by
  rintro b (hb | ⟨k,c,rc,F',h1,h2,h3⟩)
  ·cases hb
  ·exact sub k F' (hG' k rc F' h2) b h3
 have hle:Le (Q2 Kept.K w F) (Ja w (Hp 0 args) G []):=⟨fun b hb=>⟨⟨hb.1,fun ho=>hb.2 (owned b ho)⟩,rfl⟩,Nat.le_refl _,fun _ _ h=>h⟩
 have nos:∀ (k:Nat) (x:V),args[k]?=some x→Jd x=[]:=by
  have:∀ (l:List V),Jl l=[]→∀ (k:Nat) (x:V),l[k]?=some x→Jd x=[]:=by
   intro l
   induction l with
   | nil=>intro _ k x hx;simp at hx
   | cons y l ih=>
    intro hl k x hx
    unfold Jl at hl
    rw [Qd,List.append_eq_nil_iff] at hl
    cases k with
    | zero=>simp only [List.getElem?_cons_zero,oj] at hx;subst hx;exact hl.1
    | succ k=>exact ih hl.2 k x (by simpa using hx)
  exact this args hs
 have up:∀ (k:Nat) (x:V) (cs:List Value) (Fk:List Nat),args[k]?=some x→InV (Q2 Kept.K w F) x cs Fk→InV (Ja w (Hp 0 args) G []) x cs Fk:=by
  intro k x cs Fk hx h
  exact U2 hle x (fun s hs'=>by rw [nos k x hx] at hs';cases hs') (fun _ _=>rfl) h
 refine ⟨⟨G,⟨⟨?_,?_,List.nodup_nil,fun b hb=>by cases hb⟩,fun _ _ _=>rfl,fun b hb=>.inl (owned b hb),Nat.le_refl _,rfl,rfl,rfl⟩,?_⟩,?_,rfl,?_⟩
 ·intro k c hk
  obtain ⟨_,hx,_⟩:=Nz hk
  simp only [Nat.sub_zero] at hx
  obtain ⟨cs,Fk,u,e1,e2,e3,e4,e5⟩:=k5 k c hx
  exact ⟨cs,Fk,Fk,hG k cs Fk e1 e2,up k c cs Fk hx e4,List.Perm.refl _,ap2 k Fk e2,fun b hb=>⟨hlt b (sub k Fk e2 b hb),by simp⟩⟩
 ·intro k k' c c' rc rc' F1 F2 hne h1 h2 h3 h4
  exact ap1 k k' F1 F2 hne (hG' k rc F1 h3) (hG' k' rc' F2 h4)
 ·intro t
  show Val _ (Jw (Hq n (Cz 0 args)) t) _ []
  rw [K4,NB]
  cases hx:args[t]? with
  | none=>exact Cq
  | some x=>
   obtain ⟨cs,Fk,u,e1,e2,e3,e4,e5⟩:=k5 t x hx
   have hu:(vals.toArray ++ Array.replicate (n - vals.length) undef).getD t undef=u:=by
    rw [Array.getD_eq_getD_getElem?]
    have hlt:t<vals.length:=(List.getElem?_eq_some_iff.1 e3).1
    rw [Array.getElem?_append_left (by simpa using hlt)]
    simp [e3]
   show Val _ (Qb (0 + t) [] x) ((vals.toArray ++ Array.replicate (n - vals.length) undef).getD t undef) []
   rw [hu]
   cases ho:QE x with
   | true=>
    have hl:=NA (i:=0) hx ho
    rw [Nat.zero_add] at hl ⊢
    exact Vp (E:=Ja w (Hp 0 args) G []) hl (hG t cs Fk e1 e2) (L:=.reg cs) (by simp [Jf]) ⟨[],by simp⟩ (up t x cs Fk hx e4) e5
   | false=>
    rw [Ny _ _ _ ho]
    have hF:=Nx x ho e4
    subst hF
    exact Xp ⟨cs,up t x cs [] hx e4,e5⟩
 ·show (vals.toArray ++ Array.replicate (n - vals.length) undef).size=(Hq n (Cz 0 args)).length
  rw [K5,NC]
  simp [k3]
 ·intro t u hu
  have hu':=hPn t u hu
  have hlt:t<vals.length:=(List.getElem?_eq_some_iff.1 hu').1
  rw [Array.getD_eq_getD_getElem?,Array.getElem?_append_left (by simpa using hlt)]
  simp [hu']
theorem qM (HT:JN P A.ty) (hc:JX w bl G w0 F0) {t:TypeId} {x:V} {u:Value} {co:List Jk} {v:V} {b:BL} (hx:Val (Ja w bl G []) x u [])
  (hv:Ck (A.ty t) bl x=some (co,v,b)) (hk:∀ k ∈ co,k.ok):∃ vv,(do loadVar t (← asAddr u):Sem Value).run P w=.ok vv w∧Val (Ja w bl G []) v vv []:=by
 unfold Ck at hv
 split at hv
 ·rename_i y
  split at hv
  ·rename_i hfit
   simp only [oj,pj] at hv
   obtain ⟨rfl,rfl,rfl⟩:=hv
   have hx':=(JM rfl (by simp) (by simp)).1 hx
   unfold InV at hx'
   obtain ⟨_,ad,cs',h1,h2,h3,h4⟩:=hx'
   simp only [List.cons.injEq,and_true] at h1
   have hty:=HT t (Cs hfit)
   have hsz:cs'.length=(A.ty t).size:=by rw [Qq _ h2,(Qt hfit).1]
   refine ⟨Ud (Qr (A.ty t)) cs',?_,?_⟩
   ·simp [h1,asAddr,Xn (w:=w) hty hsz h3 U7]
   ·rw [Wh hfit]
    refine ⟨cs',h2,?_⟩
    unfold Qf
    rw [(Qt hfit).2]
    cases hA:Qr (A.ty t) with
    | true=>rfl
    | false=>
     have:=U7 hA
     rw [this] at hsz
     match cs',hsz with
     | [q],_=>rfl
  ·simp at hv
 ·rename_i s p
  split at hv
  ·rename_i c' y hg
   split at hv
   ·rename_i hfit
    simp only [oj,pj] at hv
    obtain ⟨rfl,rfl,rfl⟩:=hv
    obtain ⟨c0,rc,F,i1,i2,i3,Lx,csx,Fx,i4,i5,i6,i7,i8,i9⟩:=Uy hc hg hk
    obtain ⟨ad,e1,e2⟩:=C7 hx i1 i2 i4
    subst e1
    have hty:=HT t (Cs hfit)
    have hsz:csx.length=(A.ty t).size:=by rw [Qq _ i5,(Qt hfit).1]
    refine ⟨Ud (Qr (A.ty t)) csx,?_,?_⟩
    ·simp [e2,asAddr,Xn (w:=w) hty hsz i6 U7]
    ·refine Vp (E:=Ja w bl G []) i1 i2 i4 i6 i5 ?_
     unfold Qf
     rw [(Qt hfit).2]
     cases hA:Qr (A.ty t) with
     | true=>rfl
     | false=>
      have:=U7 hA
      rw [this] at hsz
      match csx,hsz with
      | [q],_=>rfl
   ·simp at hv
  ·simp at hv
 ·simp at hv
theorem qN:∀ (t:Ty) (v:V),isA (UN t v)=isA v:=by
 intro t v
 cases t with
 | slice e=>
  cases v with
  | nilsl=>show isA (match e.plain with | true=>.own e [] | false=>.nilsl)=false;cases e.plain<;>rfl
  | emp e'=>show isA (match e.plain with | true=>.own e [] | false=>.emp e')=false;cases e.plain<;>rfl
  | _=>rfl
 | struct fs=>cases v<;>rfl
 | _=>cases v<;>rfl
theorem qO {E:Env} {t:Ty} {v:V} {u:Value} {F:List Nat} (h:One E v u F):One E (UN t v) u F:=by
 obtain ⟨cs,h1,h2⟩:=h
 refine ⟨cs,Vv t h1,?_⟩
 unfold Qf at h2 ⊢
 rw [qN]
 exact h2
theorem qP {t:Ty} {vs:List V}:UN t (.tup vs)=.tup vs:=by cases t<;>rfl
def X8 (tmps:Array Value):ResultVar→Sem Value
 | .tmp t=>pure (tmps.getD t undef)
 | .cell a t=>do loadVar t (← asAddr (tmps.getD a undef))
theorem qQ (fn:Func) (tmps:Array Value):results fn tmps=(do
  let vs ← fn.results.mapM (X8 tmps)
  pure (if h:vs.size=1 then vs[0] else .tuple vs)):=rfl
theorem qR (q:Bool) (ty:Ty) (v:V):VM q ty v=v ∨ VM q ty v=UN ty v:=by
 cases q with
 | false=>exact .inr rfl
 | true=>cases v<;>first | exact .inl rfl | exact .inr rfl
theorem NE {E:Env} {q:Bool} {t:Ty} {v:V} {u:Value} {F:List Nat} (h:One E v u F):One E (VM q t v) u F:=by
 rcases qR q t v with e | e<;>rw [e]
 ·exact h
 ·exact qO h
theorem NF {q:Bool} {t:Ty} {vs:List V}:VM q t (.tup vs)=.tup vs:=by
 cases q<;>exact qP
theorem NG (HT:JN P A.ty) {σ:St} (hc:JX w σ.bl G w0 F0) (hs:Jy (Ja w σ.bl G []) σ.sl a):∀ {q:Bool} {rs:List ResultVar} {ts:List Ty} {vs:List V},WJ A q σ ts rs=some vs→Q0 vs=true →
  ∃ vals,(rs.mapM (X8 a.tmps)).run P w=.ok vals w∧Tup (Ja w σ.bl G []) vs vals []
 | q,[],ts,vs,h,_=>by
  simp only [WJ,oj] at h
  subst h
  exact ⟨[],by simp,rfl,rfl⟩
 | q,rv :: rs,ts,vs,h,hn=>by
  simp only [WJ] at h
  split at h
  ·rename_i v h1
   split at h
   ·rename_i vs' h2
    simp only [oj] at h
    subst h
    have hn':(∀ xs,v ≠ .tup xs)∧Q0 vs'=true:=by
     cases v<;>simp [Q0] at hn<;>exact ⟨(by intro xs hh;cases hh),hn⟩
    obtain ⟨vals,r1,r2⟩:=NG HT hc hs h2 hn'.2
    have first:∃ u,(X8 a.tmps rv).run P w=.ok u w∧One (Ja w σ.bl G []) v u []:=by
     cases rv with
     | tmp t=>
      simp only [Kp,oj] at h1
      subst h1
      refine ⟨a.tmps.getD t undef,by simp [X8],NE (VE (fun xs hx=>?_) (hs t))⟩
      rw [hx,NF] at hn'
      exact hn'.1 xs rfl
     | cell ad t=>
      simp only [Kp] at h1
      split at h1
      ·rename_i x b0 hl
       simp only [oj] at h1
       subst h1
       obtain ⟨u,k1,k2⟩:=qM HT hc (hs ad) hl (fun k hk=>by cases hk)
       refine ⟨u,k1,NE (VE (fun xs hx=>?_) k2)⟩
       rw [hx,NF] at hn'
       exact hn'.1 xs rfl
      ·cases h1
    obtain ⟨u,f1,f2⟩:=first
    refine ⟨u :: vals,?_,u,vals,[],[],rfl,rfl,f2,r2⟩
    rw [List.mapM_cons]
    simp only [Sem.run_bind,f1,Result.andThen_ok,r1,Sem.run_pure]
   ·cases h
  ·cases h
theorem NH:∀ (n:Nat) {vs:List V} {bl b':BL} {G:GT} {X:List Nat} {vals:List Value} {ws:List V} {c:List Jk},JK w bl G X w0 F0→Tup (Ja w bl G X) vs vals []→Q7 n bl vs=some (c,ws,b')→(∀ k ∈ c,k.ok) →
  CN w (Ja w bl G X) w0 F0 X b' (fun E F'=>Tup E ws vals F')
 | 0,vs,bl,b',G,X,vals,ws,c,hc,hv,h,hk=>by simp [Q7] at h
 | n + 1,[],bl,b',G,X,vals,ws,c,hc,hv,h,hk=>by
  simp only [Q7,oj,pj] at h
  obtain ⟨rfl,rfl,rfl⟩:=h
  exact ⟨[],G,hc,hv,Jx.refl_ _ _⟩
 | n + 1,v :: vs,bl,b',G,X,vals,ws,c,hc,hv,h,hk=>by
  obtain ⟨u,r,F1,F2,rfl,e2,⟨cs,i1,i2⟩,i3⟩:=hv
  obtain ⟨rfl,rfl⟩:=List.append_eq_nil_iff.1 e2.symm
  simp only [Q7] at h
  split at h
  ·rename_i c1 w1 b1 h1
   split at h
   ·rename_i c2 ws2 b2 h2
    simp only [oj,pj] at h
    obtain ⟨rfl,rfl,rfl⟩:=h
    obtain ⟨hk1,hk2⟩:=QU hk
    obtain ⟨F',G',q1,q2,q3⟩:=(Oa n).1 (F:=[]) hc i1 h1 hk1
    have q2':One (Ja w b1 G' (F' ++ X)) w1 u F':=by
     refine ⟨cs,q2,?_⟩
     unfold Qf at i2 ⊢
     rw [Y4 h1]
     exact i2
    obtain ⟨F2',G2,s1,s2,s3⟩:=NH n (X:=F' ++ X) q1 (Xy q3 (fun b hb=>by cases hb) i3) h2 hk2
    obtain ⟨t1,t2⟩:=s1.perm (show (F2' ++ (F' ++ X)).Perm ((F' ++ F2') ++ X) by
     rw [← List.append_assoc]
     exact List.Perm.append_right X List.perm_append_comm)
    obtain ⟨cs',j1,j2⟩:=q2'
    exact ⟨F' ++ F2',G2,t1,⟨u,r,F',F2',rfl,rfl,⟨cs',(s3.trans t2).inV (fun _ _=>id) (fun _ _=>rfl) j1,j2⟩,Xy t2 (fun _ _=>rfl) s2⟩,(q3.trans s3).trans t2⟩
   ·simp at h
  ·simp at h
theorem NI:∀ {xs ys:List V},Q0 (cat xs ys)=true ↔ Q0 xs=true∧Q0 ys=true
 | [],ys=>by simp [cat,Q0]
 | x :: xs,ys=>by
  simp only [cat]
  cases x<;>simp only [Q0,NI]<;>simp
theorem NJ {E:Env}:∀ {us vs:List Value} {ws:List V} {F:List Nat},Tup E ws (us ++ vs) F→∃ w1 w2 F1 F2,ws=w1 ++ w2∧F=F1 ++ F2∧Tup E w1 us F1∧Tup E w2 vs F2
 | [],vs,ws,F,h=>⟨[],ws,[],F,rfl,rfl,⟨rfl,rfl⟩,h⟩
 | u :: us,vs,[],F,h=>by simp [Tup] at h
 | u :: us,vs,x :: ws,F,⟨v,r,F1,F2,e1,e2,h1,h2⟩=>by
  simp only [List.cons_append,List.cons.injEq] at e1
  obtain ⟨rfl,rfl⟩:=e1
  obtain ⟨w1,w2,G1,G2,k1,k2,k3,k4⟩:=NJ h2
  subst k1;subst k2;subst e2
  exact ⟨x :: w1,w2,F1 ++ G1,G2,rfl,by simp,⟨u,us,F1,G1,rfl,rfl,h1,k3⟩,k4⟩
theorem NK {E:Env}:∀ {w1:List V} {us vs:List Value} {w2:List V} {F1 F2:List Nat},Tup E w1 us F1→Tup E w2 vs F2→Tup E (w1 ++ w2) (us ++ vs) (F1 ++ F2)
 | [],us,vs,w2,F1,F2,⟨e1,e2⟩,h=>by subst e1;subst e2;exact h
 | x :: w1,us,vs,w2,F1,F2,⟨v,r,G1,G2,e1,e2,h1,h2⟩,h=>by
  subst e1;subst e2
  exact ⟨v,r ++ vs,G1,G2 ++ F2,rfl,by simp,h1,NK h2 h⟩
theorem K6 {E:Env}:∀ {ws:List V} {vals:List Value} {F:List Nat},Tup E ws vals F→vals.length=ws.length
 | [],vals,F,h=>by rw [h.1];rfl
 | x :: ws,vals,F,⟨v,r,F1,F2,e1,e2,h1,h2⟩=>by subst e1;simp [K6 h2]
theorem NL:∀ {vs w1 w2:List V},vs.length=w1.length→VN vs (w1 ++ w2)=w1∧VO vs (w1 ++ w2)=w2
 | [],[],w2,_=>⟨by simp [VN],by simp [VO]⟩
 | [],_ :: _,w2,h=>by simp at h
 | _ :: _,[],w2,h=>by simp at h
 | v :: vs,x :: w1,w2,h=>by
  obtain ⟨h1,h2⟩:=NL (w2:=w2) (show vs.length=w1.length by simpa using h)
  simp [VN,VO,h1,h2]
def UY (A:Ann) (f:FuncId):Nat→List V→List Value→List Value
 | _,[],_=>[]
 | _,_ :: _,[]=>[]
 | i,_ :: vs,u :: us=>match Qh (A.mode f i) with
  | true=>u :: UY A f (i + 1) vs us
  | false=>UY A f (i + 1) vs us
theorem WU {E:Env} {f:FuncId} (hs:Jy E sl a):∀ {args:List V} {i:Nat} {vals:List Value},(∀ (j:Nat) (u:Value),vals[j]?=some u→Qh (A.mode f (i + j))=true→a.tmps.getD (i + j) undef=u)→vals.length=args.length→Q0 (HV A f sl i args)=true→Tup E (HV A f sl i args) (UY A f i args vals) []
 | [],i,vals,_,_,_=>by simp [HV,UY,Tup]
 | _ :: _,i,[],_,h,_=>by simp at h
 | x :: args,i,u :: vals,hp,hl,hn=>by
  have hp':∀ (j:Nat) (u:Value),vals[j]?=some u→Qh (A.mode f (i + 1 + j))=true→a.tmps.getD (i + 1 + j) undef=u:=fun j u hj hio=>by
   have:=hp (j + 1) u (by simpa using hj) (by rw [show i + (j + 1)=i + 1 + j by omega];exact hio)
   rwa [show i + (j + 1)=i + 1 + j by omega] at this
  have hl':vals.length=args.length:=by simpa using hl
  cases hm:A.mode f i with
  | io=>
   simp only [HV,hm] at hn ⊢
   have hn':(∀ xs,Jw sl i ≠ .tup xs)∧Q0 (HV A f sl (i + 1) args)=true:=by
    cases hq:Jw sl i<;>rw [hq] at hn<;>simp [Q0] at hn<;>exact ⟨(by intro xs hh;cases hh),hn⟩
   have hu:=hp 0 u (by simp) (by simp [hm,Qh])
   simp only [UY,hm,Qh]
   refine ⟨u,_,[],[],rfl,rfl,?_,WU hs hp' hl' hn'.2⟩
   have:=hs i
   rw [Nat.add_zero] at hu
   rw [hu] at this
   exact VE hn'.1 this
  | take=>
   simp only [HV,hm] at hn ⊢
   simp only [UY,hm,Qh]
   exact WU hs hp' hl' hn
  | lend=>
   simp only [HV,hm] at hn ⊢
   simp only [UY,hm,Qh]
   exact WU hs hp' hl' hn
  | keep=>
   simp only [HV,hm] at hn ⊢
   simp only [UY,hm,Qh]
   exact WU hs hp' hl' hn
theorem K7 {E E':Env} (hle:Le E E') (hw:E'.w=E.w) {f:FuncId}:∀ {args:List V} {i:Nat} {vals:List Value} {ws:List V} {F:List Nat},vals.length=args.length→HI ws=true→Tup E ws (UY A f i args vals) F→CP E' (fun j=>Qh (A.mode f j)) i (HW A f i args ws) vals F
 | [],i,[],ws,F,_,_,h=>by
  match ws,h with
  | [],h=>exact ⟨rfl,h.2⟩
  | _ :: _,⟨v,r,F1,F2,e1,_⟩=>simp [UY] at e1
 | [],i,_ :: _,ws,F,h,_,_=>by simp at h
 | _ :: _,i,[],ws,F,h,_,_=>by simp at h
 | x :: args,i,u :: vals,ws,F,hl,ho,h=>by
  have hl':vals.length=args.length:=by simpa using hl
  have other:Qh (A.mode f i)=false→(UY A f i (x :: args) (u :: vals)=UY A f (i + 1) args vals)→HW A f i (x :: args) ws=.undef :: HW A f (i + 1) args ws→CP E' (fun j=>Qh (A.mode f j)) i (HW A f i (x :: args) ws) (u :: vals) F:=by
   intro h1 h2 h3
   rw [h2] at h
   rw [h3]
   exact ⟨u,vals,[],F,rfl,rfl,fun hi=>(by have hi':Qh (A.mode f i)=true:=hi;rw [h1] at hi';cases hi'),fun _=>rfl,K7 hle hw hl' ho h⟩
  cases hm:A.mode f i with
  | io=>
   simp only [UY,hm,Qh] at h
   match ws,h,ho with
   | [],h,_=>simp [Tup] at h
   | y :: ws,⟨v,r,F1,F2,e1,e2,⟨cs,h1,h1'⟩,h2⟩,ho=>
    simp only [List.cons.injEq] at e1
    obtain ⟨rfl,rfl⟩:=e1
    subst e2
    unfold HI at ho;rw [Je] at ho
    simp only [HW,hm]
    exact ⟨u,vals,F1,F2,rfl,rfl,fun _=>⟨cs,XA hle.kle hw ho.1 h1,h1'⟩,fun hi=>(by have hi':Qh (A.mode f i)=false:=hi;rw [hm] at hi';cases hi'),K7 hle hw hl' ho.2 h2⟩
  | take=>exact other (by rw [hm];rfl) (by simp [UY,hm,Qh]) (by simp [HW,hm])
  | lend=>exact other (by rw [hm];rfl) (by simp [UY,hm,Qh]) (by simp [HW,hm])
  | keep=>exact other (by rw [hm];rfl) (by simp [UY,hm,Qh]) (by simp [HW,hm])
theorem NM {f:FuncId} {Pn:Nat→Option Value} (hPn:∀ t,Qh (A.mode f t)=false→Pn t=none):∀ {ops:List Oper},XS A f ops=true→∀ o ∈ ops,∀ t,o.dst=some t→Pn t=none
 | [],_,o,ho,t,ht=>by cases ho
 | o :: ops,h,o',ho,t,ht=>by
  unfold XS at h
  split at h
  ·rename_i h1
   rcases List.mem_cons.1 ho with rfl | ho
   ·rw [ht] at h1
    simp only at h1
    refine hPn t ?_
    cases hm:A.mode f t with
    | io=>rw [hm] at h1;simp at h1
    | take=>rfl
    | lend=>rfl
    | keep=>rfl
   ·exact NM hPn h o' ho t ht
  ·cases h
theorem OX {f:FuncId} {Pn:Nat→Option Value} (hPn:∀ t,Qh (A.mode f t)=false→Pn t=none):∀ {c:Code},HX A f c=true→QD Pn c
 | .region _ ops _,h=>NM hPn h
 | .seq a b,h=>by
  unfold HX at h;rw [Je] at h
  exact ⟨OX hPn h.1,OX hPn h.2⟩
 | .cond _ a b,h=>by
  unfold HX at h;rw [Je] at h
  exact ⟨OX hPn h.1,OX hPn h.2⟩
 | .block _ b,h=>by unfold HX at h;unfold QD;exact OX hPn h
 | .loop b,h=>by unfold HX at h;unfold QD;exact OX hPn h
 | .skip,_=>by unfold QD;trivial
 | .exit _,_=>by unfold QD;trivial
 | .ret,_=>by unfold QD;trivial
 | .rangeFunc _ _ _ _,_=>by unfold QD;trivial
 | .scope _,_=>by unfold QD;trivial
 | .label _,_=>by unfold QD;trivial
 | .goto _,_=>by unfold QD;trivial
 | .refuse _,_=>by unfold QD;trivial
theorem OY {Pn:Nat→Option Value} (hPn:∀ t,Pn t=none):∀ {c:Code},QD Pn c
 | .region _ ops _=>fun _ _ _ _=>hPn _
 | .seq a b=>⟨OY hPn,OY hPn⟩
 | .cond _ a b=>⟨OY hPn,OY hPn⟩
 | .block _ b=>by unfold QD;exact OY hPn
 | .loop b=>by unfold QD;exact OY hPn
 | .skip=>by unfold QD;trivial
 | .exit _=>by unfold QD;trivial
 | .ret=>by unfold QD;trivial
 | .rangeFunc _ _ _ _=>by unfold QD;trivial
 | .scope _=>by unfold QD;trivial
 | .label _=>by unfold QD;trivial
 | .goto _=>by unfold QD;trivial
 | .refuse _=>by unfold QD;trivial
theorem NN {f:FuncId}:∀ {vs:List V} {i:Nat},UG A f i vs=false→∀ j,i≤j→j<i + vs.length→Qh (A.mode f j)=false
 | [],i,_,j,h1,h2=>by simp at h2;omega
 | v :: vs,i,h,j,h1,h2=>by
  simp only [UG] at h
  split at h
  ·cases h
  ·cases h
  ·rename_i hm hm2
   by_cases he:j=i
   ·subst he
    cases hq:A.mode f j with
    | io=>exact absurd hq hm
     | take=>rfl
    | lend=>rfl
    | keep=>rfl
   ·exact NN h j (by omega) (by simp at h2;omega)
theorem qS {E E':Env} (hw:E'.w=E.w) {ws:List V} {vals:List Value} {F:List Nat} (h:Tup E ws vals F) (ho:Hd ws=true) :
  Val E' (Kq ws) (if h:vals.toArray.size=1 then vals.toArray[0] else .tuple vals.toArray) F:=by
 have h':=XC hw ho h
 match ws,h' with
 | [],⟨e1,e2⟩=>subst e1;exact ⟨#[],by simp,rfl,e2⟩
 | [x],⟨v,r,F1,F2,e1,e2,h1,⟨e3,e4⟩⟩=>
  subst e1;subst e3;subst e4;subst e2
  rw [List.append_nil]
  unfold Hd at ho;rw [Je] at ho
  have:Val E' x v F1:=by
   cases x<;>first | exact h1 | (simp [Qc] at ho;done) | (obtain ⟨cs,h2,_⟩:=h1;unfold InV at h2;exact h2.elim)
  simpa [Kq] using this
 | x :: y :: zs,h2=>
  have hl:vals.length=(x :: y :: zs).length:=by
   have:∀ {ws:List V} {vals:List Value} {F:List Nat},Tup E' ws vals F→vals.length=ws.length:=by
    intro ws
    induction ws with
    | nil=>intro vals F h;rw [h.1];rfl
    | cons w ws ih=>rintro vals F ⟨v,r,F1,F2,e1,e2,h1,h3⟩;subst e1;simp [ih h3]
   exact this h2
  simp only [List.length_cons] at hl
  rw [dif_neg (by simp;omega)]
  exact ⟨vals.toArray,rfl,h2⟩
theorem qT (HT : JN P A.ty) (hm : P.follows .mixedOrders = true) {oc : OC (V × List V)} (hoc : HS P A oc) {ol : OL (V × List V)} {C : Code → Prop} (hol : X7 P C ol) {f : FuncId} {fn : Func} (hf : P.funcs[f]? = some fn) (hname : (fn.name == "runtime.NumGoroutine") = false)
  {args:List V} {res:V} {outs:List V} (hC:∀ b,fn.body=some b→∀ l ∈ JY b,C l) (h:QH oc ol A f fn args (fun v os=>some (v,os))=some (res,outs)):HR P (fun i=>Qh (A.mode f i)) f args res outs:=by
 unfold QH at h
 split at h
 ·rename_i c hb
  split at h
  ·rename_i hchk
   rw [Je,Je] at hchk
   obtain ⟨hnt,hns,hio⟩:=hchk
   have hs:=@qK ⟨fun _=>True⟩ _ hns
   rw [@Ha ⟨fun _=>True⟩,@Ca ⟨fun _=>True⟩] at h
   refine ⟨⟨fn,hf,hname,by simp [hb]⟩,fun K w vals F ht hnd hlt=>?_⟩
   letI:Inhabited Qk:=⟨K⟩
   have hargs:vals.length=args.length:=by
    obtain ⟨_,_,_,_,k3,_⟩:=K3 ht
    exact k3
   let Pn:Nat→Option Value:=fun t=>match Qh (A.mode f t) with
    | true=>vals[t]?
    | false=>none
   have hPn1:∀ t v,Pn t=some v→vals[t]?=some v:=by
    intro t v hv
    simp only [Pn] at hv
    split at hv
    ·exact hv
    ·cases hv
   have hPn2:∀ t,Qh (A.mode f t)=false→Pn t=none:=by
    intro t ht
    simp only [Pn,ht]
   have hD:QD Pn c:=by
    rw [Co] at hio
    rcases hio with hio | hio
    ·have hio':UG A f 0 args=false:=by
      cases hq:UG A f 0 args with
      | false=>rfl
      | true=>rw [hq] at hio;simp [JO] at hio
     refine OY (fun t=>?_)
     by_cases htl:t<args.length
     ·exact hPn2 t (NN hio' t (Nat.zero_le _) (by simpa using htl))
     ·have:vals[t]?=none:=by rw [List.getElem?_eq_none_iff];omega
      simp only [Pn]
      split
      ·exact this
      ·rfl
    ·exact OX hPn2 hio
   have hrel:=qL (n:=fn.ntmps) hPn1 ht hnd hlt hs
   refine calls_of_wp hf hb ?_
   have hact:({ tmps:=vals.toArray ++ Array.replicate (fn.ntmps - vals.toArray.size) undef,defers:=[] }:Act)={ tmps:=vals.toArray ++ Array.replicate (fn.ntmps - vals.length) undef,defers:=[] }:=by simp
   rw [hact]
   have fin:∀ σ' a' w',XT A f fn args σ' (fun v os=>some (v,os))=some (res,outs)→Rel Pn w F σ' a' w' →
     a'.defers=[]∧∃ v,(results fn a'.tmps).run P w'=.ok v w'∧(∃ v' Fr Fo,Ending.returned v=.returned v'∧Val (Q2 Kept.K w' (Fr ++ Fo)) res v' Fr∧CP (Q2 Kept.K w' (Fr ++ Fo)) (fun i=>Qh (A.mode f i)) 0 outs vals Fo ∧
      (Fr ++ Fo).Nodup∧(∀ b ∈ Fr ++ Fo,b<w'.heap.size∧(b ∈ F ∨ w.heap.size≤b)) ∧
      (∀ b,b<w.heap.size→b ∉ F→w'.heap[b]?=w.heap[b]?)∧w.heap.size≤w'.heap.size∧w'.os=w.os∧w'.tape=w.tape∧w'.output=w.output):=by
    intro σ' a' w' hfin hr
    obtain ⟨⟨G,hc,hsl⟩,hl,hd,hpin⟩:=hr
    refine ⟨hd,?_⟩
    unfold XT at hfin
    split at hfin
    ·rename_i vs hvs
     split at hfin
     ·rename_i hnt
      rw [NI] at hnt
      split at hfin
      ·rename_i cs ws b2 hin
       split at hfin
       ·rename_i how
        obtain ⟨g1,g2⟩:=UU hfin
        rw [CO,Ha] at g2
        simp only [oj,pj] at g2
        obtain ⟨rfl,rfl⟩:=g2
        obtain ⟨rvals,r1,r2⟩:=NG (a:=a') HT hc hsl hvs hnt.1
        have r3:=WU (A:=A) (f:=f) (i:=0) (vals:=vals) hsl (fun j u hj hjo=>hpin _ _ (by
         rw [Nat.zero_add] at hjo ⊢
         simp only [Pn,hjo]
         exact hj)) hargs hnt.2
        have r4:=NK r2 r3
        rw [← Qd vs] at r4
        obtain ⟨F',G',q1,q2,q3⟩:=NH 30 hc.x r4 hin g1
        rw [List.append_nil] at q1 q2
        obtain ⟨w1,w2,Fr,Fo,rfl,rfl,t1,t2⟩:=NJ q2
        obtain ⟨e1,e2⟩:=NL (vs:=vs) (w1:=w1) (w2:=w2) (by rw [← K6 t1,← K6 r2])
        rw [e1,e2,Je] at how
        rw [e1,e2]
        refine ⟨(if h:rvals.toArray.size=1 then rvals.toArray[0] else .tuple rvals.toArray),?_,_,Fr,Fo,rfl,?_,?_,?_,?_,?_,?_⟩
        ·rw [qQ,Array.mapM_eq_mapM_toList,map_eq_pure_bind]
         simp only [Sem.run_bind,bind_assoc,r1,Result.andThen_ok,Sem.run_pure]
        ·exact qS (E:=Ja w' b2 G' (Fr ++ Fo)) (E':=Q2 Kept.K w' (Fr ++ Fo)) rfl t1 how.1
        ·exact K7 (E:=Ja w' b2 G' (Fr ++ Fo)) (E':=Q2 Kept.K w' (Fr ++ Fo)) ⟨fun b hb=>⟨⟨hb.1,fun hx=>hb.2 (.inl hx)⟩,rfl⟩,Nat.le_refl _,fun _ _ h=>h⟩ rfl hargs how.2 t2
        ·exact q1.ok.xnd
        ·intro k hk
         exact ⟨q1.ok.xlt k hk,q1.own k (.inl hk)⟩
        ·exact fun k h1 h2=>q1.frame k h1 h2
        ·exact ⟨q1.size,q1.os,q1.tape,q1.output⟩
       ·cases hfin
      ·cases hfin
     ·cases hfin
    ·cases hfin
   refine CU HT hm hoc hol c (hC c hb) hD hrel h (fun e σ' a' w' h1 h2=>?_)
   cases e with
   | normal=>exact fin σ' a' w' h1 h2
   | ret=>exact fin σ' a' w' h1 h2
   | exit i=>cases h1
  ·cases h
 ·cases h
end
end Go.Rai
namespace Go.Rai
inductive Dat where
 | I (n:Int)
 | B (b:Bool)
 | S (s:ByteArray)
 | L (l:List D)
 | N (n:Nat)
inductive Sh where
 | undef
 | void
 | int (k:IntKind)
 | bool
 | str
 | agg (l:List Sh)
 | arr (n:Nat) (e:Ty)
 | own (e:Ty)
 | rd (e:Ty)
 | lst (e:Ty) (l:List Sh)
 | nilsl
 | emp (e:Ty)
 | obox (s:Sh)
 | rp (s:Sh)
 | full (s:Nat) (p:List Nat) (e:Ty)
 | sub (s:Nat) (p:List Nat) (e:Ty)
 | ptr (s:Nat) (p:List Nat)
 | fn (f:FuncId) (caps:List Sh)
 | nilfn
 | nilptr
 | tup (l:List Sh)
 | mp
 | mref (s:Nat)
def mkP:List Nat→List Dat→List Nat × List Dat
 | [],r=>([],r)
 | a :: p,r=>match Nat.beq a 1000000 with
  | true=>match r with
   | .N n :: r'=>match mkP p r' with
    | (q,r'')=>(n :: q,r'')
   | r=>([],r)
  | false=>match mkP p r with
   | (q,r'')=>(a :: q,r'')
def unP:List Nat→List Nat→Option (List Dat)
 | [],[]=>some []
 | a :: p,b :: q=>match Nat.beq a 1000000 with
  | true=>match unP p q with
   | some ds=>some (.N b :: ds)
   | none=>none
  | false=>match Nat.beq a b with
   | true=>unP p q
   | false=>none
 | _,_=>none
theorem WV:∀ {p q:List Nat} {ds:List Dat},unP p q=some ds→∀ r,mkP p (ds ++ r)=(q,r)
 | [],[],ds,h,r=>by simp [unP] at h;subst h;rfl
 | a :: p,b :: q,ds,h,r=>by
  simp only [unP] at h
  split at h
  ·rename_i ha
   split at h
   ·rename_i ds' hd
    simp only [oj] at h
    subst h
    simp only [mkP,ha,List.cons_append,WV hd r]
   ·cases h
  ·rename_i ha
   split at h
   ·rename_i hb
    have:=Nat.eq_of_beq_eq_true hb
    subst this
    simp only [mkP,ha,WV h r]
   ·cases h
 | [],_ :: _,ds,h,r=>by simp [unP] at h
 | _ :: _,[],ds,h,r=>by simp [unP] at h
def uu:Nat→List Sh→List Sh
 | 0,l=>l
 | n + 1,l=>.undef :: uu n l
mutual
def Sh.mk:Sh→List Dat→V × List Dat
 | .undef,r=>(.undef,r)
 | .void,r=>(.void,r)
 | .int k,.I n :: r=>(.int k n,r)
 | .bool,.B b :: r=>(.bool b,r)
 | .str,.S s :: r=>(.str s,r)
 | .agg l,r=>match Sh.mks l r with
  | (vs,r')=>(.agg vs,r')
 | .arr n e,.L l :: r=>(.arr n e l,r)
 | .own e,.L l :: r=>(.own e l,r)
 | .rd e,.L l :: r=>(.rd e l,r)
 | .lst e l,r=>match Sh.mks l r with
  | (vs,r')=>(.lst e vs,r')
 | .nilsl,r=>(.nilsl,r)
 | .emp e,r=>(.emp e,r)
 | .obox s,r=>match Sh.mk s r with
  | (v,r')=>(.obox v,r')
 | .rp s,r=>match Sh.mk s r with
  | (v,r')=>(.rp v,r')
 | .full s p e,r=>match mkP p r with
  | (q,r')=>(.full s q e,r')
 | .sub s p e,r=>match mkP p r with
  | (q,.N o :: .N n :: r')=>(.sub s q o n e,r')
  | (_,r')=>(.undef,r')
 | .ptr s p,r=>match mkP p r with
  | (q,r')=>(.ptr s q,r')
 | .fn f l,r=>match Sh.mks l r with
  | (vs,r')=>(.fn f vs,r')
 | .nilfn,r=>(.nilfn,r)
 | .nilptr,r=>(.nilptr,r)
 | .mp,.L l :: r=>(.mp l,r)
 | .mref s,r=>(.mref s,r)
 | .tup l,r=>match Sh.mks l r with
  | (vs,r')=>(.tup vs,r')
 | _,r=>(.undef,r)
def Sh.mks:List Sh→List Dat→List V × List Dat
 | [],r=>([],r)
 | s :: l,r=>match Sh.mk s r with
  | (v,r')=>match Sh.mks l r' with
   | (vs,r'')=>(v :: vs,r'')
end
mutual
def Sh.un:Sh→V→Option (List Dat)
 | .undef,.undef=>some []
 | .void,.void=>some []
 | .int k,.int k' n=>match keq k k' with
  | true=>some [.I n]
  | false=>none
 | .bool,.bool b=>some [.B b]
 | .str,.str s=>some [.S s]
 | .agg l,.agg vs=>Sh.uns l vs
 | .arr n e,.arr m e' l=>match Jh (Nat.beq n m) (e.beq e') with
  | true=>some [.L l]
  | false=>none
 | .own e,.own e' l=>match e.beq e' with
  | true=>some [.L l]
  | false=>none
 | .rd e,.rd e' l=>match e.beq e' with
  | true=>some [.L l]
  | false=>none
 | .lst e l,.lst e' vs=>match e.beq e' with
  | true=>Sh.uns l vs
  | false=>none
 | .nilsl,.nilsl=>some []
 | .emp e,.emp e'=>match e.beq e' with
  | true=>some []
  | false=>none
 | .obox s,.obox v=>Sh.un s v
 | .rp s,.rp v=>Sh.un s v
 | .full s p e,.full s' p' e'=>match Jh (Nat.beq s s') (e.beq e') with
  | true=>unP p p'
  | false=>none
 | .sub s p e,.sub s' p' o n e'=>match Jh (Nat.beq s s') (e.beq e') with
  | true=>match unP p p' with
   | some ds=>some (cat ds [.N o,.N n])
   | none=>none
  | false=>none
 | .ptr s p,.ptr s' p'=>match Nat.beq s s' with
  | true=>unP p p'
  | false=>none
 | .fn f l,.fn g vs=>match Nat.beq f g with
  | true=>Sh.uns l vs
  | false=>none
 | .nilfn,.nilfn=>some []
 | .nilptr,.nilptr=>some []
 | .mp,.mp l=>some [.L l]
 | .mref s,.mref t=>match Nat.beq s t with
  | true=>some []
  | false=>none
 | .tup l,.tup vs=>Sh.uns l vs
 | _,_=>none
def Sh.uns:List Sh→List V→Option (List Dat)
 | [],[]=>some []
 | s :: l,v :: vs=>match Sh.un s v with
  | some d=>match Sh.uns l vs with
   | some ds=>some (cat d ds)
   | none=>none
  | none=>none
 | _,_=>none
end
mutual
theorem Sh.un_mk:∀ (s:Sh) {v:V} {ds:List Dat},s.un v=some ds→∀ r,s.mk (ds ++ r)=(v,r)
 | .undef,v,ds,h,r=>by cases v<;>simp [Sh.un] at h<;>subst h<;>simp [Sh.mk]
 | .void,v,ds,h,r=>by cases v<;>simp [Sh.un] at h<;>subst h<;>simp [Sh.mk]
 | .int k,v,ds,h,r=>by
  cases v<;>simp only [Sh.un] at h<;>try (cases h;done)
  split at h
  ·rename_i hk;have:=UC hk;subst this;simp at h;subst h;simp [Sh.mk]
  ·cases h
 | .bool,v,ds,h,r=>by cases v<;>simp [Sh.un] at h<;>subst h<;>simp [Sh.mk]
 | .str,v,ds,h,r=>by cases v<;>simp [Sh.un] at h<;>subst h<;>simp [Sh.mk]
 | .agg l,v,ds,h,r=>by
  cases v<;>simp only [Sh.un] at h<;>try (cases h;done)
  unfold Sh.mk
  rw [Sh.uns_mk l h r]
 | .arr n e,v,ds,h,r=>by
  cases v<;>simp only [Sh.un] at h<;>try (cases h;done)
  split at h
  ·rename_i hk
   rw [Je] at hk
   have e1:=Nat.eq_of_beq_eq_true hk.1;have e2:=Ty.beq_eq _ _ hk.2
   subst e1;subst e2;simp at h;subst h;simp [Sh.mk]
  ·cases h
 | .own e,v,ds,h,r=>by
  cases v<;>simp only [Sh.un] at h<;>try (cases h;done)
  split at h
  ·rename_i hk;have:=Ty.beq_eq _ _ hk;subst this;simp at h;subst h;simp [Sh.mk]
  ·cases h
 | .rd e,v,ds,h,r=>by
  cases v<;>simp only [Sh.un] at h<;>try (cases h;done)
  split at h
  ·rename_i hk;have:=Ty.beq_eq _ _ hk;subst this;simp at h;subst h;simp [Sh.mk]
  ·cases h
 | .lst e l,v,ds,h,r=>by
  cases v<;>simp only [Sh.un] at h<;>try (cases h;done)
  split at h
  ·rename_i hk;have:=Ty.beq_eq _ _ hk;subst this
   unfold Sh.mk
   rw [Sh.uns_mk l h r]
  ·cases h
 | .nilsl,v,ds,h,r=>by cases v<;>simp [Sh.un] at h<;>subst h<;>simp [Sh.mk]
 | .emp e,v,ds,h,r=>by
  cases v<;>simp only [Sh.un] at h<;>try (cases h;done)
  split at h
  ·rename_i hk;have:=Ty.beq_eq _ _ hk;subst this;simp at h;subst h;simp [Sh.mk]
  ·cases h
 | .obox s,v,ds,h,r=>by
  cases v<;>simp only [Sh.un] at h<;>try (cases h;done)
  unfold Sh.mk
  rw [Sh.un_mk s h r]
 | .rp s,v,ds,h,r=>by
  cases v<;>simp only [Sh.un] at h<;>try (cases h;done)
  unfold Sh.mk
  rw [Sh.un_mk s h r]
 | .full s p e,v,ds,h,r=>by
  cases v<;>simp only [Sh.un] at h<;>try (cases h;done)
  split at h
  ·rename_i hk
   rw [Je] at hk
   have e1:=Nat.eq_of_beq_eq_true hk.1;have e3:=Ty.beq_eq _ _ hk.2
   subst e1;subst e3
   unfold Sh.mk
   rw [WV h r]
  ·cases h
 | .sub s p e,v,ds,h,r=>by
  cases v<;>simp only [Sh.un] at h<;>try (cases h;done)
  split at h
  ·rename_i hk
   rw [Je] at hk
   have e1:=Nat.eq_of_beq_eq_true hk.1;have e3:=Ty.beq_eq _ _ hk.2
   subst e1;subst e3
   split at h
   ·rename_i d hd
    simp only [oj] at h
    subst h
    unfold Sh.mk
    rw [Qd,List.append_assoc,WV hd]
    rfl
   ·cases h
  ·cases h
 | .ptr s p,v,ds,h,r=>by
  cases v<;>simp only [Sh.un] at h<;>try (cases h;done)
  split at h
  ·rename_i hk
   have e1:=Nat.eq_of_beq_eq_true hk
   subst e1
   unfold Sh.mk
   rw [WV h r]
  ·cases h
 | .fn f l,v,ds,h,r=>by
  cases v<;>simp only [Sh.un] at h<;>try (cases h;done)
  split at h
  ·rename_i hk;have:=Nat.eq_of_beq_eq_true hk;subst this
   unfold Sh.mk
   rw [Sh.uns_mk l h r]
  ·cases h
 | .nilfn,v,ds,h,r=>by cases v<;>simp [Sh.un] at h<;>subst h<;>simp [Sh.mk]
 | .nilptr,v,ds,h,r=>by cases v<;>simp [Sh.un] at h<;>subst h<;>simp [Sh.mk]
 | .mp,v,ds,h,r=>by cases v<;>simp [Sh.un] at h<;>subst h<;>simp [Sh.mk]
 | .mref s,v,ds,h,r=>by
  cases v<;>simp only [Sh.un] at h<;>try (cases h;done)
  split at h
  ·rename_i hk;have:=Nat.eq_of_beq_eq_true hk;subst this;simp at h;subst h;simp [Sh.mk]
  ·cases h
 | .tup l,v,ds,h,r=>by
  cases v<;>simp only [Sh.un] at h<;>try (cases h;done)
  unfold Sh.mk
  rw [Sh.uns_mk l h r]
theorem Sh.uns_mk:∀ (l:List Sh) {vs:List V} {ds:List Dat},Sh.uns l vs=some ds→∀ r,Sh.mks l (ds ++ r)=(vs,r)
 | [],vs,ds,h,r=>by cases vs<;>simp [Sh.uns] at h;subst h;simp [Sh.mks]
 | s :: l,[],ds,h,r=>by simp [Sh.uns] at h
 | s :: l,v :: vs,ds,h,r=>by
  simp only [Sh.uns] at h
  split at h
  ·rename_i d hd
   split at h
   ·rename_i ds' hds
    simp only [oj] at h
    subst h
    unfold Sh.mks
    rw [Qd,List.append_assoc,Sh.un_mk s hd]
    simp only
    rw [Sh.uns_mk l hds]
   ·cases h
  ·cases h
end
structure Ent where
 f:FuncId
 sh:List Sh
 ex:List (Sh × List Sh)
 m:∀ (R:Type),List Dat→(Nat→List Dat→Option R)→Option R
def Ent.ok (P:Program) (A:Ann) (e:Ent):Prop:=
 ∀ (R:Type) (ds:List Dat) (k:Nat→List Dat→Option R) (r:R),e.m R ds k=some r→∃ i rs s os,k i rs=some r∧nth e.ex i=some (s,os)∧HR P (fun i=>Qh (A.mode e.f i)) e.f (Sh.mks e.sh ds).1 (s.mk rs).1 (Sh.mks os (s.mk rs).2).1
def K8 {R:Type} (ex:List (Sh × List Sh)) (κ:V→List V→Option R) (i:Nat) (rs:List Dat):Option R:=
 match nth ex i with
 | some (s,os)=>κ (s.mk rs).1 (Sh.mks os (s.mk rs).2).1
 | none=>none
def QW (e:Ent) (i:Nat) (rs:List Dat):Option (V × List V):=K8 e.ex (fun v os=>some (v,os)) i rs
def JQ {R:Type}:List Ent→OC R
 | [],_,_,_=>none
 | e :: es,f,args,κ=>match Nat.beq e.f f with
  | true=>match Sh.uns e.sh args with
   | some ds=>e.m R ds (K8 e.ex κ)
   | none=>JQ es f args κ
  | false=>JQ es f args κ
theorem K9 {P:Program} {A:Ann} {R:Type}:∀ {es:List Ent},(∀ e ∈ es,e.ok P A)→HS P A (JQ (R:=R) es)
 | [],_=>fun f args κ r h=>by simp [JQ] at h
 | e :: es,hes=>by
  intro f args κ r h
  have rest:JQ es f args κ=some r→∃ res outs,κ res outs=some r∧HR P (fun i=>Qh (A.mode f i)) f args res outs:=fun h=>K9 (fun e he=>hes e (by simp [he])) f args κ r h
  unfold JQ at h
  split at h
  ·rename_i hf
   have:=Nat.eq_of_beq_eq_true hf
   subst this
   split at h
   ·rename_i ds hds
    obtain ⟨i,rs,s,os,h1,hi,h2⟩:=hes e (by simp) R ds _ r h
    have hm:=Sh.uns_mk e.sh hds []
    rw [List.append_nil] at hm
    rw [hm] at h2
    unfold K8 at h1
    rw [hi] at h1
    exact ⟨_,_,h1,h2⟩
   ·exact rest h
  ·exact rest h
structure SSt where
 sl:List Sh
 bl:List (Nat × Sh)
def mkB:List (Nat × Sh)→List Dat→BL
 | [],_=>[]
 | (k,s) :: l,r=>match s.mk r with
  | (v,r')=>(k,v) :: mkB l r'
def SSt.mk' (s:SSt) (ds:List Dat):St:=
 match Sh.mks s.sl ds with
 | (vs,r)=>⟨vs,mkB s.bl r⟩
def unB:List (Nat × Sh)→BL→Option (List Dat)
 | [],[]=>some []
 | (k,s) :: l,(k',v) :: b=>match Nat.beq k k' with
  | true=>match s.un v with
   | some d=>match unB l b with
    | some ds=>some (cat d ds)
    | none=>none
   | none=>none
  | false=>none
 | _,_=>none
def SSt.un (s:SSt) (σ:St):Option (List Dat):=
 match Sh.uns s.sl σ.sl with
 | some d=>match unB s.bl σ.bl with
  | some ds=>some (cat d ds)
  | none=>none
 | none=>none
theorem NO:∀ {l:List (Nat × Sh)} {b:BL} {ds:List Dat},unB l b=some ds→mkB l ds=b
 | [],[],ds,h=>by simp [unB] at h;subst h;rfl
 | [],_ :: _,ds,h=>by simp [unB] at h
 | _ :: _,[],ds,h=>by simp [unB] at h
 | (k,s) :: l,(k',v) :: b,ds,h=>by
  simp only [unB] at h
  split at h
  ·rename_i hk
   have:=Nat.eq_of_beq_eq_true hk
   subst this
   split at h
   ·rename_i d hd
    split at h
    ·rename_i ds' hds
     simp only [oj] at h
     subst h
     unfold mkB
     rw [Qd,Sh.un_mk s hd]
     simp only
     rw [NO hds]
    ·cases h
   ·cases h
  ·cases h
theorem SSt.un_mk {s:SSt} {σ:St} {ds:List Dat} (h:s.un σ=some ds):s.mk' ds=σ:=by
 unfold SSt.un at h
 split at h
 ·rename_i d hd
  split at h
  ·rename_i ds' hds
   simp only [oj] at h
   subst h
   unfold SSt.mk'
   rw [Qd,Sh.uns_mk s.sl hd]
   simp only
   rw [NO hds]
  ·cases h
 ·cases h
structure JP where
 id:Nat
 sh:SSt
 ex:List (Ex × SSt)
 m:∀ (R:Type),List Dat→(Nat→List Dat→Option R)→Option R
def JP.ok (P:Program) (c:Code) (e:JP):Prop:=
 ∀ (R:Type) (ds:List Dat) (k:Nat→List Dat→Option R) (r:R),e.m R ds k=some r→∃ i rs x s',k i rs=some r∧nth e.ex i=some (x,s')∧WT P c (e.sh.mk' ds) x (s'.mk' rs)
def NP {R:Type} (ex:List (Ex × SSt)) (κ:Ex→St→Option R) (i:Nat) (rs:List Dat):Option R:=
 match nth ex i with
 | some (x,s')=>κ x (s'.mk' rs)
 | none=>none
def JR {R:Type}:List JP→OL R
 | [],_,_,_,_=>none
 | e :: es,id,c,σ,κ=>match Nat.beq e.id id with
  | true=>match e.sh.un σ with
   | some ds=>e.m R ds (NP e.ex κ)
   | none=>JR es id c σ κ
  | false=>JR es id c σ κ
def NQ (P:Program) (C:Code→Prop) (es:List JP):Prop:=
 ∀ c,C c→∀ e ∈ es,e.id=Qv c→e.ok P c
theorem NR {P:Program} {C:Code→Prop} {R:Type} {es:List JP} (h:NQ P C es):X7 P C (JR (R:=R) es):=by
 intro c hc σ κ r
 have key:∀ (l:List JP),(∀ e ∈ l,e.id=Qv c→e.ok P c)→JR l (Qv c) c σ κ=some r→∃ e σ',κ e σ'=some r∧WT P c σ e σ':=by
  intro l
  induction l with
  | nil=>intro _ h;simp [JR] at h
  | cons e l ih=>
   intro hl h
   have rest:=ih (fun e he=>hl e (by simp [he]))
   unfold JR at h
   split at h
   ·rename_i hid
    split at h
    ·rename_i ds hds
     obtain ⟨i,rs,x,s',h1,h2,h3⟩:=hl e (by simp) (Nat.eq_of_beq_eq_true hid) R ds _ r h
     rw [SSt.un_mk hds] at h3
     unfold NP at h1
     rw [h2] at h1
     exact ⟨x,_,h1,h3⟩
    ·exact rest h
   ·exact rest h
 exact key es (fun e he=>h c hc e he)
open Classical in
noncomputable def ev {Y:Type} (f:Nat→Option Y):Option Y:=
 if h:∃ y n,∀ m,n≤m→f m=some y then some h.choose else none
theorem Q6 {Y:Type} {f:Nat→Option Y} {y:Y} (h:ev f=some y):∃ n,f n=some y:=by
 unfold ev at h
 split at h
 ·rename_i hx
  simp only [oj] at h
  obtain ⟨n,hn⟩:=hx.choose_spec
  rw [← h]
  exact ⟨n,hn n (Nat.le_refl n)⟩
 ·cases h
theorem Cf {Y:Type} {f:Nat→Option Y} {y:Y} (n:Nat) (h:∀ m,n≤m→f m=some y):ev f=some y:=by
 unfold ev
 have hx:∃ y n,∀ m,n≤m→f m=some y:=⟨y,n,h⟩
 rw [dif_pos hx]
 obtain ⟨n',hn'⟩:=hx.choose_spec
 have h1:=hn' (max n n') (Nat.le_max_right _ _)
 have h2:=h (max n n') (Nat.le_max_left _ _)
 rw [h1] at h2
 exact h2
theorem J4 {α β:Type} {p:Prop} [Decidable p] {a b:Option β} {a' b':Option α} {k:α→Option β} (h1:a=a'.bind k) (h2:b=b'.bind k):(if p then a else b)=(if p then a' else b').bind k:=by
 split
 ·exact h1
 ·exact h2
theorem J5 {α β:Type} {p:Bool} {a b:Option β} {a' b':Option α} {k:α→Option β} (h1:a=a'.bind k) (h2:b=b'.bind k):(bif p then a else b)=(bif p then a' else b').bind k:=by
 cases p
 ·exact h2
 ·exact h1
theorem J6 {α β γ:Type} {x:Option γ} {g:γ→Option β} {g':γ→Option α} {k:α→Option β} (h:∀ y,g y=(g' y).bind k):x.bind g=(x.bind g').bind k:=by
 cases x with
 | none=>rfl
 | some y=>exact h y
theorem J7 {α β:Type} {x:α} {k:α→Option β}:k x=(some x).bind k:=rfl
theorem J8 {α β:Type} {k:α→Option β}:(none:Option β)=(none:Option α).bind k:=rfl
theorem J9 {α β:Type} {x:Option α} {k:α→Option β}:x.bind k=(x.bind some).bind k:=by cases x<;>rfl
end Go.Rai
namespace Go.Rai
def dI {R:Type} (g:Int→List Dat→Option R):List Dat→Option R
 | .I n :: r=>g n r
 | _=>none
def dB {R:Type} (g:Bool→List Dat→Option R):List Dat→Option R
 | .B n :: r=>g n r
 | _=>none
def dS {R:Type} (g:ByteArray→List Dat→Option R):List Dat→Option R
 | .S n :: r=>g n r
 | _=>none
def dL {R:Type} (g:List D→List Dat→Option R):List Dat→Option R
 | .L n :: r=>g n r
 | _=>none
def dN {R:Type} (g:Nat→List Dat→Option R):List Dat→Option R
 | .N n :: r=>g n r
 | _=>none
def dE {R:Type} (g:Option R):List Dat→Option R
 | []=>g
 | _=>none
theorem Jc {R:Type} {g:Int→List Dat→Option R} {ds:List Dat} {r:R} (h:dI g ds=some r):∃ n ds',ds=.I n :: ds'∧g n ds'=some r:=by
 unfold dI at h
 split at h
 ·exact ⟨_,_,rfl,h⟩
 ·cases h
theorem CV {R:Type} {g:Bool→List Dat→Option R} {ds:List Dat} {r:R} (h:dB g ds=some r):∃ n ds',ds=.B n :: ds'∧g n ds'=some r:=by
 unfold dB at h
 split at h
 ·exact ⟨_,_,rfl,h⟩
 ·cases h
theorem Jg {R:Type} {g:List D→List Dat→Option R} {ds:List Dat} {r:R} (h:dL g ds=some r):∃ n ds',ds=.L n :: ds'∧g n ds'=some r:=by
 unfold dL at h
 split at h
 ·exact ⟨_,_,rfl,h⟩
 ·cases h
theorem VX {R:Type} {g:Nat→List Dat→Option R} {ds:List Dat} {r:R} (h:dN g ds=some r):∃ n ds',ds=.N n :: ds'∧g n ds'=some r:=by
 unfold dN at h
 split at h
 ·exact ⟨_,_,rfl,h⟩
 ·cases h
theorem Jr {R:Type} {g:Option R} {ds:List Dat} {r:R} (h:dE g ds=some r):ds=[]∧g=some r:=by
 unfold dE at h
 split at h
 ·exact ⟨rfl,h⟩
 ·cases h
theorem JB {X R:Type} {x:Option X} {g:X→Option R} {y:X} (h:x=some y):x.bind g=g y:=by rw [h];rfl
theorem Js {X R:Type} {x:Option X} {g:X→Option R} {r:R} (h:x.bind g=some r):∃ y,x=some y∧g y=some r:=by
 cases x with
 | none=>cases h
 | some y=>exact ⟨y,rfl,h⟩
theorem vj {α β:Type} {v y:α} {k:α→Option β}:some v=some y→k v=k y:=by intro h;cases h;rfl
theorem vk {α β:Type} {y:α} {r:Option β}:(none:Option α)=some y→(none:Option β)=r:=by intro h;cases h
theorem vl {α β:Type} {x:Option α} {y:α} {k:α→Option β}:x.bind some=some y→x.bind k=k y:=by
 intro h;cases x<;>simp at h;subst h;rfl
theorem vm {α β:Type} {p:Prop} [Decidable p] {a b:Option α} {a' b' r:Option β} {y:α} (h1:a=some y→a'=r) (h2:b=some y→b'=r):(if p then a else b)=some y→(if p then a' else b')=r:=by
 intro h;split at h
 ·rename_i hp;rw [if_pos hp];exact h1 h
 ·rename_i hp;rw [if_neg hp];exact h2 h
theorem vn {α β:Type} {p:Bool} {a b:Option α} {a' b' r:Option β} {y:α} (h1:a=some y→a'=r) (h2:b=some y→b'=r):(bif p then a else b)=some y→(bif p then a' else b')=r:=by
 cases p
 ·exact h2
 ·exact h1
theorem vo {α β γ:Type} {x:Option γ} {f:γ→Option α} {f':γ→Option β} {r:Option β} {y:α} (h:∀ z,f z=some y→f' z=r):x.bind f=some y→x.bind f'=r:=by
 cases x with
 | none=>intro h';cases h'
 | some z=>exact h z
theorem vp {α β X Y:Type} {a:X→Option α} {b:Y→Option α} {a':X→Option β} {b':Y→Option β} {r:Option β} {y:α} (z:X ⊕ Y) (h1:∀ z,a z=some y→a' z=r) (h2:∀ z,b z=some y→b' z=r):Sum.elim a b z=some y→Sum.elim a' b' z=r:=by
 cases z with
 | inl z=>exact h1 z
 | inr z=>exact h2 z
theorem vq {α β:Type} {a b:Option α} {a' b' r:Option β} {y:α} (h1:a=some y→a'=r) (h2:b=some y→b'=r):VL a b=some y→VL a' b'=r:=by
 intro h
 obtain ⟨e1,e2⟩:=Nb h
 unfold VL
 rw [h1 e1,h2 e2,if_pos rfl]
theorem Qa {α β X Y:Type} {a:X→Option β} {b:Y→Option β} {a':X→Option α} {b':Y→Option α} {k:α→Option β} (y:X ⊕ Y) (h1:∀ y,a y=(a' y).bind k) (h2:∀ y,b y=(b' y).bind k):Sum.elim a b y=(Sum.elim a' b' y).bind k:=by
 cases y with
 | inl y=>exact h1 y
 | inr y=>exact h2 y
def X9:List Nat→Bool
 | []=>true
 | a :: l=>Jh (JO (JT l a)) (X9 l)
def Ya:List Code→List Nat
 | []=>[]
 | c :: l=>Qv c :: Ya l
def JA (fn:Func):Code:=match fn.body with
 | some c=>c
 | none=>.skip
def JC (body:Code) (id:Nat):Code:=match QV id body with
 | some c=>c
 | none=>.skip
theorem qU (l:List Code):Ya l=l.map Qv:=by
 induction l with
 | nil=>rfl
 | cons a l ih=>simp [Ya,ih]
theorem NS:∀ {l:List Nat},X9 l=true→l.Nodup
 | [],_=>List.nodup_nil
 | a :: l,h=>by
  unfold X9 at h
  rw [Je,Oj] at h
  refine List.nodup_cons.2 ⟨fun hm=>?_,NS h.2⟩
  rw [UJ.2 hm] at h
  cases h.1
theorem NT:∀ {b:Code} {id:Nat} {c:Code},QV id b=some c→c ∈ JY b∧Qv c=id:=by
 intro b
 induction b with
 | seq x y ih1 ih2=>
  intro id c h
  simp only [QV] at h
  split at h
  ·rename_i c' h1
   simp only [oj] at h
   subst h
   have:=ih1 h1
   exact ⟨by simp [JY,this.1],this.2⟩
  ·have:=ih2 h
   exact ⟨by simp [JY,this.1],this.2⟩
 | cond _ x y ih1 ih2=>
  intro id c h
  simp only [QV] at h
  split at h
  ·rename_i c' h1
   simp only [oj] at h
   subst h
   have:=ih1 h1
   exact ⟨by simp [JY,this.1],this.2⟩
  ·have:=ih2 h
   exact ⟨by simp [JY,this.1],this.2⟩
 | block _ x ih=>
  intro id c h
  simp only [QV] at h
  have:=ih h
  exact ⟨by simp [JY,this.1],this.2⟩
 | loop x ih=>
  intro id c h
  simp only [QV] at h
  split at h
  ·rename_i hb
   simp only [oj] at h
   subst h
   exact ⟨by simp [JY],Nat.eq_of_beq_eq_true hb⟩
  ·have:=ih h
   exact ⟨by simp [JY,this.1],this.2⟩
 | _=>intro id c h;simp [QV] at h
theorem qV:∀ {b:Code},((JY b).map Qv).Nodup→∀ l ∈ JY b,QV (Qv l) b=some l:=by
 intro b
 have two:∀ {x y:Code},(((JY x) ++ (JY y)).map Qv).Nodup→(((JY x).map Qv).Nodup→∀ l ∈ JY x,QV (Qv l) x=some l)→(((JY y).map Qv).Nodup→∀ l ∈ JY y,QV (Qv l) y=some l) →
   ∀ l ∈ JY x ++ JY y,(match QV (Qv l) x with | some c=>some c | none=>QV (Qv l) y)=some l:=by
  intro x y hnd ih1 ih2 l hl
  rw [List.map_append,List.nodup_append] at hnd
  obtain ⟨n1,n2,n3⟩:=hnd
  rcases List.mem_append.1 hl with hl | hl
  ·rw [ih1 n1 l hl]
  ·cases hq:QV (Qv l) x with
   | none=>exact ih2 n2 l hl
   | some c=>
    have:=NT hq
    exact absurd this.2 (fun e=>n3 (Qv c) (List.mem_map.2 ⟨c,this.1,rfl⟩) (Qv l) (List.mem_map.2 ⟨l,hl,rfl⟩) e)
 induction b with
 | seq x y ih1 ih2=>intro hnd l hl;simp only [JY] at hnd hl;simp only [QV];exact two hnd ih1 ih2 l hl
 | cond _ x y ih1 ih2=>intro hnd l hl;simp only [JY] at hnd hl;simp only [QV];exact two hnd ih1 ih2 l hl
 | block _ x ih=>intro hnd l hl;simp only [JY] at hnd hl;simp only [QV];exact ih hnd l hl
 | loop x ih=>
  intro hnd l hl
  simp only [JY,List.map_cons,List.nodup_cons] at hnd
  simp only [JY] at hl
  simp only [QV]
  rcases List.mem_cons.1 hl with rfl | hl
  ·rw [Nat.beq_refl]
  ·have hb:Nat.beq (Qv x) (Qv l)=false:=by
    cases hq:Nat.beq (Qv x) (Qv l) with
    | false=>rfl
    | true=>exact absurd (List.mem_map.2 ⟨l,hl,(Nat.eq_of_beq_eq_true hq).symm⟩) hnd.1
   rw [hb]
   exact ih hnd.2 l hl
 | _=>intro hnd l hl;simp [JY] at hl
theorem qW:∀ {b c l:Code},c ∈ JY b→l ∈ JY c→l ∈ JY b:=by
 intro b
 induction b with
 | seq x y ih1 ih2=>
  intro c l h1 h2
  simp only [JY,List.mem_append] at h1 ⊢
  exact h1.imp (fun h=>ih1 h h2) (fun h=>ih2 h h2)
 | cond _ x y ih1 ih2=>
  intro c l h1 h2
  simp only [JY,List.mem_append] at h1 ⊢
  exact h1.imp (fun h=>ih1 h h2) (fun h=>ih2 h h2)
 | block _ x ih=>intro c l h1 h2;simp only [JY] at h1 ⊢;exact ih h1 h2
 | loop x ih=>
  intro c l h1 h2
  simp only [JY] at h1 ⊢
  rcases List.mem_cons.1 h1 with rfl | h1
  ·exact List.mem_cons_of_mem _ h2
  ·exact List.mem_cons_of_mem _ (ih h1 h2)
 | _=>intro c l h1 h2;simp [JY] at h1
structure PX (P:Program) (A:Ann):Prop where
 tys:JN P A.ty
 mixed:P.follows .mixedOrders=true
structure FX (P:Program) (f:FuncId) (fn:Func):Prop where
 get:P.funcs[f]?=some fn
 name : (fn.name == "runtime.NumGoroutine") = false
 uniq:X9 (Ya (JY (JA fn)))=true
def WW (P:Program) (A:Ann) (es:List Ent):Prop:=∀ e ∈ es,e.ok P A
def VY (P:Program) (fn:Func) (es:List JP):Prop:=∀ e ∈ es,e.ok P (JC (JA fn) e.id)
theorem JU {P:Program} {A:Ann}:WW P A []:=fun e h=>by cases h
theorem Qo {P:Program} {A:Ann} {e:Ent} {es:List Ent} (h:e.ok P A) (hs:WW P A es):WW P A (e :: es):=fun x hx=>by
 rcases List.mem_cons.1 hx with rfl | hx
 ·exact h
 ·exact hs x hx
theorem JV {P:Program} {fn:Func}:VY P fn []:=fun e h=>by cases h
theorem JZ {P:Program} {fn:Func} {e:JP} {es:List JP} (h:e.ok P (JC (JA fn) e.id)) (hs:VY P fn es):VY P fn (e :: es):=fun x hx=>by
 rcases List.mem_cons.1 hx with rfl | hx
 ·exact h
 ·exact hs x hx
def Cof (fn:Func) (c:Code):Prop:=c ∈ JY (JA fn)∧QV (Qv c) (JA fn)=some c
theorem NU {P:Program} {f:FuncId} {fn:Func} (fx:FX P f fn):∀ l ∈ JY (JA fn),Cof fn l:=
 fun l hl=>⟨hl,qV (by rw [← qU];exact NS fx.uniq) l hl⟩
theorem NV {P:Program} {fn:Func} {es:List JP} (h:VY P fn es):NQ P (Cof fn) es:=by
 intro c hc e he hid
 have:=h e he
 rw [hid] at this
 unfold JC at this
 rw [hc.2] at this
 exact this
section
variable {P:Program} {A:Ann}
theorem QX (px:PX P A) {f:FuncId} {fn:Func} (fx:FX P f fn) {es:List Ent} (hes:WW P A es) {ls:List JP} (hls:VY P fn ls) {args:List V} {res:V} {outs:List V}
  (h:QH (JQ es) (JR ls) A f fn args (fun v os=>some (v,os))=some (res,outs)):HR P (fun i=>Qh (A.mode f i)) f args res outs:=
 qT px.tys px.mixed (K9 hes) (NR (NV hls)) fx.get fx.name (fun b hb l hl=>NU fx l (by
  have:JA fn=b:=by unfold JA;rw [hb]
  rw [this];exact hl)) h
theorem QI (px:PX P A) {f:FuncId} {fn:Func} (fx:FX P f fn) {es:List Ent} (hes:WW P A es) {ls:List JP} (hls:VY P fn ls) {id:Nat} (hid:(QV id (JA fn)).isSome=true) {σ σ':St} {e:Ex}
  (h:Q3 (JQ es) (JR ls) A f (JC (JA fn) id) σ (fun e σ'=>some (e,σ'))=some (e,σ')):WT P (JC (JA fn) id) σ e σ':=by
 have hc:Cof fn (JC (JA fn) id):=by
  unfold JC
  cases hq:QV id (JA fn) with
  | none=>rw [hq] at hid;cases hid
  | some c=>
   have:=NT hq
   exact ⟨this.1,by simp only;rw [this.2];exact hq⟩
 intro inst
 exact qJ px.tys px.mixed (K9 hes) (NR (NV hls)) hc (fun l hl=>NU fx l (qW hc.1 hl)) h
end
end Go.Rai
namespace Go.Rai
def VZ:List (Nat × Ty)→Nat→Ty
 | [],_=>.other
 | (k,v) :: r,t=>match Nat.beq k t with
  | true=>v
  | false=>VZ r t
def Yb:List (Nat × Nat × List Nat)→Nat→Nat→List Nat
 | [],_,_=>[]
 | (k,i,v) :: r,f,t=>match Jh (Nat.beq k f) (Nat.beq i t) with
  | true=>v
  | false=>Yb r f t
def Yc:List (Nat × Nat)→Nat→Nat→Bool
 | [],_,_=>false
 | (k,i) :: r,f,t=>match Jh (Nat.beq k f) (Nat.beq i t) with
  | true=>true
  | false=>Yc r f t
def qX (tys:List (Nat × Ty)) (ks os:List (Nat × Nat × List Nat)) (ios kps tks:List (Nat × Nat)) (bs:List Nat) (ds:List (Nat × Nat × List Nat)) (ns:List Nat):Ann:=
 { ty:=VZ tys,mode:=fun f i=>match Yc ios f i with | true=>.io | false=>match Yc kps f i with | true=>.keep | false=>match Yc tks f i with | true=>.take | false=>.lend,keep:=Yb ks,out:=Yb os,both:=fun f=>JT bs f,dead:=Yb ds,nils:=fun f=>JT ns f }
def isZ:Int→Bool
 | .ofNat n=>Nat.beq n 0
 | .negSucc _=>false
mutual
def zvB:Value→Value→Bool
 | .int k n,.int k' n'=>Jh (keq k k') (Jh (isZ n) (isZ n'))
 | .bool b,.bool b'=>Jh (JO b) (JO b')
 | .string s,.string s'=>Jh (Nat.beq s.size 0) (Nat.beq s'.size 0)
 | .slice a n c,.slice a' n' c'=>match a,a' with
  | none,none=>Jh (Jh (Nat.beq n 0) (Nat.beq c 0)) (Jh (Nat.beq n' 0) (Nat.beq c' 0))
  | _,_=>false
 | .pointer a,.pointer a'=>match a,a' with
  | none,none=>true
  | _,_=>false
 | .nilFunc,.nilFunc=>true
 | .map a,.map a'=>match a,a' with
  | none,none=>true
  | _,_=>false
 | _,_=>false
end
def V0:List Value→List Value→Bool
 | [],[]=>true
 | a :: l,b :: m=>Jh (zvB a b) (V0 l m)
 | _,_=>false
def zvA:Value→Value→Bool
 | .agg cs,.agg cs'=>V0 cs.toList cs'.toList
 | x,y=>zvB x y
theorem NW {n:Int} (h:isZ n=true):n=0:=by
 cases n with
 | ofNat n=>have:=Nat.eq_of_beq_eq_true h;subst this;rfl
 | negSucc n=>cases h
theorem NX {s:ByteArray} (h:s.size=0):s=⟨#[]⟩:=by
 cases s with
 | mk d=>
  have:d=#[]:=Array.eq_empty_of_size_eq_zero h
  rw [this]
theorem NY {a b:Value} (h:zvB a b=true):a=b:=by
 unfold zvB at h
 split at h
 ·simp only [Je] at h
  rw [UC h.1,NW h.2.1,NW h.2.2]
 ·rename_i b b'
  cases b<;>cases b'<;>simp [Jh,JO] at h ⊢
 ·simp only [Je] at h
  rw [NX (Nat.eq_of_beq_eq_true h.1),NX (Nat.eq_of_beq_eq_true h.2)]
 ·split at h
  ·simp only [Je] at h
   rw [Nat.eq_of_beq_eq_true h.1.1,Nat.eq_of_beq_eq_true h.1.2,Nat.eq_of_beq_eq_true h.2.1,Nat.eq_of_beq_eq_true h.2.2]
  ·cases h
 ·split at h
  ·rfl
  ·cases h
 ·rfl
 ·split at h
  ·rfl
  ·cases h
 ·cases h
theorem NZ:∀ {a b:List Value},V0 a b=true→a=b
 | [],[],_=>rfl
 | a :: l,b :: m,h=>by
  unfold V0 at h
  rw [Je] at h
  rw [NY h.1,NZ h.2]
 | [],_ :: _,h=>by simp [V0] at h
 | _ :: _,[],h=>by simp [V0] at h
theorem qY {a b:Value} (h:zvA a b=true):a=b:=by
 unfold zvA at h
 split at h
 ·rw [Array.toList_inj.1 (NZ h)]
 ·exact NY h
def V1 (T:TypeId→Ty):List Ty→Nat→List Field→Bool
 | [],_,[]=>true
 | t :: ts, off, f :: fs => Jh (Jh ((T f.type).beq t) (JO (Nat.beq t.size 0))) (Jh (Nat.beq f.offset off) (Jh (JO (f.name == "_")) (V1 T ts (off + t.size) fs)))
 | _,_,_=>false
def Ta (T:TypeId→Ty):Ty→TypeDesc→Bool
 | .int k,.int k'=>keq k' k
 | .bool,.bool=>true
 | .str,.string=>true
 | .slice e,.slice te=>(T te).beq e
 | .struct fs,.struct fields=>V1 T fs 0 fields.toList
 | .arr n e,.array n' te=>Jh (Nat.beq n' n) ((T te).beq e)
 | .ptr,.pointer _=>true
 | .fn,.func _ _ _=>true
 | .imap,.map k e=>Jh ((T k).beq (.int .i64)) ((T e).beq (.int .i64))
 | _,_=>false
def tyB (P:Program) (T:TypeId→Ty) (t:TypeId):Bool:=
 match P.info? t with
 | some i=>match i.zero with
  | some z=>Jh (Jh (Nat.beq i.size (T t).size) (Jh (Nat.ble i.bytes 32768) (Nat.ble (T t).size 65536)))
   (Jh (zvA z (Ud (Qr (T t)) (JF (T t)))) (Jh (match P.underlying t with | some d=>Ta T (T t) d | none=>false)
    (bor (JO (Qr (T t))) (Jh (JO (P.eqGuardType P.depth t)) (JO (P.stoodInHeld t))))))
  | none=>false
 | none=>false
def Yd (P:Program) (T:TypeId→Ty):List (Nat × Ty)→Bool
 | []=>true
 | (t,_) :: r=>Jh (tyB P T t) (Yd P T r)
theorem Tb {a b:Ty} (h:a.beq b=true):b ≠ .other:=by
 rintro rfl
 cases a<;>simp [Ty.beq] at h
theorem N0 {T:TypeId→Ty}:∀ {ts:List Ty} {off:Nat} {fs:List Field},V1 T ts off fs=true→fs.length=ts.length ∧
  ∀ j f, fs[j]? = some f → ts[j]? = some (T f.type) ∧ T f.type ≠ .other ∧ (T f.type).size ≠ 0 ∧ f.offset = off + Ty.sizes (ts.take j) ∧ f.name ≠ "_"
 | [],off,[],_=>⟨rfl,fun j f h=>by simp at h⟩
 | [],off,_ :: _,h=>by simp [V1] at h
 | _ :: _,off,[],h=>by simp [V1] at h
 | t :: ts,off,f :: fs,h=>by
  unfold V1 at h
  simp only [Je,Oj] at h
  obtain ⟨⟨h1,h2⟩,h3,h4,h5⟩:=h
  obtain ⟨i1,i2⟩:=N0 h5
  have e1:=Ty.beq_eq _ _ h1
  refine ⟨by simp [i1],fun j g hg=>?_⟩
  cases j with
  | zero=>
   simp only [List.getElem?_cons_zero,oj] at hg
   subst hg
   refine ⟨by simp [e1],by rw [e1];exact Tb h1,?_,?_,?_⟩
   ·intro h0
    rw [e1] at h0
    rw [h0] at h2
    cases h2
   ·simp [Ty.sizes,Nat.eq_of_beq_eq_true h3]
   ·intro hn;rw [hn] at h4;simp at h4
  | succ j=>
   simp only [List.getElem?_cons_succ] at hg ⊢
   obtain ⟨k1,k2,k3,k4,k5⟩:=i2 j g hg
   exact ⟨k1,k2,k3,by rw [k4];simp [Ty.sizes];omega,k5⟩
theorem qZ {T:TypeId→Ty} {t:Ty} {d:TypeDesc} (h:Ta T t d=true):Hm T t d:=by
 unfold Ta at h
 split at h
 ·exact UC h
 ·trivial
 ·trivial
 ·exact ⟨Ty.beq_eq _ _ h,Tb h⟩
 ·obtain ⟨h1,h2⟩:=N0 h
  refine ⟨by simpa using h1,fun j f hj=>?_⟩
  have:=h2 j f (by simpa using hj)
  simpa using this
 ·rw [Je] at h
  exact ⟨Nat.eq_of_beq_eq_true h.1,Ty.beq_eq _ _ h.2,Tb h.2⟩
 ·trivial
 ·trivial
 ·rw [Je] at h
  exact ⟨Ty.beq_eq _ _ h.1,Ty.beq_eq _ _ h.2⟩
 ·cases h
theorem va {P:Program} {T:TypeId→Ty} {t:TypeId} (h:tyB P T t=true):U6 P T t:=by
 unfold tyB at h
 split at h
 ·rename_i i hi
  split at h
  ·rename_i z hz
   simp only [Je] at h
   obtain ⟨⟨h1,h2,h3⟩,h4,h5,h6⟩:=h
   refine ⟨⟨i,z,hi,Nat.eq_of_beq_eq_true h1,hz,Nat.le_of_ble_eq_true h2,Nat.le_of_ble_eq_true h3,qY h4⟩,?_,?_⟩
   ·split at h5
    ·rename_i d hd
     exact ⟨d,hd,qZ h5⟩
    ·cases h5
   ·intro hA
    rw [hA,Co] at h6
    rcases h6 with h6 | h6
    ·cases h6
    ·rw [Je,Oj,Oj] at h6
     exact h6
  ·cases h
 ·cases h
theorem N1 {P:Program} {T:TypeId→Ty}:∀ {l:List (Nat × Ty)},Yd P T l=true→∀ t v,(t,v) ∈ l→tyB P T t=true
 | [],_,t,v,h=>by cases h
 | (a,b) :: l,h,t,v,hm=>by
  unfold Yd at h
  rw [Je] at h
  rcases List.mem_cons.1 hm with hm | hm
  ·simp only [pj] at hm
   rw [hm.1];exact h.1
  ·exact N1 h.2 t v hm
theorem N2:∀ {l:List (Nat × Ty)} {t:Nat},VZ l t ≠ .other→∃ v,(t,v) ∈ l
 | [],t,h=>absurd rfl h
 | (k,v) :: l,t,h=>by
  unfold VZ at h
  split at h
  ·rename_i hb
   exact ⟨v,by rw [Nat.eq_of_beq_eq_true hb];simp⟩
  ·obtain ⟨v',hv⟩:=N2 h
   exact ⟨v',by simp [hv]⟩
theorem vb {P:Program} {l:List (Nat × Ty)} (h:Yd P (VZ l) l=true):JN P (VZ l):=by
 intro t ht
 obtain ⟨v,hv⟩:=N2 ht
 exact va (N1 h t v hv)
end Go.Rai
namespace Go.Rai
mutual
def wfD:Ty→D→Prop
 | .int k,d=>∃ n,d=.int n∧(Lit.int k n).wf=true
 | .bool,d=>∃ b,d=.bool b
 | .str,d=>∃ s,d=.str s∧s.size≤maxLen
 | .struct ts,d=>∃ l,d=.node l∧Tc ts l
 | .slice e,d=>∃ l,d=.node l∧l.length≤maxLen∧∀ x ∈ l,wfD e x
 | _,_=>False
def Tc:List Ty→List D→Prop
 | [],l=>l=[]
 | t :: ts,l=>∃ x r,l=x :: r∧wfD t x∧Tc ts r
end
mutual
def UZ:Ty→Bool
 | .int _=>true
 | .bool=>true
 | .str=>true
 | .struct ts=>V2 ts
 | .slice e=>Jh (JO (Nat.beq e.size 0)) (UZ e)
 | _=>false
def V2:List Ty→Bool
 | []=>true
 | t :: ts=>Jh (UZ t) (V2 ts)
end
mutual
theorem Td:∀ (t:Ty),UZ t=true→t.plain=true
 | .int _,_=>rfl
 | .bool,_=>rfl
 | .str,_=>rfl
 | .struct ts,h=>by unfold UZ at h;unfold Ty.plain;exact N3 ts h
 | .slice e,h=>by unfold UZ at h;rw [Je] at h;unfold Ty.plain;exact Td e h.2
 | .arr _ _,h=>by simp [UZ] at h
 | .ptr,h=>by simp [UZ] at h
 | .fn,h=>by simp [UZ] at h
 | .imap,h=>by simp [UZ] at h
 | .other,h=>by simp [UZ] at h
theorem N3:∀ (ts:List Ty),V2 ts=true→Ty.plains ts=true
 | [],_=>rfl
 | t :: ts,h=>by unfold V2 at h;rw [Je] at h;unfold Ty.plains;rw [Je];exact ⟨Td t h.1,N3 ts h.2⟩
end
section
variable {H:Type} {enc':TypeId × Value→H} {P:Program} {T:TypeId→Ty} {W:World} {t:TypeId}
theorem Te (h:U6 P T t):P.cellsOf t=(T t).size:=by
 obtain ⟨i,z,h1,h2,_⟩:=h.info
 unfold Program.cellsOf
 rw [h1]
 exact h2
theorem N4 (a:Addr) (n:Nat):(a.add n).block=a.block:=by unfold Addr.add;split<;>rfl
def Ye (W:World) (T:TypeId→Ty) (t:TypeId) (cs:List Value):Prop:=
 ∃ d F,DIn false W (T t) d cs F∧wfD (T t) d∧∀ b ∈ F,b<W.heap.size
theorem N5 (HT:JN P T) {n:Nat} (ih:∀ t cs x,UZ (T t)=true→DataW.trod enc' P W 0 (fun _=>true) true n t cs=some x→Ye W T t cs) {cs:List Value}:∀ {fs:List Field} {ts:List Ty} {off:Nat} {pre:List D},
  V2 ts=true→fs.length=ts.length→(∀ j f,fs[j]?=some f→ts[j]?=some (T f.type)∧T f.type ≠ .other∧f.offset=off + Ty.sizes (ts.take j))→cs.length=off + Ty.sizes ts →
  (∀ f ∈ fs,∃ x,DataW.trod enc' P W 0 (fun _=>true) true n f.type ((cs.drop f.offset).take (P.cellsOf f.type))=some x) →
  ∃ l F,Qx false W ts pre.length (.node (pre ++ l)) (cs.drop off) F∧Tc ts l∧∀ b ∈ F,b<W.heap.size
 | [],[],off,pre,_,_,_,hl,_=>by
  refine ⟨[],[],?_,rfl,fun b hb=>by cases hb⟩
  unfold Qx
  simp only [Ty.sizes,Nat.add_zero] at hl
  exact ⟨by rw [← hl];simp,rfl⟩
 | [],_ :: _,off,pre,_,h,_,_,_=>by simp at h
 | _ :: _,[],off,pre,_,h,_,_,_=>by simp at h
 | f :: fs,t :: ts,off,pre,hg,hlen,hf,hl,hm=>by
  unfold V2 at hg
  rw [Je] at hg
  obtain ⟨x,hx⟩:=hm f (by simp)
  obtain ⟨h1,h2,h3⟩:=hf 0 f rfl
  simp only [List.getElem?_cons_zero,oj] at h1
  simp only [List.take_zero,Ty.sizes,Nat.add_zero] at h3
  obtain ⟨d,F1,r1,r2,r3⟩:=ih f.type _ x (by rw [← h1];exact hg.1) hx
  rw [h3,Te (HT f.type h2),← h1] at r1
  rw [← h1] at r2
  obtain ⟨l,F2,s1,s2,s3⟩:=N5 HT ih (fs:=fs) (ts:=ts) (off:=off + t.size) (pre:=pre ++ [d]) hg.2 (by simpa using hlen) (fun j g hj=>by
   obtain ⟨k1,k2,k3⟩:=hf (j + 1) g (by simpa using hj)
   refine ⟨by simpa using k1,k2,?_⟩
   rw [k3];simp [Ty.sizes];omega) (by rw [hl];simp [Ty.sizes];omega) (fun g hg=>hm g (by simp [hg]))
  refine ⟨d :: l,F1 ++ F2,?_,⟨d,l,rfl,r2,s2⟩,fun b hb=>(List.mem_append.1 hb).elim (r3 b) (s3 b)⟩
  unfold Qx
  refine ⟨(cs.drop off).take t.size,cs.drop (off + t.size),F1,F2,?_,rfl,?_,?_⟩
  ·rw [← List.drop_drop,List.take_append_drop]
  ·have:D.fld (.node (pre ++ d :: l)) pre.length=d:=by simp [D.fld,D.items]
   rw [this];exact r1
  ·simpa using s1
theorem vc {fuel:Nat} {te:TypeId} {e:Ty} {sz:Nat} {a:Addr} (hsz:P.cellsOf te=sz) (hp:0<sz)
  (ih:∀ cs x,DataW.trod enc' P W 0 (fun _=>true) true fuel te cs=some x→∃ d F,DIn false W e d cs F∧wfD e d∧∀ b ∈ F,b<W.heap.size):∀ {n:Nat},
  (∀ i,i<n→∃ x,(W.cells? 0 (a.add (i * P.cellsOf te)) (P.cellsOf te)).bind (DataW.trod enc' P W 0 (fun _=>true) true fuel te)=some x) →
  ∃ l cs F,l.length=n∧cs.length=n * sz∧Row (DIn false W e) l cs F∧QG W a cs∧(∀ x ∈ l,wfD e x)∧(∀ b ∈ F,b<W.heap.size):=by
 intro n
 induction n with
 | zero=>
  intro _
  exact ⟨[],[],[],rfl,by simp,⟨rfl,rfl⟩,fun j v h=>by simp at h,fun x hx=>(by cases hx),fun b hb=>(by cases hb)⟩
 | succ n ihn=>
  intro hm
  obtain ⟨l,cs,F,h1,h2,h3,h4,h5,h6⟩:=ihn (fun i hi=>hm i (by omega))
  obtain ⟨x,hx⟩:=hm n (by omega)
  obtain ⟨c,hc,hx⟩:=Option.bind_eq_some_iff.1 hx
  obtain ⟨d,F1,r1,r2,r3⟩:=ih c x hx
  obtain ⟨_,c1,c2⟩:=World.cells?_some hc
  refine ⟨l ++ [d],cs ++ c,F ++ F1,by simp [h1],by simp [h2,c1,hsz];rw [Nat.succ_mul],?_,?_,?_,?_⟩
  ·exact OM h3 ⟨c,[],F1,[],by simp,by simp,r1,rfl,rfl⟩
  ·intro j v hj
   by_cases hlt:j<cs.length
   ·rw [List.getElem?_append_left hlt] at hj
    exact h4 j v hj
   ·rw [List.getElem?_append_right (by omega)] at hj
    have hlt2:j - cs.length<c.length:=(List.getElem?_eq_some_iff.1 hj).1
    have:=c2 (j - cs.length) (by omega)
    rw [hj] at this
    have he:(a.add (n * P.cellsOf te)).add (j - cs.length)=a.add j:=by
     rw [Hh,hsz]
     congr 1
     omega
    rw [he] at this
    exact this
  ·intro y hy
   rcases List.mem_append.1 hy with hy | hy
   ·exact h5 y hy
   ·simp only [List.mem_singleton] at hy;subst hy;exact r2
  ·intro b hb
   exact (List.mem_append.1 hb).elim (h6 b) (r3 b)
theorem vd (HT:JN P T):∀ (fuel:Nat) (t:TypeId) (cs:List Value) x,UZ (T t)=true→DataW.trod enc' P W 0 (fun _=>true) true fuel t cs=some x→Ye W T t cs:=by
 intro fuel
 induction fuel with
 | zero=>intro t cs x _ h;simp [DataW.trod] at h
 | succ fuel ih=>
  intro t cs x hg h
  have hne:T t ≠ .other:=by intro e;rw [e] at hg;cases hg
  obtain ⟨d,hd,hk⟩:=(HT t hne).desc
  unfold Ye
  cases hT:T t with
  | int k=>
   rw [hT] at hk
   have:=OF hk;subst this
   obtain ⟨n,rfl,_,hw⟩:=DataW.trod_int hd h
   exact ⟨.int n,[],by unfold DIn;exact ⟨rfl,rfl⟩,⟨n,rfl,hw⟩,fun b hb=>by cases hb⟩
  | bool=>
   rw [hT] at hk
   have:=YD hk;subst this
   obtain ⟨n,rfl,_⟩:=DataW.trod_bool hd h
   exact ⟨.bool n,[],by unfold DIn;exact ⟨rfl,rfl⟩,⟨n,rfl⟩,fun b hb=>by cases hb⟩
  | str=>
   rw [hT] at hk
   have:=CK hk;subst this
   obtain ⟨n,rfl,_,hw⟩:=DataW.trod_string hd h
   exact ⟨.str n,[],by unfold DIn;exact ⟨rfl,rfl⟩,⟨n,rfl,hw⟩,fun b hb=>by cases hb⟩
  | struct ts=>
   rw [hT] at hk hg
   unfold UZ at hg
   obtain ⟨fs,rfl,h1,h2⟩:=Vo hk
   obtain ⟨xs,n,hn,_,hl,hxl,hx⟩:=DataW.trod_struct hd h
   simp only [Nat.add_right_cancel_iff] at hn
   subst hn
   obtain ⟨l,F,r1,r2,r3⟩:=N5 HT ih (cs:=cs) (fs:=fs.toList) (ts:=ts) (off:=0) (pre:=[]) hg (by simpa using h1) (fun j f hj=>by
    obtain ⟨k1,k2,k3,k4,k5⟩:=h2 j f (by simpa using hj)
    exact ⟨k1,k2,by simpa using k4⟩) (by rw [hl,Te (HT t hne),hT];simp [Ty.size]) (fun f hf=>by
    obtain ⟨j,hj⟩:=List.mem_iff_getElem?.1 hf
    have hj':fs[j]?=some f:=by simpa using hj
    have hlt:j<fs.size:=(Array.getElem?_eq_some_iff.1 hj').1
    have:=hx j f hj'
    rw [List.getElem?_eq_getElem (by omega)] at this
    exact ⟨_,this⟩)
   exact ⟨.node l,F,by unfold DIn;simpa using r1,⟨l,rfl,r2⟩,r3⟩
  | slice e=>
   rw [hT] at hk hg
   unfold UZ at hg
   rw [Je,Oj] at hg
   obtain ⟨te,rfl,hte,hne'⟩:=Us hk
   have hpos:0<e.size:=Nat.pos_of_ne_zero (fun h0=>by rw [h0] at hg;simp at hg)
   have hsz:P.cellsOf te=e.size:=by rw [Te (HT te (by rw [hte];exact hne')),hte]
   rcases DataW.trod_slice hd h with ⟨rfl,_⟩ | ⟨a,len,cap,U0,rest,n,hn,rfl,_,_,hlc,hcm,hel,hei,hrest⟩
   ·exact ⟨.node [],[],by unfold DIn;exact ⟨none,0,rfl,.inl ⟨rfl,rfl,rfl⟩⟩,⟨[],rfl,by simp,fun x hx=>by cases hx⟩,fun b hb=>by cases hb⟩
   ·simp only [Nat.add_right_cancel_iff] at hn
    subst hn
    have all:∀ i,i<len→∃ x,(W.cells? 0 (a.add (i * P.cellsOf te)) (P.cellsOf te)).bind (DataW.trod enc' P W 0 (fun _=>true) true fuel te)=some x:=by
     intro i hi
     have:=hei i hi
     rw [List.getElem?_eq_getElem (by omega)] at this
     exact ⟨_,this⟩
    obtain ⟨l,cs',F,r1,r2,r3,r4,r5,r6⟩:=vc (e:=e) hsz hpos (fun cs x hx=>by
     have:=ih te cs x (by rw [hte];exact hg.2) hx
     unfold Ye at this
     rw [hte] at this
     exact this) all
    by_cases hc0:cap=0
    ·have:len=0:=by omega
     subst this;subst hc0
     have hl0:l=[]:=List.eq_nil_of_length_eq_zero r1
     exact ⟨.node [],[],by unfold DIn;exact ⟨some a,0,rfl,.inl ⟨rfl,rfl,rfl⟩⟩,⟨[],rfl,by simp,fun x hx=>by cases hx⟩,fun b hb=>by cases hb⟩
    ·have hblk:a.block<W.heap.size:=by
      by_cases hl0:len=0
      ·obtain ⟨q1,q2⟩:=hrest.1 rfl
       have q3:=q2 0 (by omega)
       rw [List.getElem?_eq_getElem (by omega)] at q3
       obtain ⟨c,hc,_⟩:=Option.bind_eq_some_iff.1 q3
       have hb:=World.cells?_block hc (by rw [hsz];exact hpos)
       rw [N4] at hb
       exact hb
      ·obtain ⟨x,hx⟩:=all 0 (by omega)
       obtain ⟨c,hc,_⟩:=Option.bind_eq_some_iff.1 hx
       have hb:=World.cells?_block hc (by rw [hsz];exact hpos)
       rw [N4] at hb
       exact hb
     refine ⟨.node l,a.block :: F,?_,⟨l,rfl,by rw [r1];omega,r5⟩,fun b hb=>?_⟩
     ·unfold DIn
      exact ⟨some a,cap,by simp [D.items,r1],.inr ⟨a,cs',F,rfl,r3,r4,rfl,by simp [D.items,r1];exact hlc,hblk,fun h=>by cases h⟩⟩
     ·rcases List.mem_cons.1 hb with rfl | hb
      ·exact hblk
      ·exact r6 b hb
  | arr n e=>rw [hT] at hg;cases hg
  | ptr=>rw [hT] at hg;cases hg
  | fn=>rw [hT] at hg;cases hg
  | imap=>rw [hT] at hg;cases hg
  | other=>exact absurd hT hne
theorem ve (HT:JN P T) {r:Reach} {b0:Nat} {v:Value} {d:DataW H} {p:List MemPlace} (hg:UZ (T t)=true) (hv:Value.okWide P W r b0 t v) (h:DataW.Trod enc' P W 0 (fun _=>true) true t v d p) :
  ∃ x,wfD (T t) x∧One (Q2 (fun _=>True) W []) (dec false (T t) x) v []:=by
 obtain ⟨fuel,hf⟩:=h
 obtain ⟨x,F,h1,h2,h3⟩:=vd HT fuel t _ _ hg hf
 refine ⟨x,h2,v.cells.toList,Xe (E:=Q2 (fun _=>True) W []) (T t) (Td _ hg) (fun b hb=>⟨⟨h3 b hb,by simp⟩,fun _=>trivial⟩) h1,?_⟩
 have hne:T t ≠ .other:=by intro e;rw [e] at hg;cases hg
 obtain ⟨dd,hd,hk⟩:=(HT t hne).desc
 unfold Qf
 cases hT:T t with
 | int k=>
  rw [hT] at hk
  have:=OF hk;subst this
  obtain ⟨n,rfl⟩:=WideShapes.okWide_int hd hv
  rfl
 | bool=>
  rw [hT] at hk
  have:=YD hk;subst this
  obtain ⟨n,rfl⟩:=WideShapes.okWide_bool hd hv
  rfl
 | str=>
  rw [hT] at hk
  have:=CK hk;subst this
  obtain ⟨n,rfl⟩:=WideShapes.okWide_string hd hv
  rfl
 | struct ts=>
  rw [hT] at hk
  obtain ⟨fs,rfl,_⟩:=Vo hk
  unfold Value.okWide at hv
  rw [hd] at hv
  obtain ⟨cs,rfl,_⟩:=hv
  show Value.agg cs=.agg cs.toList.toArray
  simp
 | slice e=>
  rw [hT] at hk
  obtain ⟨te,rfl,_⟩:=Us hk
  obtain ⟨a,l,c,rfl⟩:=WideShapes.okWide_slice hd hv
  rfl
 | arr n e=>rw [hT] at hg;cases hg
 | ptr=>rw [hT] at hg;cases hg
 | fn=>rw [hT] at hg;cases hg
 | imap=>rw [hT] at hg;cases hg
 | other=>exact absurd hT hne
def Wf (T:TypeId→Ty):List TypeId→List D→Prop
 | [],xs=>xs=[]
 | t :: ts,xs=>∃ x r,xs=x :: r∧wfD (T t) x∧Wf T ts r
def Yf (T:TypeId→Ty):List TypeId→List D→List V
 | [],_=>[]
 | t :: ts,x :: xs=>dec false (T t) x :: Yf T ts xs
 | _ :: _,[]=>[]
def Yg (T:TypeId→Ty):List TypeId→Bool
 | []=>true
 | t :: ts=>Jh (UZ (T t)) (Yg T ts)
theorem N6 (HT:JN P T) {r:Reach} {b0:Nat}:∀ {ts:List TypeId} {vs:List Value} {ds:List (DataW H)} {p:List MemPlace},Yg T ts=true→(∀ (j:Nat) t v,ts[j]?=some t→vs[j]?=some v→Value.okWide P W r b0 t v) →
  DataW.TrodAll enc' P W 0 (fun _=>true) true ts vs ds p→∃ xs,Wf T ts xs∧Tup (Q2 (fun _=>True) W []) (Yf T ts xs) vs []
 | [],[],[],p,_,_,_=>⟨[],rfl,rfl,rfl⟩
 | t :: ts,v :: vs,d :: ds,p,hg,hv,h=>by
  unfold Yg at hg
  rw [Je] at hg
  obtain ⟨p1,q,h1,h2,_⟩:=h
  obtain ⟨x,x1,x2⟩:=ve HT hg.1 (hv 0 t v rfl rfl) h1
  obtain ⟨xs,r1,r2⟩:=N6 HT hg.2 (fun j t v h1 h2=>hv (j + 1) t v (by simpa using h1) (by simpa using h2)) h2
  exact ⟨x :: xs,⟨x,xs,rfl,x1,r1⟩,v,vs,[],[],rfl,rfl,x2,r2⟩
 | [],_ :: _,_,_,_,_,h=>by simp [DataW.TrodAll] at h
 | [],[],_ :: _,_,_,_,h=>by simp [DataW.TrodAll] at h
 | _ :: _,[],_,_,_,_,h=>by simp [DataW.TrodAll] at h
 | _ :: _,_ :: _,[],_,_,_,h=>by simp [DataW.TrodAll] at h
def Tf (P:Program):List TypeId→Bool
 | []=>true
 | t :: ts=>Jh (P.readableRec t) (Jh (Nat.blt t P.types.size) (Tf P ts))
theorem N7 {W':World} (hl:laidOutB P=true) (hb:RowKit.Below W.heap.size W W'):∀ {ts:List TypeId} {vs:List Value} {ds:List (DataW H)} {p:List MemPlace},Tf P ts=true →
  DataW.TrodAll enc' P W 0 (fun _=>true) true ts vs ds p→DataW.TrodAll enc' P W' 0 (fun b=>decide (b<W.heap.size)) true ts vs ds p
 | [],[],[],p,_,h=>by simpa [DataW.TrodAll] using h
 | t :: ts,v :: vs,d :: ds,p,hr,h=>by
  unfold Tf at hr
  rw [Je,Je] at hr
  obtain ⟨p1,q,h1,h2,h3⟩:=h
  refine ⟨p1,q,RowKit.Below.trod hl hr.1 (by simpa [Nat.blt_eq] using hr.2.1) h1 hb ?_,N7 hl hb hr.2.2 h2,h3⟩
  obtain ⟨m,hm⟩:=h1
  exact DataW.trod_lt m _ _ _ hm
 | [],_ :: _,_,_,_,h=>by simp [DataW.TrodAll] at h
 | [],[],_ :: _,_,_,h=>by simp [DataW.TrodAll] at h
 | _ :: _,[],_,_,_,h=>by simp [DataW.TrodAll] at h
 | _ :: _,_ :: _,[],_,_,h=>by simp [DataW.TrodAll] at h
end
theorem vf {P:Program} {A:Ann} {f:FuncId} {ts:List TypeId} (HT:JN P A.ty) (hg:Yg A.ty ts=true)
  (h:∀ xs,Wf A.ty ts xs→∃ outs,HR P (fun i=>Qh (A.mode f i)) f (Yf A.ty ts xs) (.bool true) outs)
  {H:Type} {enc':TypeId × Value→H} {W:World} {r:Reach} {b0:Nat} {vs:List Value} {ds:List (DataW H)} {p:List MemPlace}
  (hv:∀ (j:Nat) t v,ts[j]?=some t→vs[j]?=some v→Value.okWide P W r b0 t v) (hA:DataW.TrodAll enc' P W 0 (fun _=>true) true ts vs ds p) :
  Calls P f vs.toArray W fun e w'=>e=.returned (.bool true)∧RowKit.Below W.heap.size W w':=by
 obtain ⟨xs,h1,h2⟩:=N6 HT hg hv hA
 obtain ⟨outs,h3⟩:=h xs h1
 refine (h3.2 (fun _=>True) W vs [] h2 List.nodup_nil (fun b hb=>by cases hb)).mono ?_
 rintro e w' ⟨v,Fr,Fo,rfl,q1,q2,q3,q4,q5,q6,q7,q8,q9⟩
 obtain ⟨rfl,_⟩:=QL.1 q1
 exact ⟨rfl,⟨q7,q8,q9,q6,fun b hb=>q5 b hb (by simp)⟩⟩
end Go.Rai
