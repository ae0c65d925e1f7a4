/- An evaluator of the model's programs over plain values, proved sound, part 4 of 5. It is used by the claim's law; it has no condition of its own. -/
import Derived.Test.YtdoaceeakjbgfaaRaiU3
import Derived.Orders
set_option linter.unusedVariables false
set_option linter.unusedSectionVars false
set_option linter.unusedSimpArgs false
namespace Go.Rai
variable [Inhabited Qn]
def UO (P:Program) (o:Oper) (sl:List V) (b:BL) (v:V) (b1:BL):Prop:=
 ∀ {Pn:Nat→Option Value} {w0:World} {F0:List Nat} {a:Act} {w:World},(∀ t,o.dst=some t→Pn t=none)→Rel Pn w0 F0 ⟨sl,b⟩ a w→∀ {K:Act→World→Prop} {Q:Exit→Act→World→Prop},
  (∀ a' w',Rel Pn w0 F0 ⟨QD sl o.dst v,b1⟩ a' w'→K a' w')→o.wp P a w K Q
def Loc (P:Program) (o:Oper) (sl:List V) (b:BL) (v:V) (b1:BL) (rd T W N:List Nat):Prop:=
 (∀ s,s ∉ W→Jd b1 s=Jd b s) ∧
 ∀ sl' b',(∀ t ∈ rd,JN sl' t=JN sl t)→QU b b' T→(∀ s ∈ N,s ∉ JE sl'∧s ∉ JK b') →
  ∃ b1',UO P o sl' b' v b1'∧(∀ s ∈ W,Jd b1' s=Jd b1 s)∧(∀ s,s ∉ W→Jd b1' s=Jd b' s)
section
variable {P:Program} {A:Ann} {w w' w0:World} {F0:List Nat} {sl sl':List V} {a:Act} {b b' b1:BL} {G:GT} {o:Oper} {v:V} {c:List JD}
theorem HL (HT:J5 P A.ty) (hp:JW A sl b o.dst o.op=some (c,v,b1)) (hk:∀ x ∈ c,x.ok):UO P o sl b v b1:=by
 intro Pn w0 F0 a w hdst hr K Q hK
 obtain ⟨⟨G,hc,hs⟩,hl,hd,hpin⟩:=hr
 obtain ⟨vv,w',G',hrun,k1,k2,k3⟩:=MU (o:=o) HT hc hs rfl hp hk
 have hrel:=Rel.put (d:=o.dst) k1 k2 hl hd hpin hdst k3
 unfold Oper.wp
 rcases hrun with hrun | ⟨hrun,hvv⟩
 ·rw [hrun]; exact hK _ _ hrel
 ·rw [hrun]; subst hvv; exact hK _ _ hrel
theorem jh (HT:J5 P A.ty) (hcl:(match cls o.op with | .read=>true | _=>false)=true) (hp:JW A sl b o.dst o.op=some (c,v,b1)) (hk:∀ x ∈ c,x.ok) {g:List Nat} :
  Loc P o sl b v b1 (cat g (Ug (JG o.op))) (JE (JF sl (JG o.op))) [] []:=by
 have h0:=(Kc (A:=A) (sl:=sl) (sl':=sl) (b:=b) (b':=b) (d:=o.dst) hcl (fun _ _=>rfl) (fun _ _=>rfl) c v b1 hp).1
 subst h0
 refine ⟨fun _ _=>rfl,fun sl' b' h1 h2 h3=>?_⟩
 have ho:Qt sl sl' (JG o.op):=Ht (fun t ht=>h1 t (by rw [Qg]; simp [ht]))
 exact ⟨b',HL HT (Kc hcl ho h2 c v b1 hp).2 hk,fun s hs=>(by cases hs),fun _ _=>rfl⟩
def OI (c:V) (p:List Nat) (e:Ty) (n:Nat):Prop:=c.outer p=true∧∃ l,c.get p=some ([],.own e l)∧l.length=n
def sim (c c':V):Prop:=∀ p e n,OI c p e n ↔ OI c' p e n
def UP (x y:Option V):Prop:=(x=none∧y=none) ∨ ∃ c c',x=some c∧y=some c'∧sim c c'
theorem ji (c:V):sim c c:=fun _ _ _=>Iff.rfl
theorem WB (x:Option V):UP x x:=by
 cases x with
 | none=>exact .inl ⟨rfl,rfl⟩
 | some c=>exact .inr ⟨c,c,rfl,rfl,ji c⟩
theorem jj {x y:Option V} (h:UP x y):UP y x:=by
 rcases h with ⟨h1,h2⟩ | ⟨c,c',h1,h2,h3⟩
 ·exact .inl ⟨h2,h1⟩
 ·exact .inr ⟨c',c,h2,h1,fun p e n=>(h3 p e n).symm⟩
theorem SZ {x y z:Option V} (h:UP x y) (h':UP y z):UP x z:=by
 rcases h with ⟨h1,h2⟩ | ⟨c,c',h1,h2,h3⟩
 ·rcases h' with ⟨k1,k2⟩ | ⟨d,d',k1,k2,k3⟩
  ·exact .inl ⟨h1,k2⟩
  ·rw [h2] at k1; cases k1
 ·rcases h' with ⟨k1,k2⟩ | ⟨d,d',k1,k2,k3⟩
  ·rw [h2] at k1; cases k1
  ·rw [h2] at k1
   simp only [oj] at k1
   subst k1
   exact .inr ⟨c,d',h1,k2,fun p e n=>(h3 p e n).trans (k3 p e n)⟩
theorem Cm {α:Type}:∀ (l:List α) (j i:Nat) (x:α),nth (JV l j x) i=if i=j then (match nth l j with | some _=>some x | none=>none) else nth l i
 | [],j,i,x=>by
  simp only [JV,nth]
  split <;> rfl
 | a :: l,0,i,x=>by
  cases i with
  | zero=>simp [JV,nth]
  | succ i=>simp [JV,nth]
 | a :: l,j + 1,i,x=>by
  cases i with
  | zero=>simp [JV,nth]
  | succ i=>
   simp only [JV,nth,Cm l j i x]
   by_cases h:i=j
   ·simp [h]
   ·simp [h]
theorem C7 {c:V} {e:Ty} {n:Nat} (h:∀ e' l,c ≠ .own e' l):¬ OI c [] e n:=by
 rintro ⟨_,l,h1,_⟩
 simp only [V.get,oj,pj,true_and] at h1
 exact h _ _ h1
theorem Hh {c y:V} {j:Nat} {p:List Nat} {e:Ty} {n:Nat} (h1:∀ e' l,c ≠ .own e' l) (h2:∀ m e' l,c ≠ .arr m e' l) (hs:c.step j=some ([],y)):OI c (j :: p) e n ↔ OI y p e n:=by
 have ho:c.outer (j :: p)=y.outer p:=by
  cases c <;> first | exact absurd rfl (h1 _ _) | exact absurd rfl (h2 _ _ _) | (simp only [V.outer,hs])
 have hg:c.get (j :: p)=(match y.get p with | some (c',z)=>some (c',z) | none=>none):=by
  simp only [V.get,hs,cat]
  cases y.get p <;> rfl
 unfold OI
 rw [ho,hg]
 cases hy:y.get p with
 | none=>rfl
 | some q=>rfl
theorem Vx {c:V} {j:Nat} {p:List Nat} {e:Ty} {n:Nat} (hs:c.step j=none):¬ OI c (j :: p) e n:=by
 rintro ⟨_,l,h1,_⟩
 simp only [V.get,hs] at h1
 cases h1
theorem S0:∀ (q:List Nat) (c x:V),(∃ r,c.get q=some r)→c.outer q=false→sim c (c.set q x)
 | [],c,x,_,h=>by simp [V.outer] at h
 | j :: q,c,x,hg,h=>by
  have go:∀ (y:V),c.step j=some ([],y)→(∀ e' l,c ≠ .own e' l)→(∀ m e' l,c ≠ .arr m e' l)→sim y (y.set q x):=by
   intro y hs h1 h2
   refine S0 q y x ?_ ?_
   ·obtain ⟨r,hr⟩:=hg
    simp only [V.get,hs] at hr
    cases hy:y.get q with
    | none=>rw [hy] at hr; cases hr
    | some z=>exact ⟨z,rfl⟩
   ·cases c <;> first | exact absurd rfl (h1 _ _) | exact absurd rfl (h2 _ _ _) | (simp only [V.outer,hs] at h; exact h)
  obtain ⟨r,hr⟩:=hg
  cases c with
  | own e0 l=>
   intro p e n
   cases p with
   | nil=>
    simp only [V.set,V.step,V.put]
    constructor
    ·rintro ⟨_,l',h1,h2⟩
     simp only [V.get,oj,pj,true_and,V.own.injEq] at h1
     obtain ⟨rfl,rfl⟩:=h1
     exact ⟨rfl,_,rfl,by simpa using h2⟩
    ·rintro ⟨_,l',h1,h2⟩
     simp only [V.get,oj,pj,true_and,V.own.injEq] at h1
     obtain ⟨rfl,rfl⟩:=h1
     exact ⟨rfl,_,rfl,by simpa using h2⟩
   | cons i p=>
    simp only [V.set,V.step,V.put]
    constructor <;> (rintro ⟨h1,_⟩; simp [V.outer] at h1)
  | arr m e0 l=>
   intro p e n
   cases p with
   | nil=>
    simp only [V.set,V.step,V.put]
    constructor <;> (rintro ⟨_,l',h1,h2⟩; simp [V.get] at h1)
   | cons i p=>
    simp only [V.set,V.step,V.put]
    constructor <;> (rintro ⟨h1,_⟩; simp [V.outer] at h1)
  | agg vs=>
   cases hn:nth vs j with
   | none=>simp [V.get,V.step,hn] at hr
   | some y=>
    have hy:=go y (by simp [V.step,hn]) (by intro _ _ h; cases h) (by intro _ _ _ h; cases h)
    intro p e n
    simp only [V.set,V.step,hn,V.put]
    cases p with
    | nil=>exact ⟨fun h=>absurd h (C7 (by intro _ _ h; cases h)),fun h=>absurd h (C7 (by intro _ _ h; cases h))⟩
    | cons i p=>
     by_cases hij:i=j
     ·subst hij
      rw [Hh (y:=y) (by intro _ _ h; cases h) (by intro _ _ _ h; cases h) (by simp [V.step,hn]),Hh (y:=y.set q x) (by intro _ _ h; cases h) (by intro _ _ _ h; cases h) (by simp [V.step,Cm,hn])]
      exact hy p e n
     ·cases hi:nth vs i with
      | none=>exact ⟨fun h=>absurd h (Vx (by simp [V.step,hi])),fun h=>absurd h (Vx (by simp [V.step,Cm,hij,hi]))⟩
      | some z=>rw [Hh (y:=z) (by intro _ _ h; cases h) (by intro _ _ _ h; cases h) (by simp [V.step,hi]),Hh (y:=z) (by intro _ _ h; cases h) (by intro _ _ _ h; cases h) (by simp [V.step,Cm,hij,hi])]
  | lst e0 vs=>
   cases hn:nth vs j with
   | none=>simp [V.get,V.step,hn] at hr
   | some y=>
    have hy:=go y (by simp [V.step,hn]) (by intro _ _ h; cases h) (by intro _ _ _ h; cases h)
    intro p e n
    simp only [V.set,V.step,hn,V.put]
    cases p with
    | nil=>exact ⟨fun h=>absurd h (C7 (by intro _ _ h; cases h)),fun h=>absurd h (C7 (by intro _ _ h; cases h))⟩
    | cons i p=>
     by_cases hij:i=j
     ·subst hij
      rw [Hh (y:=y) (by intro _ _ h; cases h) (by intro _ _ _ h; cases h) (by simp [V.step,hn]),Hh (y:=y.set q x) (by intro _ _ h; cases h) (by intro _ _ _ h; cases h) (by simp [V.step,Cm,hn])]
      exact hy p e n
     ·cases hi:nth vs i with
      | none=>exact ⟨fun h=>absurd h (Vx (by simp [V.step,hi])),fun h=>absurd h (Vx (by simp [V.step,Cm,hij,hi]))⟩
      | some z=>rw [Hh (y:=z) (by intro _ _ h; cases h) (by intro _ _ _ h; cases h) (by simp [V.step,hi]),Hh (y:=z) (by intro _ _ h; cases h) (by intro _ _ _ h; cases h) (by simp [V.step,Cm,hij,hi])]
  | fn f vs=>
   cases hn:nth vs j with
   | none=>simp [V.get,V.step,hn] at hr
   | some y=>
    have hy:=go y (by simp [V.step,hn]) (by intro _ _ h; cases h) (by intro _ _ _ h; cases h)
    intro p e n
    simp only [V.set,V.step,hn,V.put]
    cases p with
    | nil=>exact ⟨fun h=>absurd h (C7 (by intro _ _ h; cases h)),fun h=>absurd h (C7 (by intro _ _ h; cases h))⟩
    | cons i p=>
     by_cases hij:i=j
     ·subst hij
      rw [Hh (y:=y) (by intro _ _ h; cases h) (by intro _ _ _ h; cases h) (by simp [V.step,hn]),Hh (y:=y.set q x) (by intro _ _ h; cases h) (by intro _ _ _ h; cases h) (by simp [V.step,Cm,hn])]
      exact hy p e n
     ·cases hi:nth vs i with
      | none=>exact ⟨fun h=>absurd h (Vx (by simp [V.step,hi])),fun h=>absurd h (Vx (by simp [V.step,Cm,hij,hi]))⟩
      | some z=>rw [Hh (y:=z) (by intro _ _ h; cases h) (by intro _ _ _ h; cases h) (by simp [V.step,hi]),Hh (y:=z) (by intro _ _ h; cases h) (by intro _ _ _ h; cases h) (by simp [V.step,Cm,hij,hi])]
  | obox y=>
   have hy:=go y (by simp [V.step]) (by intro _ _ h; cases h) (by intro _ _ _ h; cases h)
   intro p e n
   simp only [V.set,V.step,V.put]
   cases p with
   | nil=>exact ⟨fun h=>absurd h (C7 (by intro _ _ h; cases h)),fun h=>absurd h (C7 (by intro _ _ h; cases h))⟩
   | cons i p=>
    rw [Hh (y:=y) (by intro _ _ h; cases h) (by intro _ _ _ h; cases h) (by simp [V.step]),Hh (y:=y.set q x) (by intro _ _ h; cases h) (by intro _ _ _ h; cases h) (by simp [V.step])]
    exact hy p e n
  | _=>simp [V.get,V.step] at hr
theorem S1:∀ (p:List Nat) (c:V) {cs:List JD} {x:V},c.outer p=true→c.get p=some (cs,x)→cs=[]
 | [],c,cs,x,_,h=>by simp only [V.get,oj,pj] at h; exact h.1.symm
 | j :: p,c,cs,x,ho,h=>by
  have go:∀ y,c.step j=some ([],y)→y.outer p=true→cs=[]:=by
   intro y hs hy
   simp only [V.get,hs,cat] at h
   cases hz:y.get p with
   | none=>rw [hz] at h; cases h
   | some q=>
    obtain ⟨c',z⟩:=q
    rw [hz] at h
    simp only [oj,pj] at h
    rw [← h.1]
    exact S1 p y hy hz
  cases c with
  | own e l=>simp [V.outer] at ho
  | arr n e l=>simp [V.outer] at ho
  | agg vs=>
   cases hn:nth vs j with
   | none=>simp [V.outer,V.step,hn] at ho
   | some y=>exact go y (by simp [V.step,hn]) (by simpa [V.outer,V.step,hn] using ho)
  | lst e vs=>
   cases hn:nth vs j with
   | none=>simp [V.outer,V.step,hn] at ho
   | some y=>exact go y (by simp [V.step,hn]) (by simpa [V.outer,V.step,hn] using ho)
  | fn f vs=>
   cases hn:nth vs j with
   | none=>simp [V.outer,V.step,hn] at ho
   | some y=>exact go y (by simp [V.step,hn]) (by simpa [V.outer,V.step,hn] using ho)
  | obox y=>exact go y (by simp [V.step]) (by simpa [V.outer,V.step] using ho)
  | _=>simp [V.outer,V.step] at ho
def XG (b b':BL) (L:List Nat):Prop:=∀ s ∈ L,UP (Jd b s) (Jd b' s)
theorem S2 {b b':BL} {s:Nat} {p:List Nat} {cs:List JD} {e:Ty} {l:List D} {c0:V} (h0:Jd b s=some c0) (ho:c0.outer p=true) (h:UP (Jd b s) (Jd b' s)) (hg:J9 b s p=some (cs,.own e l)) :
  cs=[]∧∃ l',J9 b' s p=some ([],.own e l')∧l'.length=l.length:=by
 unfold J9 at hg
 rw [h0] at hg
 simp only at hg
 have hcs:=S1 p c0 ho hg
 subst hcs
 refine ⟨rfl,?_⟩
 rcases h with ⟨h1,_⟩ | ⟨c,c',h1,h2,h3⟩
 ·rw [h0] at h1; cases h1
 ·rw [h0] at h1
  simp only [oj] at h1
  subst h1
  obtain ⟨_,l',k1,k2⟩:=(h3 p e l.length).1 ⟨ho,l,hg,rfl⟩
  exact ⟨l',by unfold J9; rw [h2]; exact k1,k2⟩
theorem jk {x:V} {s:Nat} (h:Vq b x=some s):(∃ p e c0,x=.full s p e∧Jd b s=some c0∧c0.outer p=true) ∨ (∃ p o n e c0,x=.sub s p o n e∧Jd b s=some c0∧c0.outer p=true):=by
 unfold Vq at h
 split at h
 ·split at h
  ·rename_i c0 hc
   split at h
   ·rename_i ho
    simp only [oj] at h
    subst h
    exact .inl ⟨_,_,c0,rfl,hc,ho⟩
   ·cases h
  ·cases h
 ·split at h
  ·rename_i c0 hc
   split at h
   ·rename_i ho
    simp only [oj] at h
    subst h
    exact .inr ⟨_,_,_,_,c0,rfl,hc,ho⟩
   ·cases h
  ·cases h
 ·cases h
theorem jl {t:Ty} {x i:V} {s:Nat} (hL:Vq b x=some s) (h:UP (Jd b s) (Jd b' s)) (hp:Co t b x i=some (c,v,b1)) (hk:∀ k ∈ c,k.ok):∃ c',Co t b' x i=some (c',v,b')∧(∀ k ∈ c',k.ok)∧b1=b:=by
 unfold Co at hp ⊢
 rcases jk hL with ⟨p,e,c0,rfl,h0,ho⟩ | ⟨p,off,n,e,c0,rfl,h0,ho⟩
 ·split at hp
  ·rename_i i' hi
   simp only [hi]
   cases t with
   | slice e1=>
    simp only at hp ⊢
    split at hp
    ·rename_i cs e' l hg
     obtain ⟨rfl,l',k1,k2⟩:=S2 h0 ho h hg
     split at hp
     ·rename_i hb
      simp only [oj,pj] at hp
      obtain ⟨rfl,rfl,rfl⟩:=hp
      refine ⟨cat [] [.ix i' l'.length],by simp only [k1,hb],?_,rfl⟩
      intro k hk'
      simp only [cat,List.mem_singleton] at hk'
      subst hk'
      have:=hk (.ix i' l.length) (by simp [cat])
      simp only [JD.ok,k2] at this ⊢
      exact this
     ·cases hp
    ·cases hp
   | arr m e1=>
    simp only at hp
    cases hp
   | _=>simp only at hp; cases hp
  ·cases hp
 ·split at hp
  ·rename_i i' hi
   simp only [hi]
   cases t with
   | slice e1=>
    simp only at hp ⊢
    split at hp
    ·rename_i cs e' l hg
     obtain ⟨rfl,l',k1,k2⟩:=S2 h0 ho h hg
     split at hp
     ·rename_i hb
      simp only [oj,pj] at hp
      obtain ⟨rfl,rfl,rfl⟩:=hp
      refine ⟨cat [] [.ix i' n,.le (off + n) l'.length],by simp only [k1,hb],?_,rfl⟩
      intro k hk'
      have e1:=hk (.ix i' n) (by simp [cat])
      have e2:=hk (.le (off + n) l.length) (by simp [cat])
      simp only [cat,List.mem_cons,List.not_mem_nil,or_false] at hk'
      rcases hk' with rfl | rfl
      ·exact e1
      ·simp only [JD.ok,k2] at e2 ⊢
       exact e2
     ·cases hp
    ·cases hp
   | arr m e1=>
    simp only at hp
    cases hp
   | _=>simp only at hp; cases hp
  ·cases hp
def OJ (P:Program) (o:Oper) (sl:List V) (b:BL) (v:V) (b1:BL) (rd T W N L:List Nat):Prop:=
 (∀ s,s ∉ W→Jd b1 s=Jd b s) ∧
 ∀ sl' b',(∀ t ∈ rd,JN sl' t=JN sl t)→QU b b' T→XG b b' L→(∀ s ∈ N,s ∉ JE sl'∧s ∉ JK b') →
  ∃ b1',UO P o sl' b' v b1'∧(∀ s ∈ W,Jd b1' s=Jd b1 s)∧(∀ s,s ∉ W→Jd b1' s=Jd b' s)
theorem Loc.l {rd T W N L:List Nat} (h:Loc P o sl b v b1 rd T W N):OJ P o sl b v b1 rd T W N L:=
 ⟨h.1,fun sl' b' h1 h2 _ h3=>h.2 sl' b' h1 h2 h3⟩
theorem jm (HT:J5 P A.ty) (hcl:(match cls o.op with | .read=>true | _=>false)=true) (hp:JW A sl b o.dst o.op=some (c,v,b1)) (hk:∀ x ∈ c,x.ok) {g:List Nat} :
  OJ P o sl b v b1 (cat g (Ug (JG o.op))) (Vr ⟨sl,b⟩ o.op) [] [] (Ws ⟨sl,b⟩ o.op):=by
 have old:(JE (JF sl (JG o.op))=Vr ⟨sl,b⟩ o.op)→OJ P o sl b v b1 (cat g (Ug (JG o.op))) (Vr ⟨sl,b⟩ o.op) [] [] (Ws ⟨sl,b⟩ o.op):=by
  intro he
  rw [← he]
  exact (jh HT hcl hp hk).l
 have h0:=(Kc (A:=A) (sl:=sl) (sl':=sl) (b:=b) (b':=b) (d:=o.dst) hcl (fun _ _=>rfl) (fun _ _=>rfl) c v b1 hp).1
 subst h0
 have new:(∀ sl' b',Qt sl sl' (JG o.op)→H2 b1 b' (JW A sl b1 o.dst o.op) (JW A sl' b' o.dst o.op))→OJ P o sl b1 v b1 (cat g (Ug (JG o.op))) (Vr ⟨sl,b1⟩ o.op) [] [] (Ws ⟨sl,b1⟩ o.op):=by
  intro hm
  refine ⟨fun _ _=>rfl,fun sl' b' h1 _ _ _=>?_⟩
  have ho:Qt sl sl' (JG o.op):=Ht (fun t ht=>h1 t (by rw [Qg]; simp [ht]))
  exact ⟨b',HL HT (hm sl' b' ho c v b1 hp).2 hk,fun s hs=>(by cases hs),fun _ _=>rfl⟩
 cases hop:o.op with
 | move x=>rw [← hop]; refine new (fun sl' b' ho=>?_); rw [hop] at ho ⊢; simp only [JW]; rw [ho x (by simp [JG])]; exact Qr
 | assign x=>rw [← hop]; refine new (fun sl' b' ho=>?_); rw [hop] at ho ⊢; simp only [JW]; rw [ho x (by simp [JG])]; exact Qr
 | pick q x y=>
  rw [← hop]; refine new (fun sl' b' ho=>?_); rw [hop] at ho ⊢
  simp only [JW]; rw [ho q (by simp [JG]),ho x (by simp [JG]),ho y (by simp [JG])]
  split
  ·exact Qr
  ·exact JS
 | unOp u t x=>
  rw [← hop]; refine new (fun sl' b' ho=>?_); rw [hop] at ho ⊢
  simp only [JW]; rw [ho x (by simp [JG])]
  split
  ·exact Qr
  ·exact JS
 | field t x f=>
  rw [← hop]; refine new (fun sl' b' ho=>?_); rw [hop] at ho ⊢
  simp only [JW]; rw [ho x (by simp [JG])]
  split
  ·exact Qr
  ·exact JS
 | extract x i=>
  rw [← hop]; refine new (fun sl' b' ho=>?_); rw [hop] at ho ⊢
  simp only [JW]; rw [ho x (by simp [JG])]
  split
  ·split
   ·exact Qr
   ·exact JS
  ·exact JS
 | indexAddr t x i=>
  rw [← hop]
  cases hL:Vq b1 (opd sl x) with
  | none=>exact old (by rw [hop]; simp only [Vr,hL,JG])
  | some s=>
   refine ⟨fun _ _=>rfl,fun sl' b' h1 _ h2 _=>?_⟩
   have ho:Qt sl sl' (JG o.op):=Ht (fun t ht=>h1 t (by rw [Qg]; simp [ht]))
   rw [hop] at hp ho
   simp only [JW] at hp
   obtain ⟨c',k1,k2,_⟩:=jl hL (h2 s (by rw [hop]; simp [Ws,hL])) hp hk
   refine ⟨b',HL HT (c:=c') (b1:=b') ?_ k2,fun s hs=>(by cases hs),fun _ _=>rfl⟩
   rw [hop]
   simp only [JW]
   rw [ho x (by simp [JG]),ho i (by simp [JG])]
   exact k1
 | _=>rw [← hop]; exact old (by rw [hop]; rfl)
theorem WC {x:V} {t:Nat} (h1:Jd b t=none) (h2:t ∉ JE sl) (h3:t ∉ JK b) (h4:t ∉ Jk x):Uj sl b x t=true:=by
 unfold Uj
 rw [h1]
 have e1:Qb (JE sl) t=false:=by cases h:Qb (JE sl) t with | false=>rfl | true=>exact absurd (UE.1 h) h2
 have e2:Qb (JK b) t=false:=by cases h:Qb (JK b) t with | false=>rfl | true=>exact absurd (UE.1 h) h3
 have e3:Qb (Jk x) t=false:=by cases h:Qb (Jk x) t with | false=>rfl | true=>exact absurd (UE.1 h) h4
 simp [e1,e2,e3,bor,Qa]
theorem S3 {x:V} {t:Nat} (h:Uj sl b x t=true):t ∉ Jk x:=(CU h).2.2.2
def Fr (A:Ann) (op:Op) (sl:List V) (b:BL) (d:Option Nat) (c:List JD) (v:V) (b1:BL):Prop:=
 ∃ t x,d=some t∧b1=JM b t x∧Jd b t=none∧t ∉ Jk x ∧
  ∀ sl' b',Qt sl sl' (JG op)→Uj sl' b' x t=true→JW A sl' b' d op=some (c,v,JM b' t x)
theorem CH {d:Option Nat} {x:V} {cs:List JD} (h:Uk cs (fresh sl b d x)=some (c,v,b1)):∃ t,d=some t∧c=cs∧v=Qp t [] x∧b1=JM b t x∧Jd b t=none∧t ∉ Jk x ∧
  ∀ sl' b',Uj sl' b' x t=true→Uk cs (fresh sl' b' d x)=some (c,v,JM b' t x):=by
 cases d with
 | none=>simp [fresh,Uk] at h
 | some t=>
  simp only [fresh] at h
  cases hu:Uj sl b x t with
  | false=>rw [hu] at h; simp [Uk] at h
  | true=>
   rw [hu] at h
   simp only [Uk,oj,pj] at h
   obtain ⟨rfl,rfl,rfl⟩:=h
   refine ⟨t,rfl,rfl,rfl,rfl,(CU hu).1,S3 hu,fun sl' b' hu'=>?_⟩
   simp only [fresh,hu',Uk]
theorem jn {d:Option Nat} {op:Op} (hcl:(match cls op with | .fresh=>true | _=>false)=true) (hp:JW A sl b d op=some (c,v,b1)):Fr A op sl b d c v b1:=by
 cases op with
 | alloc t=>
  simp only [JW] at hp
  split at hp
  ·rename_i hz
   obtain ⟨t',h1,h2,h3,h4,h5,h6,h7⟩:=CH hp
   exact ⟨t',_,h1,h4,h5,h6,fun sl' b' _ hu=>by simp only [JW,hz]; exact h7 sl' b' hu⟩
  ·cases hp
 | box t x=>
  simp only [JW] at hp
  split at hp
  ·rename_i hz
   obtain ⟨t',h1,h2,h3,h4,h5,h6,h7⟩:=CH hp
   exact ⟨t',_,h1,h4,h5,h6,fun sl' b' ho hu=>by simp only [JW,ho x (by simp [JG]),hz]; exact h7 sl' b' hu⟩
  ·cases hp
 | makeSlice t l cn=>
  simp only [JW] at hp
  split at hp
  ·rename_i e hty
   split at hp
   ·rename_i hpl
    split at hp
    ·rename_i l' c' hl hc
     obtain ⟨t',h1,h2,h3,h4,h5,h6,h7⟩:=CH hp
     exact ⟨t',_,h1,h4,h5,h6,fun sl' b' ho hu=>by
      simp only [JW,ho l (by simp [JG]),ho cn (by simp [JG]),hty,hpl,hl,hc]; exact h7 sl' b' hu⟩
    ·cases hp
   ·cases hp
  ·cases hp
 | buildSlice t n ps=>
  simp only [JW] at hp
  split at hp
  ·rename_i e hty
   split at hp
   ·rename_i hz
    split at hp
    ·rename_i vs hf
     have go:∀ sl' b':_,Qt sl sl' (JG (.buildSlice t n ps))→JW A sl' b' d (.buildSlice t n ps)=VM e sl' b' d n vs:=by
      intro sl' b' ho
      simp only [JW,hty,hz]
      rw [Qt.opds (sl:=sl) (sl':=sl') (ps:=ps.toList) (by simpa [JG] using ho),hf]
     unfold VM at hp go
     split at hp
     ·rename_i hfl
      obtain ⟨t',h1,h2,h3,h4,h5,h6,h7⟩:=CH hp
      exact ⟨t',_,h1,h4,h5,h6,fun sl' b' ho hu=>by rw [go sl' b' ho]; simp only [hfl]; exact h7 sl' b' hu⟩
     ·rename_i hfl
      split at hp
      ·split at hp
       ·rename_i hpl
        obtain ⟨t',h1,h2,h3,h4,h5,h6,h7⟩:=CH hp
        exact ⟨t',_,h1,h4,h5,h6,fun sl' b' ho hu=>by rw [go sl' b' ho]; simp only [hfl,hpl]; exact h7 sl' b' hu⟩
       ·cases hp
      ·rename_i hn0
       obtain ⟨t',h1,h2,h3,h4,h5,h6,h7⟩:=CH hp
       exact ⟨t',_,h1,h4,h5,h6,fun sl' b' ho hu=>by
        rw [go sl' b' ho]
        simp only [hfl]
        cases n with
        | zero=>exact absurd rfl hn0
        | succ m=>exact h7 sl' b' hu⟩
    ·cases hp
   ·cases hp
  ·cases hp
 | call cl=>simp only [cls] at hcl; split at hcl <;> first | (cases hcl; done) | (rename_i h; split at h <;> cases h)
 | _=>simp [cls] at hcl
theorem jo (HT:J5 P A.ty) (hcl:(match cls o.op with | .fresh=>true | _=>false)=true) (hp:JW A sl b o.dst o.op=some (c,v,b1)) (hk:∀ x ∈ c,x.ok) {g:List Nat} :
  Loc P o sl b v b1 (cat g (Ug (JG o.op))) (Qo o.dst) (Qo o.dst) (Qo o.dst):=by
 obtain ⟨t,x,e1,e2,e3,e4,e5⟩:=jn hcl hp
 rw [e1]
 refine ⟨fun s hs=>?_,fun sl' b' h1 h2 h3=>?_⟩
 ·rw [e2,J1,if_neg]
  intro h; subst h; exact hs (by simp [Qo])
 ·have ho:Qt sl sl' (JG o.op):=Ht (fun t ht=>h1 t (by rw [Qg]; simp [ht]))
  obtain ⟨n1,n2⟩:=h3 t (by simp [Qo])
  have hu:Uj sl' b' x t=true:=WC (by rw [h2 t (by simp [Qo])]; exact e3) n1 n2 e4
  have:=e5 sl' b' ho hu
  refine ⟨_,HL HT this hk,fun s hs=>?_,fun s hs=>?_⟩
  ·simp only [Qo,List.mem_singleton] at hs
   subst hs
   rw [e2,J1,J1]; simp
  ·rw [J1,if_neg]
   intro h; subst h; exact hs (by simp [Qo])
theorem jp (HT:J5 P A.ty) (hcl:(match cls o.op with | .store=>true | _=>false)=true) (hp:JW A sl b o.dst o.op=some (c,v,b1)) (hk:∀ x ∈ c,x.ok) {g:List Nat} :
  Loc P o sl b v b1 (cat g (Ug (JG o.op))) (C0 ⟨sl,b⟩ o.op) (C0 ⟨sl,b⟩ o.op) []:=by
 cases hop:o.op with
 | store t ad x=>
  rw [hop] at hp
  simp only [JW] at hp
  split at hp
  ·cases hp
  ·rename_i hsz
   unfold OX at hp
   split at hp
   ·rename_i s p had
    split at hp
    ·rename_i c0 hl
     split at hp
     ·rename_i cs y hg
      split at hp
      ·rename_i hf
       split at hp
       ·rename_i hsim
        simp only [oj,pj] at hp
        obtain ⟨rfl,rfl,rfl⟩:=hp
        have hss:C0 ⟨sl,b⟩ (.store t ad x)=[s]:=by simp [C0,had,Jk]
        rw [hss]
        refine ⟨fun s' hs=>?_,fun sl' b' h1 h2 h3=>?_⟩
        ·rw [J1,if_neg]
         intro h; subst h; exact hs (by simp)
        ·have ho:Qt sl sl' (JG (.store t ad x)):=Ht (fun t ht=>h1 t (by rw [Qg]; simp [ht]))
         have hl':Jd b' s=some c0:=by rw [h2 s (by simp),hl]
         have hstep:JW A sl' b' o.dst o.op=some (cs,.void,JM b' s (c0.set p (opd sl x))):=by
          rw [hop]
          simp only [JW,hsz,OX,ho ad (by simp [JG]),ho x (by simp [JG]),had,hl',hg,hf,hsim]
         refine ⟨_,HL HT hstep hk,fun s' hs=>?_,fun s' hs=>?_⟩
         ·simp only [List.mem_singleton] at hs
          subst hs
          rw [J1,J1]; simp
         ·rw [J1,if_neg]
          intro h; subst h; exact hs (by simp)
       ·cases hp
      ·cases hp
     ·cases hp
    ·cases hp
   ·cases hp
 | call cl=>rw [hop] at hcl; simp only [cls] at hcl; split at hcl <;> first | (cases hcl; done) | (rename_i h; split at h <;> cases h)
 | _=>rw [hop] at hcl; simp [cls] at hcl
theorem XH {e:Ty} {x:V} {xs:List D} (hf:e.flat=true) (hs:Xx b x=true) (ha:QU b b' (Jk x)) (h:Ul e b x=some (c,xs,b1)):b1=b∧Ul e b' x=some (c,xs,b'):=by
 have other:∀ y:V,QU b b' (Jk y)→(∀ bb,Ul e bb y=(match UR bb y with | some (c,e',l)=>(match e.beq e' with | true=>some (c,l,bb) | false=>none) | none=>none))→Ul e b y=some (c,xs,b1) →
   b1=b∧Ul e b' y=some (c,xs,b'):=by
  intro y hy hu h
  rw [hu] at h ⊢
  rw [XF hy]
  split at h
  ·split at h
   ·rename_i hb
    simp only [oj,pj] at h
    obtain ⟨rfl,rfl,rfl⟩:=h
    exact ⟨rfl,by simp only [hb]⟩
   ·cases h
  ·cases h
 cases x with
 | nilsl=>
  simp only [Ul,oj,pj] at h
  obtain ⟨rfl,rfl,rfl⟩:=h
  exact ⟨rfl,by simp only [Ul]⟩
 | emp e'=>
  simp only [Ul,oj,pj] at h
  obtain ⟨rfl,rfl,rfl⟩:=h
  exact ⟨rfl,by simp only [Ul]⟩
 | full s p e0=>
  simp only [Ul] at h ⊢
  rw [H1 (ha s (by simp [Jk]))]
  simp only [Xx] at hs
  cases hg:J9 b s p with
  | none=>rw [hg] at hs; cases hs
  | some q=>
   obtain ⟨c0,y⟩:=q
   rw [hg] at hs h
   cases y with
   | own e' l=>
    simp only at h ⊢
    split at h
    ·rename_i hb
     rw [hf] at h ⊢
     simp only [oj,pj] at h
     obtain ⟨rfl,rfl,rfl⟩:=h
     exact ⟨rfl,by simp only [hb]⟩
    ·cases h
   | _=>simp at hs
 | _=>exact other _ ha (fun bb=>by first | (simp only [Ul,hf]; done) | (simp only [Ul,hf]; rfl)) h
theorem S4 {t s:Nat} (h:s ∉ JK b):s ∉ JK (Qk b t):=by
 induction b with
 | nil=>exact h
 | cons a r ih=>
  obtain ⟨k,v⟩:=a
  simp only [JK,JL,not_or] at h
  unfold Qk
  split
  ·exact ih h.2
  ·simp only [JK,JL,not_or]
   exact ⟨h.1,ih h.2⟩
theorem S5:∀ {vs:List V} {j:Nat} {x:V} {s:Nat},s ∈ JE (JV vs j x)→s ∈ JE vs ∨ s ∈ Jk x
 | [],j,x,s,h=>by simp [JV,JE] at h
 | v :: vs,0,x,s,h=>by
  simp only [JV,JE,JL] at h ⊢
  rcases h with h | h
  ·exact .inr h
  ·exact .inl (.inr h)
 | v :: vs,j + 1,x,s,h=>by
  simp only [JV,JE,JL] at h ⊢
  rcases h with h | h
  ·exact .inl (.inl h)
  ·rcases S5 h with h | h
   ·exact .inl (.inr h)
   ·exact .inr h
theorem jq {v:V} {j:Nat} {x:V} {s:Nat} (h:s ∈ Jk (v.put j x)):s ∈ Jk v ∨ s ∈ Jk x:=by
 cases v <;> simp only [V.put,Jk] at h ⊢ <;> first | exact S5 h | exact .inr h | exact .inl h | cases h
theorem jr {v y:V} {j:Nat} {c:List JD} {s:Nat} (h:v.step j=some (c,y)) (hs:s ∈ Jk y):s ∈ Jk v:=by
 have part:∀ {vs:List V},(match nth vs j with | some v=>some (([]:List JD),v) | none=>none)=some (c,y)→s ∈ JE vs:=by
  intro vs h
  split at h
  ·rename_i hn
   simp only [oj,pj] at h
   obtain ⟨_,rfl⟩:=h
   exact Yk hn hs
  ·cases h
 have data:∀ {c':List JD} {t:Ty} {d:D},some (c',dec true t d)=some (c,y)→s ∈ Jk v:=by
  intro c' t d h
  simp only [oj,pj] at h
  obtain ⟨_,rfl⟩:=h
  rw [VU] at hs
  cases hs
 cases v with
 | agg vs=>simp only [Jk]; exact part h
 | lst e vs=>simp only [Jk]; exact part h
 | fn f vs=>simp only [Jk]; exact part h
 | own e l=>exact data h
 | arr n e l=>exact data h
 | obox x=>
  simp only [V.step,oj,pj] at h
  obtain ⟨_,rfl⟩:=h
  simp only [Jk]
  exact hs
 | _=>simp only [V.step] at h; cases h
theorem Kd:∀ {p:List Nat} {v x:V} {s:Nat},s ∈ Jk (v.set p x)→s ∈ Jk v ∨ s ∈ Jk x
 | [],v,x,s,h=>.inr h
 | j :: p,v,x,s,h=>by
  unfold V.set at h
  split at h
  ·rename_i c y hst
   rcases jq h with h | h
   ·exact .inl h
   ·rcases Kd h with h | h
    ·exact .inl (jr hst h)
    ·exact .inr h
  ·exact .inl h
theorem S6:∀ {b r:BL} {t:Nat},t ∈ JK (b ++ r)→t ∈ JK b ∨ t ∈ JK r
 | [],r,t,h=>.inr h
 | (k,v) :: b,r,t,h=>by
  simp only [List.cons_append,JK,JL] at h ⊢
  rcases h with h | h
  ·exact .inl (.inl h)
  ·exact (S6 h).elim (fun h=>.inl (.inr h)) .inr
theorem js {b:BL} {s t:Nat} {x:V} (h1:t ∉ JK b) (h2:t ∉ Jk x):t ∉ JK (JM b s x):=by
 unfold JM
 rw [Qg]
 intro h
 rcases S6 h with h | h
 ·exact S4 h1 h
 ·simp [JK,JL] at h
  exact h2 h
theorem jt (HT:J5 P A.ty) (hcl:(match cls o.op with | .app=>true | _=>false)=true) (hok:Xy A ⟨sl,b⟩ o.op=true) (hp:JW A sl b o.dst o.op=some (c,v,b1)) (hk:∀ x ∈ c,x.ok) {g:List Nat} :
  Loc P o sl b v b1 (cat g (Ug (JG o.op))) (OH ⟨sl,b⟩ o.dst o.op) (C1 ⟨sl,b⟩ o.dst o.op) (Ci o.dst o.op):=by
 cases hop:o.op with
 | call cl=>
  rw [hop] at hcl hok hp
  cases hcal:cl.callee with
  | builtin f=>
   cases f with
   | append=>
    have hops:JG (.call cl)=cl.args.toList:=by simp [JG,hcal]
    simp only [JW,hcal] at hp
    simp only [Xy] at hok
    split at hok
    ·rename_i t ts hts
     split at hok
     ·rename_i e hty
      split at hok
      ·rename_i hflat0
       rw [Ji] at hflat0
       obtain ⟨hflat,hnit0⟩:=hflat0
       split at hok
       ·rename_i s x hargs
        rw [hcal] at hok
        simp only at hok
        rw [Ji] at hok
        obtain ⟨hroot,hstill⟩:=hok
        have hN:Ci o.dst (.call cl)=Qo o.dst:=by simp only [Ci,hcal]
        have hT:OH ⟨sl,b⟩ o.dst (.call cl)=cat (cat (Jk s) (cat (Jk x) [])) (Qo o.dst):=by simp only [OH,hops,hargs,JE,hN]
        have hW:C1 ⟨sl,b⟩ o.dst (.call cl)=cat (Jk s) (Qo o.dst):=by simp only [C1,hargs,hN]
        rw [hT,hW,hN]
        rw [hargs,hts] at hp
        have run:∀ (sl':List V) (b':BL),Qt sl sl' (JG (.call cl))→JW A sl' b' o.dst o.op=Qm A sl' b' o.dst .append (t :: ts) [s,x]:=by
         intro sl' b' ho
         rw [hop]
         simp only [JW,hcal]
         rw [Qt.map (by rw [hops] at ho; exact ho),hargs,hts]
        cases ts with
        | nil=>simp [Qm] at hp
        | cons tx ts=>
         cases ts with
         | cons _ _=>simp [Qm] at hp
         | nil=>
          have hnit:OT (A.ty tx)=false:=by
           cases hq:OT (A.ty tx) with
           | false=>rfl
           | true=>simp only [List.headD_cons,hq,Qa] at hnit0; cases hnit0
          simp only [Qm,hty,hnit] at hp
          cases htx:UC (A.ty tx) with
          | false=>rw [htx] at hp; simp [Ql] at hp
          | true=>
           rw [htx] at hp
           simp only [Ql,H7] at hp
           have run2:∀ (sl':List V) (b':BL),Qt sl sl' (JG (.call cl))→JW A sl' b' o.dst o.op=H7 e sl' b' o.dst s x:=by
            intro sl' b' ho
            rw [run sl' b' ho]
            simp only [Qm,hty,hnit,htx,Ql]
           cases hpl:Js e.plain (Qa (Nat.beq e.size 0)) with
           | false=>rw [hpl] at hp; simp at hp
           | true=>
            rw [hpl] at hp
            simp only at hp
            cases hsrc:Ul e b x with
            | none=>rw [hsrc] at hp; cases hp
            | some q=>
             obtain ⟨c0,xs,b0⟩:=q
             rw [hsrc] at hp
             simp only at hp
             have hb0:=(XH (b':=b) hflat hstill (fun _ _=>rfl) hsrc).1
             subst hb0
             have src:∀ b':BL,QU b0 b' (cat (cat (Jk s) (cat (Jk x) [])) (Qo o.dst))→Ul e b' x=some (c0,xs,b'):=fun b' ha=>
              (XH (b':=b') hflat hstill (ha.sub (fun u hu=>by simp only [JL]; exact .inl (.inr (.inl hu)))) hsrc).2
             have bare:∀ {cs:List JD},(Jk s=[])→Uk cs (fresh sl b0 o.dst (.own e xs))=some (c,v,b1) →
               (∀ (sl':List V) (b':BL),Ul e b' x=some (c0,xs,b')→H7 e sl' b' o.dst s x=Uk cs (fresh sl' b' o.dst (.own e xs))) →
               Loc P o sl b0 v b1 (cat g (Ug (JG (.call cl)))) (cat (cat (Jk s) (cat (Jk x) [])) (Qo o.dst)) (cat (Jk s) (Qo o.dst)) (Qo o.dst):=by
              intro cs hs0 hfr happ
              obtain ⟨d,h1,h2,h3,h4,h5,h6,h7⟩:=CH hfr
              subst h2 h3 h4
              rw [hs0,h1]
              refine ⟨fun s' hs'=>?_,fun sl' b' k1 k2 k3=>?_⟩
              ·rw [J1,if_neg]
               intro he; subst he; exact hs' (by simp [cat,Qo])
              ·have ho:Qt sl sl' (JG (.call cl)):=Ht (fun u hu=>k1 u (by rw [Qg]; simp [hu]))
               have k3':=k3 d (by simp [Qo])
               have hun:Uj sl' b' (.own e xs) d=true:=WC (by rw [k2 d (by simp only [JL]; exact .inr (by simp [Qo]))]; exact h5) k3'.1 k3'.2 (by simp [Jk])
               have hst:JW A sl' b' o.dst o.op=some (c,Qp d [] (.own e xs),JM b' d (.own e xs)):=by
                rw [run2 sl' b' ho,happ sl' b' (src b' (by rw [hs0,h1]; exact k2))]
                exact h7 sl' b' hun
               refine ⟨_,HL HT hst hk,fun s' hs'=>?_,fun s' hs'=>?_⟩
               ·simp only [cat,Qo,List.mem_singleton] at hs'
                subst hs'
                rw [J1,J1]; simp
               ·rw [J1,if_neg]
                intro he; subst he; exact hs' (by simp [cat,Qo])
             cases s with
             | nilsl=>exact bare (cs:=cat c0 [.sz 0 xs.length]) rfl hp (fun sl' b' hs'=>by simp only [H7,hpl,Ql,hs'])
             | emp e'=>
              simp only at hp
              cases hee:e.beq e' with
              | false=>rw [hee] at hp; cases hp
              | true=>
               rw [hee] at hp
               exact bare (cs:=cat c0 [.sz 0 xs.length]) rfl hp (fun sl' b' hs'=>by simp only [H7,hpl,Ql,hs',hee])
             | full u p e'=>
              cases p with
              | cons p0 ps=>
               simp only at hp
               cases hee:e.beq e' with
               | false=>rw [hee] at hp; cases hp
               | true=>
                rw [hee] at hp
                cases hu:Jd b0 u with
                | none=>simp [QV,hu] at hp
                | some cu=>
                 cases hg:cu.get (p0 :: ps) with
                 | none=>simp [QV,hu,hg] at hp
                 | some q=>
                  obtain ⟨cg,z⟩:=q
                  cases cg with
                  | cons _ _=>simp [QV,hu,hg] at hp
                  | nil=>
                   cases hbd:Js (WP z) (cu.outer (p0 :: ps)) with
                   | false=>simp [QV,hu,hg,hbd] at hp
                   | true=>
                    simp only [QV,hu,hg,hbd] at hp
                    cases z with
                    | own e2 l=>
                     simp only at hp
                     cases he2:e.beq e2 with
                     | false=>rw [he2] at hp; simp [Ql] at hp
                     | true=>
                      rw [he2] at hp
                      simp only [Ql] at hp
                      obtain ⟨d,h1,h2,h3,h4,h5,h6,h7⟩:=CH hp
                      subst h2 h3 h4
                      rw [h1]
                      have hs0:Jk (V.full u (p0 :: ps) e')=[u]:=rfl
                      rw [hs0]
                      refine ⟨fun s' hs'=>?_,fun sl' b' k1 k2 k3=>?_⟩
                      ·rw [J1,J1,if_neg,if_neg]
                       ·intro he; subst he; exact hs' (by simp [cat,Qo])
                       ·intro he; subst he; exact hs' (by simp [cat,Qo])
                      ·have ho:Qt sl sl' (JG (.call cl)):=Ht (fun u hu=>k1 u (by rw [Qg]; simp [hu]))
                       have k3':=k3 d (by simp [Qo])
                       have hu':Jd b' u=some cu:=by rw [k2 u (by simp [cat]),hu]
                       have hd':Jd (JM b' u (cu.set (p0 :: ps) .undef)) d=none:=by
                        rw [J1] at h5 ⊢
                        by_cases hdu:d=u
                        ·rw [if_pos hdu] at h5; cases h5
                        ·rw [if_neg hdu] at h5 ⊢
                         rw [k2 d (by simp only [JL]; exact .inr (by simp [Qo]))]; exact h5
                       have hun:Uj sl' (JM b' u (cu.set (p0 :: ps) .undef)) (.own e (l ++ xs)) d=true:=WC hd' k3'.1 (js k3'.2 (fun h=>(Kd h).elim (fun h=>k3'.2 (Cv hu' h)) (fun h=>by simp [Jk] at h))) (by simp [Jk])
                       have hst:JW A sl' b' o.dst o.op=some (cat c0 [.sz l.length xs.length],Qp d [] (.own e (l ++ xs)),JM (JM b' u (cu.set (p0 :: ps) .undef)) d (.own e (l ++ xs))):=by
                        rw [run2 sl' b' ho]
                        simp only [H7,hpl,Ql,src b' (by rw [hs0,h1]; exact k2),hee,QV,hu',hg,hbd,he2]
                        exact h7 sl' _ hun
                       refine ⟨_,HL HT hst hk,fun s' hs'=>?_,fun s' hs'=>?_⟩
                       ·simp only [cat,Qo,List.mem_cons,List.not_mem_nil,or_false] at hs'
                        rw [J1,J1,J1,J1]
                        rcases hs' with rfl | rfl
                        ·by_cases hdu:s'=d <;> simp [hdu]
                        ·simp
                       ·rw [J1,J1,if_neg,if_neg]
                        ·intro he; subst he; exact hs' (by simp [cat,Qo])
                        ·intro he; subst he; exact hs' (by simp [cat,Qo])
                    | _=>simp at hp
              | nil=>
               simp only at hp
               cases hee:e.beq e' with
               | false=>rw [hee] at hp; cases hp
               | true=>
                rw [hee] at hp
                cases hu:Jd b0 u with
                | none=>simp [QV,hu] at hp
                | some cu=>
                 simp only [QV,hu] at hp
                 cases cu with
                 | own e2 l=>
                  simp only at hp
                  cases he2:e.beq e2 with
                  | false=>rw [he2] at hp; simp [Ql] at hp
                  | true=>
                   rw [he2] at hp
                   simp only [Ql] at hp
                   obtain ⟨d,h1,h2,h3,h4,h5,h6,h7⟩:=CH hp
                   subst h2 h3 h4
                   rw [h1]
                   have hs0:Jk (V.full u [] e')=[u]:=rfl
                   rw [hs0]
                   refine ⟨fun s' hs'=>?_,fun sl' b' k1 k2 k3=>?_⟩
                   ·rw [J1,Uq,if_neg,if_neg]
                    ·intro he; subst he; exact hs' (by simp [cat,Qo])
                    ·intro he; subst he; exact hs' (by simp [cat,Qo])
                   ·have ho:Qt sl sl' (JG (.call cl)):=Ht (fun u hu=>k1 u (by rw [Qg]; simp [hu]))
                    have k3':=k3 d (by simp [Qo])
                    have hu':Jd b' u=some (.own e2 l):=by rw [k2 u (by simp [cat]),hu]
                    have hd':Jd (Qk b' u) d=none:=by
                     rw [Uq]
                     rw [Uq] at h5
                     by_cases hdu:d=u
                     ·rw [if_pos hdu]
                     ·rw [if_neg hdu] at h5 ⊢
                      rw [k2 d (by simp only [JL]; exact .inr (by simp [Qo]))]; exact h5
                    have hun:Uj sl' (Qk b' u) (.own e (l ++ xs)) d=true:=WC hd' k3'.1 (S4 k3'.2) (by simp [Jk])
                    have hst:JW A sl' b' o.dst o.op=some (cat c0 [.sz l.length xs.length],Qp d [] (.own e (l ++ xs)),JM (Qk b' u) d (.own e (l ++ xs))):=by
                     rw [run2 sl' b' ho]
                     simp only [H7,hpl,Ql,src b' (by rw [hs0,h1]; exact k2),hee,QV,hu',he2]
                     exact h7 sl' _ hun
                    refine ⟨_,HL HT hst hk,fun s' hs'=>?_,fun s' hs'=>?_⟩
                    ·simp only [cat,Qo,List.mem_cons,List.not_mem_nil,or_false] at hs'
                     rw [J1,J1,Uq,Uq]
                     rcases hs' with rfl | rfl
                     ·by_cases hdu:s'=d <;> simp [hdu]
                     ·simp
                    ·rw [J1,Uq,if_neg,if_neg]
                     ·intro he; subst he; exact hs' (by simp [cat,Qo])
                     ·intro he; subst he; exact hs' (by simp [cat,Qo])
                 | _=>simp at hp
             | sub u p off len e'=>
              simp only [hflat] at hp
              cases hee:e.beq e' with
              | false=>rw [hee] at hp; simp [Js] at hp
              | true=>
               rw [hee] at hp
               simp only [Js] at hp
               cases hu:Jd b0 u with
               | none=>simp [J9,hu] at hp
               | some cu=>
                cases hg:cu.get p with
                | none=>simp [J9,hu,hg] at hp
                | some q=>
                 obtain ⟨cg,z⟩:=q
                 cases z with
                 | own e2 l=>
                  simp only [J9,U5,hu,hg] at hp
                  cases he2:e.beq e2 with
                  | false=>rw [he2] at hp; simp [Ql] at hp
                  | true=>
                   rw [he2] at hp
                   simp only [Ql,oj,pj] at hp
                   obtain ⟨rfl,rfl,rfl⟩:=hp
                   have hs0:Jk (V.sub u p off len e')=[u]:=rfl
                   rw [hs0]
                   refine ⟨fun s' hs'=>?_,fun sl' b' k1 k2 k3=>?_⟩
                   ·rw [J1,if_neg]
                    intro he; subst he; exact hs' (by simp [cat])
                   ·have ho:Qt sl sl' (JG (.call cl)):=Ht (fun u hu=>k1 u (by rw [Qg]; simp [hu]))
                    have hu':Jd b' u=some cu:=by rw [k2 u (by simp [cat]),hu]
                    have hst:JW A sl' b' o.dst o.op=some (cat (cat c0 cg) [.le (off + len + xs.length) l.length],.sub u p off (len + xs.length) e,JM b' u (cu.set p (.own e (l.take (off + len) ++ xs ++ l.drop (off + len + xs.length))))):=by
                     rw [run2 sl' b' ho]
                     have hb2:Js (e.beq e') e.flat=true:=by rw [hee,hflat]; rfl
                     simp only [H7,hpl,Ql,src b' (by rw [hs0]; exact k2),hb2,J9,U5,hu',hg,he2]
                    refine ⟨_,HL HT hst hk,fun s' hs'=>?_,fun s' hs'=>?_⟩
                    ·rw [J1,J1]
                     by_cases he:s'=u
                     ·simp [he]
                     ·simp only [he,if_false]
                      exact k2 s' (by simp only [JL] at hs' ⊢; exact hs'.elim (fun h=>.inl (.inl h)) .inr)
                    ·rw [J1,if_neg]
                     intro he; subst he; exact hs' (by simp [cat])
                 | _=>simp [J9,hu,hg] at hp
             | _=>simp [SR,SS,bor] at hroot
       ·cases hok
      ·cases hok
     ·cases hok
    ·cases hok
   | copy=>
    have hops:JG (.call cl)=cl.args.toList:=by simp [JG,hcal]
    simp only [JW,hcal] at hp
    simp only [Xy] at hok
    split at hok
    ·rename_i t ts hts
     split at hok
     ·rename_i e hty
      split at hok
      ·rename_i hflat0
       rw [Ji] at hflat0
       obtain ⟨hflat,_⟩:=hflat0
       split at hok
       ·rename_i s x hargs
        rw [hcal] at hok
        simp only at hok
        rw [Ji] at hok
        obtain ⟨hmine,hstill⟩:=hok
        have hN:Ci o.dst (.call cl)=[]:=by simp only [Ci,hcal]
        have hT:OH ⟨sl,b⟩ o.dst (.call cl)=cat (cat (Jk s) (cat (Jk x) [])) []:=by simp only [OH,hops,hargs,JE,hN]
        have hW:C1 ⟨sl,b⟩ o.dst (.call cl)=cat (Jk s) []:=by simp only [C1,hargs,hN]
        rw [hT,hW,hN]
        rw [hargs,hts] at hp
        cases ts with
        | nil=>simp [Qm] at hp
        | cons tx ts=>
         cases ts with
         | cons _ _=>simp [Qm] at hp
         | nil=>
          simp only [Qm,hty] at hp
          cases htx:UC (A.ty tx) with
          | false=>rw [htx] at hp; simp [Ql] at hp
          | true=>
           rw [htx] at hp
           simp only [Ql,OU] at hp
           have run2:∀ (sl':List V) (b':BL),Qt sl sl' (JG (.call cl))→JW A sl' b' o.dst o.op=OU e b' s x:=by
            intro sl' b' ho
            rw [hop]
            simp only [JW,hcal]
            rw [Qt.map (by rw [hops] at ho; exact ho),hargs,hts]
            simp only [Qm,hty,htx,Ql]
           cases hpl:Js e.plain (Qa (Nat.beq e.size 0)) with
           | false=>rw [hpl] at hp; simp at hp
           | true=>
            rw [hpl] at hp
            simp only at hp
            cases hsrc:Ul e b x with
            | none=>rw [hsrc] at hp; cases hp
            | some q=>
             obtain ⟨c0,xs,b0⟩:=q
             rw [hsrc] at hp
             simp only [hflat] at hp
             have hb0:=(XH (b':=b) hflat hstill (fun _ _=>rfl) hsrc).1
             subst hb0
             have src:∀ b':BL,QU b0 b' (cat (cat (Jk s) (cat (Jk x) [])) [])→Ul e b' x=some (c0,xs,b'):=fun b' ha=>
              (XH (b':=b') hflat hstill (ha.sub (fun u hu=>by simp only [JL]; exact .inl (.inr (.inl hu)))) hsrc).2
             have fin:∀ {u:Nat} {p:List Nat} {cu y:V},Jk s=[u]→Jd b0 u=some cu→b1=JM b0 u (cu.set p y) →
               (∀ (sl':List V) (b':BL),Qt sl sl' (JG (.call cl))→QU b0 b' (cat (cat (Jk s) (cat (Jk x) [])) [])→Jd b' u=some cu→JW A sl' b' o.dst o.op=some (c,v,JM b' u (cu.set p y))) →
               Loc P o sl b0 v b1 (cat g (Ug (JG (.call cl)))) (cat (cat (Jk s) (cat (Jk x) [])) []) (cat (Jk s) []) []:=by
              intro u p cu y hs hu hb1 hstep
              subst hb1
              rw [hs]
              refine ⟨fun s' hs'=>?_,fun sl' b' k1 k2 k3=>?_⟩
              ·rw [J1,if_neg]
               intro he; subst he; exact hs' (by simp [cat])
              ·have ho:Qt sl sl' (JG (.call cl)):=Ht (fun u hu=>k1 u (by rw [Qg]; simp [hu]))
               have hu':Jd b' u=some cu:=by rw [k2 u (by simp [cat]),hu]
               refine ⟨_,HL HT (hstep sl' b' ho (by rw [hs]; exact k2) hu') hk,fun s' hs'=>?_,fun s' hs'=>?_⟩
               ·simp only [cat,List.mem_singleton] at hs'
                subst hs'
                rw [J1,J1]; simp
               ·rw [J1,if_neg]
                intro he; subst he; exact hs' (by simp [cat])
             cases s with
             | full u p e'=>
              simp only at hp
              cases hee:e.beq e' with
              | false=>rw [hee] at hp; cases hp
              | true=>
               rw [hee] at hp
               simp only at hp
               cases hu:Jd b0 u with
               | none=>simp [J9,hu] at hp
               | some cu=>
                cases hg:cu.get p with
                | none=>simp [J9,hu,hg] at hp
                | some q=>
                 obtain ⟨cg,z⟩:=q
                 cases z with
                 | own e2 l=>
                  simp only [J9,U5,hu,hg] at hp
                  cases he2:e.beq e2 with
                  | false=>rw [he2] at hp; simp [Ql] at hp
                  | true=>
                   rw [he2] at hp
                   simp only [Ql,oj,pj] at hp
                   obtain ⟨rfl,rfl,rfl⟩:=hp
                   exact fin rfl hu rfl (fun sl' b' ho ha hu'=>by rw [run2 sl' b' ho]; simp only [OU,hpl,Ql,src b' ha,hflat,hee,J9,U5,hu',hg,he2])
                 | _=>simp [J9,hu,hg] at hp
             | sub u p off len e'=>
              simp only at hp
              cases hee:e.beq e' with
              | false=>rw [hee] at hp; cases hp
              | true=>
               rw [hee] at hp
               simp only at hp
               cases hu:Jd b0 u with
               | none=>simp [J9,hu] at hp
               | some cu=>
                cases hg:cu.get p with
                | none=>simp [J9,hu,hg] at hp
                | some q=>
                 obtain ⟨cg,z⟩:=q
                 cases z with
                 | own e2 l=>
                  simp only [J9,U5,hu,hg] at hp
                  cases he2:e.beq e2 with
                  | false=>rw [he2] at hp; simp [Ql] at hp
                  | true=>
                   rw [he2] at hp
                   simp only [Ql,oj,pj] at hp
                   obtain ⟨rfl,rfl,rfl⟩:=hp
                   exact fin rfl hu rfl (fun sl' b' ho ha hu'=>by rw [run2 sl' b' ho]; simp only [OU,hpl,Ql,src b' ha,hflat,hee,J9,U5,hu',hg,he2])
                 | _=>simp [J9,hu,hg] at hp
             | _=>simp [ST] at hmine
       ·cases hok
      ·cases hok
     ·cases hok
    ·cases hok
   | _=>simp [cls,hcal] at hcl
  | _=>simp [cls,hcal] at hcl
 | _=>rw [hop] at hcl; simp [cls] at hcl
end
end Go.Rai
namespace Go.Rai
variable [Inhabited Qn]
def CI (b b':BL):Prop:=∀ s c,Jd b s=some c→Jd b' s=some c
theorem XI {b b':BL} (h:CI b b') {s:Nat} {p:List Nat} {r:List JD × V} (hg:J9 b s p=some r):J9 b' s p=some r:=by
 unfold J9 at hg ⊢
 split at hg
 ·rename_i c hc
  rw [h s c hc]
  exact hg
 ·cases hg
theorem S7 {b b':BL} (h:CI b b'):∀ (n:Nat),(∀ v r,lend b n v=some r→lend b' n v=some r)∧(∀ vs r,UB b n vs=some r→UB b' n vs=some r)
 | 0=>⟨fun v r hv=>by simp [lend] at hv,fun vs r hv=>by simp [UB] at hv⟩
 | n + 1=>by
  have ih:=S7 h n
  constructor
  ·intro v r hv
   cases v with
   | full s p e=>
    simp only [lend] at hv ⊢
    split at hv
    ·rename_i hg
     rw [XI h hg]
     exact hv
    ·rename_i c e' vs hg
     rw [XI h hg]
     simp only
     split at hv
     ·rename_i c' ws hl
      rw [ih.2 _ _ hl]
      exact hv
     ·cases hv
    ·cases hv
   | sub s p o l e=>
    simp only [lend] at hv ⊢
    split at hv
    ·rename_i hg
     rw [XI h hg]
     exact hv
    ·cases hv
   | ptr s p=>
    simp only [lend] at hv ⊢
    split at hv
    ·rename_i hg
     rw [XI h hg]
     simp only
     split at hv
     ·rename_i hl
      rw [ih.1 _ _ hl]
      exact hv
     ·cases hv
    ·cases hv
   | obox x=>
    simp only [lend] at hv ⊢
    split at hv
    ·rename_i hl
     rw [ih.1 _ _ hl]
     exact hv
    ·cases hv
   | agg vs=>
    simp only [lend] at hv ⊢
    split at hv
    ·rename_i hl
     rw [ih.2 _ _ hl]
     exact hv
    ·cases hv
   | fn f caps=>
    simp only [lend] at hv ⊢
    split at hv
    ·rename_i hl
     rw [ih.2 _ _ hl]
     exact hv
    ·cases hv
   | _=>simpa only [lend] using hv
  ·intro vs r hv
   cases vs with
   | nil=>simpa only [UB] using hv
   | cons v vs=>
    simp only [UB] at hv ⊢
    split at hv
    ·rename_i hl
     rw [ih.1 _ _ hl]
     simp only
     split at hv
     ·rename_i hl2
      rw [ih.2 _ _ hl2]
      exact hv
     ·cases hv
    ·cases hv
theorem Ke {A:Ann} {f:FuncId} {b b':BL} (h:CI b b'):∀ {vs:List V} {i:Nat} {ts:List Ty} {r:List JD × List V},Q6 A f b i ts vs=some r→Q6 A f b' i ts vs=some r
 | [],i,ts,r,hv=>by simpa only [Q6] using hv
 | v :: vs,i,ts,r,hv=>by
  have go:∀ (x x':G V),(∀ q,x=some q→x'=some q)→(match x with
    | some (c,w)=>match Q6 A f b (i + 1) ts.tail vs with
     | some (c',ws)=>some ((cat c c'),w :: ws)
     | none=>none
    | none=>none)=some r→(match x' with
    | some (c,w)=>match Q6 A f b' (i + 1) ts.tail vs with
     | some (c',ws)=>some ((cat c c'),w :: ws)
     | none=>none
    | none=>none)=some r:=by
   intro x x' hx hq
   split at hq
   ·rename_i h1
    rw [hx _ rfl]
    simp only
    split at hq
    ·rename_i h2
     rw [Ke h h2]
     exact hq
    ·cases hq
   ·cases hq
  simp only [Q6] at hv ⊢
  cases hm:A.mode f i with
  | lend=>simp only [hm] at hv ⊢; exact go _ _ (fun q hq=>(S7 h 9).1 _ _ hq) hv
  | io=>simp only [hm] at hv ⊢; exact go (some ([],v)) (some ([],v)) (fun q hq=>hq) hv
  | take=>simp only [hm] at hv ⊢; exact go (some ([],v)) (some ([],v)) (fun q hq=>hq) hv
  | keep=>simp only [hm] at hv ⊢; exact go _ _ (fun q hq=>hq) hv
theorem WD {b:BL}:∀ {L:List Nat},CI (CY b L) b
 | []=>fun s c h=>by simp [CY,Jd] at h
 | t :: L=>by
  intro s c h
  unfold CY at h
  split at h
  ·rename_i c0 hc
   simp only [Jd] at h
   split at h
   ·rename_i hb
    have:=Nat.eq_of_beq_eq_true hb
    subst this
    simp only [oj] at h
    subst h
    exact hc
   ·exact WD s c h
  ·exact WD s c h
theorem Kf {b:BL} {s:Nat} {c:V} (h:Jd b s=some c):s ∈ QG b:=by
 induction b with
 | nil=>simp [Jd] at h
 | cons x r ih=>
  obtain ⟨k,u⟩:=x
  simp only [Jd] at h
  simp only [QG,List.mem_cons]
  split at h
  ·rename_i hb; exact .inl (Nat.eq_of_beq_eq_true hb).symm
  ·exact .inr (ih h)
theorem ju {b bR b':BL} (h:CI bR b) (ha:QU b b' (QG bR)):CI bR b':=fun s c hc=>by rw [ha s (Kf hc)]; exact h s c hc
theorem S8 {b:BL} {s t:Nat} (h:t ∈ JK (Qk b s)):t ∈ JK b:=by
 induction b with
 | nil=>simpa [Qk] using h
 | cons x r ih=>
  obtain ⟨k,u⟩:=x
  unfold Qk at h
  simp only [JK,JL]
  split at h
  ·exact .inr (ih h)
  ·simp only [JK,JL] at h
   exact h.imp id ih
theorem Kg {b b':BL} {t:Nat}:t ∈ JK (b ++ b') ↔ t ∈ JK b ∨ t ∈ JK b':=by
 induction b with
 | nil=>simp [JK]
 | cons x r ih=>
  obtain ⟨k,u⟩:=x
  simp only [List.cons_append,JK,JL,ih,or_assoc]
theorem S9 {b:BL} {s t:Nat} {x:V} (h:t ∈ JK (JM b s x)):t ∈ JK b ∨ t ∈ Jk x:=by
 unfold JM at h
 rw [Qg,Kg] at h
 rcases h with h | h
 ·exact .inl (S8 h)
 ·right
  simpa [JK,JL] using h
theorem Pa:∀ {b:BL} {s:Nat},Jd b s=none→Qk b s=b
 | [],s,_=>rfl
 | (k,u) :: r,s,h=>by
  simp only [Jd] at h
  unfold Qk
  split at h
  ·cases h
  ·rw [Pa h]
theorem jv {b:BL} {s t:Nat} {x:V} (h:t ∈ Jk x):t ∈ JK (JM b s x):=by
 unfold JM
 rw [Qg,Kg]
 right
 simpa [JK,JL] using h
section
variable {P:Program} {A:Ann} {w w' w0:World} {F0:List Nat} {sl sl':List V} {a:Act} {b b' b1 bl:BL} {G:GT} {o:Oper} {v:V} {c:List JD}
theorem Pb {s:Nat} {x v:V} (h:place sl b s x=some (v,b1)) {bad:Nat→Prop} (h1:∀ t ∈ JE sl',bad t ∨ t ∈ JE sl) (h2:∀ t ∈ JK b',bad t ∨ t ∈ JK b) (h3:¬ bad s) (h4:Jd b' s=Jd b s) :
  ∃ b1',place sl' b' s x=some (v,b1')∧Jd b1' s=Jd b1 s∧(∀ t,t ≠ s→Jd b1' t=Jd b' t∧Jd b1 t=Jd b t)∧(∀ t ∈ JK b1',bad t ∨ t ∈ JK b1):=by
 unfold place at h ⊢
 split at h
 ·split at h
  ·rename_i hun
   simp only [oj,pj] at h
   obtain ⟨rfl,rfl⟩:=h
   have hx:=S3 hun
   have hn:s ∉ JE sl∧s ∉ JK b:=by
    unfold Uj at hun
    split at hun
    ·have h1:bor (Qb (JE sl) s) (bor (Qb (JK b) s) (Qb (Jk x) s))=false:=by
      cases hb:bor (Qb (JE sl) s) (bor (Qb (JK b) s) (Qb (Jk x) s)) with
      | false=>rfl
      | true=>rw [hb] at hun; simp [Qa] at hun
     rw [OG,OG] at h1
     exact ⟨fun hm=>(by rw [UE.2 hm] at h1; cases h1.1),fun hm=>(by rw [UE.2 hm] at h1; cases h1.2.1)⟩
    ·cases hun
   have hu':Uj sl' b' x s=true:=WC (by rw [h4]; exact (CU hun).1) (fun hm=>(h1 s hm).elim h3 hn.1) (fun hm=>(h2 s hm).elim h3 hn.2) hx
   rw [hu']
   refine ⟨_,rfl,by rw [J1,J1]; simp,fun t ht=>⟨by rw [J1,if_neg ht],by rw [J1,if_neg ht]⟩,fun t ht=>?_⟩
   rcases S9 ht with ht | ht
   ·rcases h2 t ht with ht | ht
    ·exact .inl ht
    ·right
     unfold JM
     rw [Pa (CU hun).1,Qg,Kg]
     exact .inl ht
   ·exact .inr (jv ht)
  ·cases h
 ·simp only [oj,pj] at h
  obtain ⟨rfl,rfl⟩:=h
  exact ⟨b',rfl,h4,fun t ht=>⟨rfl,rfl⟩,h2⟩
theorem Pc {s:Nat} {bad:Nat→Prop}:∀ {vs:List V} {j:Nat} {sl sl':List V} {b b' b1:BL} {xs:List V},Hk s sl b j vs=some (xs,b1)→(∀ t ∈ JE sl',bad t ∨ t ∈ JE sl)→(∀ t ∈ JK b',bad t ∨ t ∈ JK b) →
  (∀ t ∈ UN s j vs,¬ bad t)→(∀ t ∈ UN s j vs,Jd b' t=Jd b t) →
  ∃ b1',Hk s sl' b' j vs=some (xs,b1')∧(∀ t ∈ UN s j vs,Jd b1' t=Jd b1 t)∧(∀ t,t ∉ UN s j vs→Jd b1' t=Jd b' t∧Jd b1 t=Jd b t)
 | [],j,sl,sl',b,b',b1,xs,h,h1,h2,h3,h4=>by
  simp only [Hk,oj,pj] at h
  obtain ⟨rfl,rfl⟩:=h
  exact ⟨b',rfl,fun t ht=>(by cases ht),fun t _=>⟨rfl,rfl⟩⟩
 | v :: vs,j,sl,sl',b,b',b1,xs,h,h1,h2,h3,h4=>by
  simp only [Hk] at h
  split at h
  ·rename_i x b2 hp
   split at h
   ·rename_i ys b3 hq
    simp only [oj,pj] at h
    obtain ⟨rfl,rfl⟩:=h
    obtain ⟨b2',p1,p2,p3,p4⟩:=Pb hp h1 h2 (h3 _ (by simp [UN])) (h4 _ (by simp [UN]))
    have agree:∀ t ∈ UN s (j + 1) vs,Jd b2' t=Jd b2 t:=by
     intro t ht
     by_cases he:t=10000 + 16 * s + j
     ·subst he; exact p2
     ·rw [(p3 t he).1,(p3 t he).2]; exact h4 t (by simp [UN,ht])
    obtain ⟨b3',q1,q2,q3⟩:=Pc (sl:=x :: sl) (sl':=x :: sl') hq
     (fun t ht=>by
      simp only [JE,JL] at ht ⊢
      rcases ht with ht | ht
      ·exact .inr (.inl ht)
      ·exact (h1 t ht).imp id .inr) p4 (fun t ht=>h3 t (by simp [UN,ht])) agree
    refine ⟨b3',by simp only [Hk,p1,q1],fun t ht=>?_,fun t ht=>?_⟩
    ·by_cases hm:t ∈ UN s (j + 1) vs
     ·exact q2 t hm
     ·have he:t=10000 + 16 * s + j:=by simpa [UN,hm] using ht
      rw [(q3 t hm).1,(q3 t hm).2,he]; exact p2
    ·simp only [UN,List.mem_cons,not_or] at ht
     rw [(q3 t ht.2).1,(q3 t ht.2).2]
     exact p3 t ht.1
   ·cases h
  ·cases h
theorem Kh {s:Nat} {x:V} (h:∀ vs,x ≠ .tup vs):Q9 sl b (some s) x=place sl b s x:=by
 cases x <;> first | exact absurd rfl (h _) | rfl
theorem jx {s:Nat} {x:V} (h:∀ vs,x ≠ .tup vs):Uh (some s) x=[s]:=by
 cases x <;> first | exact absurd rfl (h _) | rfl
theorem Pd {d:Option Nat} {x v:V} (h:Q9 sl b d x=some (v,b1)) (h1:∀ t ∈ Uh d x,t ∉ JE sl'∧t ∉ JK b') (h4:∀ t ∈ Uh d x,Jd b' t=Jd b t) :
  ∃ b1',Q9 sl' b' d x=some (v,b1')∧(∀ t ∈ Uh d x,Jd b1' t=Jd b1 t)∧(∀ t,t ∉ Uh d x→Jd b1' t=Jd b' t∧Jd b1 t=Jd b t):=by
 cases d with
 | none=>
  simp only [Q9,oj,pj] at h
  obtain ⟨rfl,rfl⟩:=h
  exact ⟨b',rfl,fun t ht=>(by simp [Uh] at ht),fun t _=>⟨rfl,rfl⟩⟩
 | some s=>
  let bad:Nat→Prop:=fun t=>t ∈ JE sl' ∨ t ∈ JK b'
  have one:(∀ vs,x ≠ .tup vs)→∃ b1',Q9 sl' b' (some s) x=some (v,b1')∧(∀ t ∈ Uh (some s) x,Jd b1' t=Jd b1 t)∧(∀ t,t ∉ Uh (some s) x→Jd b1' t=Jd b' t∧Jd b1 t=Jd b t):=by
   intro e0
   rw [Kh e0] at h
   rw [jx e0] at h1 h4 ⊢
   rw [Kh e0]
   obtain ⟨b2',p1,p2,p3,p4⟩:=Pb (sl':=sl') (b':=b') (bad:=bad) h (fun t ht=>.inl (.inl ht)) (fun t ht=>.inl (.inr ht)) (fun hb=>hb.elim (h1 s (by simp)).1 (h1 s (by simp)).2) (h4 s (by simp))
   exact ⟨b2',p1,fun t ht=>(by simp only [List.mem_singleton] at ht; subst ht; exact p2),fun t ht=>p3 t (by simpa using ht)⟩
  cases x with
  | tup vs=>
   simp only [Q9] at h
   split at h
   ·rename_i xs b2 hp
    simp only [oj,pj] at h
    obtain ⟨rfl,rfl⟩:=h
    obtain ⟨b1',p1,p2,p3⟩:=Pc (sl':=sl') (b':=b') (bad:=bad) hp (fun t ht=>.inl (.inl ht)) (fun t ht=>.inl (.inr ht)) (fun t ht hb=>hb.elim (h1 t ht).1 (h1 t ht).2) h4
    exact ⟨b1',by simp only [Q9,p1],p2,p3⟩
   ·cases h
  | _=>exact one (by simp)
theorem Pe {s:Nat} {x v:V} (h:place sl b s x=some (v,b1)):∀ t,t ≠ s→Jd b1 t=Jd b t:=by
 unfold place at h
 split at h
 ·split at h
  ·simp only [oj,pj] at h
   obtain ⟨rfl,rfl⟩:=h
   intro t ht
   rw [J1,if_neg ht]
  ·cases h
 ·simp only [oj,pj] at h
  obtain ⟨rfl,rfl⟩:=h
  intro t _; rfl
theorem Pf {s:Nat}:∀ {vs:List V} {j:Nat} {sl:List V} {b b1:BL} {xs:List V},Hk s sl b j vs=some (xs,b1)→∀ t,t ∉ UN s j vs→Jd b1 t=Jd b t
 | [],j,sl,b,b1,xs,h=>by
  simp only [Hk,oj,pj] at h
  obtain ⟨rfl,rfl⟩:=h
  intro t _; rfl
 | v :: vs,j,sl,b,b1,xs,h=>by
  simp only [Hk] at h
  split at h
  ·rename_i x b2 hp
   split at h
   ·rename_i ys b3 hq
    simp only [oj,pj] at h
    obtain ⟨rfl,rfl⟩:=h
    intro t ht
    simp only [UN,List.mem_cons,not_or] at ht
    rw [Pf hq t ht.2,Pe hp t ht.1]
   ·cases h
  ·cases h
theorem Pg {s:Nat} {x v:V} (h:Q9 sl b (some s) x=some (v,b1)):∀ t,t ∉ Uh (some s) x→Jd b1 t=Jd b t:=by
 cases x with
 | tup vs=>
  simp only [Q9] at h
  split at h
  ·rename_i xs b2 hp
   simp only [oj,pj] at h
   obtain ⟨rfl,rfl⟩:=h
   exact Pf hp
  ·cases h
 | _=>
  intro t ht
  rw [Kh (by simp)] at h
  exact Pe h t (by simpa [Uh] using ht)
theorem Ph {io:Nat→Bool} {cl:Call} {fo:Operand} {g:FuncId} {caps:List V} (ho:o.op=.call cl) (hcal:cl.callee=.value fo) (hf:opd sl fo=.fn g caps)
  {ts:List Ty} (hio:UD A g 0 (cat (JF sl cl.args.toList) caps)=false) (hnt:QX (JF sl cl.args.toList)=true) (hna:Hy caps=true) {ws:List V} {res:V} {outs:List V}
  (hp:Q6 A g b 0 ts (cat (JF sl cl.args.toList) caps)=some (c,ws)) (hk:∀ x ∈ c,x.ok) (hco:HF P (fun i=>Qh (A.mode g i)) g ws res outs) (how:Qj res=true) (hpl:Q9 sl b o.dst res=some (v,b1)) :
  UO P o sl b v b1:=by
 intro Pn w0 F0 a w hdst hr K Q hK
 let κ:St→Option St:=fun σ=>some σ
 let oc:OC St:=fun f args k=>bif Nat.beq f g then (match k res outs with | some r=>some r | none=>none) else none
 obtain ⟨⟨G,hc,hs⟩,hl,hd,hpin⟩:=hr
 obtain ⟨k1,k3⟩:=hco
 obtain ⟨fn,j1,j2,j3⟩:=k1
 have hfv:=J6 hs fo
 rw [hf] at hfv
 have hfv':=(J2 rfl (by simp) (by simp)).1 hfv
 unfold InV at hfv'
 obtain ⟨vals,hfe,hcaps,_⟩:=hfv'
 simp only [List.cons.injEq,and_true] at hfe
 rw [Qg] at hp hio
 have hargs:UF (Jc w b G []) (fun j=>He (A.mode g j)) 0 (JF sl cl.args.toList ++ caps) (cl.args.toList.map a.eval ++ vals.toList) []:=by
  have:=Xr (Xp (io:=fun j=>He (A.mode g j)) (i:=0) hs hnt) (Xq (i:=0 + (JF sl cl.args.toList).length) hna hcaps)
  simpa using this
 have htup:=(YU (Y:=[]) hc.ok (fun _ h=>h) hargs hp hk).1
 have hcalls:=k3 (fun _=>True) w (cl.args.toList.map a.eval ++ vals.toList) [] htup (by simp) (by simp)
 have hrun:(execOp a.eval o).run P w=.ok (.enter g (cl.args.toList.map a.eval ++ vals.toList).toArray) w:=by
  have hcf:=YW (P:=P) (w:=w) (args:=(cl.args.toList.map a.eval ++ vals.toList).toArray) j1 j2 j3
  have he:(cl.args.toList.map a.eval ++ vals.toList).toArray=cl.args.map a.eval ++ vals:=by apply Array.ext'; simp
  rw [he] at hcf ⊢
  simp [execOp,ho,resolve,hcal,hfe,Deferred.ofValue,invoke,hcf]
 unfold Oper.wp
 rw [hrun,Oper.upon_enter]
 refine Calls.mono hcalls ?_
 rintro e w2 ⟨v2,Fr,Fo,rfl,q1,q2,q3,q4,q5,q6,q7,q8,q9⟩
 have hFo:Fo=[]:=SH hio (SG hargs) q2
 subst hFo
 simp only [List.append_nil] at q1 q3 q4
 obtain ⟨t1,t2⟩:=hc.x.world (w':=w2) (X':=Fr) q6 (fun b hb _=>q5 b hb (by simp)) q3 (fun b hb=>⟨(q4 b hb).1,(q4 b hb).2.elim (fun h=>by cases h) .inr⟩) q7 q8 q9
 obtain ⟨G',s1,s2,s3⟩:=YV (E:=QY (fun _=>True) w2 Fr) t1 (hs.go0 t2) rfl q1 how hpl
 exact hK _ _ (Rel.put s1 s2 hl hd hpin hdst s3)
theorem jy {cl:Call} {fo:Operand} {g:FuncId} {caps:List V} (ho:o.op=.call cl) (hcal:cl.callee=.value fo) (hf:opd sl fo=.fn g caps)
  {ts:List Ty} (hio:UD A g 0 (cat (JF sl cl.args.toList) caps)=false) (hnt:QX (JF sl cl.args.toList)=true) (hna:Hy caps=true) {ws:List V} {res:V} {outs:List V} {bR:BL} (hR:CI bR b)
  (hp:Q6 A g bR 0 ts (cat (JF sl cl.args.toList) caps)=some (c,ws)) (hk:∀ x ∈ c,x.ok) (hco:HF P (fun i=>Qh (A.mode g i)) g ws res outs) (how:Qj res=true) (hpl:Q9 sl b o.dst res=some (v,b1)) {gs:List Nat} :
  Loc P o sl b v b1 (cat gs (Ug (JG o.op))) (cat (QG bR) (Uh o.dst res)) (Uh o.dst res) (Uh o.dst res):=by
 have hops:JG o.op=fo :: cl.args.toList:=by rw [ho]; simp [JG,hcal]
 have base:∀ t,t ∉ Uh o.dst res→Jd b1 t=Jd b t:=by
  cases hd:o.dst with
  | none=>
   rw [hd] at hpl
   simp only [Q9,oj,pj] at hpl
   intro t _; rw [hpl.2]
  | some s=>
   intro t ht
   rw [hd] at hpl
   exact Pg hpl t ht
 refine ⟨base,fun sl' b' h1 h2 h3=>?_⟩
 have hag:Qt sl sl' (JG o.op):=Ht (fun t ht=>h1 t (by rw [Qg]; simp [ht]))
 rw [hops] at hag
 have e1:opd sl' fo=.fn g caps:=by rw [hag fo (by simp),hf]
 have e2:JF sl' cl.args.toList=JF sl cl.args.toList:=Qt.map (fun x hx=>hag x (by simp [hx]))
 have e3:Q6 A g b' 0 ts (cat (JF sl' cl.args.toList) caps)=some (c,ws):=by
  rw [e2]
  exact Ke (ju hR (h2.sub (fun s hs=>by rw [Qg]; simp [hs]))) hp
 obtain ⟨b1',p1,p2,p3⟩:=Pd (sl':=sl') (b':=b') hpl h3 (fun t ht=>h2 t (by rw [Qg]; simp [ht]))
 exact ⟨b1',Ph (io:=fun _=>false) ho hcal e1 (by rw [e2]; exact hio) (by rw [e2]; exact hnt) hna e3 hk hco how p1,p2,fun s hs=>(p3 s hs).1⟩
end
end Go.Rai
namespace Go.Rai
variable [Inhabited Qn]
theorem C8 {l m:List Nat} (h:Ud l m=true):∀ s ∈ l,s ∉ m:=by
 induction l with
 | nil=>intro s hs; cases hs
 | cons a l ih=>
  unfold Ud at h
  rw [Ji] at h
  intro s hs
  rcases List.mem_cons.1 hs with rfl | hs
  ·intro hm
   rw [UE.2 hm] at h
   simp [Qa] at h
  ·exact ih h.2 s hs
theorem C9 {b:Bool} (h:Qa b=true):b=false:=by cases b <;> simp [Qa] at h ⊢
theorem Oa {l:List Nat} {s:Nat} (h:Qb l s=false):s ∉ l:=fun hm=>by rw [UE.2 hm] at h; cases h
mutual
theorem XJ:∀ (v:V),J0 v=true→Jk v=[]
 | .int _ _,_=>rfl
 | .bool _,_=>rfl
 | .str _,_=>rfl
 | .own _ _,_=>rfl
 | .arr _ _ _,_=>rfl
 | .agg vs,h=>by unfold J0 at h; unfold Jk; exact Ki vs h
 | .obox v,h=>by unfold J0 at h; unfold Jk; exact XJ v h
 | .tup vs,h=>by unfold J0 at h; unfold Jk; exact Ki vs h
 | .undef,ho=>by simp [J0] at ho
 | .void,ho=>by simp [J0] at ho
 | .rd _ _,ho=>by simp [J0] at ho
 | .lst _ _,ho=>by simp [J0] at ho
 | .nilsl,ho=>by simp [J0] at ho
 | .emp _,ho=>by simp [J0] at ho
 | .rp _,ho=>by simp [J0] at ho
 | .full _ _ _,ho=>by simp [J0] at ho
 | .sub _ _ _ _ _,ho=>by simp [J0] at ho
 | .ptr _ _,ho=>by simp [J0] at ho
 | .fn _ _,ho=>by simp [J0] at ho
 | .nilfn,ho=>by simp [J0] at ho
 | .nilptr,_=>rfl
theorem Ki:∀ (vs:List V),U4 vs=true→JE vs=[]
 | [],_=>rfl
 | v :: vs,h=>by
  unfold U4 at h; rw [Ji] at h
  unfold JE; rw [XJ v h.1,Ki vs h.2]; rfl
end
section
variable {P:Program} {A:Ann} {w w' w0:World} {F0:List Nat} {sl:List V} {a:Act} {bl b b' b1:BL} {G:GT} {o:Oper} {X:List Nat} {v:V} {c:List JD}
structure Vy (E0 E':Env) (Lf Lp:List Nat) (s:Nat):Prop where
 on:s ∈ Lf ∨ s ∈ Lp
 f:s ∈ Lf→∀ e cs,InV E0 (.full s [] e) cs []→InV E' (.full s [] e) cs []
 p:s ∈ Lp→∀ cs,InV E0 (.ptr s [0]) cs []→InV E' (.ptr s [0]) cs []
mutual
theorem Pi {E0 E E':Env} {s:Nat} {Lf Lp:List Nat} (hE:JP E E' (fun t=>t=s)) (hb:Vy E0 E' Lf Lp s):∀ (v:V) {cs:List Value},ioV Lf Lp v=true→InV E0 v cs []→InV E v cs []→InV E' v cs []
 | .full t p e,cs,hv,h0,h1=>by
  by_cases hts:t=s
  ·subst hts
   unfold ioV at hv
   rw [Ji] at hv
   have hLp:=Oa (C9 hv.1)
   have hLf:=hb.on.resolve_right hLp
   have h2:=hv.2
   rw [UE.2 hLf] at h2
   match p,h0,h1,h2 with
   | [],h0,h1,_=>exact hb.f hLf e cs h0
  ·exact hE.inV (by intro t' ht' e; simp [Jk] at ht'; exact hts (ht' ▸ e)) (fun _ hb=>by cases hb) h1
 | .ptr t p,cs,hv,h0,h1=>by
  by_cases hts:t=s
  ·subst hts
   unfold ioV at hv
   rw [Ji] at hv
   have hLf:=Oa (C9 hv.1)
   have hLp:=hb.on.resolve_left hLf
   have h2:=hv.2
   rw [UE.2 hLp] at h2
   match p,h0,h1,h2 with
   | [0],h0,h1,_=>exact hb.p hLp cs h0
   | [],_,_,h2=>simp at h2
   | (n + 1) :: q,_,_,h2=>simp at h2
   | 0 :: m :: q,_,_,h2=>simp at h2
  ·exact hE.inV (by intro t' ht' e; simp [Jk] at ht'; exact hts (ht' ▸ e)) (fun _ hb=>by cases hb) h1
 | .agg vs,cs,hv,h0,h1=>by
  unfold ioV at hv
  unfold InV at h0 h1 ⊢
  exact Kj hE hb vs hv h0 h1
 | .fn f vs,cs,hv,h0,h1=>by
  unfold ioV at hv
  unfold InV at h0 h1 ⊢
  obtain ⟨vals,rfl,i1,i2⟩:=h1
  obtain ⟨vals',e1,j1,_⟩:=h0
  simp only [List.cons.injEq,Value.func.injEq,true_and,and_true] at e1
  subst e1
  exact ⟨vals,rfl,Kj hE hb vs hv j1 i1,i2⟩
 | .tup vs,cs,hv,h0,h1=>by unfold InV at h0; exact h0.elim
 | .sub t p o l e,cs,hv,h0,h1=>by
  simp only [ioV,Ji] at hv
  exact hE.inV (fun t ht e=>by subst e; exact hb.on.elim (C8 hv.1 _ ht) (C8 hv.2 _ ht)) (fun _ hb=>by cases hb) h1
 | .lst e vs,cs,hv,h0,h1=>by
  simp only [ioV,Ji] at hv
  exact hE.inV (fun t ht e=>by subst e; exact hb.on.elim (C8 hv.1 _ ht) (C8 hv.2 _ ht)) (fun _ hb=>by cases hb) h1
 | .obox x,cs,hv,h0,h1=>by
  simp only [ioV,Ji] at hv
  exact hE.inV (fun t ht e=>by subst e; exact hb.on.elim (C8 hv.1 _ ht) (C8 hv.2 _ ht)) (fun _ hb=>by cases hb) h1
 | .rp x,cs,hv,h0,h1=>by
  simp only [ioV,Ji] at hv
  exact hE.inV (fun t ht e=>by subst e; exact hb.on.elim (C8 hv.1 _ ht) (C8 hv.2 _ ht)) (fun _ hb=>by cases hb) h1
 | .int _ _,cs,hv,h0,h1=>hE.inV (fun t ht=>by cases ht) (fun _ hb=>by cases hb) h1
 | .bool _,cs,hv,h0,h1=>hE.inV (fun t ht=>by cases ht) (fun _ hb=>by cases hb) h1
 | .str _,cs,hv,h0,h1=>hE.inV (fun t ht=>by cases ht) (fun _ hb=>by cases hb) h1
 | .own _ _,cs,hv,h0,h1=>hE.inV (fun t ht=>by cases ht) (fun _ hb=>by cases hb) h1
 | .rd _ _,cs,hv,h0,h1=>hE.inV (fun t ht=>by cases ht) (fun _ hb=>by cases hb) h1
 | .arr _ _ _,cs,hv,h0,h1=>hE.inV (fun t ht=>by cases ht) (fun _ hb=>by cases hb) h1
 | .undef,cs,hv,h0,h1=>hE.inV (fun t ht=>by cases ht) (fun _ hb=>by cases hb) h1
 | .void,cs,hv,h0,h1=>hE.inV (fun t ht=>by cases ht) (fun _ hb=>by cases hb) h1
 | .nilsl,cs,hv,h0,h1=>hE.inV (fun t ht=>by cases ht) (fun _ hb=>by cases hb) h1
 | .emp _,cs,hv,h0,h1=>hE.inV (fun t ht=>by cases ht) (fun _ hb=>by cases hb) h1
 | .nilfn,cs,hv,h0,h1=>hE.inV (fun t ht=>by cases ht) (fun _ hb=>by cases hb) h1
 | .nilptr,cs,hv,h0,h1=>hE.inV (fun t ht=>by cases ht) (fun _ hb=>by cases hb) h1
theorem Kj {E0 E E':Env} {s:Nat} {Lf Lp:List Nat} (hE:JP E E' (fun t=>t=s)) (hb:Vy E0 E' Lf Lp s):∀ (vs:List V) {cs:List Value},Q8 Lf Lp vs=true→JB E0 vs cs []→JB E vs cs []→JB E' vs cs []
 | [],cs,hv,h0,h1=>by unfold JB at h1 ⊢; exact h1
 | v :: vs,cs,hv,h0,h1=>by
  unfold Q8 at hv
  rw [Ji] at hv
  unfold JB at h0 h1 ⊢
  obtain ⟨c1,c2,F1,F2,e1,e2,i1,i2⟩:=h0
  obtain ⟨d1,d2,G1,G2,k1,k2,j1,j2⟩:=h1
  obtain ⟨rfl,rfl⟩:=List.append_eq_nil_iff.1 e2.symm
  obtain ⟨rfl,rfl⟩:=List.append_eq_nil_iff.1 k2.symm
  subst k1
  obtain ⟨rfl,rfl⟩:=List.append_inj e1 (by rw [Qv v i1,Qv v j1])
  exact ⟨d1,d2,[],[],rfl,rfl,Pi hE hb v hv.1 i1 j1,Kj hE hb vs hv.2 i2 j2⟩
end
theorem Pj {x:V} {cs cs':List Value} {u:Value} (h:Qq x cs u) (h':Qq x cs' u):cs=cs':=by
 unfold Qq at h h'
 cases hx:isA x with
 | true=>
  rw [hx] at h h'
  simp only at h h'
  rw [h] at h'
  simpa using h'
 | false=>
  rw [hx] at h h'
  simp only at h h'
  rw [h,h']
theorem Pk {E0 E E':Env} {s:Nat} {Lf Lp:List Nat} (hE:JP E E' (fun t=>t=s)) (hb:Vy E0 E' Lf Lp s) {x:V} {u:Value} (hv:ioV Lf Lp x=true) (h0:One E0 x u []) (h1:One E x u []):One E' x u []:=by
 obtain ⟨cs,i1,i2⟩:=h0
 obtain ⟨cs',j1,j2⟩:=h1
 have:=Pj i2 j2
 subst this
 exact ⟨cs,Pi hE hb x hv i1 j1,j2⟩
theorem Pl {E0 E E':Env} {s:Nat} {Lf Lp:List Nat} (hE:JP E E' (fun t=>t=s)) (hb:Vy E0 E' Lf Lp s):∀ {xs:List V} {us:List Value},Q8 Lf Lp xs=true→Tup E0 xs us []→Tup E xs us []→Tup E' xs us []
 | [],us,hv,h0,h1=>h1
 | x :: xs,us,hv,⟨u,r,F1,F2,e1,e2,i1,i2⟩,⟨u',r',G1,G2,k1,k2,j1,j2⟩=>by
  unfold Q8 at hv
  rw [Ji] at hv
  obtain ⟨rfl,rfl⟩:=List.append_eq_nil_iff.1 e2.symm
  obtain ⟨rfl,rfl⟩:=List.append_eq_nil_iff.1 k2.symm
  subst e1
  simp only [List.cons.injEq] at k1
  obtain ⟨rfl,rfl⟩:=k1
  exact ⟨u,r,[],[],rfl,rfl,Pk hE hb hv.1 i1 j1,Pl hE hb hv.2 i2 j2⟩
theorem jz {E0 E E':Env} {s:Nat} {Lf Lp:List Nat} (hE:JP E E' (fun t=>t=s)) (hb:Vy E0 E' Lf Lp s) {x:V} {u:Value} (hv:ioV Lf Lp x=true) (h0:Val E0 x u []) (h1:Val E x u []):Val E' x u []:=by
 cases x with
 | tup xs=>
  obtain ⟨us,rfl,i1⟩:=h0
  obtain ⟨us',e1,j1⟩:=h1
  simp only [Value.tuple.injEq] at e1
  subst e1
  unfold ioV at hv
  exact ⟨us,rfl,Pl hE hb hv i1 j1⟩
 | undef=>exact h1
 | _=>exact Pk hE hb hv h0 h1
theorem Kk {Lf Lp:List Nat}:∀ {sl:List V} {t:Nat},Q8 Lf Lp sl=true→ioV Lf Lp (JN sl t)=true
 | [],t,h=>by cases t <;> rfl
 | v :: sl,t,h=>by
  unfold Q8 at h
  rw [Ji] at h
  cases t with
  | zero=>exact h.1
  | succ t=>exact Kk (sl:=sl) (t:=t) h.2
theorem Pm {E0 E E':Env} {s:Nat} {Lf Lp:List Nat} (hE:JP E E' (fun t=>t=s)) (hb:Vy E0 E' Lf Lp s) (hv:Q8 Lf Lp sl=true) (h0:JQ E0 sl a) (h1:JQ E sl a):JQ E' sl a:=
 fun t=>jz hE hb (Kk hv) (h0 t) (h1 t)
theorem XK {f:FuncId}:∀ {vs:List V} {i:Nat},U7 A f b i vs=true→∀ s ∈ ioF A f i vs,∃ x,Jd b s=some x∧QI x=true
 | [],i,_,s,hs=>by simp [ioF] at hs
 | v :: vs,i,h,s,hs=>by
  unfold U7 at h
  unfold ioF at hs
  split at h
  ·rename_i hm
   rw [hm] at hs
   rw [Ji] at h
   simp only at hs
   split at hs
   ·rename_i s' p e
    rcases List.mem_cons.1 hs with rfl | hs
    ·have h1:=h.1
     simp only [OZ] at h1
     split at h1
     ·split at h1
      ·rename_i hl; exact ⟨_,hl,rfl⟩
      ·rename_i hl; exact ⟨_,hl,rfl⟩
      ·simp at h1
     ·simp at h1
    ·exact XK h.2 s hs
   ·exact XK h.2 s hs
  ·rename_i hm
   have:s ∈ ioF A f (i + 1) vs:=by
    split at hs
    ·rename_i hm'; exact absurd hm' hm
    ·exact hs
   exact XK h s this
theorem XL {f:FuncId}:∀ {vs:List V} {i:Nat},U7 A f b i vs=true→∀ s ∈ ioP A f i vs,∃ x,Jd b s=some (.obox x)
 | [],i,_,s,hs=>by simp [ioP] at hs
 | v :: vs,i,h,s,hs=>by
  unfold U7 at h
  unfold ioP at hs
  split at h
  ·rename_i hm
   rw [hm] at hs
   rw [Ji] at h
   simp only at hs
   split at hs
   ·rename_i s' p
    rcases List.mem_cons.1 hs with rfl | hs
    ·have h1:=h.1
     simp only [OZ] at h1
     split at h1
     ·split at h1
      ·rename_i hl; exact ⟨_,hl⟩
      ·simp at h1
     ·simp at h1
    ·exact XL h.2 s hs
   ·exact XL h.2 s hs
  ·rename_i hm
   have:s ∈ ioP A f (i + 1) vs:=by
    split at hs
    ·rename_i hm'; exact absurd hm' hm
    ·exact hs
   exact XL h s this
theorem Po {s:Nat} (h:bor (Qb (JK b) s) (match Jd b s with | some _=>true | none=>false)=false):Jd b s=none∧∀ t c,Jd b t=some c→s ∉ Jk c:=by
 rw [OG] at h
 refine ⟨?_,fun t c hc hm=>Oa h.1 (Cv hc hm)⟩
 cases hl:Jd b s with
 | none=>rfl
 | some c=>rw [hl] at h; simp at h
def Kl (E:Env):Prop:=∀ s c,Jd E.bl s=some c→∃ rc F F',E.G s=some (rc,F)∧InV E c rc F'
theorem jA {E0:Env} (h0:JQ E0 sl a) (hr0:Kl E0) {Lf Lp:List Nat} (hf0:∀ s ∈ Lf,∃ x,Jd E0.bl s=some x∧QI x=true) (hp0:∀ s ∈ Lp,∃ x,Jd E0.bl s=some (.obox x)) (hsl:Q8 Lf Lp sl=true)
  {F:List Nat} {v x:V} {u:Value} (hc:J3 w bl G (F ++ X) w0 F0) (hs:JQ (Jc w bl G (F ++ X)) sl a) (hx:One (Jc w bl G (F ++ X)) x u F) (hv:One E0 v u []) (ho:Qu x=true)
  (hfull:∀ s p e,v=.full s p e→s ∈ Lf) (hptr:∀ s p,v=.ptr s p→s ∈ Lp) (h:Oj bl v x=some b') :
  ∃ G',J3 w b' G' X w0 F0∧JQ (Jc w b' G' X) sl a∧Le (Jc w bl G (F ++ X)) (Jc w b' G' X):=by
 unfold Oj at h
 split at h
 ·rename_i s p e
  split at h
  ·split at h
   ·rename_i e' l
    split at h
    ·rename_i hfree
     simp only [oj] at h
     subst h
     obtain ⟨f1,f2⟩:=Po hfree
     obtain ⟨cs,i1,i2⟩:=hx
     obtain ⟨cs0,j1,j2⟩:=hv
     unfold Qq at i2 j2
     simp only [isA] at i2 j2
     subst i2; subst j2
     have hin:InV (Jc w bl G (F ++ X)) (.own e' l) [u] F:=i1
     obtain ⟨g1,g2⟩:=hc.add f1 f2 hin (by simp [Jk])
     have hLf:s ∈ Lf:=hfull _ _ _ rfl
     obtain ⟨x0,k1,k2⟩:=hf0 s hLf
     obtain ⟨rc0,Fr0,_,k3,_⟩:=hr0 s x0 k1
     refine ⟨_,g1,Pm g2 ⟨.inl hLf,?_,?_⟩ hsl h0 hs,g2.le⟩
     ·intro _ e2 cs hcs
      unfold InV at hcs j1 ⊢
      obtain ⟨_,⟨A1,n1,c1,e1⟩,q1⟩:=hcs
      obtain ⟨_,_,q2⟩:=j1
      obtain ⟨v1,r1,r2⟩:=q1 x0 rc0 Fr0 k1 k3 x0 _ rfl k2
      obtain ⟨v2,r3,r4⟩:=q2 x0 rc0 Fr0 k1 k3 x0 _ rfl k2
      rw [r1] at r3
      simp only [oj,List.cons.injEq,and_true] at r3 r4
      refine ⟨rfl,⟨A1,n1,c1,e1⟩,?_⟩
      intro c rc F1 hl hg x L hloc _
      simp only [Jc,J1,if_true,oj,pj] at hl hg
      obtain ⟨rfl,rfl⟩:=hg
      subst hl
      simp only [Jl,oj,pj] at hloc
      obtain ⟨rfl,rfl⟩:=hloc
      exact ⟨u,rfl,by rw [r2,r3,← r4]⟩
     ·intro hLp
      obtain ⟨y0,hy0⟩:=hp0 s hLp
      rw [k1] at hy0
      simp only [oj] at hy0
      subst hy0
      simp [QI] at k2
    ·cases h
   ·cases h
  ·cases h
 ·rename_i s p
  split at h
  ·split at h
   ·rename_i y
    split at h
    ·rename_i hfree
     simp only [oj] at h
     subst h
     obtain ⟨f1,f2⟩:=Po hfree
     obtain ⟨cs,i1,i2⟩:=hx
     obtain ⟨cs0,j1,j2⟩:=hv
     unfold Qq at i2 j2
     simp only [isA] at i2 j2
     subst i2; subst j2
     have hin:InV (Jc w bl G (F ++ X)) (.obox y) [u] F:=i1
     obtain ⟨g1,g2⟩:=hc.add f1 f2 hin (by rw [Xl ho]; simp)
     have hLp:s ∈ Lp:=hptr _ _ rfl
     obtain ⟨y0,k1⟩:=hp0 s hLp
     obtain ⟨rc0,Fr0,Fr1,k3,k4⟩:=hr0 s _ k1
     unfold InV at k4
     obtain ⟨a0,cs0,_,rfl,_⟩:=k4
     refine ⟨_,g1,Pm g2 ⟨.inr hLp,?_,?_⟩ hsl h0 hs,g2.le⟩
     ·intro hLf
      obtain ⟨x0,hx0,hx1⟩:=hf0 s hLf
      rw [k1] at hx0
      simp only [oj] at hx0
      subst hx0
      simp [QI] at hx1
     ·intro _ cs hcs
      unfold InV at hcs j1 ⊢
      obtain ⟨_,⟨a1,e1⟩,q1⟩:=hcs
      obtain ⟨_,_,q2⟩:=j1
      have hloc:Jl E0.w (.obox y0) (.reg [.pointer (some a0)]) [0]=some (y0,.mem a0):=by simp [Jl,JC.head]
      obtain ⟨a2,r1,r2⟩:=q1 _ _ _ k1 k3 _ _ hloc
      obtain ⟨a3,r3,r4⟩:=q2 _ _ _ k1 k3 _ _ hloc
      simp only [JC.mem.injEq] at r1 r3
      subst r1; subst r3
      simp only [List.cons.injEq,and_true] at r4
      refine ⟨rfl,⟨a0,r2⟩,?_⟩
      intro c rc F1 hl hg x L hloc
      simp only [Jc,J1,if_true,oj,pj] at hl hg
      obtain ⟨rfl,rfl⟩:=hg
      subst hl
      rw [r4] at hloc
      simp only [Jl,JC.head,List.getElem?_cons_zero,oj,pj] at hloc
      obtain ⟨rfl,rfl⟩:=hloc
      exact ⟨a0,rfl,r2⟩
    ·cases h
   ·cases h
  ·cases h
 ·cases h
theorem qT {E1 E2 E3:Env} (h:Le E1 E2) (k:Le E2 E3):Le E1 E3:=
 ⟨fun b hb=>⟨(k.stab b (h.stab b hb).1).1,(k.stab b (h.stab b hb).1).2.trans (h.stab b hb).2⟩,Nat.le_trans h.size k.size,fun b h1 h2=>k.kept b (h.stab b h1).1 (h.kept b h1 h2)⟩
theorem Km {kp:Bool} {f:FuncId} {E0:Env} (h0:JQ E0 sl a) (hr0:Kl E0) {Lf Lp:List Nat} (hf0:∀ s ∈ Lf,∃ x,Jd E0.bl s=some x∧QI x=true) (hp0:∀ s ∈ Lp,∃ x,Jd E0.bl s=some (.obox x)) (hsl:Q8 Lf Lp sl=true) :
  ∀ {vs xs:List V} {i:Nat} {us:List Value} {Fo:List Nat} {bl b':BL} {G:GT} {E:Env},J3 w bl G (Fo ++ X) w0 F0→JQ (Jc w bl G (Fo ++ X)) sl a→E.w=w→(kp=true→Kle E (Jc w bl G (Fo ++ X)))→CE E (fun j=>Qh (A.mode f j)) i xs us Fo→Tup E0 vs us [] →
   (∀ s ∈ ioF A f i vs,s ∈ Lf)→(∀ s ∈ ioP A f i vs,s ∈ Lp)→Q7 A kp f i bl vs xs=some b'→∃ G',J3 w b' G' X w0 F0∧JQ (Jc w b' G' X) sl a
 | [],[],i,us,Fo,bl,b',G,E,hc,hs,hE,hle,ho,hv,hlf,hlp,h=>by
  simp only [Q7,oj] at h
  subst h
  obtain ⟨_,rfl⟩:=ho
  exact ⟨G,hc,hs⟩
 | [],x :: xs,i,us,Fo,bl,b',G,E,hc,hs,hE,hle,ho,hv,hlf,hlp,h=>by simp [Q7] at h
 | v :: vs,[],i,us,Fo,bl,b',G,E,hc,hs,hE,hle,ho,hv,hlf,hlp,h=>by simp [Q7] at h
 | v :: vs,x :: xs,i,us,Fo,bl,b',G,E,hc,hs,hE,hle,ho,hv,hlf,hlp,h=>by
  obtain ⟨u,r,F1,F2,e1,rfl,h1,h2,h3⟩:=ho
  obtain ⟨u',r',K1,K2,k1,k2,j1,j2⟩:=hv
  obtain ⟨rfl,rfl⟩:=List.append_eq_nil_iff.1 k2.symm
  rw [e1] at k1
  simp only [List.cons.injEq] at k1
  obtain ⟨rfl,rfl⟩:=k1
  simp only [Q7] at h
  split at h
  ·rename_i hm
   have hlf':∀ s p e,v=.full s p e→s ∈ Lf:=fun s p e hv=>hlf s (by rw [hv]; simp [ioF,hm])
   have hlp':∀ s p,v=.ptr s p→s ∈ Lp:=fun s p hv=>hlp s (by rw [hv]; simp [ioP,hm])
   have hlf2:∀ s ∈ ioF A f (i + 1) vs,s ∈ Lf:=fun s hs=>hlf s (by
    simp only [ioF,hm]
    split
    ·simp [hs]
    ·exact hs)
   have hlp2:∀ s ∈ ioP A f (i + 1) vs,s ∈ Lp:=fun s hs=>hlp s (by
    simp only [ioP,hm]
    split
    ·simp [hs]
    ·exact hs)
   split at h
   ·rename_i hx
    split at h
    ·rename_i b2 hp
     obtain ⟨t1,t2⟩:=hc.perm (show ((F1 ++ F2) ++ X).Perm (F1 ++ (F2 ++ X)) by rw [List.append_assoc])
     have hxk:Qu x=true:=by
      rw [Cd,Ji] at hx
      rcases hx with hx | hx
      ·exact YR hx
      ·exact hx.2
     obtain ⟨cs,m1,m2⟩:=h1 (by show Qh (A.mode f i)=true; rw [hm]; rfl)
     have hone:One (Jc w bl G (F1 ++ (F2 ++ X))) x u F1:=by
      rw [Cd,Ji] at hx
      rcases hx with hx | hx
      ·exact ⟨cs,OF (E:=E) (by rw [hE]; rfl) _ hx m1,m2⟩
      ·exact ⟨cs,Xm (E:=E) (by have:=hle hx.1; rw [List.append_assoc] at this; exact this) (by rw [hE]; rfl) hx.2 m1,m2⟩
     obtain ⟨G1,q1,q2,q3⟩:=jA h0 hr0 hf0 hp0 hsl t1 (hs.go0 t2) hone j1 hxk hlf' hlp' hp
     exact Km h0 hr0 hf0 hp0 hsl q1 q2 hE (fun hk=>by have:=hle hk; rw [List.append_assoc] at this; exact fun b h1 h2=>⟨(q3.stab b (this b h1 h2).1).1,q3.kept b (this b h1 h2).1 (this b h1 h2).2⟩) h3 j2 hlf2 hlp2 h
    ·cases h
   ·cases h
  ·rename_i hm
   have hf:Qh (A.mode f i)=false:=by
    cases hq:A.mode f i with
    | io=>exact absurd hq hm
    | take=>rfl
    | lend=>rfl
    | keep=>rfl
   have:=h2 hf
   subst this
   refine Km h0 hr0 hf0 hp0 hsl (Fo:=F2) hc hs hE hle h3 j2 (fun s hs=>hlf s ?_) (fun s hs=>hlp s ?_) h
   ·unfold ioF
    split
    ·rename_i hm'; exact absurd hm' hm
    ·exact hs
   ·unfold ioP
    split
    ·rename_i hm'; exact absurd hm' hm
    ·exact hs
theorem Kn {E:Env} {io:Nat→Bool}:∀ {xs:List V} {i:Nat} {vs:List Value} {F:List Nat},UF E io i xs vs F→Tup E xs vs F
 | [],i,vs,F,h=>h
 | x :: xs,i,vs,F,⟨v,r,F1,F2,e1,e2,h1,h2,h3⟩=>⟨v,r,F1,F2,e1,e2,h1,Kn h3⟩
theorem Pp {cl:Call} {fo:Operand} {g:FuncId} {caps:List V} {b2:BL} (ho:o.op=.call cl) (hcal:cl.callee=.value fo) (hf:opd sl fo=.fn g caps)
  {ts:List Ty} (hnt:QX (JF sl cl.args.toList)=true) (hna:Hy caps=true)
  (hroots:U7 A g b 0 (cat (JF sl cl.args.toList) caps)=true)
  (hsl:Q8 (ioF A g 0 (cat (JF sl cl.args.toList) caps)) (ioP A g 0 (cat (JF sl cl.args.toList) caps)) sl=true)
  {ws:List V} {res:V} {outs:List V}
  (hp:OY A g b ts (cat (JF sl cl.args.toList) caps)=some (c,ws,bl)) (hk:∀ x ∈ c,x.ok) (hco:HF P (fun i=>Qh (A.mode g i)) g ws res outs) (how:Qj res=true)
  (hre:Q7 A (UJ A g 0 ws) g 0 bl (cat (JF sl cl.args.toList) caps) outs=some b2) (hpl:Q9 sl b2 o.dst res=some (v,b1)) :
  UO P o sl b v b1:=by
 intro Pn w0 F0 a w hdst hr K Q hK
 obtain ⟨⟨G,hc,hs⟩,hl,hd,hpin⟩:=hr
 obtain ⟨k1,k3⟩:=hco
 obtain ⟨fn,j1,j2,j3⟩:=k1
 have hfv:=J6 hs fo
 rw [hf] at hfv
 have hfv':=(J2 rfl (by simp) (by simp)).1 hfv
 unfold InV at hfv'
 obtain ⟨vals,hfe,hcaps,_⟩:=hfv'
 simp only [List.cons.injEq,and_true] at hfe
 rw [Qg] at hp hroots hsl hre
 have hargs:Tup (Jc w b G []) (JF sl cl.args.toList ++ caps) (cl.args.toList.map a.eval ++ vals.toList) []:=by
  have:=Xr (Xp (io:=fun j=>He (A.mode g j)) (i:=0) hs hnt) (Xq (i:=0 + (JF sl cl.args.toList).length) hna hcaps)
  exact Kn (by simpa using this)
 have hroot0:Kl (Jc w b G []):=fun s c hc'=>by
  obtain ⟨rc,F,F1,h1,h2,_⟩:=hc.ok.root s c hc'
  exact ⟨rc,F,F1,h1,h2⟩
 obtain ⟨F,G1,p1,p2',p3,p4⟩:=M5 hc hargs hp hk
 obtain ⟨Kx,p2,hKx⟩:∃ Kx,Tup (QY Kx w F) ws (cl.args.toList.map a.eval ++ vals.toList) F∧(UJ A g 0 ws=true→Kx=Xn w bl G1 F):=by
  cases hq:UJ A g 0 ws with
  | false=>exact ⟨_,p2',fun h=>by cases h⟩
  | true=>exact ⟨_,p4 hq,fun _=>rfl⟩
 have hcalls:=k3 Kx w (cl.args.toList.map a.eval ++ vals.toList) F p2 p1.ok.xnd p1.ok.xlt
 have hrun:(execOp a.eval o).run P w=.ok (.enter g (cl.args.toList.map a.eval ++ vals.toList).toArray) w:=by
  have hcf:=YW (P:=P) (w:=w) (args:=(cl.args.toList.map a.eval ++ vals.toList).toArray) j1 j2 j3
  have he:(cl.args.toList.map a.eval ++ vals.toList).toArray=cl.args.map a.eval ++ vals:=by apply Array.ext'; simp
  rw [he] at hcf ⊢
  simp [execOp,ho,resolve,hcal,hfe,Deferred.ofValue,invoke,hcf]
 unfold Oper.wp
 rw [hrun,Oper.upon_enter]
 refine Calls.mono hcalls ?_
 rintro e w2 ⟨v2,Fr,Fo,rfl,q1,q2,q3,q4,q5,q6,q7,q8,q9⟩
 obtain ⟨t1,t2⟩:=p1.world (w':=w2) (X':=Fr ++ Fo) q6 (fun b hb hx=>q5 b hb hx) q3 q4 q7 q8 q9
 have hs2:JQ (Jc w2 bl G1 (Fr ++ Fo)) sl a:=(hs.go0 p3).go0 t2
 obtain ⟨t3,t4⟩:=t1.perm (List.perm_append_comm (l₁:=Fr) (l₂:=Fo))
 have hleK:UJ A g 0 ws=true→Kle (QY Kx w2 (Fr ++ Fo)) (Jc w2 bl G1 (Fo ++ Fr)):=fun hq=>by
  have:=hKx hq
  subst this
  intro b h1 h2
  refine ⟨⟨h1.1,fun ho=>?_⟩,h2.2⟩
  rcases ho with ho | ho
  ·exact h1.2 (by rcases List.mem_append.1 ho with h | h <;> simp [h])
  ·exact h2.1.2 (.inr ho)
 obtain ⟨G2,r1,r2⟩:=Km (X:=Fr) (E:=QY Kx w2 (Fr ++ Fo)) hs hroot0 (XK hroots) (XL hroots) hsl t3 (hs2.go0 t4) rfl hleK q2 hargs (fun s h=>h) (fun s h=>h) hre
 obtain ⟨G',s1,s2,s3⟩:=YV (E:=QY Kx w2 (Fr ++ Fo)) r1 r2 rfl q1 how hpl
 exact hK _ _ (Rel.put s1 s2 hl hd hpin hdst s3)
end
end Go.Rai
namespace Go.Rai
variable [Inhabited Qn]
def Vz (E E':Env) (s n m:Nat):Prop:=
 ∀ c' rc F',Jd E'.bl s=some c'→E'.G s=some (rc,F')→∃ c F0,Jd E.bl s=some c∧E.G s=some (rc,F0) ∧
  Q3 false n E.w E'.w c c' (.reg rc)∧Q3 true m E.w E'.w c c' (.reg rc)
theorem OK {α:Type}:∀ (l:List α),Un l=l.length
 | []=>rfl
 | _ :: l=>by simp [Un,OK l]
theorem Ko {s n:Nat} {p:List Nat} (h:VO s n s p=true):p.length<n:=by
 unfold VO at h
 rw [Nat.beq_refl] at h
 have:=Nat.le_of_ble_eq_true h
 rw [OK] at this
 exact this
mutual
theorem Pq {E E':Env} {s n m:Nat} (hE:JP E E' (fun t=>t=s)) (hb:Vz E E' s n m):∀ (v:V) {cs:List Value},UT s n m v=true→InV E v cs []→InV E' v cs []
 | .full t p e,cs,hv,h1=>by
  by_cases hts:t=s
  ·subst hts
   unfold UT at hv
   have hlen:=Ko hv
   unfold InV at h1 ⊢
   obtain ⟨h0,h2,h3⟩:=h1
   refine ⟨h0,h2,fun c' rc F' hc hg x' L hl ho=>?_⟩
   obtain ⟨c,F0,hc0,hg0,_,hal⟩:=hb c' rc F' hc hg
   obtain ⟨x,hx,hown⟩:=hal p hlen x' L hl
   obtain ⟨ho',hh⟩:=hown rfl ho
   obtain ⟨v,hv,hcs⟩:=h3 c rc F0 hc0 hg0 x L hx ho'
   exact ⟨v,by rw [hh]; exact hv,hcs⟩
  ·exact hE.inV (by intro t' ht' e; simp [Jk] at ht'; exact hts (ht' ▸ e)) (fun _ hb=>by cases hb) h1
 | .sub t p off len e,cs,hv,h1=>by
  by_cases hts:t=s
  ·subst hts
   unfold UT at hv
   have hlen:=Ko hv
   unfold InV at h1 ⊢
   obtain ⟨h0,h2,h3⟩:=h1
   refine ⟨h0,h2,fun c' rc F' hc hg x' L hl ho=>?_⟩
   obtain ⟨c,F0,hc0,hg0,_,hal⟩:=hb c' rc F' hc hg
   obtain ⟨x,hx,hown⟩:=hal p hlen x' L hl
   obtain ⟨ho',hh⟩:=hown rfl ho
   obtain ⟨A,n,k,A',hv,hcs⟩:=h3 c rc F0 hc0 hg0 x L hx ho'
   exact ⟨A,n,k,A',by rw [hh]; exact hv,hcs⟩
  ·exact hE.inV (by intro t' ht' e; simp [Jk] at ht'; exact hts (ht' ▸ e)) (fun _ hb=>by cases hb) h1
 | .ptr t p,cs,hv,h1=>by
  by_cases hts:t=s
  ·subst hts
   unfold UT at hv
   have hlen:=Ko hv
   unfold InV at h1 ⊢
   obtain ⟨h0,h2,h3⟩:=h1
   refine ⟨h0,h2,fun c' rc F' hc hg x' L hl=>?_⟩
   obtain ⟨c,F0,hc0,hg0,hal,_⟩:=hb c' rc F' hc hg
   obtain ⟨x,hx,_⟩:=hal p hlen x' L hl
   exact h3 c rc F0 hc0 hg0 x L hx
  ·exact hE.inV (by intro t' ht' e; simp [Jk] at ht'; exact hts (ht' ▸ e)) (fun _ hb=>by cases hb) h1
 | .agg vs,cs,hv,h1=>by
  unfold UT at hv
  unfold InV at h1 ⊢
  exact Kp hE hb vs hv h1
 | .fn f vs,cs,hv,h1=>by
  unfold UT at hv
  unfold InV at h1 ⊢
  obtain ⟨vals,rfl,i1,i2⟩:=h1
  exact ⟨vals,rfl,Kp hE hb vs hv i1,i2⟩
 | .tup vs,cs,hv,h1=>by unfold InV at h1; exact h1.elim
 | .lst e vs,cs,hv,h1=>by
  simp only [UT] at hv
  exact hE.inV (fun t ht e=>by subst e; exact Oa (C9 hv) ht) (fun _ hb=>by cases hb) h1
 | .obox x,cs,hv,h1=>by
  simp only [UT] at hv
  exact hE.inV (fun t ht e=>by subst e; exact Oa (C9 hv) ht) (fun _ hb=>by cases hb) h1
 | .rp x,cs,hv,h1=>by
  simp only [UT] at hv
  exact hE.inV (fun t ht e=>by subst e; exact Oa (C9 hv) ht) (fun _ hb=>by cases hb) h1
 | .int _ _,cs,hv,h1=>hE.inV (fun t ht=>by cases ht) (fun _ hb=>by cases hb) h1
 | .bool _,cs,hv,h1=>hE.inV (fun t ht=>by cases ht) (fun _ hb=>by cases hb) h1
 | .str _,cs,hv,h1=>hE.inV (fun t ht=>by cases ht) (fun _ hb=>by cases hb) h1
 | .own _ _,cs,hv,h1=>hE.inV (fun t ht=>by cases ht) (fun _ hb=>by cases hb) h1
 | .rd _ _,cs,hv,h1=>hE.inV (fun t ht=>by cases ht) (fun _ hb=>by cases hb) h1
 | .arr _ _ _,cs,hv,h1=>hE.inV (fun t ht=>by cases ht) (fun _ hb=>by cases hb) h1
 | .undef,cs,hv,h1=>hE.inV (fun t ht=>by cases ht) (fun _ hb=>by cases hb) h1
 | .void,cs,hv,h1=>hE.inV (fun t ht=>by cases ht) (fun _ hb=>by cases hb) h1
 | .nilsl,cs,hv,h1=>hE.inV (fun t ht=>by cases ht) (fun _ hb=>by cases hb) h1
 | .emp _,cs,hv,h1=>hE.inV (fun t ht=>by cases ht) (fun _ hb=>by cases hb) h1
 | .nilfn,cs,hv,h1=>hE.inV (fun t ht=>by cases ht) (fun _ hb=>by cases hb) h1
 | .nilptr,cs,hv,h1=>hE.inV (fun t ht=>by cases ht) (fun _ hb=>by cases hb) h1
theorem Kp {E E':Env} {s n m:Nat} (hE:JP E E' (fun t=>t=s)) (hb:Vz E E' s n m):∀ (vs:List V) {cs:List Value},UU s n m vs=true→JB E vs cs []→JB E' vs cs []
 | [],cs,hv,h1=>by unfold JB at h1 ⊢; exact h1
 | v :: vs,cs,hv,h1=>by
  unfold UU at hv
  rw [Ji] at hv
  unfold JB at h1 ⊢
  obtain ⟨d1,d2,G1,G2,k1,k2,j1,j2⟩:=h1
  obtain ⟨rfl,rfl⟩:=List.append_eq_nil_iff.1 k2.symm
  exact ⟨d1,d2,[],[],k1,rfl,Pq hE hb v hv.1 j1,Kp hE hb vs hv.2 j2⟩
end
section
variable {P:Program} {A:Ann} {w w' w0:World} {F0:List Nat} {sl:List V} {a:Act} {bl b b' b1:BL} {G:GT} {o:Oper} {X:List Nat} {v:V} {c:List JD}
theorem Pr {E E':Env} {s n m:Nat} (hE:JP E E' (fun t=>t=s)) (hb:Vz E E' s n m) {x:V} {u:Value} (hv:UT s n m x=true) (h1:One E x u []):One E' x u []:=by
 obtain ⟨cs',j1,j2⟩:=h1
 exact ⟨cs',Pq hE hb x hv j1,j2⟩
theorem Ps {E E':Env} {s n m:Nat} (hE:JP E E' (fun t=>t=s)) (hb:Vz E E' s n m):∀ {xs:List V} {us:List Value},UU s n m xs=true→Tup E xs us []→Tup E' xs us []
 | [],us,hv,h1=>h1
 | x :: xs,us,hv,⟨u',r',G1,G2,k1,k2,j1,j2⟩=>by
  unfold UU at hv
  rw [Ji] at hv
  obtain ⟨rfl,rfl⟩:=List.append_eq_nil_iff.1 k2.symm
  exact ⟨u',r',[],[],k1,rfl,Pr hE hb hv.1 j1,Ps hE hb hv.2 j2⟩
theorem jB {E E':Env} {s n m:Nat} (hE:JP E E' (fun t=>t=s)) (hb:Vz E E' s n m) {x:V} {u:Value} (hv:UT s n m x=true) (h1:Val E x u []):Val E' x u []:=by
 cases x with
 | tup xs=>
  obtain ⟨us',e1,j1⟩:=h1
  unfold UT at hv
  exact ⟨us',e1,Ps hE hb hv j1⟩
 | undef=>exact h1
 | _=>exact Pr hE hb hv h1
theorem Pt {s n m:Nat}:∀ {sl:List V} {t:Nat},UU s n m sl=true→UT s n m (JN sl t)=true
 | [],t,h=>by cases t <;> rfl
 | v :: sl,t,h=>by
  unfold UU at h
  rw [Ji] at h
  cases t with
  | zero=>exact h.1
  | succ t=>exact Pt (sl:=sl) (t:=t) h.2
theorem Pu {E E':Env} {s n m:Nat} (hE:JP E E' (fun t=>t=s)) (hb:Vz E E' s n m) (hv:UU s n m sl=true) (h1:JQ E sl a):JQ E' sl a:=
 fun t=>jB hE hb (Pt hv) (h1 t)
theorem jC {t:Ty} {vs:List V}:UI t (.tup vs)=.tup vs:=by cases t <;> rfl
theorem Pv (HT:J5 P A.ty) (hc:Qe w bl G w0 F0) (hs:JQ (Jc w bl G []) sl a) {sl':List V} (hs':JQ (Jc w bl G []) sl' a) {t:TypeId} {x y:Operand} {co:List JD} {b:BL} (h:o.op=.store t x y)
  (hv:CR (A.ty t) sl' bl (opd sl x) (opd sl y)=some (co,b)) (hk:∀ k ∈ co,k.ok):JH P w0 F0 sl' a w o .void b:=by
 have hx:=J6 hs x
 unfold CR at hv
 split at hv
 ·rename_i s p hxe
  split at hv
  ·rename_i c1 yv b1 hin
   split at hv
   ·rename_i hchk
    rw [Ji,Ji,Ji,Ji] at hchk
    obtain ⟨⟨hyo,hyf⟩,⟨hpl,hpos⟩,hns⟩:=hchk
    have hns':=Oa (C9 hns)
    have hpos':(A.ty t).size ≠ 0:=by
     intro h0
     have:=C9 hpos
     rw [h0] at this
     cases this
    split at hv
    ·rename_i c hl
     split at hv
     ·rename_i c2 z hg
      split at hv
      ·rename_i hz
       simp only [oj,pj] at hv
       obtain ⟨rfl,rfl⟩:=hv
       rw [Ji,Cd,Ji,Ji,Cd] at hz
       obtain ⟨hz,hpath⟩:=hz
       obtain ⟨hk1,hk2⟩:=Q4 hk
       have hyt:∀ xs,opd sl y ≠ .tup xs:=by
        intro xs hxs
        rw [hxs,jC] at hin
        cases hq:inl 9 bl (.tup xs) with
        | none=>rw [hq] at hin; cases hin
        | some r=>
         simp only [inl] at hin
         split at hin
         ·simp only [oj,pj] at hin
          rw [← hin.2.1] at hyf
          cases hA:A.ty t <;> rw [hA] at hyf <;> simp [JI] at hyf
         ·cases hin
       obtain ⟨csy,y1,y2⟩:=Wk hyt (J6 hs y)
       obtain ⟨Fy,G1,q1,q2,q3⟩:=(OB 9).1 (F:=[]) (X:=[]) hc.x (V8 (A.ty t) y1) hin hk1
       simp only [List.append_nil] at q1 q2 q3
       have hT:=HT t (Cx hyf)
       have hx':Val (Jc w b1 G1 Fy) (.ptr s p) (a.eval x) []:=by rw [← hxe]; exact J6 (hs.go0 q3) x
       obtain ⟨rc,F,F1,g1,g2,g3,g4,g5⟩:=q1.ok.root s c hl
       obtain ⟨Lx,i4⟩:=HD (Jc w b1 G1 Fy) p c rc F1 (.reg rc) c2 z g2 ⟨[],by simp⟩ hg hk2
       obtain ⟨csx,Fx,Fr,m1,m2,m3,m4,m5⟩:=q1.modifyN hl g1 i4
       obtain ⟨ad,rfl,hpx⟩:=Oy hx' hl g1 i4
       have hunf:=CB (Jc w b1 G1 Fy) p c rc F1 (.reg rc) z ad g2 ⟨[],by simp⟩ (fun b hb=>by cases hb) i4
       have hzs:vsz z=(A.ty t).size:=by
        rcases hz with ⟨_,hzf⟩ | ⟨_,hzu⟩
        ·exact (QC hzf).1
        ·unfold KZ at hzu
         split at hzu
         ·rename_i hty; rw [hty]; rfl
         ·cases hzu
       have q4:csy.length=(A.ty t).size:=by rw [Qv _ q2,(QC hyf).1]
       have q5:∀ u ∈ csy,u.oneCell'=true:=V5 hyf q2
       have hcells:(a.eval y).cells=csy.toArray:=by
        unfold Qq at y2
        split at y2
        ·rw [y2]; rfl
        ·subst y2; exact V6 (q5 _ (by simp))
       rw [hzs,← q4] at hunf
       have hunf':QR w ad csy.length:=hunf
       have hrun:=YK (w:=w) hT hunf' q4 hcells q5 (by rw [q4]; exact hpos')
       obtain ⟨e1,e2,e3⟩:=Vj ad.block csy ad.off w
       have hadF:ad.block ∈ F:=by
        rcases m4 with ⟨a',ha',hin'⟩ | ⟨ds,hds⟩
        ·cases ha'; exact (m3.mem_iff).2 (by simp [hin'])
        ·cases hds
       have hadY:ad.block ∉ Fy:=(g5 _ hadF).2
       have hmem:∀ b,b<w.heap.size→b ∉ Fx→(∀ a,JC.mem ad=.mem a→b ≠ a.block)→(w.setCells ad.block ad.off csy).heap[b]?=w.heap[b]?:=
        fun b hb hbF hba=>HX _ _ (fun e=>hba ad rfl e) _ _ _
       have hyin:∀ E':Env,E'.w=w.setCells ad.block ad.off csy→InV E' yv csy Fy:=by
        intro E' hE'
        have h1:InV ⟨w.setCells ad.block ad.off csy,(Jc w b1 G1 Fy).S,Kept.K,[],fun _=>none⟩ yv csy Fy:=by
         refine U9 (E:=Jc w b1 G1 Fy) (E':=⟨w.setCells ad.block ad.off csy,(Jc w b1 G1 Fy).S,Kept.K,[],fun _=>none⟩) ⟨fun b hb=>⟨hb,?_⟩,by show _≤(World.setCells _ _ _ _).heap.size; rw [CA]; exact Nat.le_refl _,fun _ _ h=>h⟩ _ (fun s' hs'=>by rw [XJ _ hyo] at hs'; cases hs') (fun b hb=>?_) q2
         ·refine HX _ _ (fun e=>hb.2 ?_) _ _ _
          subst e
          exact .inr ⟨s,c,rc,F,hl,g1,hadF⟩
         ·exact HX _ _ (fun (e:_=ad.block)=>hadY (by rw [← e]; exact hb)) _ _ _
        exact OF (by rw [hE']) yv hyo h1
       obtain ⟨p1,p2,p3⟩:=m5 (w.setCells ad.block ad.off csy) yv csy Fy [] (fun u=>u=s) (fun _ h=>h)
        (fun _ t' ct hct hm=>hns' (Cv hct hm))
        (by rw [hzs,(QC hyf).1])
        (by
         intro hout t' ht'
         obtain ⟨hzo,hzf⟩:J0 z=true∧JI (A.ty t) z=true:=by
          rcases hz with ⟨hzo,hzf⟩ | ⟨ho,_⟩
          ·exact ⟨hzo.elim id (fun h=>by rw [h] at hout; cases hout),hzf⟩
          ·rw [ho] at hout; cases hout
         have s1:=Wh hpl hzf hzo
         have s2:=Wh hpl hyf hyo
         rw [← YJ s1 ht']
         exact s2)
        (by rw [CA]; exact Nat.le_refl _)
        (fun b hb hbF _ hba=>hmem b hb hbF hba)
        (fun _ _=>.inr (.inr trivial))
        (by rw [hzs,← q4]; exact We (Hr hunf') hunf' rfl)
        (Wg (Hr hunf') hunf')
        (by rintro ⟨ds,hd⟩; cases hd)
        (by rw [List.append_nil]; exact q1.ok.xnd)
        (by
         intro b hb
         rw [List.append_nil] at hb
         exact ⟨by rw [CA]; exact q1.ok.xlt b hb,.inr (.inl hb)⟩)
        (fun h=>absurd rfl h) e1 e2 e3 hmem
        (fun _=>hyin _ rfl) (fun _=>hyin _ rfl)
       refine ⟨undef,_,_,.inr ⟨?_,rfl⟩,p1.c,Pu p2 ?_ hpath (hs'.go0 q3),VX.2 ⟨rfl,rfl⟩⟩
       ·simp only [execOp,h,hpx,Sem.run_bind,hrun,Result.andThen_ok,Sem.run_pure]
       ·intro c' rc' F' hl' hg'
        simp only [Jc,J1,if_true,oj,pj] at hl' hg'
        obtain ⟨rfl,_⟩:=hg'
        subst hl'
        refine ⟨c,F,hl,g1,?_,?_⟩
        ·refine (p3 false 1 ?_).mono (by rw [OK]; omega)
         intro q hq x' L' hlq
         have:q=[]:=List.eq_nil_of_length_eq_zero (by omega)
         subst this
         simp only [Jl,oj,pj] at hlq
         obtain ⟨rfl,rfl⟩:=hlq
         exact ⟨z,rfl,fun h=>by cases h⟩
        ·refine (p3 true 0 (fun q hq=>by omega)).mono (by rw [OK]; omega)
      ·simp at hv
     ·simp at hv
    ·simp at hv
   ·simp at hv
  ·simp at hv
 ·simp at hv
theorem Pw (HT:J5 P A.ty) {t:TypeId} {x y:Operand} {co:List JD} (h:o.op=.store t x y)
  (hv:CR (A.ty t) sl b (opd sl x) (opd sl y)=some (co,b1)) (hk:∀ k ∈ co,k.ok):UO P o sl b .void b1:=by
 intro Pn w0 F0 a w hdst hr K Q hK
 obtain ⟨⟨G,hc,hs⟩,hl,hd,hpin⟩:=hr
 obtain ⟨vv,w',G',hrun,k1,k2,k3⟩:=Pv (o:=o) HT hc hs hs h hv hk
 have hrel:=Rel.put (d:=o.dst) k1 k2 hl hd hpin hdst k3
 unfold Oper.wp
 rcases hrun with hrun | ⟨hrun,hvv⟩
 ·rw [hrun]; exact hK _ _ hrel
 ·rw [hrun]; subst hvv; exact hK _ _ hrel
theorem Px (s n m:Nat):∀ (sl:List V),(Hz s n m sl).length=sl.length
 | []=>rfl
 | v :: sl=>by simp only [Hz,List.length_cons,Px s n m sl]
theorem Py (s n m:Nat):∀ (sl:List V) (t:Nat),JN (Hz s n m sl) t=JN sl t ∨ JN (Hz s n m sl) t=.undef
 | [],t=>.inl rfl
 | v :: sl,0=>by
  simp only [Hz,JN]
  split
  ·exact .inl rfl
  ·exact .inr rfl
 | v :: sl,t + 1=>by simpa only [Hz,JN] using Py s n m sl t
theorem jD {E:Env} (s n m:Nat) (h:JQ E sl a):JQ E (Hz s n m sl) a:=fun t=>by
 rcases Py s n m sl t with e | e
 ·rw [e]; exact h t
 ·rw [e]; exact rfl
theorem jE {b b':BL} {vs:List V} {v':V} {c:List JD} (h:inl 9 b (.agg vs)=some (c,v',b')):isA v'=true:=by
 simp only [inl] at h
 split at h
 ·simp only [oj,pj] at h
  obtain ⟨_,rfl,_⟩:=h
  rfl
 ·cases h
def OM (P:Program) (o:Oper) (sl:List V) (b:BL) (sl1:List V) (v:V) (b1:BL):Prop:=
 ∀ {Pn:Nat→Option Value} {w0:World} {F0:List Nat} {a:Act} {w:World},(∀ t,o.dst=some t→Pn t=none)→Rel Pn w0 F0 ⟨sl,b⟩ a w→∀ {K:Act→World→Prop} {Q:Exit→Act→World→Prop},
  (∀ a' w',Rel Pn w0 F0 ⟨QD sl1 o.dst v,b1⟩ a' w'→K a' w')→o.wp P a w K Q
theorem jF (HT:J5 P A.ty) {t:TypeId} {x y:Operand} {co:List JD} {s n m:Nat} (h:o.op=.store t x y)
  (hv:CR (A.ty t) (Hz s n m sl) b (opd sl x) (opd sl y)=some (co,b1)) (hk:∀ k ∈ co,k.ok):OM P o sl b (Hz s n m sl) .void b1:=by
 intro Pn w0 F0 a w hdst hr K Q hK
 obtain ⟨⟨G,hc,hs⟩,hl,hd,hpin⟩:=hr
 obtain ⟨vv,w',G',hrun,k1,k2,k3⟩:=Pv (o:=o) HT hc hs (jD s n m hs) h hv hk
 have hrel:=Rel.put (d:=o.dst) k1 k2 (by rw [Px]; exact hl) hd hpin hdst k3
 unfold Oper.wp
 rcases hrun with hrun | ⟨hrun,hvv⟩
 ·rw [hrun]; exact hK _ _ hrel
 ·rw [hrun]; subst hvv; exact hK _ _ hrel
theorem jG (HT:J5 P A.ty) (hc:Qe w bl G w0 F0) (hs:JQ (Jc w bl G []) sl a) {t:TypeId} {x y:Operand} {co:List JD} {b:BL} (h:o.op=.store t x y)
  (hv:VS (A.ty t) bl (opd sl x) (opd sl y)=some (co,b)) (hk:∀ k ∈ co,k.ok):JH P w0 F0 sl a w o .void b:=by
 have hx:=J6 hs x
 unfold VS at hv
 split at hv
 ·rename_i s p hxe
  split at hv
  ·rename_i c hl
   split at hv
   ·rename_i cs hg
    split at hv
    ·rename_i hchk
     simp only [oj,pj] at hv
     obtain ⟨rfl,rfl⟩:=hv
     rw [Ji,Ji,Ji] at hchk
     obtain ⟨⟨hsl,hfit⟩,hsy,hout⟩:=hchk
     obtain ⟨e,hty⟩:∃ e,A.ty t=.slice e:=by cases hq:A.ty t <;> simp [hq,UC] at hsl; exact ⟨_,rfl⟩
     have hT:=HT t (Cx hfit)
     have hsize:(A.ty t).size=1:=by rw [hty]; rfl
     rw [hxe] at hx
     obtain ⟨c0,rc,F,i1,i2,i3,Lx,csx,Fx,i4,i5,i6,i7,i8,i9⟩:=Uv hc (bl:=bl) (p:=p) (s:=s) (c:=cs) (x:=.undef) (by unfold J9; rw [hl]; exact hg) hk
     rw [hl] at i1; simp only [oj] at i1; subst i1
     obtain ⟨ad,rfl,hpx⟩:=Oy hx (E:=Jc w bl G []) hl i2 i4
     obtain ⟨rc',F',F1,g1,g2,g3,g4,g5⟩:=hc.ok.root s c hl
     rw [i2] at g1; simp only [oj,pj] at g1; obtain ⟨rfl,rfl⟩:=g1
     have hunf:=CB (Jc w bl G []) p c rc F1 (.reg rc) .undef ad g2 ⟨[],by simp⟩ (fun b hb=>by cases hb) i4
     obtain ⟨csy,q1,q2,q3,q4,q5⟩:=V7 hfit (J6 hs y)
     have hzs:vsz .undef=(A.ty t).size:=by rw [hsize]; rfl
     rw [hzs] at hunf
     rw [← q4] at hunf
     have hunf':QR w ad csy.length:=hunf
     have hrun:=YK (w:=w) hT hunf' q4 q3 q5 (by rw [q4,hsize]; decide)
     obtain ⟨csx2,Fx2,Fr,m1,m2,m3,m4,m5⟩:=hc.x.modify hl i2 i4
     obtain ⟨e1,e2,e3⟩:=Vj ad.block csy ad.off w
     have hmem:∀ b,b<w.heap.size→b ∉ Fx2→(∀ a,JC.mem ad=.mem a→b ≠ a.block)→(w.setCells ad.block ad.off csy).heap[b]?=w.heap[b]?:=
      fun b hb hbF hba=>HX _ _ (fun e=>hba ad rfl e) _ _ _
     have hnol:∀ q x' L' (w':World),Jl w' (opd sl y) (.mem ad) q=some (x',L')→q=[]∧x'=opd sl y∧L'=.mem ad:=by
      intro q x' L' w' hq
      cases q with
      | nil=>simp only [Jl,oj,pj] at hq; exact ⟨rfl,hq.1.symm,hq.2.symm⟩
      | cons j q=>
       exfalso
       rw [hty] at hfit
       cases hy:opd sl y <;> rw [hy] at hfit hsy hq <;> simp [JI,US,Jl] at hfit hsy hq
     have hnown:QI (opd sl y)=false:=by
      rw [hty] at hfit
      cases hy:opd sl y <;> rw [hy] at hfit hsy <;> simp [JI,US,QI] at hfit hsy ⊢
     obtain ⟨p1,p2⟩:=m5 (w.setCells ad.block ad.off csy) (opd sl y) csy [] [] (by rw [hzs,(QC hfit).1])
      (by intro ho; rw [hout] at ho; cases ho)
      (by rw [CA]; exact Nat.le_refl _)
      (fun b hb hbF _ hba=>hmem b hb hbF hba)
      (fun _ _=>.inr (.inr trivial))
      (by rw [hzs,← q4]; exact We (Hr hunf') hunf' rfl)
      (Wg (Hr hunf') hunf')
      (by rintro ⟨ds,hd⟩; cases hd)
      (by simp) (by intro b hb; simp at hb)
      (by
       intro q x' L' hq
       obtain ⟨rfl,rfl,rfl⟩:=hnol q x' L' _ hq
       exact ⟨.undef,rfl,fun ho=>by rw [hnown] at ho; cases ho⟩) e1 e2 e3 hmem
      (fun hle=>U9 hle _ (fun s' _ c' rc' F' hlk=>by simp [Jd] at hlk) (fun b hb=>by cases hb) q1)
      (fun hgo=>hgo.inV (fun _ _=>id) (fun b hb=>by cases hb) q1)
     refine ⟨undef,_,_,.inr ⟨?_,rfl⟩,p1.c,hs.go0 p2,VX.2 ⟨rfl,rfl⟩⟩
     simp only [execOp,h,hpx,Sem.run_bind,hrun,Result.andThen_ok,Sem.run_pure]
    ·simp at hv
   ·simp at hv
  ·simp at hv
 ·simp at hv
theorem jH (HT:J5 P A.ty) {t:TypeId} {x y:Operand} {co:List JD} (h:o.op=.store t x y)
  (hv:VS (A.ty t) b (opd sl x) (opd sl y)=some (co,b1)) (hk:∀ k ∈ co,k.ok):UO P o sl b .void b1:=by
 intro Pn w0 F0 a w hdst hr K Q hK
 obtain ⟨⟨G,hc,hs⟩,hl,hd,hpin⟩:=hr
 obtain ⟨vv,w',G',hrun,k1,k2,k3⟩:=jG (o:=o) HT hc hs h hv hk
 have hrel:=Rel.put (d:=o.dst) k1 k2 hl hd hpin hdst k3
 unfold Oper.wp
 rcases hrun with hrun | ⟨hrun,hvv⟩
 ·rw [hrun]; exact hK _ _ hrel
 ·rw [hrun]; subst hvv; exact hK _ _ hrel
theorem jI (HT:J5 P A.ty) {t:TypeId} {x:Operand} {co:List JD} {u:Nat} {z:V} (h:o.op=.box t x) (hv:Ye A sl b o.dst t x=some (co,(v,b1),u,z)) (hk:∀ k ∈ co,k.ok):OM P o sl b (JV sl u z) v b1:=by
 intro Pn w0 F0 a w hdst hr K Q hK
 obtain ⟨⟨G,hc,hs⟩,hl,hd,hpin⟩:=hr
 unfold Ye at hv
 split at hv
 ·rename_i u0
  split at hv
  ·rename_i vs hslot
   split at hv
   ·cases hv
   ·split at hv
    ·rename_i hchk
     rw [Ji] at hchk
     split at hv
     ·rename_i c y b2 hin
      split at hv
      ·rename_i e hde
       split at hv
       ·rename_i hun
        simp only [oj,pj] at hv
        obtain ⟨rfl,⟨rfl,rfl⟩,rfl,rfl⟩:=hv
        have hx:=J6 hs (.tmp u0)
        rw [show opd sl (.tmp u0)=.agg vs from hslot] at hx
        obtain ⟨cs,q1,q2,q3,q4,q5⟩:=V7 hchk.2 hx
        obtain ⟨F',G1,p1,p2,p3⟩:=(OB 9).1 (X:=[]) (F:=[]) hc.x q1 hin hk
        have hs1:=hs.go0 p3
        obtain ⟨k1,k2⟩:=p1.alloc (.cells cs.toArray t)
        have hsame:QN w (w.alloc (.cells cs.toArray t)) F':=fun z hz=>Go.RowKit.Below.heap_alloc w _ z (p1.ok.xlt z (by simp [hz]))
        have hy:=T2 (t:=A.ty t) (k2.inV (fun _ _=>id) hsame p2)
        have hca:QQ (w.alloc (.cells cs.toArray t)) ⟨w.heap.size,0,none⟩ cs:=by
         have:=V3 (w:=w) (cs:=cs) (t:=t) (r:=[])
         rwa [List.append_nil] at this
        have hob:InV (Jc (w.alloc (.cells cs.toArray t)) b2 G1 (w.heap.size :: (F' ++ []))) (.obox (Uo (A.ty t) y)) [.pointer (some ⟨w.heap.size,0,none⟩)] (w.heap.size :: F'):=by
         unfold InV
         exact ⟨_,cs,F',rfl,hy,hca,rfl,by simp [Jc],Vg⟩
        obtain ⟨u1,u2,u3,u4⟩:=CU hun
        obtain ⟨g1,g2⟩:=J3.add (F:=w.heap.size :: F') (X:=[]) k1 u1 u3 hob u4
        have hs2:=(hs1.go0 k2).goes g2 (fun s hs' hst=>u2 (hst ▸ hs'))
        have hb:Jd (JM b2 e (.obox (Uo (A.ty t) y))) e=some (.obox (Uo (A.ty t) y)):=by rw [J1]; simp
        have hg:(fun q=>if q=e then some ([Value.pointer (some ⟨w.heap.size,0,none⟩)],w.heap.size :: F') else G1 q) e=some ([Value.pointer (some ⟨w.heap.size,0,none⟩)],w.heap.size :: F'):=by simp
        have hv1:Val (Jc (w.alloc (.cells cs.toArray t)) (JM b2 e (.obox (Uo (A.ty t) y))) (fun q=>if q=e then some ([Value.pointer (some ⟨w.heap.size,0,none⟩)],w.heap.size :: F') else G1 q) []) (.ptr e [0]) (.pointer (some ⟨w.heap.size,0,none⟩)) []:=by
         have:=Vd (E:=Jc (w.alloc (.cells cs.toArray t)) (JM b2 e (.obox (Uo (A.ty t) y))) (fun q=>if q=e then some ([Value.pointer (some ⟨w.heap.size,0,none⟩)],w.heap.size :: F') else G1 q) []) (s:=e) hb hg (p:=[]) (v:=.obox (Uo (A.ty t) y)) (L:=.reg [Value.pointer (some ⟨w.heap.size,0,none⟩)]) (u:=.pointer (some ⟨w.heap.size,0,none⟩)) (by simp [Jl]) ⟨[],by simp⟩ (g2.inV (fun s hs' hst=>u4 (hst ▸ hs')) (fun b _=>rfl) hob) rfl
         exact this
        have hisA:isA (Uo (A.ty t) y)=true:=by
         have h1:=jE hin
         cases y <;> simp [isA] at h1 ⊢ <;> (cases hA:A.ty t <;> simp [Uo,UI,isA])
        have hv2:Val (Jc (w.alloc (.cells cs.toArray t)) (JM b2 e (.obox (Uo (A.ty t) y))) (fun q=>if q=e then some ([Value.pointer (some ⟨w.heap.size,0,none⟩)],w.heap.size :: F') else G1 q) []) (Qp e [0] (Uo (A.ty t) y)) (a.tmps.getD u0 undef) []:=by
         refine Vd (E:=Jc (w.alloc (.cells cs.toArray t)) (JM b2 e (.obox (Uo (A.ty t) y))) (fun q=>if q=e then some ([Value.pointer (some ⟨w.heap.size,0,none⟩)],w.heap.size :: F') else G1 q) []) (s:=e) hb hg (p:=[0]) (v:=Uo (A.ty t) y) (cs:=cs) (L:=.mem ⟨w.heap.size,0,none⟩) (by simp [Jl,JC.head]) hca (g2.inV (fun s hs' hst=>u4 (hst ▸ by simpa [Jk] using hs')) (fun b _=>rfl) hy) ?_
         unfold Qq at q2 ⊢
         rw [hisA]
         simpa [isA,Act.eval] using q2
        have hs3:JQ (Jc (w.alloc (.cells cs.toArray t)) (JM b2 e (.obox (Uo (A.ty t) y))) (fun q=>if q=e then some ([Value.pointer (some ⟨w.heap.size,0,none⟩)],w.heap.size :: F') else G1 q) []) (JV sl u0 (Qp e [0] (Uo (A.ty t) y))) a:=by
         intro t'
         rw [OE]
         split
         ·rename_i ht; rw [ht.1]; exact hv2
         ·exact hs2 t'
        have hrel:=Rel.put (d:=o.dst) g1.c hs3 (by rw [Vo]; exact hl) hd hpin hdst hv1
        have hrun:(execOp a.eval o).run P w=.ok (.value (.pointer (some ⟨w.heap.size,0,none⟩))) (w.alloc (.cells cs.toArray t)):=by
         simp [execOp,h,Instr.box,newVar,newRow,q3]
        unfold Oper.wp
        rw [hrun]
        exact hK _ _ hrel
       ·cases hv
      ·cases hv
     ·cases hv
    ·cases hv
  ·cases hv
 ·cases hv
mutual
theorem WE:∀ (x y:V),QE x y=true→vsz y=vsz x∧isA y=isA x∧(QI y=true→QI x=true)∧∀ t,shp t x=true→shp t y=true
 | .int k _,y,h=>by
  cases y <;> simp [QE] at h
  exact ⟨rfl,rfl,id,fun t ht=>by cases t <;> simp [shp] at ht ⊢; rw [UV ht,UV h]; exact WY _⟩
 | .bool _,y,h=>by
  cases y <;> simp [QE] at h
  exact ⟨rfl,rfl,id,fun t ht=>by cases t <;> simp [shp] at ht ⊢⟩
 | .str _,y,h=>by
  cases y <;> simp [QE] at h
  exact ⟨rfl,rfl,id,fun t ht=>by cases t <;> simp [shp] at ht ⊢⟩
 | .own e _,y,h=>by
  cases y <;> simp [QE] at h
  rw [Ty.beq_eq _ _ h]
  exact ⟨rfl,rfl,id,fun t ht=>TC ht⟩
 | .arr n e _,y,h=>by
  cases y <;> simp [QE,Ji] at h
  rw [← h.1,← Ty.beq_eq _ _ h.2]
  exact ⟨rfl,rfl,id,fun t ht=>TD ht⟩
 | .agg vs,y,h=>by
  cases y with
  | agg xs=>
   unfold QE at h
   obtain ⟨h1,h2⟩:=Pz vs xs h
   refine ⟨h1,rfl,id,fun t ht=>?_⟩
   cases t <;> simp only [shp] at ht ⊢ <;> first | exact h2 _ ht | cases ht
  | _=>simp [QE] at h
 | .undef,y,h=>by simp [QE] at h
 | .void,y,h=>by simp [QE] at h
 | .rd _ _,y,h=>by simp [QE] at h
 | .lst _ _,y,h=>by simp [QE] at h
 | .nilsl,y,h=>by simp [QE] at h
 | .emp _,y,h=>by simp [QE] at h
 | .obox _,y,h=>by simp [QE] at h
 | .rp _,y,h=>by simp [QE] at h
 | .full _ _ _,y,h=>by simp [QE] at h
 | .sub _ _ _ _ _,y,h=>by simp [QE] at h
 | .ptr _ _,y,h=>by simp [QE] at h
 | .fn _ _,y,h=>by simp [QE] at h
 | .nilfn,y,h=>by simp [QE] at h
 | .nilptr,y,h=>by simp [QE] at h
 | .tup _,y,h=>by simp [QE] at h
theorem Pz:∀ (xs ys:List V),Cb xs ys=true→JJ ys=JJ xs∧∀ ts,QA ts xs=true→QA ts ys=true
 | [],ys,h=>by
  cases ys with
  | nil=>exact ⟨rfl,fun _ h=>h⟩
  | cons _ _=>simp [Cb] at h
 | x :: xs,ys,h=>by
  cases ys with
  | nil=>simp [Cb] at h
  | cons y ys=>
   unfold Cb at h
   rw [Ji] at h
   obtain ⟨h1,_,_,h2⟩:=WE x y h.1
   obtain ⟨h3,h4⟩:=Pz xs ys h.2
   refine ⟨by simp [JJ,h1,h3],fun ts ht=>?_⟩
   cases ts with
   | nil=>simp [QA] at ht
   | cons t ts=>
    unfold QA at ht ⊢
    rw [Ji] at ht ⊢
    exact ⟨h2 t ht.1,h4 ts ht.2⟩
end
theorem PA:∀ {p q:List Nat} {c:List JD},eqP p q=some c→(∀ k ∈ c,k.ok)→p=q
 | [],[],c,h,hk=>rfl
 | [],_ :: _,c,h,hk=>by simp [eqP] at h
 | _ :: _,[],c,h,hk=>by simp [eqP] at h
 | a :: p,b :: q,c,h,hk=>by
  simp only [eqP] at h
  split at h
  ·rename_i c' hc
   simp only [oj] at h
   subst h
   have h1:a≤b:=hk (.le a b) (by simp)
   have h2:b≤a:=hk (.le b a) (by simp)
   rw [PA hc (fun k hk'=>hk k (by simp [hk'])),Nat.le_antisymm h1 h2]
  ·cases h
mutual
theorem PB {E:Env} {s:Nat} {c0:V} {rc:List Value} {F:List Nat} (hl:Jd E.bl s=some c0) (hg:E.G s=some (rc,F)):∀ (v x:V) {p:List Nat} {cs cx:List Value} {Fx:List Nat} {L:JC} {c:List JD},
  alC s p v x=some c→(∀ k ∈ c,k.ok)→Jl E.w c0 (.reg rc) p=some (x,L)→L.holds E.w cx→InV E x cx Fx→InV E v cs []→cs=cx∧isA v=isA x
 | .full t q e,x,p,cs,cx,Fx,L,c,h,hk,h1,h2,h3,h4=>by
  cases x <;> simp only [alC] at h <;> try (cases h; done)
  split at h
  ·rename_i hts
   have:=Nat.eq_of_beq_eq_true hts
   subst this
   have:=PA h hk
   subst this
   unfold InV at h4
   obtain ⟨_,_,h5⟩:=h4
   obtain ⟨u,g1,g2⟩:=h5 c0 rc F hl hg _ L h1 rfl
   unfold InV at h3
   obtain ⟨_,Ad,cap,hcs,_⟩:=h3
   rw [hcs] at h2
   rw [J7 h2] at g1
   simp only [oj] at g1
   rw [g2,hcs,g1]
   exact ⟨rfl,rfl⟩
  ·cases h
 | .int k n,x,p,cs,cx,Fx,L,c,h,hk,h1,h2,h3,h4=>by
  cases x <;> simp only [alC] at h <;> try (cases h; done)
  split at h
  ·rename_i hkk
   simp only [oj] at h
   subst h
   have he:n=_:=hk _ (List.mem_singleton.2 rfl)
   unfold InV at h3 h4
   rw [h3.1,h4.1,he,UV hkk]
   exact ⟨rfl,rfl⟩
  ·cases h
 | .bool n,x,p,cs,cx,Fx,L,c,h,hk,h1,h2,h3,h4=>by
  cases x <;> simp only [alC] at h <;> try (cases h; done)
  simp only [oj] at h
  subst h
  have he:n=_:=hk _ (List.mem_singleton.2 rfl)
  unfold InV at h3 h4
  rw [h3.1,h4.1,he]
  exact ⟨rfl,rfl⟩
 | .agg vs,x,p,cs,cx,Fx,L,c,h,hk,h1,h2,h3,h4=>by
  cases x <;> simp only [alC] at h <;> try (cases h; done)
  rename_i xs
  unfold InV at h3 h4
  refine ⟨PC hl hg vs xs (L:=L) (j:=0) h hk (fun i x hi=>?_) h2 h3 h4,rfl⟩
  rw [Hd,h1]
  simp [Jl,hi]
 | .undef,x,p,cs,cx,Fx,L,c,h,hk,h1,h2,h3,h4=>by simp [alC] at h
 | .void,x,p,cs,cx,Fx,L,c,h,hk,h1,h2,h3,h4=>by simp [alC] at h
 | .str _,x,p,cs,cx,Fx,L,c,h,hk,h1,h2,h3,h4=>by simp [alC] at h
 | .arr _ _ _,x,p,cs,cx,Fx,L,c,h,hk,h1,h2,h3,h4=>by simp [alC] at h
 | .own _ _,x,p,cs,cx,Fx,L,c,h,hk,h1,h2,h3,h4=>by simp [alC] at h
 | .rd _ _,x,p,cs,cx,Fx,L,c,h,hk,h1,h2,h3,h4=>by simp [alC] at h
 | .lst _ _,x,p,cs,cx,Fx,L,c,h,hk,h1,h2,h3,h4=>by simp [alC] at h
 | .nilsl,x,p,cs,cx,Fx,L,c,h,hk,h1,h2,h3,h4=>by simp [alC] at h
 | .emp _,x,p,cs,cx,Fx,L,c,h,hk,h1,h2,h3,h4=>by simp [alC] at h
 | .obox _,x,p,cs,cx,Fx,L,c,h,hk,h1,h2,h3,h4=>by simp [alC] at h
 | .rp _,x,p,cs,cx,Fx,L,c,h,hk,h1,h2,h3,h4=>by simp [alC] at h
 | .sub _ _ _ _ _,x,p,cs,cx,Fx,L,c,h,hk,h1,h2,h3,h4=>by simp [alC] at h
 | .ptr _ _,x,p,cs,cx,Fx,L,c,h,hk,h1,h2,h3,h4=>by simp [alC] at h
 | .fn _ _,x,p,cs,cx,Fx,L,c,h,hk,h1,h2,h3,h4=>by simp [alC] at h
 | .nilfn,x,p,cs,cx,Fx,L,c,h,hk,h1,h2,h3,h4=>by simp [alC] at h
 | .nilptr,x,p,cs,cx,Fx,L,c,h,hk,h1,h2,h3,h4=>by simp [alC] at h
 | .tup _,x,p,cs,cx,Fx,L,c,h,hk,h1,h2,h3,h4=>by simp [alC] at h
theorem PC {E:Env} {s:Nat} {c0:V} {rc:List Value} {F:List Nat} (hl:Jd E.bl s=some c0) (hg:E.G s=some (rc,F)):∀ (vs xs:List V) {p:List Nat} {j:Nat} {cs cx:List Value} {Fx:List Nat} {L:JC} {c:List JD},
  O0 s p j vs xs=some c→(∀ k ∈ c,k.ok)→(∀ i x,nth xs i=some x→Jl E.w c0 (.reg rc) (p ++ [j + i])=some (x,L.shift (JJ (xs.take i))))→L.holds E.w cx→JB E xs cx Fx→JB E vs cs []→cs=cx
 | [],xs,p,j,cs,cx,Fx,L,c,h,hk,h1,h2,h3,h4=>by
  cases xs with
  | nil=>unfold JB at h3 h4; rw [h3.1,h4.1]
  | cons _ _=>simp [O0] at h
 | v :: vs,xs,p,j,cs,cx,Fx,L,c,h,hk,h1,h2,h3,h4=>by
  cases xs with
  | nil=>simp [O0] at h
  | cons x xs=>
   simp only [O0] at h
   split at h
   ·rename_i c1 e1
    split at h
    ·rename_i c2 e2
     simp only [oj] at h
     subst h
     obtain ⟨hk1,hk2⟩:=Q4 hk
     unfold JB at h3 h4
     obtain ⟨a1,a2,F1,F2,e3,e4,i1,i2⟩:=h3
     obtain ⟨b1,b2,K1,K2,e5,e6,j1,j2⟩:=h4
     obtain ⟨rfl,rfl⟩:=List.append_eq_nil_iff.1 e6.symm
     subst e3; subst e5
     have g0:=h1 0 x rfl
     have hsh0:L.shift 0=L:=by cases L <;> simp [JC.shift,Addr.add]
     simp only [Nat.add_zero,List.take_zero,JJ,hsh0] at g0
     have r1:=(PB hl hg v x e1 hk1 (by rw [Qg]; exact g0) (W3 h2) i1 j1).1
     have r2:=PC hl hg vs xs (L:=L.shift a1.length) e2 hk2 (fun i y hi=>by
      have:=h1 (i + 1) y (by simpa [nth] using hi)
      rw [CT,Qv x i1]
      simp only [List.take_succ_cons,JJ] at this
      rw [show j + 1 + i=j + (i + 1) by omega]
      exact this) (W4 h2) i2 j2
     rw [r1,r2]
    ·cases h
   ·cases h
end
theorem jJ {E:Env} {s:Nat} {c0:V} {rc:List Value} {F:List Nat} (hl:Jd E.bl s=some c0) (hg:E.G s=some (rc,F)) {v x:V} {p:List Nat} {cs cx:List Value} {Fx:List Nat} {L:JC} {c:List JD} (hv:VP v=some (s,p))
  (h:WX s p v x=some c) (hk:∀ k ∈ c,k.ok) (h1:Jl E.w c0 (.reg rc) p=some (x,L)) (h2:L.holds E.w cx) (h3:InV E x cx Fx) (h4:InV E v cs []):cs=cx∧isA v=isA x:=by
 unfold WX at h
 split at h
 ·rename_i t q e
  simp only [VP,oj,pj] at hv
  obtain ⟨rfl,rfl⟩:=hv
  split at h
  ·unfold InV at h4
   obtain ⟨_,_,h5⟩:=h4
   obtain ⟨u,g1,g2⟩:=h5 c0 rc F hl hg _ L h1 rfl
   unfold InV at h3
   obtain ⟨_,Ad,cap,hcs,_⟩:=h3
   rw [hcs] at h2
   rw [J7 h2] at g1
   simp only [oj] at g1
   rw [g2,hcs,g1]
   exact ⟨rfl,rfl⟩
  ·cases h
 ·exact PB hl hg v x h hk h1 h2 h3 h4
theorem PD {f:FuncId} {E E':Env} (hg:JP E E' (fun _=>False)) {x v:V} {Fx:List Nat}:∀ {vs:List V} {i:Nat} {us:List Value},Up A f i vs=some v→Tup E vs us []→(∀ u,One E v u []→One E' x u Fx)→UF E' (fun j=>He (A.mode f j)) i (Ca A f x i vs) us Fx
 | [],i,us,h,_,_=>by simp [Up] at h
 | y :: vs,i,us,h,⟨u,r,F1,F2,e1,e2,h1,h2⟩,hx=>by
  obtain ⟨rfl,rfl⟩:=List.append_eq_nil_iff.1 e2.symm
  subst e1
  have up:One E y u []→One E' y u []:=fun ⟨cs,i1,i2⟩=>⟨cs,hg.inV (fun _ _=>id) (fun b hb=>by cases hb) i1,i2⟩
  have other:He (A.mode f i)=false→Up A f (i + 1) vs=some v→Ca A f x i (y :: vs)=y :: Ca A f x (i + 1) vs→UF E' (fun j=>He (A.mode f j)) i (Ca A f x i (y :: vs)) (u :: r) Fx:=by
   intro hm ho hp
   rw [hp]
   exact ⟨u,r,[],Fx,rfl,rfl,up h1,fun _=>rfl,PD hg ho h2 hx⟩
  cases hm:A.mode f i with
  | io=>
   simp only [Up,hm] at h
   simp only [Ca,hm]
   split at h
   ·cases h
   ·rename_i hany
    simp only [oj] at h
    subst h
    have rest:∀ {vs:List V} {j:Nat} {us:List Value},UD A f j vs=false→Tup E vs us []→UF E' (fun j=>He (A.mode f j)) j vs us []:=by
     intro vs
     induction vs with
     | nil=>intro j us _ h; exact h
     | cons z vs ih=>
      rintro j us ha ⟨u',r',K1,K2,k1,k2,k3,k4⟩
      obtain ⟨rfl,rfl⟩:=List.append_eq_nil_iff.1 k2.symm
      obtain ⟨cs,i1,i2⟩:=k3
      refine ⟨u',r',[],[],k1,rfl,⟨cs,hg.inV (fun _ _=>id) (fun b hb=>by cases hb) i1,i2⟩,fun _=>rfl,ih ?_ k4⟩
      simp only [UD] at ha
      split at ha
      ·cases ha
      ·cases ha
      ·exact ha
    exact ⟨u,r,Fx,[],rfl,by simp,hx u h1,fun hf=>(by have hf':He (A.mode f i)=false:=hf; rw [hm] at hf'; cases hf'),rest hany h2⟩
  | take=>simp only [Up,hm] at h; cases h
  | lend=>exact other (by rw [hm]; rfl) (by simpa only [Up,hm] using h) (by simp only [Ca,hm])
  | keep=>exact other (by rw [hm]; rfl) (by simpa only [Up,hm] using h) (by simp only [Ca,hm])
theorem PE {f:FuncId} {E E':Env} {v y:V} {Fo:List Nat}:∀ {vs outs:List V} {i:Nat} {us:List Value},Up A f i vs=some v→Cq A f i vs outs=some y→Tup E vs us []→CE E' (fun j=>Qh (A.mode f j)) i outs us Fo→∃ u,One E v u []∧One E' y u Fo
 | [],outs,i,us,h,_,_,_=>by simp [Up] at h
 | z :: vs,[],i,us,h,h',_,_=>by simp [Cq] at h'
 | z :: vs,o :: outs,i,us,h,h',⟨u,r,F1,F2,e1,e2,h1,h2⟩,⟨u',r',K1,K2,k1,k2,k3,k4,k5⟩=>by
  obtain ⟨rfl,rfl⟩:=List.append_eq_nil_iff.1 e2.symm
  rw [e1] at k1
  simp only [List.cons.injEq] at k1
  obtain ⟨rfl,rfl⟩:=k1
  have other:Qh (A.mode f i)=false→Up A f (i + 1) vs=some v→Cq A f (i + 1) vs outs=some y→∃ u,One E v u []∧One E' y u Fo:=by
   intro hm ho hp
   have:=k4 hm
   subst this
   subst k2
   exact PE ho hp h2 k5
  cases hm:A.mode f i with
  | io=>
   simp only [Up,hm] at h
   simp only [Cq,hm,oj] at h'
   subst h'
   split at h
   ·cases h
   ·rename_i hany
    simp only [oj] at h
    subst h
    have rest:∀ {vs outs:List V} {j:Nat} {us:List Value} {K:List Nat},UD A f j vs=false→Tup E vs us []→CE E' (fun j=>Qh (A.mode f j)) j outs us K→K=[]:=by
     intro vs
     induction vs with
     | nil=>
      rintro outs j us K _ ⟨rfl,_⟩ ho
      cases outs with
      | nil=>exact ho.2
      | cons o outs=>obtain ⟨_,_,_,_,q,_⟩:=ho; cases q
     | cons z vs ih=>
      rintro outs j us K ha ⟨u',r',L1,L2,l1,l2,l3,l4⟩ ho
      obtain ⟨rfl,rfl⟩:=List.append_eq_nil_iff.1 l2.symm
      simp only [UD] at ha
      split at ha
      ·cases ha
      ·cases ha
      ·rename_i hm' hm''
       cases outs with
       | nil=>exact ho.2
       | cons o outs=>
        obtain ⟨u2,r2,M1,M2,n1,n2,n3,n4,n5⟩:=ho
        rw [l1] at n1
        simp only [List.cons.injEq] at n1
        obtain ⟨rfl,rfl⟩:=n1
        have hf:Qh (A.mode f j)=false:=by
         cases hq:A.mode f j with
         | io=>exact absurd hq hm'
         | take=>rfl
         | lend=>rfl
         | keep=>rfl
        rw [n2,n4 hf,ih ha l4 n5]; rfl
    have:=rest hany h2 k5
    subst this
    rw [List.append_nil] at k2
    subst k2
    exact ⟨u,h1,k3 (by show Qh (A.mode f i)=true; rw [hm]; rfl)⟩
  | take=>simp only [Up,hm] at h; cases h
  | lend=>exact other (by rw [hm]; rfl) (by simpa only [Up,hm] using h) (by simpa only [Cq,hm] using h')
  | keep=>exact other (by rw [hm]; rfl) (by simpa only [Up,hm] using h) (by simpa only [Cq,hm] using h')
theorem jK {f:FuncId}:∀ {vs:List V} {i:Nat} {v:V} {E:Env} {us:List Value},Up A f i vs=some v→Tup E vs us []→∃ u,One E v u []
 | [],i,v,E,us,h,_=>by simp [Up] at h
 | z :: vs,i,v,E,us,h,⟨u,r,F1,F2,e1,e2,h1,h2⟩=>by
  obtain ⟨rfl,rfl⟩:=List.append_eq_nil_iff.1 e2.symm
  simp only [Up] at h
  split at h
  ·split at h
   ·cases h
   ·simp only [oj] at h
    subst h
    exact ⟨u,h1⟩
  ·cases h
  ·exact jK h h2
theorem PF (a b:Nat):Ol a b≤a∧Ol a b≤b:=by
 unfold Ol
 cases h:Nat.ble a b with
 | true=>exact ⟨Nat.le_refl _,Nat.le_of_ble_eq_true h⟩
 | false=>
  have:¬ a≤b:=fun hn=>by rw [Nat.ble_eq_true_of_le hn] at h; cases h
  exact ⟨by show b≤a; omega,Nat.le_refl _⟩
theorem jL (a b k:Nat):Ol (k + a) (k + b)=k + Ol a b:=by
 unfold Ol
 cases h:Nat.ble a b with
 | true=>rw [Nat.ble_eq_true_of_le (show k + a≤k + b by have:=Nat.le_of_ble_eq_true h; omega)]
 | false=>
  have h1:¬ a≤b:=fun hn=>by rw [Nat.ble_eq_true_of_le hn] at h; cases h
  cases h2:Nat.ble (k + a) (k + b) with
  | true=>exact absurd (Nat.le_of_ble_eq_true h2) (by omega)
  | false=>rfl
mutual
theorem Kq (k:Nat):∀ (v:V),Qx k v=k + Qx 0 v
 | .agg vs=>by simp only [Qx]; rw [PG k vs]; rfl
 | .int _ _=>by simp [Qx]
 | .bool _=>by simp [Qx]
 | .str _=>by simp [Qx]
 | .undef=>by simp [Qx]
 | .void=>by simp [Qx]
 | .arr _ _ _=>by simp [Qx]
 | .own _ _=>by simp [Qx]
 | .rd _ _=>by simp [Qx]
 | .lst _ _=>by simp [Qx]
 | .nilsl=>by simp [Qx]
 | .emp _=>by simp [Qx]
 | .obox _=>by simp [Qx]
 | .rp _=>by simp [Qx]
 | .full _ _ _=>by simp [Qx]
 | .sub _ _ _ _ _=>by simp [Qx]
 | .ptr _ _=>by simp [Qx]
 | .fn _ _=>by simp [Qx]
 | .nilfn=>by simp [Qx]
 | .nilptr=>by simp [Qx]
 | .tup _=>by simp [Qx]
theorem PG (k:Nat):∀ (vs:List V),Om k vs=k + Om 0 vs
 | []=>by simp [Om]
 | v :: vs=>by simp only [Om]; rw [Kq k v,PG k vs,jL]
end
theorem PH:∀ {vs:List V} {j:Nat} {x:V},nth vs j=some x→Om 0 vs≤Qx 0 x
 | [],j,x,h=>by simp [nth] at h
 | v :: vs,0,x,h=>by
  simp only [nth,oj] at h
  subst h
  exact (PF _ _).1
 | v :: vs,j + 1,x,h=>by
  simp only [nth] at h
  exact Nat.le_trans (PF _ _).2 (PH h)
theorem PI:∀ {xs ys:List V} {j:Nat} {y:V},Cb xs ys=true→nth ys j=some y→∃ x,nth xs j=some x∧QE x y=true∧JJ (ys.take j)=JJ (xs.take j)
 | [],ys,j,y,h,hj=>by
  cases ys with
  | nil=>simp [nth] at hj
  | cons _ _=>simp [Cb] at h
 | x :: xs,[],j,y,h,hj=>by simp [nth] at hj
 | x :: xs,y0 :: ys,0,y,h,hj=>by
  unfold Cb at h
  rw [Ji] at h
  simp only [nth,oj] at hj
  subst hj
  exact ⟨x,rfl,h.1,rfl⟩
 | x :: xs,y0 :: ys,j + 1,y,h,hj=>by
  unfold Cb at h
  rw [Ji] at h
  simp only [nth] at hj
  obtain ⟨x',h1,h2,h3⟩:=PI h.2 hj
  exact ⟨x',h1,h2,by simp only [List.take_succ_cons,JJ,h3,(WE x y0 h.1).1]⟩
theorem jM {w w2:World}:∀ (x y:V),QE x y=true→∀ {cs:List Value} {L:JC},cs.length=vsz x→L.holds w cs→L.holds w2 cs→∀ (q:List Nat),q.length<Qx 0 x→∀ x' L',Jl w2 y L q=some (x',L') →
  ∃ x0,Jl w x L q=some (x0,L')∧(QI x'=true→QI x0=true∧L'.head w2=L'.head w):=by
 intro x y hlike cs L hlen h1 h2 q
 induction q generalizing x y cs L with
 | nil=>
  intro _ x' L' hl
  simp only [Jl,oj,pj] at hl
  obtain ⟨rfl,rfl⟩:=hl
  refine ⟨x,rfl,fun ho=>⟨(WE x y hlike).2.2.1 ho,?_⟩⟩
  have hs:vsz x=1:=by
   have:=(WE x y hlike).1
   rw [← this]
   cases y <;> first | rfl | (simp [QI] at ho)
  rw [hs] at hlen
  obtain ⟨v,rfl⟩:=List.length_eq_one_iff.1 hlen
  rw [J7 h1,J7 h2]
 | cons j q ih=>
  intro hq x' L' hl
  cases y with
  | agg ys=>
   cases x with
   | agg xs=>
    simp only [QE] at hlike
    simp only [Jl] at hl ⊢
    cases hj:nth ys j with
    | none=>rw [hj] at hl; cases hl
    | some y1=>
     rw [hj] at hl
     simp only at hl
     obtain ⟨x1,k1,k2,k3⟩:=PI hlike hj
     rw [k3] at hl
     rw [k1]
     simp only
     have hsz:=O7 k1
     simp only [vsz] at hlen
     refine ih x1 y1 k2 (cs:=(cs.drop (JJ (xs.take j))).take (vsz x1)) (by rw [List.length_take,List.length_drop]; omega) ?_ ?_ ?_ x' L' hl
     ·exact O8 h1 (by rw [List.length_take,List.length_drop]; omega) (fun k hk=>by
       rw [List.length_take,List.length_drop] at hk
       rw [List.getElem?_take_of_lt (by omega),List.getElem?_drop])
     ·exact O8 h2 (by rw [List.length_take,List.length_drop]; omega) (fun k hk=>by
       rw [List.length_take,List.length_drop] at hk
       rw [List.getElem?_take_of_lt (by omega),List.getElem?_drop])
     ·simp only [Qx,List.length_cons] at hq
      have:=PH k1
      omega
   | _=>simp [QE] at hlike
  | int k n=>simp [Jl] at hl
  | bool b=>simp [Jl] at hl
  | str b=>simp [Jl] at hl
  | own e l=>cases x <;> simp [QE] at hlike; simp [Qx] at hq
  | arr n e l=>cases x <;> simp [QE] at hlike; simp [Qx] at hq
  | _=>cases x <;> simp [QE] at hlike
theorem jN {cl:Call} {fo:Operand} {g:FuncId} {caps:List V} (ho:o.op=.call cl) (hcal:cl.callee=.value fo) (hf:opd sl fo=.fn g caps)
  {ts:List Ty} (hnt:QX (JF sl cl.args.toList)=true) (hna:Hy caps=true)
  {s:Nat} {p:List Nat} {vio c0 x y:V} (hone:Up A g 0 (cat (JF sl cl.args.toList) caps)=some vio) (hloc:VP vio=some (s,p)) (hl0:Jd b s=some c0) (hc0:J0 c0=true) (hxo:J0 x=true)
  {c1 c2 c3:List JD} (hget:c0.get p=some (c1,x)) (hns:Qb (JK b) s=false) (hpath:UU s (Qx (Un p) x) (Qx (Un p) x) sl=true) (hal:WX s p vio x=some c2)
  {ws:List V} {res:V} {outs:List V} (hp:Q6 A g (Qk b s) 0 ts (Ca A g x 0 (cat (JF sl cl.args.toList) caps))=some (c3,ws)) (hk:∀ x ∈ cat c1 (cat c2 c3),x.ok)
  (hco:HF P (fun i=>Qh (A.mode g i)) g ws res outs) (hout:Cq A g 0 (cat (JF sl cl.args.toList) caps) outs=some y) (how:Qj res=true) (hoy:J0 y=true) (hlike:QE x y=true)
  (hpl:Q9 sl (JM b s (c0.set p y)) o.dst res=some (v,b1)):UO P o sl b v b1:=by
 intro Pn w0 F0 a w hdst hr K Q hK
 obtain ⟨⟨G,hc,hs⟩,hl,hd,hpin⟩:=hr
 obtain ⟨k1,k3⟩:=hco
 obtain ⟨fn,j1,j2,j3⟩:=k1
 obtain ⟨hk1,hk23⟩:=Q4 hk
 obtain ⟨hk2,hk3⟩:=Q4 hk23
 have hfv:=J6 hs fo
 rw [hf] at hfv
 have hfv':=(J2 rfl (by simp) (by simp)).1 hfv
 unfold InV at hfv'
 obtain ⟨vals,hfe,hcaps,_⟩:=hfv'
 simp only [List.cons.injEq,and_true] at hfe
 rw [Qg] at hp hone hout
 have hargs:Tup (Jc w b G []) (JF sl cl.args.toList ++ caps) (cl.args.toList.map a.eval ++ vals.toList) []:=by
  have:=Xr (Xp (io:=fun j=>He (A.mode g j)) (i:=0) hs hnt) (Xq (i:=0 + (JF sl cl.args.toList).length) hna hcaps)
  exact Kn (by simpa using this)
 obtain ⟨rc,F,F1,g1,g2,g3,g4,g5⟩:=hc.ok.root s c0 hl0
 obtain ⟨Lx,i4⟩:=HD (Jc w b G []) p c0 rc F1 (.reg rc) c1 x g2 ⟨[],by simp⟩ hget hk1
 obtain ⟨csx,Fx,Fr,m1,m2,m3,m4,m5⟩:=hc.x.modifyN hl0 g1 i4
 have hnd:=(List.nodup_append.1 ((m3.nodup_iff).1 g4))
 have hFxF:∀ q ∈ Fx,q ∈ F:=fun q hq=>(m3.mem_iff).2 (by simp [hq])
 have arg:∀ u,One (Jc w b G []) vio u []→Qq x csx u:=by
  rintro u ⟨cs,r1,r2⟩
  obtain ⟨r3,r4⟩:=jJ (E:=Jc w b G []) hl0 g1 hloc hal hk2 i4 m2 m1 r1
  rw [← r3]
  unfold Qq at r2 ⊢
  rw [← r4]
  exact r2
 obtain ⟨rc',F',Fc,d1,d2,d3,d4,d5⟩:=hc.x.drop hl0
 rw [g1] at d1
 simp only [oj,pj] at d1
 obtain ⟨rfl,rfl⟩:=d1
 have hargs2:=PD (A:=A) (f:=g) (x:=x) (Fx:=Fx) d5 hone hargs (fun u hu=>⟨csx,OF (by rfl) x hxo m1,arg u hu⟩)
 have htup:=(YU (Y:=Fx) d4.ok (fun q hm=>by simp [(d2.mem_iff).2 (hFxF q hm)]) hargs2 hp hk3).1
 have hcalls:=k3 (fun _=>True) w (cl.args.toList.map a.eval ++ vals.toList) Fx htup hnd.2.1 (fun q hq=>(g5 q (hFxF q hq)).1)
 have hrun:(execOp a.eval o).run P w=.ok (.enter g (cl.args.toList.map a.eval ++ vals.toList).toArray) w:=by
  have hcf:=YW (P:=P) (w:=w) (args:=(cl.args.toList.map a.eval ++ vals.toList).toArray) j1 j2 j3
  have he:(cl.args.toList.map a.eval ++ vals.toList).toArray=cl.args.map a.eval ++ vals:=by apply Array.ext'; simp
  rw [he] at hcf ⊢
  simp [execOp,ho,resolve,hcal,hfe,Deferred.ofValue,invoke,hcf]
 unfold Oper.wp
 rw [hrun,Oper.upon_enter]
 refine Calls.mono hcalls ?_
 rintro e w2 ⟨v2,Fr2,Fo,rfl,q1,q2,q3,q4,q5,q6,q7,q8,q9⟩
 obtain ⟨u,hu,cs',o1,o2⟩:=PE hone hout hargs q2
 obtain ⟨l1,l2,l3,l4⟩:=WE x y hlike
 have hcsy:cs'=csx:=by
  refine Pj o2 ?_
  have:=arg u hu
  unfold Qq at this ⊢
  rw [l2]
  exact this
 subst hcsy
 have hLb:∀ ad,Lx=.mem ad→w2.heap[ad.block]?=w.heap[ad.block]?:=by
  intro ad had
  rcases m4 with ⟨a',ha',hin⟩ | ⟨ds,hds⟩
  ·rw [had] at ha'; cases ha'
   have hmF:ad.block ∈ F:=(m3.mem_iff).2 (by simp [hin])
   exact q5 _ (g5 _ hmF).1 (fun hx=>hnd.2.2 _ hin _ hx rfl)
  ·rw [had] at hds; cases hds
 have hmem:∀ q,q<w.heap.size→q ∉ Fx→(∀ a,Lx=.mem a→q ≠ a.block)→w2.heap[q]?=w.heap[q]?:=fun q hq hx _=>q5 q hq hx
 have hhead:Lx.head w2=Lx.head w:=by
  cases Lx with
  | reg ds=>rfl
  | mem ad=>exact Oo (hLb ad rfl)
 obtain ⟨t1,t2,t3⟩:=m5 w2 y cs' Fo Fr2 (fun t=>t=s) (fun _ h=>h) (fun _ t ct hct hm=>Oa hns (Cv hct hm))
  l1 (fun _=>l4) q6 (fun q hq hx _ hne=>hmem q hq hx hne) (fun _ _=>.inr (.inr trivial))
  (by
   cases Lx with
   | reg ds=>trivial
   | mem ad=>
    intro bb hbb hsp
    have hblk:=hLb ad rfl
    rw [← hbb] at hblk
    exact ⟨fun _=>Oo hblk,Yg hblk,fun ⟨z,hz⟩=>⟨z,by rw [Oo hblk]; exact hz⟩⟩)
  (Ce m2 hLb) (fun _=>rfl)
  ((List.perm_append_comm.nodup_iff).1 q3)
  (by
   intro q hq
   have:=q4 q (by
    rcases List.mem_append.1 hq with h | h
    ·exact List.mem_append.2 (.inr h)
    ·exact List.mem_append.2 (.inl h))
   exact ⟨this.1,this.2.elim .inl (fun h=>.inr (.inr h))⟩)
  (fun h=>absurd rfl h) q7 q8 q9 hmem
  (fun _=>OF (by rfl) y hoy o1) (fun _=>OF (by rfl) y hoy o1)
 have hs2:=Pu (m:=Qx (Un p) x) (n:=Qx (Un p) x) t2 (by
  intro c' rc2 F2 hl' hg'
  simp only [Jc,J1,if_true,oj,pj] at hl' hg'
  obtain ⟨rfl,_⟩:=hg'
  subst hl'
  have base:∀ al,Q3 al (Qx 0 x) w w2 x y Lx:=by
   intro al q hq x' L' hlq
   obtain ⟨x1,z1,z2⟩:=jM x y hlike (Qv _ m1) m2 (Ce m2 hLb) q hq x' L' hlq
   exact ⟨x1,z1,fun _=>z2⟩
  exact ⟨c0,F,hl0,g1,(t3 false _ (base _)).mono (by rw [Kq,OK]; omega),(t3 true _ (base _)).mono (by rw [Kq,OK]; omega)⟩) hpath hs
 obtain ⟨G',s1,s2,s3⟩:=YV (E:=QY (fun _=>True) w2 (Fr2 ++ Fo)) t1 hs2 rfl q1 how hpl
 exact hK _ _ (Rel.put s1 s2 hl hd hpin hdst s3)
end
end Go.Rai
namespace Go.Rai
variable [Inhabited Qn]
theorem jO (b b':BL) (s:Nat):Jd (b ++ b') s=match Jd b s with | some x=>some x | none=>Jd b' s:=by
 induction b with
 | nil=>simp [Jd]
 | cons x r ih=>
  obtain ⟨k,u⟩:=x
  simp only [List.cons_append,Jd]
  split
  ·rfl
  ·exact ih
theorem PJ:∀ {K:List Nat} {b:BL} {s:Nat},Jd (Wq b K) s=if s ∈ K then none else Jd b s
 | [],b,s=>by simp [Wq]
 | t :: K,b,s=>by
  simp only [Wq,PJ (K:=K),Uq]
  by_cases h:s=t
  ·subst h; simp
  ·simp [h]
theorem XM {b b':BL} {K:List Nat} (h:∀ s,s ∉ K→Jd b' s=none) (s:Nat):Jd (CG b K b') s=if s ∈ K then Jd b' s else Jd b s:=by
 unfold CG
 rw [Qg,jO,PJ]
 by_cases hs:s ∈ K
 ·simp [hs]
 ·simp only [hs,if_false,h s hs]
  cases Jd b s <;> rfl
theorem PK {b:BL} {s:Nat} (h:s ∉ QG b):Jd b s=none:=by
 cases hl:Jd b s with
 | none=>rfl
 | some c=>exact absurd (Kf hl) h
structure AgK (K:List Nat) (b b':BL):Prop where
 on:∀ s,s ∈ K→Jd b' s=Jd b s
 off:∀ s,s ∉ K→Jd b s=none
structure StK (K:List Nat) (b b1:BL):Prop where
 look:∀ s,s ∉ K→Jd b1 s=Jd b s
 names:∀ s,s ∈ JK b1→s ∈ JK b
theorem StK.refl {K:List Nat} {b:BL}:StK K b b:=⟨fun _ _=>rfl,fun _ h=>h⟩
theorem StK.trans {K:List Nat} {b b1 b2:BL} (h:StK K b b1) (h':StK K b1 b2):StK K b b2:=
 ⟨fun s hs=>(h'.look s hs).trans (h.look s hs),fun s hs=>h.names s (h'.names s hs)⟩
theorem AgK.get {K:List Nat} {b b':BL} (h:AgK K b b') {s:Nat} {c:V} (hl:Jd b s=some c):s ∈ K∧Jd b' s=some c:=by
 by_cases hs:s ∈ K
 ·exact ⟨hs,by rw [h.on s hs]; exact hl⟩
 ·rw [h.off s hs] at hl; cases hl
theorem AgK.drop {K:List Nat} {b b':BL} (h:AgK K b b') {s:Nat} (hs:s ∈ K):AgK K (Qk b s) (Qk b' s)∧StK K b' (Qk b' s):=by
 refine ⟨⟨fun t ht=>?_,fun t ht=>?_⟩,fun t ht=>?_,fun t ht=>S8 ht⟩
 ·rw [Uq,Uq,h.on t ht]
 ·rw [Uq,h.off t ht]; split <;> rfl
 ·rw [Uq,if_neg]; rintro rfl; exact ht hs
theorem AgK.set {K:List Nat} {b b':BL} (h:AgK K b b') {s:Nat} (hs:s ∈ K) {x:V} (hx:∀ t,t ∈ Jk x→t ∈ JK b'):AgK K (JM b s x) (JM b' s x)∧StK K b' (JM b' s x):=by
 refine ⟨⟨fun t ht=>?_,fun t ht=>?_⟩,fun t ht=>?_,fun t ht=>?_⟩
 ·rw [J1,J1,h.on t ht]
 ·rw [J1,if_neg (by rintro rfl; exact ht hs),h.off t ht]
 ·rw [J1,if_neg]; rintro rfl; exact ht hs
 ·exact (S9 ht).elim id (hx t)
theorem XN {K:List Nat} {b b' b1:BL} {s:Nat} {p:List Nat} {x:V} (h:QV b s p=some (x,b1)) (hK:AgK K b b'):∃ b1',QV b' s p=some (x,b1')∧AgK K b1 b1'∧StK K b' b1':=by
 unfold QV at h ⊢
 split at h
 ·rename_i c hc
  obtain ⟨hs,hc'⟩:=hK.get hc
  rw [hc']
  simp only
  split at h
  ·simp only [oj,pj] at h
   obtain ⟨rfl,rfl⟩:=h
   exact ⟨_,rfl,(hK.drop hs).1,(hK.drop hs).2⟩
  ·split at h
   ·rename_i y hg
    split at h
    ·rename_i hb
     simp only [oj,pj] at h
     obtain ⟨rfl,rfl⟩:=h
     have hx:∀ t,t ∈ Jk (c.set p .undef)→t ∈ JK b':=by
      intro t ht
      rcases Kd ht with ht | ht
      ·exact Cv hc' ht
      ·simp [Jk] at ht
     exact ⟨_,rfl,(hK.set hs hx).1,(hK.set hs hx).2⟩
    ·cases h
   ·cases h
 ·cases h
theorem jP {K:List Nat} {b b':BL} {s:Nat} {p:List Nat} {c0:V} (hc:Jd b s=some c0) (h:QV b s p=none) (hK:AgK K b b'):QV b' s p=none:=by
 obtain ⟨_,hc'⟩:=hK.get hc
 unfold QV at h ⊢
 rw [hc] at h
 rw [hc']
 simp only at h ⊢
 split at h
 ·cases h
 ·split at h
  ·split at h
   ·cases h
   ·rename_i hb
    simp only [hb]
  ·rfl
theorem Kr {K:List Nat}:∀ (n:Nat),(∀ {b b' b1:BL} {v w:V} {c:List JD},inl n b v=some (c,w,b1)→AgK K b b'→∃ b1',inl n b' v=some (c,w,b1')∧AgK K b1 b1'∧StK K b' b1') ∧
  (∀ {b b' b1:BL} {vs ws:List V} {c:List JD},Q5 n b vs=some (c,ws,b1)→AgK K b b'→∃ b1',Q5 n b' vs=some (c,ws,b1')∧AgK K b1 b1'∧StK K b' b1')
 | 0=>⟨fun h=>by simp [inl] at h,fun h=>by simp [Q5] at h⟩
 | n + 1=>by
  obtain ⟨ih1,ih2⟩:=Kr (K:=K) n
  constructor
  ·intro b b' b1 v w c h hK
   have rest:some (([]:List JD),v,b)=some (c,w,b1)→∃ b1',some (([]:List JD),v,b')=some (c,w,b1')∧AgK K b1 b1'∧StK K b' b1':=by
    intro h
    simp only [oj,pj] at h
    obtain ⟨rfl,rfl,rfl⟩:=h
    exact ⟨b',rfl,hK,StK.refl⟩
   cases v with
   | full s p e=>
    simp only [inl] at h ⊢
    split at h
    ·rename_i e1 l b2 ht
     simp only [oj,pj] at h
     obtain ⟨rfl,rfl,rfl⟩:=h
     obtain ⟨b1',k1,k2,k3⟩:=XN ht hK
     exact ⟨b1',by rw [k1],k2,k3⟩
    ·rename_i e1 vs b2 ht
     obtain ⟨b2',k1,k2,k3⟩:=XN ht hK
     split at h
     ·rename_i c1 ws b3 hi
      obtain ⟨b3',m1,m2,m3⟩:=ih2 hi k2
      split at h
      ·rename_i hb
       simp only [oj,pj] at h
       obtain ⟨rfl,rfl,rfl⟩:=h
       exact ⟨b3',by rw [k1]; simp only [m1,hb],m2,k3.trans m3⟩
      ·cases h
     ·cases h
    ·cases h
    ·rename_i hn
     split at h
     ·rename_i c1 e1 l hg
      simp only [oj,pj] at h
      obtain ⟨rfl,rfl,rfl⟩:=h
      have hg0:=hg
      unfold J9 at hg0
      split at hg0
      ·rename_i c0 hc
       obtain ⟨hs,hc'⟩:=hK.get hc
       refine ⟨Qk b' s,?_,(hK.drop hs).1,(hK.drop hs).2⟩
       rw [jP hc hn hK]
       simp only [J9,hc',hg0]
      ·cases hg0
     ·cases h
   | sub s p o l e=>
    simp only [inl] at h ⊢
    split at h
    ·rename_i e1 l1 b2 ht
     obtain ⟨b1',k1,k2,k3⟩:=XN ht hK
     split at h
     ·rename_i hb
      simp only [oj,pj] at h
      obtain ⟨rfl,rfl,rfl⟩:=h
      exact ⟨b1',by rw [k1]; simp only [hb],k2,k3⟩
     ·cases h
    ·cases h
   | ptr s p=>
    simp only [inl] at h ⊢
    split at h
    ·split at h
     ·rename_i x b2 ht
      obtain ⟨b2',k1,k2,k3⟩:=XN ht hK
      split at h
      ·rename_i c1 y b3 hi
       simp only [oj,pj] at h
       obtain ⟨rfl,rfl,rfl⟩:=h
       obtain ⟨b3',m1,m2,m3⟩:=ih1 hi k2
       exact ⟨b3',by rw [k1]; simp only [m1],m2,k3.trans m3⟩
      ·cases h
     ·cases h
    ·cases h
   | agg vs=>
    simp only [inl] at h ⊢
    split at h
    ·rename_i c1 ws b3 hi
     simp only [oj,pj] at h
     obtain ⟨rfl,rfl,rfl⟩:=h
     obtain ⟨b3',m1,m2,m3⟩:=ih2 hi hK
     exact ⟨b3',by rw [m1],m2,m3⟩
    ·cases h
   | tup vs=>
    simp only [inl] at h ⊢
    split at h
    ·rename_i c1 ws b3 hi
     simp only [oj,pj] at h
     obtain ⟨rfl,rfl,rfl⟩:=h
     obtain ⟨b3',m1,m2,m3⟩:=ih2 hi hK
     exact ⟨b3',by rw [m1],m2,m3⟩
    ·cases h
   | fn f vs=>
    simp only [inl] at h ⊢
    split at h
    ·rename_i c1 ws b3 hi
     simp only [oj,pj] at h
     obtain ⟨rfl,rfl,rfl⟩:=h
     obtain ⟨b3',m1,m2,m3⟩:=ih2 hi hK
     exact ⟨b3',by rw [m1],m2,m3⟩
    ·cases h
   | obox x=>
    simp only [inl] at h ⊢
    split at h
    ·rename_i c1 ws b3 hi
     simp only [oj,pj] at h
     obtain ⟨rfl,rfl,rfl⟩:=h
     obtain ⟨b3',m1,m2,m3⟩:=ih1 hi hK
     exact ⟨b3',by rw [m1],m2,m3⟩
    ·cases h
   | lst e vs=>simp only [inl] at h; cases h
   | undef=>simp only [inl] at h; cases h
   | void=>simp only [inl] at h; cases h
   | _=>simp only [inl] at h ⊢; exact rest h
  ·intro b b' b1 vs ws c h hK
   cases vs with
   | nil=>
    simp only [Q5,oj,pj] at h ⊢
    obtain ⟨rfl,rfl,rfl⟩:=h
    exact ⟨b',⟨rfl,rfl,rfl⟩,hK,StK.refl⟩
   | cons v vs=>
    simp only [Q5] at h ⊢
    split at h
    ·rename_i c1 w b2 h1
     obtain ⟨b2',k1,k2,k3⟩:=ih1 h1 hK
     split at h
     ·rename_i c2 ws2 b3 h2
      simp only [oj,pj] at h
      obtain ⟨rfl,rfl,rfl⟩:=h
      obtain ⟨b3',m1,m2,m3⟩:=ih2 h2 k2
      exact ⟨b3',by simp only [k1,m1],m2,k3.trans m3⟩
     ·cases h
    ·cases h
theorem Ks {A:Ann} {f:FuncId} {K:List Nat}:∀ {vs ws:List V} {i:Nat} {b b' b1:BL} {c:List JD},Hj A f i b vs=some (c,ws,b1)→AgK K b b'→∃ b1',Hj A f i b' vs=some (c,ws,b1')∧AgK K b1 b1'∧StK K b' b1'
 | [],ws,i,b,b',b1,c,h,hK=>by
  simp only [Hj,oj,pj] at h ⊢
  obtain ⟨rfl,rfl,rfl⟩:=h
  exact ⟨b',⟨rfl,rfl,rfl⟩,hK,StK.refl⟩
 | v :: vs,ws,i,b,b',b1,c,h,hK=>by
  have go:∀ (x:BL→G (V × BL)),(∀ {c w b1},x b=some (c,w,b1)→∃ b1',x b'=some (c,w,b1')∧AgK K b1 b1'∧StK K b' b1') →
    (match x b with
    | some (c,w,b')=>match Hj A f (i + 1) b' vs with
     | some (c',ws,b'')=>some ((cat c c'),w :: ws,b'')
     | none=>none
    | none=>none)=some (c,ws,b1)→∃ b1',(match x b' with
    | some (c,w,b')=>match Hj A f (i + 1) b' vs with
     | some (c',ws,b'')=>some ((cat c c'),w :: ws,b'')
     | none=>none
    | none=>none)=some (c,ws,b1')∧AgK K b1 b1'∧StK K b' b1':=by
   intro x hx h
   split at h
   ·rename_i c1 w b2 h1
    obtain ⟨b2',k1,k2,k3⟩:=hx h1
    split at h
    ·rename_i c2 ws2 b3 h2
     simp only [oj,pj] at h
     obtain ⟨rfl,rfl,rfl⟩:=h
     obtain ⟨b3',m1,m2,m3⟩:=Ks h2 k2
     exact ⟨b3',by simp only [k1,m1],m2,k3.trans m3⟩
    ·cases h
   ·cases h
  have still:∀ {c w b1},(some (([]:List JD),v,b):G (V × BL))=some (c,w,b1)→∃ b1',(some (([]:List JD),v,b'):G (V × BL))=some (c,w,b1')∧AgK K b1 b1'∧StK K b' b1':=by
   intro c w b1 h
   simp only [oj,pj] at h
   obtain ⟨rfl,rfl,rfl⟩:=h
   exact ⟨b',rfl,hK,StK.refl⟩
  simp only [Hj] at h ⊢
  cases hm:A.mode f i with
  | lend=>simp only [hm] at h ⊢; exact go (fun b=>some ([],v,b)) still h
  | keep=>simp only [hm] at h ⊢; exact go (fun b=>some ([],v,b)) still h
  | io=>simp only [hm] at h ⊢; exact go (fun b=>inl 9 b v) (fun h=>(Kr 9).1 h hK) h
  | take=>simp only [hm] at h ⊢; exact go (fun b=>inl 9 b v) (fun h=>(Kr 9).1 h hK) h
theorem jQ {K:List Nat} {b b':BL} (hK:AgK K b b') {v:V} (h:OZ b v=true):OZ b' v=true∧(∀ s p e,v=.full s p e→s ∈ K)∧(∀ s p,v=.ptr s p→s ∈ K):=by
 unfold OZ at h ⊢
 split at h
 ·rename_i s p e
  split at h
  ·split at h
   ·rename_i hl
    obtain ⟨h1,h2⟩:=hK.get hl
    exact ⟨by rw [h2],(fun s' p' e' he=>by cases he; exact h1),(fun s' p' he=>by cases he)⟩
   ·rename_i hl
    obtain ⟨h1,h2⟩:=hK.get hl
    exact ⟨by rw [h2],(fun s' p' e' he=>by cases he; exact h1),(fun s' p' he=>by cases he)⟩
   ·cases h
  ·cases h
 ·rename_i s p
  split at h
  ·split at h
   ·rename_i hl
    obtain ⟨h1,h2⟩:=hK.get hl
    exact ⟨by rw [h2],(fun s' p' e' he=>by cases he),(fun s' p' he=>by cases he; exact h1)⟩
   ·cases h
  ·cases h
 ·cases h
theorem VA {A:Ann} {f:FuncId} {K:List Nat} {b b':BL} (hK:AgK K b b'):∀ {vs:List V} {i:Nat},U7 A f b i vs=true→U7 A f b' i vs=true∧(∀ s,s ∈ ioF A f i vs→s ∈ K)∧(∀ s,s ∈ ioP A f i vs→s ∈ K)
 | [],i,h=>⟨rfl,fun s hs=>(by simp [ioF] at hs),fun s hs=>(by simp [ioP] at hs)⟩
 | v :: vs,i,h=>by
  simp only [U7,ioF,ioP] at h ⊢
  cases hm:A.mode f i with
  | io=>
   simp only [hm] at h ⊢
   rw [Ji] at h
   obtain ⟨k1,k2,k3⟩:=jQ hK h.1
   obtain ⟨m1,m2,m3⟩:=VA hK h.2
   refine ⟨by rw [k1,m1]; rfl,fun s hs=>?_,fun s hs=>?_⟩
   ·split at hs
    ·rcases List.mem_cons.1 hs with rfl | hs
     ·exact k2 _ _ _ rfl
     ·exact m2 s hs
    ·exact m2 s hs
   ·split at hs
    ·rcases List.mem_cons.1 hs with rfl | hs
     ·exact k3 _ _ rfl
     ·exact m3 s hs
    ·exact m3 s hs
  | lend=>simp only [hm] at h ⊢; exact VA hK h
  | take=>simp only [hm] at h ⊢; exact VA hK h
  | keep=>simp only [hm] at h ⊢; exact VA hK h
theorem PL {K:List Nat} {b b':BL} (hK:AgK K b b') {s:Nat} (hs:s ∈ K) (hn:s ∉ JK b') (h:bor (Qb (JK b) s) (match Jd b s with | some _=>true | none=>false)=false) :
  bor (Qb (JK b') s) (match Jd b' s with | some _=>true | none=>false)=false:=by
 rw [OG] at h ⊢
 refine ⟨?_,?_⟩
 ·cases hi:Qb (JK b') s with
  | false=>rfl
  | true=>exact absurd (UE.1 hi) hn
 ·rw [hK.on s hs]; exact h.2
theorem jR {K:List Nat} {b b' b1:BL} {v x:V} (h:Oj b v x=some b1) (hK:AgK K b b') (hx:Jk x=[]) (hf:∀ s p e,v=.full s p e→s ∈ K∧s ∉ JK b') (hp:∀ s p,v=.ptr s p→s ∈ K∧s ∉ JK b') :
  ∃ b1',Oj b' v x=some b1'∧AgK K b1 b1'∧StK K b' b1':=by
 unfold Oj at h ⊢
 split at h
 ·rename_i s p e
  obtain ⟨hs,hn⟩:=hf _ _ _ rfl
  split at h
  ·split at h
   ·rename_i e1 l
    split at h
    ·rename_i hb
     simp only [oj] at h
     subst h
     have hx':∀ t,t ∈ Jk (V.own e1 l)→t ∈ JK b':=fun t ht=>by simp [Jk] at ht
     split
     ·exact ⟨_,rfl,(hK.set hs hx').1,(hK.set hs hx').2⟩
     ·rename_i ht
      exact absurd (ht.symm.trans (PL hK hs hn hb)) (by simp)
    ·cases h
   ·cases h
  ·cases h
 ·rename_i s p
  obtain ⟨hs,hn⟩:=hp _ _ rfl
  split at h
  ·split at h
   ·rename_i y
    split at h
    ·rename_i hb
     simp only [oj] at h
     subst h
     have hx':∀ t,t ∈ Jk (V.obox y)→t ∈ JK b':=fun t ht=>by rw [hx] at ht; cases ht
     split
     ·exact ⟨_,rfl,(hK.set hs hx').1,(hK.set hs hx').2⟩
     ·rename_i ht
      exact absurd (ht.symm.trans (PL hK hs hn hb)) (by simp)
    ·cases h
   ·cases h
  ·cases h
 ·cases h
theorem WF {A:Ann} {f:FuncId} {kp:Bool} {K:List Nat}:∀ {vs xs:List V} {i:Nat} {b b' b1:BL},Q7 A kp f i b vs xs=some b1→AgK K b b'→(∀ s,s ∈ ioF A f i vs→s ∈ K∧s ∉ JK b')→(∀ s,s ∈ ioP A f i vs→s ∈ K∧s ∉ JK b') →
  ∃ b1',Q7 A kp f i b' vs xs=some b1'∧AgK K b1 b1'∧StK K b' b1'
 | [],[],i,b,b',b1,h,hK,_,_=>by
  simp only [Q7,oj] at h ⊢
  subst h
  exact ⟨b',rfl,hK,StK.refl⟩
 | v :: vs,[],i,b,b',b1,h,_,_,_=>by simp [Q7] at h
 | [],x :: xs,i,b,b',b1,h,_,_,_=>by simp [Q7] at h
 | v :: vs,x :: xs,i,b,b',b1,h,hK,hf,hp=>by
  simp only [Q7,ioF,ioP] at h hf hp ⊢
  cases hm:A.mode f i with
  | io=>
   simp only [hm] at h hf hp ⊢
   split at h
   ·rename_i hb
    have hx:Jk x=[]:=by
     rw [Cd,Ji] at hb
     rcases hb with hb | hb
     ·exact XJ x hb
     ·exact Xl hb.2
    split at h
    ·rename_i b2 hr
     obtain ⟨b2',k1,k2,k3⟩:=jR hr hK hx (fun s p e he=>by subst he; exact hf s (by simp)) (fun s p he=>by subst he; exact hp s (by simp))
     have up:∀ {s:Nat},s ∈ K∧s ∉ JK b'→s ∈ K∧s ∉ JK b2':=fun q=>⟨q.1,fun hm=>q.2 (k3.names _ hm)⟩
     obtain ⟨b3',m1,m2,m3⟩:=WF h k2 (fun s hs=>up (hf s (by split <;> simp [hs]))) (fun s hs=>up (hp s (by split <;> simp [hs])))
     exact ⟨b3',by simp only [hb,k1,m1],m2,k3.trans m3⟩
    ·cases h
   ·cases h
  | lend=>simp only [hm] at h hf hp ⊢; exact WF h hK hf hp
  | take=>simp only [hm] at h hf hp ⊢; exact WF h hK hf hp
  | keep=>simp only [hm] at h hf hp ⊢; exact WF h hK hf hp
section
variable {P:Program} {A:Ann} {w w' w0:World} {F0:List Nat} {sl sl':List V} {a:Act} {b b' b1 bl:BL} {G:GT} {o:Oper} {v:V} {c:List JD}
def XO (P:Program) (o:Oper) (sl:List V) (b:BL) (v:V) (b1:BL) (rd T W N L qf qp:List Nat):Prop:=
 (∀ s,s ∉ W→Jd b1 s=Jd b s) ∧
 ∀ sl' b',(∀ t ∈ rd,JN sl' t=JN sl t)→QU b b' T→XG b b' L→(∀ s ∈ N,s ∉ JE sl'∧s ∉ JK b')→Q8 qf qp sl'=true→(∀ s,s ∈ qf ∨ s ∈ qp→s ∉ JK b') →
  ∃ b1',UO P o sl' b' v b1'∧(∀ s ∈ W,Jd b1' s=Jd b1 s)∧(∀ s,s ∉ W→Jd b1' s=Jd b' s)
theorem OJ.q {rd T W N L qf qp:List Nat} (h:OJ P o sl b v b1 rd T W N L):XO P o sl b v b1 rd T W N L qf qp:=
 ⟨h.1,fun sl' b' h1 h2 h3 h4 _ _=>h.2 sl' b' h1 h2 h3 h4⟩
theorem jS {g:FuncId} {bR bW b2 b1':BL} {K:List Nat} {ts:List Ty} {vs:List V} {r:List JD × List V} (hR:∀ s,s ∉ K→∀ c,Jd bR s=some c→Jd b1' s=some c) (hK:AgK K b2 b1')
  (h:Q6 A g (CG bR K b2) 0 ts vs=some r):Q6 A g b1' 0 ts vs=some r:=by
 refine Ke (fun s c hc=>?_) h
 rw [XM hK.off] at hc
 split at hc
 ·rename_i hs; rw [hK.on s hs]; exact hc
 ·rename_i hs; exact hR s hs c hc
theorem jT {cl:Call} {fo:Operand} {g:FuncId} {caps:List V} (ho:o.op=.call cl) (hcal:cl.callee=.value fo) (hf:opd sl fo=.fn g caps)
  {ts:List Ty} (hnt:QX (JF sl cl.args.toList)=true) (hna:Hy caps=true) {bW bR b2 b3:BL} (hW:CI bW b) (hR:CI bR b)
  (hroots:U7 A g bW 0 (cat (JF sl cl.args.toList) caps)=true) {ws us:List V} {c c':List JD} {res:V} {outs:List V}
  (hp:Hj A g 0 bW (cat (JF sl cl.args.toList) caps)=some (c,ws,b2)) (hp2:Q6 A g (CG bR (QG bW) b2) 0 ts ws=some (c',us)) (hk:∀ x ∈ cat c c',x.ok)
  (hco:HF P (fun i=>Qh (A.mode g i)) g us res outs) (how:Qj res=true)
  (hre:Q7 A (UJ A g 0 us) g 0 b2 (cat (JF sl cl.args.toList) caps) outs=some b3) (hpl:Q9 sl (CG b (QG bW) b3) o.dst res=some (v,b1)) {gs:List Nat} :
  XO P o sl b v b1 (cat gs (Ug (JG o.op))) (cat (cat (QG bR) (QG bW)) (Uh o.dst res)) (cat (QG bW) (Uh o.dst res)) (Uh o.dst res) []
   (ioF A g 0 (cat (JF sl cl.args.toList) caps)) (ioP A g 0 (cat (JF sl cl.args.toList) caps)):=by
 have hops:JG o.op=fo :: cl.args.toList:=by rw [ho]; simp [JG,hcal]
 have key:∀ b',QU b b' (cat (cat (QG bR) (QG bW)) (Uh o.dst res))→(∀ s,s ∈ ioF A g 0 (cat (JF sl cl.args.toList) caps) ∨ s ∈ ioP A g 0 (cat (JF sl cl.args.toList) caps)→s ∉ JK b') →
   ∃ b2' b3',OY A g b' ts (cat (JF sl cl.args.toList) caps)=some (cat c c',us,b2')∧Q7 A (UJ A g 0 us) g 0 b2' (cat (JF sl cl.args.toList) caps) outs=some b3'∧AgK (QG bW) b3 b3'∧StK (QG bW) b' b3' ∧
    U7 A g b' 0 (cat (JF sl cl.args.toList) caps)=true:=by
  intro b' h2 hq
  have hK:AgK (QG bW) bW b':=by
   refine ⟨fun s hs=>?_,fun s hs=>PK hs⟩
   cases hl:Jd bW s with
   | none=>
    exfalso
    have:∀ {b:BL} {s:Nat},s ∈ QG b→Jd b s ≠ none:=by
     intro b
     induction b with
     | nil=>intro s h; simp [QG] at h
     | cons x r ih=>
      obtain ⟨k,u⟩:=x
      intro s h
      simp only [QG,List.mem_cons] at h
      simp only [Jd]
      split
      ·simp
      ·rename_i hb
       rcases h with rfl | h
       ·rw [Nat.beq_refl] at hb; cases hb
       ·exact ih h
    exact this hs hl
   | some x=>rw [h2 s (by simp only [JL]; exact .inl (.inr hs))]; exact hW s x hl
  obtain ⟨r1,r2,r3⟩:=VA hK hroots
  obtain ⟨b2',k1,k2,k3⟩:=Ks hp hK
  have hl:=jS (b1':=b2') (bR:=bR) (bW:=bW) (fun s hs x hx=>by
   rw [k3.look s hs,h2 s (by simp only [JL]; exact .inl (.inl (Kf hx)))]
   exact hR s x hx) k2 hp2
  obtain ⟨b3',m1,m2,m3⟩:=WF hre k2 (fun s hs=>⟨r2 s hs,fun hm=>hq s (.inl hs) (k3.names s hm)⟩) (fun s hs=>⟨r3 s hs,fun hm=>hq s (.inr hs) (k3.names s hm)⟩)
  exact ⟨b2',b3',by unfold OY; simp only [k1,hl],m1,m2,k3.trans m3,r1⟩
 have off3:∀ s,s ∉ QG bW→Jd b3 s=none:=by
  have hK:AgK (QG bW) bW bW:=⟨fun _ _=>rfl,fun s hs=>PK hs⟩
  obtain ⟨b2',k1,k2,k3⟩:=Ks hp hK
  have hre':∀ {vs xs:List V} {i:Nat} {b b1:BL} {kp:Bool},Q7 A kp g i b vs xs=some b1→(∀ s,s ∉ QG bW→Jd b s=none)→(∀ s,s ∈ ioF A g i vs→s ∈ QG bW)→(∀ s,s ∈ ioP A g i vs→s ∈ QG bW)→∀ s,s ∉ QG bW→Jd b1 s=none:=by
   intro vs
   induction vs with
   | nil=>
    intro xs i b b1 kp h h0 _ _
    cases xs with
    | nil=>simp only [Q7,oj] at h; subst h; exact h0
    | cons x xs=>simp [Q7] at h
   | cons v vs ih=>
    intro xs i b b1 kp h h0 hf hp
    cases xs with
    | nil=>simp [Q7] at h
    | cons x xs=>
     simp only [Q7,ioF,ioP] at h hf hp
     cases hm:A.mode g i with
     | io=>
      simp only [hm] at h hf hp
      split at h
      ·split at h
       ·rename_i b2 hr
        refine ih h ?_ (fun s hs=>hf s (by split <;> simp [hs])) (fun s hs=>hp s (by split <;> simp [hs]))
        intro s hs
        unfold Oj at hr
        split at hr
        ·split at hr
         ·split at hr
          ·split at hr
           ·simp only [oj] at hr
            subst hr
            rw [J1,if_neg (by rintro rfl; exact hs (hf _ (by simp))),h0 s hs]
           ·cases hr
          ·cases hr
         ·cases hr
        ·split at hr
         ·split at hr
          ·split at hr
           ·simp only [oj] at hr
            subst hr
            rw [J1,if_neg (by rintro rfl; exact hs (hp _ (by simp))),h0 s hs]
           ·cases hr
          ·cases hr
         ·cases hr
        ·cases hr
       ·cases h
      ·cases h
     | lend=>simp only [hm] at h hf hp; exact ih h h0 hf hp
     | take=>simp only [hm] at h hf hp; exact ih h h0 hf hp
     | keep=>simp only [hm] at h hf hp; exact ih h h0 hf hp
  obtain ⟨_,r2,r3⟩:=VA hK hroots
  exact hre' hre k2.off r2 r3
 have base:∀ t,t ∉ Uh o.dst res→Jd b1 t=Jd (CG b (QG bW) b3) t:=by
  cases hd:o.dst with
  | none=>
   rw [hd] at hpl
   simp only [Q9,oj,pj] at hpl
   intro t _; rw [hpl.2]
  | some s=>
   intro t ht
   rw [hd] at hpl
   exact Pg hpl t ht
 refine ⟨fun s hs=>?_,fun sl' b' h1 h2 _ h3 h4 h5=>?_⟩
 ·simp only [JL,not_or] at hs
  rw [base s hs.2,XM off3,if_neg hs.1]
 ·have hag:Qt sl sl' (JG o.op):=Ht (fun t ht=>h1 t (by rw [Qg]; simp [ht]))
  rw [hops] at hag
  have e1:opd sl' fo=.fn g caps:=by rw [hag fo (by simp),hf]
  have e2:JF sl' cl.args.toList=JF sl cl.args.toList:=Qt.map (fun x hx=>hag x (by simp [hx]))
  obtain ⟨b2',b3',k1,k2,k3,k4,k5⟩:=key b' h2 h5
  obtain ⟨b1',p1,p2,p3⟩:=Pd (sl':=sl') (b':=b3') hpl (fun t ht=>⟨(h3 t ht).1,fun hm=>(h3 t ht).2 (k4.names t hm)⟩) (fun t ht=>by
   rw [XM off3]
   split
   ·rename_i hs; exact k3.on t hs
   ·rename_i hs; rw [k4.look t hs]; exact h2 t (by simp only [JL]; exact .inr ht))
  refine ⟨b1',Pp ho hcal e1 (by rw [e2]; exact hnt) hna (by rw [e2]; exact k5) (by rw [e2]; exact h4) (by rw [e2]; exact k1) hk hco how (by rw [e2]; exact k2) p1,fun s hs=>?_,fun s hs=>?_⟩
  ·by_cases hr:s ∈ Uh o.dst res
   ·exact p2 s hr
   ·simp only [JL,hr,or_false] at hs
    rw [(p3 s hr).1,(p3 s hr).2,XM off3,if_pos hs]
    exact k3.on s hs
  ·simp only [JL,not_or] at hs
   rw [(p3 s hs.2).1,k4.look s hs.1]
end
end Go.Rai
namespace Go.Rai
variable [Inhabited Qn]
def VB (P:Program) (ops:Array Oper) (o:Oper) (sl:List V) (b:BL) (v:V) (b1:BL):Prop:=
 ∀ (Pn:Nat→Option Value) (w0:World) (F0:List Nat) (a:Act) (w:World),(∀ t,o.dst=some t→Pn t=none)→Rel Pn w0 F0 ⟨sl,b⟩ a w→∀ (K:Act→World→Prop) (Q:Exit→Act→World→Prop),
  (∀ a' w',Rel Pn w0 F0 ⟨QD sl o.dst v,b1⟩ a' w'→K a' w')→(if Region.wanted o (yielded ops a.tmps) then o.wp P a w K Q ∨ (o.asks P a w∧LetsOut Q) else K (a.put o.dst undef) w)
def PM (P:Program) (ops:Array Oper) (o:Oper) (sl:List V) (b:BL) (v:V) (b1:BL) (rd T W N L qf qp:List Nat):Prop:=
 (∀ s,s ∉ W→Jd b1 s=Jd b s) ∧
 ∀ sl' b',(∀ t ∈ rd,JN sl' t=JN sl t)→QU b b' T→XG b b' L→(∀ s ∈ N,s ∉ JE sl'∧s ∉ JK b')→Q8 qf qp sl'=true→(∀ s,s ∈ qf ∨ s ∈ qp→s ∉ JK b') →
  ∃ b1',VB P ops o sl' b' v b1'∧(∀ s ∈ W,Jd b1' s=Jd b1 s)∧(∀ s,s ∉ W→Jd b1' s=Jd b' s)
structure Ob (P:Program) (ops:Array Oper) (o:Oper) (σ:St) (r:Rec) (σ':St):Prop where
 sl:σ'.sl=QD σ.sl o.dst r.v
 dst:r.dst=o.dst
 bar:r.bar=true→VB P ops o σ.sl σ.bl r.v σ'.bl∧∀ s,(s ∈ Jk r.v ∨ s ∈ JK σ'.bl)→s ∈ r.nm
 loc:r.bar=false→PM P ops o σ.sl σ.bl r.v σ'.bl r.rd r.T r.W r.N r.L r.qf r.qp∧(∀ s ∈ r.W,s ∈ r.T)∧(∀ s ∈ r.N,s ∈ r.W)∧(∀ s,(s ∈ Jk r.v ∨ ∃ t ∈ r.W,∃ c,Jd σ'.bl t=some c∧s ∈ Jk c)→s ∈ r.nm)∧(∀ s ∈ r.L,s ∉ r.W)∧(r.sm=true→∀ s ∈ r.W,UP (Jd σ.bl s) (Jd σ'.bl s))
 nb:r.bar=true→r.N=[]
 qb:r.bar=true→r.qf=[]∧r.qp=[]
 bn:∀ s,(r.bar=true∧s ∈ JK σ'.bl ∨ ∃ t ∈ r.W,∃ c,Jd σ'.bl t=some c∧s ∈ Jk c)→s ∈ r.bn
section
variable {P:Program} {A:Ann} {w w' w0:World} {F0:List Nat} {sl sl':List V} {a:Act} {b b' b1 bl:BL} {G:GT} {o:Oper} {v:V} {c:List JD} {ops:Array Oper}
theorem WG {b:BL}:∀ {W:List Nat} {s t:Nat} {c:V},t ∈ W→Jd b t=some c→s ∈ Jk c→s ∈ Vp b W
 | [],s,t,c,ht,_,_=>by cases ht
 | u :: W,s,t,c,ht,hl,hs=>by
  unfold Vp
  rcases List.mem_cons.1 ht with rfl | ht
  ·rw [hl]; simp only [JL]; exact .inl hs
  ·have:=WG ht hl hs
   split
   ·simp only [JL]; exact .inr this
   ·exact this
theorem XP {R:Type} {all:List Oper} {σ:St} {bar:Bool} {T W N L:List Nat} {sm:Bool} {κ:Rec→St→Option R}:Hs all σ o bar v b T W N L sm κ =
  κ ⟨v,cat (HZ all o) (Ug (JG o.op)),o.dst,bar,T,W,N,H0 bar v b W,L,sm,Wr bar b W,[],[]⟩ ⟨QD σ.sl o.dst v,b⟩:=by
 unfold Hs
 rw [CD,UL]
 simp only [OD]
 cases sm <;> rfl
theorem jU {R:Type} {all:List Oper} {σ:St} {T W N qf qp:List Nat} {κ:Rec→St→Option R}:Y2 all σ o v b T W N qf qp κ =
  κ ⟨v,cat (HZ all o) (Ug (JG o.op)),o.dst,false,T,W,N,H0 false v b W,[],false,Wr false b W,qf,qp⟩ ⟨QD σ.sl o.dst v,b⟩:=by
 unfold Y2
 rw [CD,UL]
 simp only [OD]
theorem XQ {b:BL} {bar:Bool} {W:List Nat} {s:Nat} (h:bar=true∧s ∈ JK b ∨ ∃ t ∈ W,∃ c,Jd b t=some c∧s ∈ Jk c) (hb:bar=false):s ∈ Wr bar b W:=by
 subst hb
 rcases h with ⟨h,_⟩ | ⟨t,ht,c,hc,hs⟩
 ·cases h
 ·exact WG ht hc hs
def Um (all:List Oper) (sl:List V) (o:Oper):Prop:=
 match o.guard with
 | none=>True
 | some (j,want)=>∃ t,Hl all j=some t∧JN sl t=.bool want
theorem Kt {E:Env} (hs:JQ E sl a) (h:Um ops.toList sl o):Region.wanted o (yielded ops a.tmps)=true:=by
 unfold Um at h
 cases hg:o.guard with
 | none=>simp [Region.wanted,hg]
 | some jw=>
  obtain ⟨j,want⟩:=jw
  rw [hg] at h
  obtain ⟨t,h1,h2⟩:=h
  simp [Region.wanted,hg,SI hs h1 h2]
theorem jV (h:Um ops.toList sl o) (ha:∀ t ∈ HZ ops.toList o,JN sl' t=JN sl t):Um ops.toList sl' o:=by
 unfold Um at h ⊢
 cases hg:o.guard with
 | none=>trivial
 | some jw=>
  obtain ⟨j,want⟩:=jw
  rw [hg] at h
  obtain ⟨t,h1,h2⟩:=h
  exact ⟨t,h1,by rw [ha t (by simp [HZ,hg,h1])]; exact h2⟩
def ON (all:List Oper) (sl:List V) (o:Oper):Prop:=
 ∃ j want t,o.guard=some (j,want)∧Hl all j=some t∧(JN sl t=.void ∨ JN sl t=.bool (!want))
theorem jW {E:Env} (hs:JQ E sl a) (h:ON ops.toList sl o):Region.wanted o (yielded ops a.tmps)=false:=by
 obtain ⟨j,want,t,hg,h1,h2⟩:=h
 rcases h2 with h2 | h2
 ·simp [Region.wanted,hg,M7 hs h1 h2]
 ·cases want <;> simp [Region.wanted,hg,SI hs h1 h2]
theorem jX (h:ON ops.toList sl o) (ha:∀ t ∈ HZ ops.toList o,JN sl' t=JN sl t):ON ops.toList sl' o:=by
 obtain ⟨j,want,t,hg,h1,h2⟩:=h
 exact ⟨j,want,t,hg,h1,by rw [ha t (by simp [HZ,hg,h1])]; exact h2⟩
theorem UO.g (h:UO P o sl b v b1) (hw:Um ops.toList sl o):VB P ops o sl b v b1:=by
 intro Pn w0 F0 a w hdst hr K Q hK
 obtain ⟨⟨G,hc,hs⟩,hl,hd,hpin⟩:=hr
 rw [Kt hs hw]
 simp only [if_true]
 exact .inl (h hdst ⟨⟨G,hc,hs⟩,hl,hd,hpin⟩ hK)
theorem Ku (h:ON ops.toList sl o):VB P ops o sl b .void b:=by
 intro Pn w0 F0 a w hdst hr K Q hK
 obtain ⟨⟨G,hc,hs⟩,hl,hd,hpin⟩:=hr
 rw [jW hs h]
 simp only [Bool.false_eq_true,if_false]
 exact hK _ _ (Rel.put hc hs hl hd hpin hdst (VX.2 ⟨rfl,rfl⟩))
theorem XO.g {gs rd T W N L qf qp:List Nat} (h:XO P o sl b v b1 (cat gs rd) T W N L qf qp) (hg:gs=HZ ops.toList o) (hw:Um ops.toList sl o):PM P ops o sl b v b1 (cat gs rd) T W N L qf qp:=by
 refine ⟨h.1,fun sl' b' h1 h2 hL h3 h4 h5=>?_⟩
 obtain ⟨b1',k1,k2⟩:=h.2 sl' b' h1 h2 hL h3 h4 h5
 exact ⟨b1',UO.g k1 (jV hw (fun t ht=>h1 t (by rw [Qg,hg]; simp [ht]))),k2⟩
theorem Kv (HT:J5 P A.ty) {R:Type} {oc:OC R} (hoc:HG P A oc) {σ:St} {κ:St→Option R} {r:R} (h:Cr oc A σ o κ=some r):∃ sl1 v b1,κ ⟨QD sl1 o.dst v,b1⟩=some r∧OM P o σ.sl σ.bl sl1 v b1∧((∀ t x,o.op ≠ .box t x)→sl1=σ.sl):=by
 suffices hs:(∃ v b1,κ ⟨QD σ.sl o.dst v,b1⟩=some r∧UO P o σ.sl σ.bl v b1) ∨ (∃ t x sl1 v b1,o.op=.box t x∧κ ⟨QD sl1 o.dst v,b1⟩=some r∧OM P o σ.sl σ.bl sl1 v b1) by
  rcases hs with ⟨v,b1,h1,h2⟩ | ⟨t,x,sl1,v,b1,h0,h1,h2⟩
  ·exact ⟨σ.sl,v,b1,h1,fun x1 x2 _ _ x3=>h2 x1 x2 x3,fun _=>rfl⟩
  ·exact ⟨sl1,v,b1,h1,h2,fun hn=>absurd h0 (hn t x)⟩
 have prim:VR A σ o κ=some r→∃ v b1,κ ⟨QD σ.sl o.dst v,b1⟩=some r∧UO P o σ.sl σ.bl v b1:=by
  intro h
  unfold VR at h
  split at h
  ·rename_i c v b hp
   obtain ⟨h1,h2⟩:=UM h
   rw [UL] at h2
   exact ⟨v,b,h2,HL HT hp h1⟩
  ·cases h
 unfold Cr at h
 split at h
 ·rename_i cl ho
  split at h
  ·rename_i fo hcal
   split at h
   ·rename_i g caps hf
    unfold K6 at h
    split at h
    ·rename_i hb
     rw [Ji] at hb
     obtain ⟨hnt,hna⟩:=hb
     split at h
     ·rename_i hio
      split at h
      ·rename_i c1 ws hp
       obtain ⟨h1,h2⟩:=UM h
       rw [U1] at h2
       obtain ⟨res,outs,k1,hco⟩:=hoc _ _ _ _ h2
       split at k1
       ·rename_i how
        split at k1
        ·rename_i v b2 hpl
         rw [UL] at k1
         exact .inl ⟨v,b2,k1,Ph (io:=fun _=>false) ho hcal hf hio hnt hna hp h1 hco how hpl⟩
        ·cases k1
       ·cases k1
      ·cases h
     ·split at h
      ·rename_i s p vio c0 hone
       unfold Yc at hone
       split at hone
       ·rename_i v0 h1o
        split at hone
        ·rename_i s0 p0 hloc
         split at hone
         ·rename_i c00 hl0
          split at hone
          ·rename_i hc0
           simp only [oj,pj] at hone
           obtain ⟨rfl,rfl,rfl,rfl⟩:=hone
           unfold K4 at h
           split at h
           ·rename_i c1 x hget
            split at h
            ·rename_i hchk
             rw [Ji,Ji] at hchk
             split at h
             ·rename_i c2 hal
              split at h
              ·rename_i c3 ws hp
               obtain ⟨h1,h2⟩:=UM h
               rw [U1] at h2
               obtain ⟨res,outs,k1,hco⟩:=hoc _ _ _ _ h2
               split at k1
               ·rename_i y hout
                split at k1
                ·rename_i hb3
                 rw [Ji,Ji] at hb3
                 rw [HY] at k1
                 split at k1
                 ·rename_i r0 b3 hpl
                  rw [UL] at k1
                  exact .inl ⟨r0,b3,k1,jN ho hcal hf hnt hna h1o hloc hl0 hc0 hchk.1.1 hget (C9 hchk.1.2) hchk.2 hal hp h1 hco hout hb3.1 hb3.2.1 hb3.2.2 hpl⟩
                 ·cases k1
                ·cases k1
               ·cases k1
              ·cases h
             ·cases h
            ·cases h
           ·cases h
          ·cases hone
         ·cases hone
        ·cases hone
       ·cases hone
      ·unfold K5 at h
       split at h
       ·rename_i hroot
        rw [Ji] at hroot
        split at h
        ·rename_i c1 ws b1 hp
         obtain ⟨h1,h2⟩:=UM h
         rw [U1,HY] at h2
         obtain ⟨res,outs,k1,hco⟩:=hoc _ _ _ _ h2
         split at k1
         ·rename_i how
          split at k1
          ·rename_i b2 hre
           split at k1
           ·rename_i v b3 hpl
            rw [UL] at k1
            exact .inl ⟨v,b3,k1,Pp ho hcal hf hnt hna hroot.1 hroot.2 hp h1 hco how hre hpl⟩
           ·cases k1
          ·cases k1
         ·cases k1
        ·cases h
       ·cases h
    ·cases h
   ·cases h
  ·exact .inl (prim h)
 ·rename_i t a x ho
  split at h
  ·rename_i c b hp
   obtain ⟨h1,h2⟩:=UM h
   rw [UL] at h2
   have hp':CR (A.ty t) σ.sl σ.bl (opd σ.sl a) (opd σ.sl x)=some (c,b):=by
    unfold Yf at hp
    split at hp
    ·split at hp
     ·split at hp
      ·cases hp
      ·split at hp
       ·exact hp
       ·cases hp
     ·cases hp
    ·cases hp
   exact .inl ⟨.void,b,h2,Pw HT ho hp' h1⟩
  ·split at h
   ·rename_i c v b hp
    obtain ⟨h1,h2⟩:=UM h
    rw [UL] at h2
    exact .inl ⟨v,b,h2,HL HT hp h1⟩
   ·split at h
    ·rename_i c b hp
     obtain ⟨h1,h2⟩:=UM h
     rw [UL] at h2
     exact .inl ⟨.void,b,h2,jH HT ho hp h1⟩
    ·split at h
     ·rename_i c b hp
      obtain ⟨h1,h2⟩:=UM h
      rw [UL] at h2
      exact .inl ⟨.void,b,h2,Pw HT ho hp h1⟩
     ·cases h
 ·rename_i t x ho
  split at h
  ·rename_i c v b u y hp
   obtain ⟨h1,h2⟩:=UM h
   rw [CD,HE,UL] at h2
   exact .inr ⟨t,x,_,v,b,ho,h2,jI HT ho hp h1⟩
  ·exact .inl (prim h)
 ·exact .inl (prim h)
theorem jY (sl:List V) (d:Option Nat) (v:V):QD sl d (CZ d (QD sl d v))=QD sl d v:=by
 cases d with
 | none=>rfl
 | some t=>
  simp only [QD,CZ,OE]
  by_cases h:t<sl.length
  ·simp [h]
  ·have:∀ (l:List V) (t:Nat) (x y:V),¬ t<l.length→JV l t x=JV l t y:=by
    intro l
    induction l with
    | nil=>intro t x y _; rfl
    | cons a l ih=>
     intro t x y ht
     cases t with
     | zero=>simp at ht
     | succ t=>simp only [JV]; rw [ih t x y (by simpa using ht)]
   exact this sl t _ _ h
theorem jZ {σ:St} (hp:JW A σ.sl σ.bl o.dst o.op=some (c,v,b1)) (hsm:Y3 σ o.op=true):∀ s ∈ C0 σ o.op,UP (Jd σ.bl s) (Jd b1 s):=by
 intro s hs
 unfold Y3 at hsm
 split at hsm
 ·rename_i t a x hop
  rw [hop] at hp hs
  split at hsm
  ·rename_i s0 p ha
   simp only [C0,ha,Jk,List.mem_singleton] at hs
   subst hs
   split at hsm
   ·rename_i c0 hc0
    rw [show (Qa (c0.outer p)=true)=(c0.outer p=false) by cases c0.outer p <;> simp [Qa]] at hsm
    simp only [JW] at hp
    split at hp
    ·cases hp
    ·simp only [ha,OX,hc0] at hp
     split at hp
     ·rename_i cs y hg
      split at hp
      ·split at hp
       ·simp only [oj,pj] at hp
        obtain ⟨_,_,rfl⟩:=hp
        rw [hc0,J1,if_pos rfl]
        exact .inr ⟨c0,_,rfl,rfl,S0 p c0 _ ⟨_,hg⟩ hsm⟩
       ·cases hp
      ·cases hp
     ·cases hp
   ·cases hsm
  ·cases hsm
 ·cases hsm
theorem Kw (HT:J5 P A.ty) {R:Type} {oc:OC R} (hoc:HG P A oc) {σ:St} {κ:Rec→St→Option R} {r:R} (hw:Um ops.toList σ.sl o) (h:Wt oc A ops.toList σ o κ=some r) :
  ∃ rc σ',κ rc σ'=some r∧Ob P ops o σ rc σ':=by
 have prim:∀ {T W N L:List Nat} {sm:Bool},(∀ s ∈ W,s ∈ T)→(∀ s ∈ N,s ∈ W)→(∀ s ∈ L,s ∉ W)→(∀ c v b1,JW A σ.sl σ.bl o.dst o.op=some (c,v,b1)→(∀ x ∈ c,x.ok)→OJ P o σ.sl σ.bl v b1 (cat (HZ ops.toList o) (Ug (JG o.op))) T W N L∧(sm=true→∀ s ∈ W,UP (Jd σ.bl s) (Jd b1 s))) →
   Vs A ops.toList σ o false T W N L sm κ=some r→∃ rc σ',κ rc σ'=some r∧Ob P ops o σ rc σ':=by
  intro T W N L sm hWT hNW hLW hloc h
  unfold Vs at h
  split at h
  ·rename_i c v b hp
   obtain ⟨h1,h2⟩:=UM h
   rw [XP] at h2
   refine ⟨_,_,h2,rfl,rfl,fun hb=>(by cases hb),fun _=>⟨(hloc c v b hp h1).1.q.g rfl hw,hWT,hNW,?_,hLW,(hloc c v b hp h1).2⟩,fun hb=>(by cases hb),fun hb=>(by cases hb),fun s hs=>XQ hs rfl⟩
   rintro s (hs | ⟨t,ht,c',hc',hs⟩)
   ·simp only [H0,JL]; exact .inl hs
   ·simp only [H0,JL]; exact .inr (WG ht hc' hs)
  ·cases h
 have barr:(∀ t x,o.op ≠ .box t x)→Cr oc A σ o (fun σ'=>Hs ops.toList σ o true (CZ o.dst σ'.sl) σ'.bl [] [] [] [] false κ)=some r→∃ rc σ',κ rc σ'=some r∧Ob P ops o σ rc σ':=by
  intro hbx h
  obtain ⟨sl1,v,b1,h1,h2,h3⟩:=Kv HT hoc h
  obtain rfl:=h3 hbx
  rw [XP] at h1
  have hput:=jY σ.sl o.dst v
  have h2':UO P o σ.sl σ.bl (CZ o.dst (QD σ.sl o.dst v)) b1:=by
   intro Pn w0 F0 a w hdst hr K Q hK
   refine h2 hdst hr (fun a' w' hr'=>hK a' w' ?_)
   rw [hput]
   exact hr'
  refine ⟨_,_,h1,rfl,rfl,fun _=>⟨UO.g h2' hw,?_⟩,fun hb=>(by cases hb),fun _=>rfl,fun _=>⟨rfl,rfl⟩,fun s hs=>hs.elim (fun hs=>hs.2) (fun ⟨t,ht,_⟩=>by cases ht)⟩
  intro s hs
  simp only [H0,JL]
  exact hs
 unfold Wt at h
 split at h
 ·rename_i hcl
  exact prim (fun s hs=>by cases hs) (fun s hs=>by cases hs) (fun s _ hs=>by cases hs) (fun c v b1 hp hk=>⟨jm HT (by rw [hcl]) hp hk,fun hb=>by cases hb⟩) h
 ·rename_i hcl
  exact prim (fun s hs=>hs) (fun s hs=>hs) (fun s hs=>by cases hs) (fun c v b1 hp hk=>⟨(jo HT (by rw [hcl]) hp hk).l,fun hb=>by cases hb⟩) h
 ·rename_i hcl
  split at h
  ·exact prim (fun s hs=>hs) (fun s hs=>by cases hs) (fun s hs=>by cases hs) (fun c v b1 hp hk=>⟨(jp HT (by rw [hcl]) hp hk).l,fun hsm=>jZ hp hsm⟩) h
  ·exact barr (by intro t x hb; simp_all [cls]) h
 ·split at h
  ·rename_i cl hop
   split at h
   ·rename_i fo hcal
    split at h
    ·rename_i g caps hf
     split at h
     ·rename_i hio
      unfold SP at h
      split at h
      ·rename_i hb
       rw [Ji] at hb
       rw [HY] at h
       split at h
       ·rename_i c1 ws hp
        obtain ⟨h1,h2⟩:=UM h
        rw [U1] at h2
        obtain ⟨res,outs,k1,hco⟩:=hoc _ _ _ _ h2
        split at k1
        ·rename_i how
         split at k1
         ·rename_i v b2 hpl
          simp only [XP] at k1
          refine ⟨_,_,k1,rfl,rfl,fun hb=>(by cases hb),fun _=>⟨(jy hop hcal hf hio hb.1 hb.2 WD hp h1 hco how hpl).l.q.g rfl hw,fun s hs=>(by simp only [JL]; exact .inr hs),fun s hs=>hs,?_,fun s hs=>(by cases hs),fun hb=>(by cases hb)⟩,fun hb=>(by cases hb),fun hb=>(by cases hb),fun s hs=>XQ hs rfl⟩
          rintro s (hs | ⟨t,ht,c',hc',hs⟩)
          ·simp only [H0,JL]; exact .inl hs
          ·simp only [H0,JL]; exact .inr (WG ht hc' hs)
         ·cases k1
        ·cases k1
       ·cases h
      ·cases h
     ·split at h
      ·exact barr (by intro t x hb; simp_all [cls]) h
      ·unfold SQ at h
       split at h
       ·rename_i hb
        rw [Ji] at hb
        rw [HY,HY] at h
        split at h
        ·rename_i hroots
         split at h
         ·rename_i c1 ws b2 hp
          split at h
          ·rename_i c2 us hp2
           obtain ⟨h1,h2⟩:=UM h
           rw [U1,HY] at h2
           obtain ⟨res,outs,k1,hco⟩:=hoc _ _ _ _ h2
           split at k1
           ·rename_i how
            split at k1
            ·rename_i b3 hre
             split at k1
             ·rename_i v b4 hpl
              simp only [jU] at k1
              refine ⟨_,_,k1,rfl,rfl,fun hb=>(by cases hb),fun _=>⟨(jT hop hcal hf hb.1 hb.2 WD WD hroots hp hp2 h1 hco how hre hpl).g rfl hw,fun s hs=>(by simp only [JL] at hs ⊢; rcases hs with hs | hs; exact .inl (.inr hs); exact .inr hs),fun s hs=>(by simp only [JL]; exact .inr hs),?_,fun s hs=>(by cases hs),fun hb=>(by cases hb)⟩,fun hb=>(by cases hb),fun hb=>(by cases hb),fun s hs=>XQ hs rfl⟩
              rintro s (hs | ⟨t,ht,c',hc',hs⟩)
              ·simp only [H0,JL]; exact .inl hs
              ·simp only [H0,JL]; exact .inr (WG ht hc' hs)
             ·cases k1
            ·cases k1
           ·cases k1
          ·cases h
         ·cases h
        ·cases h
       ·cases h
    ·cases h
   ·cases h
  ·cases h
 ·rename_i hcl
  split at h
  ·rename_i hok
   exact prim (fun s hs=>by
    simp only [OH,C1,JL] at hs ⊢
    split at hs
    ·rename_i c hop
     split at hs
     ·rename_i s0 r hm
      simp only [JL] at hs
      rcases hs with hs | hs
      ·refine .inl ?_
       have hops:JG (Op.call c)=c.args.toList:=by
        simp only [hop,cls] at hcl
        simp only [JG]
        split at hcl <;> simp_all
       rw [hop,hops,hm]
       simp only [JE,JL]
       exact .inl hs
      ·exact .inr hs
     ·exact .inr hs
    ·exact .inr hs) (fun s hs=>by
    simp only [C1]
    split
    ·rename_i c hop
     split
     ·simp only [JL]; exact .inr hs
     ·exact hs
    ·exact hs) (fun s hs=>by cases hs) (fun c v b1 hp hk=>⟨(jt HT (by rw [hcl]) hok hp hk).l,fun hb=>by cases hb⟩) h
  ·exact barr (by intro t x hb; simp_all [cls]) h
 ·exact barr (by intro t x hb; simp_all [cls]) h
theorem Ky {R:Type} {σ:St} {κ:Rec→St→Option R} {r:R} (hw:ON ops.toList σ.sl o) (h:Hs ops.toList σ o false .void σ.bl [] [] [] [] false κ=some r) :
  ∃ rc σ',κ rc σ'=some r∧Ob P ops o σ rc σ':=by
 rw [XP] at h
 refine ⟨_,_,h,rfl,rfl,fun hb=>(by cases hb),fun _=>⟨⟨fun _ _=>rfl,fun sl' b' h1 h2 hL h3 _ _=>⟨b',Ku (jX hw (fun t ht=>h1 t (by rw [Qg]; simp [ht]))),fun s hs=>(by cases hs),fun _ _=>rfl⟩⟩,fun s hs=>hs,fun s hs=>hs,?_,fun s hs=>(by cases hs),fun hb=>(by cases hb)⟩,fun hb=>(by cases hb),fun hb=>(by cases hb),fun s hs=>XQ hs rfl⟩
 rintro s (hs | ⟨t,ht,_⟩)
 ·simp [Jk] at hs
 ·cases ht
theorem PN (HT:J5 P A.ty) {R:Type} {oc:OC R} (hoc:HG P A oc) {r:R}:∀ {l:List Oper} {σ:St} {κ:List Rec→St→Option R},Cj oc A ops.toList l σ κ=some r →
  ∃ (rc:Nat→Rec) (st:Nat→St),st 0=σ∧(∀ j o,l[j]?=some o→Ob P ops o (st j) (rc j) (st (j + 1)))∧κ ((List.range l.length).map rc) (st l.length)=some r
 | [],σ,κ,h=>⟨fun _=>default,fun _=>σ,rfl,fun j o hj=>(by simp at hj),h⟩
 | o :: l,σ,κ,h=>by
  have next:(∃ rc σ',Cj oc A ops.toList l σ' (fun rs=>κ (rc :: rs))=some r∧Ob P ops o σ rc σ')→∃ (rc:Nat→Rec) (st:Nat→St),st 0=σ∧(∀ j o',(o :: l)[j]?=some o'→Ob P ops o' (st j) (rc j) (st (j + 1)))∧κ ((List.range (o :: l).length).map rc) (st (o :: l).length)=some r:=by
   rintro ⟨rc0,σ',h1,h2⟩
   obtain ⟨rc,st,k1,k2,k3⟩:=PN HT hoc h1
   refine ⟨fun j=>match j with | 0=>rc0 | j + 1=>rc j,fun j=>match j with | 0=>σ | j + 1=>st j,rfl,?_,?_⟩
   ·intro j o' hj
    cases j with
    | zero=>
     simp only [List.getElem?_cons_zero,oj] at hj
     subst hj
     simp only [k1]
     exact h2
    | succ j=>
     simp only [List.getElem?_cons_succ] at hj
     exact k2 j o' hj
   ·rw [List.length_cons,List.range_succ_eq_map,List.map_cons,List.map_map]
    exact k3
  apply next
  unfold Cj at h
  split at h
  ·rename_i hg
   exact Kw HT hoc (by simp [Um,hg]) h
  ·rename_i j want hg
   split at h
   ·rename_i t hd
    split at h
    ·rename_i hv
     exact Ky ⟨j,want,t,hg,hd,.inl hv⟩ h
    ·rename_i bb hv
     have hsame:JV σ.sl t (.bool bb)=σ.sl:=Wl hv (by simp)
     have hσ:(⟨σ.sl,σ.bl⟩:St)=σ:=rfl
     cases bb with
     | true=>
      simp only [cond_true,HE] at h
      rw [hsame,hσ] at h
      cases want with
      | true=>exact Kw HT hoc (by simp only [Um,hg]; exact ⟨t,hd,hv⟩) h
      | false=>exact Ky ⟨j,false,t,hg,hd,.inr hv⟩ h
     | false=>
      simp only [cond_false,HE] at h
      rw [hsame,hσ] at h
      cases want with
      | true=>exact Ky ⟨j,true,t,hg,hd,.inr hv⟩ h
      | false=>exact Kw HT hoc (by simp only [Um,hg]; exact ⟨t,hd,hv⟩) h
    ·cases h
   ·cases h
theorem Kz (HT:J5 P A.ty) {R:Type} {oc:OC R} (hoc:HG P A oc) {σ:St} {κ:St→Option R} {r:R} (h:HA oc A σ o κ=some r):∃ sl1 v b1,κ ⟨QD sl1 o.dst v,b1⟩=some r∧OM P o σ.sl σ.bl sl1 v b1:=by
 unfold HA at h
 split at h
 ·rename_i t x y ho
  split at h
  ·rename_i c sl b hp
   obtain ⟨h1,h2⟩:=UM h
   rw [U1,UL] at h2
   unfold K7 at hp
   split at hp
   ·split at hp
    ·cases hp
    ·split at hp
     ·cases hp
     ·split at hp
      ·cases hp
      ·split at hp
       ·cases hp
       ·split at hp
        ·rename_i hq
         simp only [oj,pj] at hp
         obtain ⟨rfl,rfl,rfl⟩:=hp
         exact ⟨_,_,_,h2,jF HT ho hq h1⟩
        ·cases hp
   ·cases hp
  ·obtain ⟨sl1,v,b1,h1,h2,_⟩:=Kv HT hoc h
   exact ⟨sl1,v,b1,h1,h2⟩
 ·obtain ⟨sl1,v,b1,h1,h2,_⟩:=Kv HT hoc h
  exact ⟨sl1,v,b1,h1,h2⟩
theorem KA (HT:J5 P A.ty) {R:Type} {oc:OC R} (hoc:HG P A oc) {Pn:Nat→Option Value} {r:R} {Q:Exit→Act→World→Prop}:∀ {l:List Oper} {σ:St} {a:Act} {w:World} {κ:St→Option R},(∀ o ∈ l,∀ t,o.dst=some t→Pn t=none)→Rel Pn w0 F0 σ a w→Hm oc A ops.toList l σ κ=some r →
  (∀ σ' a' w',κ σ'=some r→Rel Pn w0 F0 σ' a' w'→Q .normal a' w')→wpList P ops Q l a w
 | [],σ,a,w,κ,_,hr,h,hK=>hK _ _ _ h hr
 | o :: l,σ,a,w,κ,hd,hr,h,hK=>by
  have hr0:Rel Pn w0 F0 ⟨σ.sl,σ.bl⟩ a w:=hr
  have useb:∀ {sl1:List V} {v:V} {b1:BL},Um ops.toList σ.sl o→OM P o σ.sl σ.bl sl1 v b1→Hm oc A ops.toList l ⟨QD sl1 o.dst v,b1⟩ κ=some r→wpList P ops Q (o :: l) a w:=by
   intro sl1 v b1 hw hsem hrest
   obtain ⟨G,hc,hs⟩:=hr0.core
   unfold wpList
   rw [Kt hs hw]
   simp only [if_true]
   exact .inl (hsem (hd o (by simp)) hr0 (fun a' w' hr'=>KA HT hoc (fun o' ho'=>hd o' (by simp [ho'])) hr' hrest hK))
  have use:∀ {v:V} {b1:BL},VB P ops o σ.sl σ.bl v b1→Hm oc A ops.toList l ⟨QD σ.sl o.dst v,b1⟩ κ=some r→wpList P ops Q (o :: l) a w:=by
   intro v b1 hsem hrest
   have:=hsem Pn w0 F0 a w (hd o (by simp)) hr0 (wpList P ops Q l) Q (fun a' w' hr'=>KA HT hoc (fun o' ho'=>hd o' (by simp [ho'])) hr' hrest hK)
   unfold wpList
   exact this
  have go:Um ops.toList σ.sl o→HA oc A σ o (fun σ'=>Hm oc A ops.toList l σ' κ)=some r→wpList P ops Q (o :: l) a w:=by
   intro hw hp
   obtain ⟨sl1,v,b1,h1,h2⟩:=Kz HT hoc hp
   exact useb hw h2 h1
  have skip:ON ops.toList σ.sl o→QW σ o.dst .void σ.bl (fun σ'=>Hm oc A ops.toList l σ' κ)=some r→wpList P ops Q (o :: l) a w:=by
   intro hw hp
   rw [UL] at hp
   exact use (Ku hw) hp
  unfold Hm at h
  split at h
  ·rename_i hg
   exact go (by simp [Um,hg]) h
  ·rename_i j want hg
   split at h
   ·rename_i t hdt
    split at h
    ·rename_i hv
     exact skip ⟨j,want,t,hg,hdt,.inl hv⟩ h
    ·rename_i bb hv
     have hsame:JV σ.sl t (.bool bb)=σ.sl:=Wl hv (by simp)
     have hσ:(⟨σ.sl,σ.bl⟩:St)=σ:=rfl
     cases bb with
     | true=>
      simp only [cond_true,HE] at h
      rw [hsame,hσ] at h
      cases want with
      | true=>exact go (by simp only [Um,hg]; exact ⟨t,hdt,hv⟩) h
      | false=>exact skip ⟨j,false,t,hg,hdt,.inr hv⟩ h
     | false=>
      simp only [cond_false,HE] at h
      rw [hsame,hσ] at h
      cases want with
      | true=>exact skip ⟨j,true,t,hg,hdt,.inr hv⟩ h
      | false=>exact go (by simp only [Um,hg]; exact ⟨t,hdt,hv⟩) h
    ·cases h
   ·cases h
theorem j0 {v:V} {Pn:Nat→Option Value} {K:Act→World→Prop} {Q:Exit→Act→World→Prop} (hprim:JH P w0 F0 sl a w o v b1) (hdst:∀ t,o.dst=some t→Pn t=none) (hl:a.tmps.size=sl.length) (hd:a.defers=[]) (hpin:∀ t v,Pn t=some v→a.tmps.getD t undef=v)
  (hK:∀ a' w',Rel Pn w0 F0 ⟨QD sl o.dst v,b1⟩ a' w'→K a' w'):o.wp P a w K Q:=by
 obtain ⟨vv,w',G',hrun,k1,k2,k3⟩:=hprim
 have hrel:=Rel.put (d:=o.dst) k1 k2 hl hd hpin hdst k3
 unfold Oper.wp
 rcases hrun with hrun | ⟨hrun,hvv⟩
 ·rw [hrun]; exact hK _ _ hrel
 ·rw [hrun]; subst hvv; exact hK _ _ hrel
theorem PO {R:Type} {x y:Option R} {r:R} (h:C4 x y=some r):x=some r∧y=some r:=by
 unfold C4 at h
 split at h
 ·rename_i he
  exact ⟨h,by rw [← he]; exact h⟩
 ·cases h
theorem j6 (HT:J5 P A.ty) {Pn:Nat→Option Value} {σ:St} {c:List JD} {l:List D} {ng:Bool} (h:Y7 A σ o=some (c,l,ng)) (hk:∀ k ∈ c,k.ok) (hdst:∀ t,o.dst=some t→Pn t=none) (hr:Rel Pn w0 F0 ⟨σ.sl,σ.bl⟩ a w) :
  o.guard=none∧∃ r:Bool,(r=ng ∨ (r=Qa ng∧¬ 1≤l.length))∧∀ (K:Act→World→Prop) (Q:Exit→Act→World→Prop),(∀ a' w',Rel Pn w0 F0 ⟨QD σ.sl o.dst (.bool r),σ.bl⟩ a' w'→K a' w')→o.wp P a w K Q:=by
 unfold Y7 at h
 split at h
 ·cases h
 ·rename_i hg
  refine ⟨hg,?_⟩
  split at h
  ·rename_i op t x y ty hop
   split at h
   ·rename_i ht
    split at h
    ·rename_i hye
     split at h
     ·cases h
     ·rename_i v hv hxe
      split at h
      ·rename_i c0 e0 l0 hel
       obtain ⟨⟨G,hc,hs⟩,hl,hd,hpin⟩:=hr
       have hop2:(op=.eql ∨ op=.neq)∧c0=c∧l0=l∧ng=(match op with | .eql=>false | _=>true):=by
        cases op <;> simp at h <;> obtain ⟨rfl,rfl,rfl⟩:=h <;> simp
       obtain ⟨hop3,rfl,rfl,hng⟩:=hop2
       have hx:=J6 hs x
       have hy:=J6 hs y
       rw [hye] at hy
       obtain ⟨hy,_⟩:=Oz.1 hy
       obtain ⟨te,hdd⟩:=V2 HT ht
       obtain ⟨Ad,cap,F,h1,h2,_⟩:=V0 hc hx hel hk
       have hprim:JH P w0 F0 σ.sl a w o (.bool (HU op Ad.isNone)) σ.bl:=by
        refine JH.pure hc hs (YA hop hop3 (fun p hp'=>by rw [h1] at hp'; cases hp') (by rw [h1]; rfl) ?_) (QL.2 ⟨rfl,rfl⟩)
        rw [hy,h1,Op.equalIn]
        cases Ad <;> simp [QS hdd]
       refine ⟨HU op Ad.isNone,?_,fun K Q hK=>j0 hprim hdst hl hd hpin hK⟩
       rcases h2 with ⟨g,_⟩ | ⟨ad,_,_,g,_⟩
       ·subst g
        cases Ad with
        | none=>right; refine ⟨?_,by simp⟩; rcases hop3 with rfl | rfl <;> simp [hng,HU,Qa]
        | some _=>left; rcases hop3 with rfl | rfl <;> simp [hng,HU]
       ·left; subst g; rcases hop3 with rfl | rfl <;> simp [hng,HU]
      ·cases h
    ·cases h
   ·cases h
  ·cases h
theorem XR (HT:J5 P A.ty) {R:Type} {oc:OC R} (hoc:HG P A oc) {Pn:Nat→Option Value} {r:R} {Q:Exit→Act→World→Prop}:∀ {l:List Oper} {σ:St} {a:Act} {w:World} {κ:St→Option R},(∀ o ∈ l,∀ t,o.dst=some t→Pn t=none)→Rel Pn w0 F0 σ a w→UG oc A ops.toList l σ κ=some r →
  (∀ σ' a' w',κ σ'=some r→Rel Pn w0 F0 σ' a' w'→Q .normal a' w')→wpList P ops Q l a w
 | [],σ,a,w,κ,_,hr,h,hK=>hK _ _ _ h hr
 | o :: l,σ,a,w,κ,hd,hr,h,hK=>by
  have hr0:Rel Pn w0 F0 ⟨σ.sl,σ.bl⟩ a w:=hr
  have useb:∀ {sl1:List V} {v:V} {b1:BL},Um ops.toList σ.sl o→OM P o σ.sl σ.bl sl1 v b1→UG oc A ops.toList l ⟨QD sl1 o.dst v,b1⟩ κ=some r→wpList P ops Q (o :: l) a w:=by
   intro sl1 v b1 hw hsem hrest
   obtain ⟨G,hc,hs⟩:=hr0.core
   unfold wpList
   rw [Kt hs hw]
   simp only [if_true]
   exact .inl (hsem (hd o (by simp)) hr0 (fun a' w' hr'=>XR HT hoc (fun o' ho'=>hd o' (by simp [ho'])) hr' hrest hK))
  have use:∀ {v:V} {b1:BL},VB P ops o σ.sl σ.bl v b1→UG oc A ops.toList l ⟨QD σ.sl o.dst v,b1⟩ κ=some r→wpList P ops Q (o :: l) a w:=by
   intro v b1 hsem hrest
   have:=hsem Pn w0 F0 a w (hd o (by simp)) hr0 (wpList P ops Q l) Q (fun a' w' hr'=>XR HT hoc (fun o' ho'=>hd o' (by simp [ho'])) hr' hrest hK)
   unfold wpList
   exact this
  have go:Um ops.toList σ.sl o→HA oc A σ o (fun σ'=>UG oc A ops.toList l σ' κ)=some r→wpList P ops Q (o :: l) a w:=by
   intro hw hp
   obtain ⟨sl1,v,b1,h1,h2⟩:=Kz HT hoc hp
   exact useb hw h2 h1
  have skip:ON ops.toList σ.sl o→QW σ o.dst .void σ.bl (fun σ'=>UG oc A ops.toList l σ' κ)=some r→wpList P ops Q (o :: l) a w:=by
   intro hw hp
   rw [UL] at hp
   exact use (Ku hw) hp
  unfold UG at h
  split at h
  ·rename_i c ls ng hn
   obtain ⟨hk,h⟩:=UM h
   obtain ⟨hg,r0,hr1,hwp⟩:=j6 HT hn hk (hd o (by simp)) hr0
   have hrest:UG oc A ops.toList l ⟨QD σ.sl o.dst (.bool r0),σ.bl⟩ κ=some r:=by
    split at h
    ·rename_i hl1
     rw [UL] at h
     rcases hr1 with rfl | ⟨_,hl2⟩
     ·exact h
     ·exact absurd hl1 hl2
    ·obtain ⟨h1,h2⟩:=PO h
     rw [UL] at h1 h2
     rcases hr1 with rfl | ⟨rfl,_⟩
     ·exact h1
     ·exact h2
   have hwd:Region.wanted o (yielded ops a.tmps)=true:=by simp [Region.wanted,hg]
   unfold wpList
   rw [hwd]
   simp only [if_true]
   exact .inl (hwp _ _ (fun a' w' hr'=>XR HT hoc (fun o' ho'=>hd o' (by simp [ho'])) hr' hrest hK))
  ·split at h
   ·rename_i hg
    exact go (by simp [Um,hg]) h
   ·rename_i j want hg
    split at h
    ·rename_i t hdt
     split at h
     ·rename_i hv
      exact skip ⟨j,want,t,hg,hdt,.inl hv⟩ h
     ·rename_i bb hv
      have hsame:JV σ.sl t (.bool bb)=σ.sl:=Wl hv (by simp)
      have hσ:(⟨σ.sl,σ.bl⟩:St)=σ:=rfl
      cases bb with
      | true=>
       simp only [cond_true,HE] at h
       rw [hsame,hσ] at h
       cases want with
       | true=>exact go (by simp only [Um,hg]; exact ⟨t,hdt,hv⟩) h
       | false=>exact skip ⟨j,false,t,hg,hdt,.inr hv⟩ h
      | false=>
       simp only [cond_false,HE] at h
       rw [hsame,hσ] at h
       cases want with
       | true=>exact skip ⟨j,true,t,hg,hdt,.inr hv⟩ h
       | false=>exact go (by simp only [Um,hg]; exact ⟨t,hdt,hv⟩) h
     ·cases h
    ·cases h
end
end Go.Rai
