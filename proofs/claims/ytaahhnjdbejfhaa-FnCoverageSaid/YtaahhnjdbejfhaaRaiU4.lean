/- An evaluator of the model's programs over plain values, proved sound, part 4 of 6. It is used by the claim's law; it has no condition of its own. -/
import Derived.Test.YtaahhnjdbejfhaaRaiU3
set_option linter.unusedVariables false
set_option linter.unusedSectionVars false
set_option linter.unusedSimpArgs false
namespace Go.Rai
variable [Inhabited Qk]
def UW (P:Program) (o:Oper) (sl:List V) (b:BL) (v:V) (b1:BL):Prop:=
 ∀ {Pn:Nat→Option Value} {w0:World} {F0:List Nat} {a:Act} {w:World},(∀ t,o.dst=some t→Pn t=none)→Rel Pn w0 F0 ⟨sl,b⟩ a w→∀ {K:Act→World→Prop} {Q:Exit→Act→World→Prop},
  (∀ a' w',Rel Pn w0 F0 ⟨Qy sl o.dst v,b1⟩ a' w'→K a' w')→o.wp P a w K Q
def Loc (P:Program) (o:Oper) (sl:List V) (b:BL) (v:V) (b1:BL) (rd T W N:List Nat):Prop:=
 (∀ s,s ∉ W→Jb b1 s=Jb b s) ∧
 ∀ sl' b',(∀ t ∈ rd,Jw sl' t=Jw sl t)→QP b b' T→(∀ s ∈ N,s ∉ Jl sl'∧s ∉ Jv b') →
  ∃ b1',UW P o sl' b' v b1'∧(∀ s ∈ W,Jb b1' s=Jb b1 s)∧(∀ s,s ∉ W→Jb b1' s=Jb b' s)
section
variable {P:Program} {A:Ann} {w w' w0:World} {F0:List Nat} {sl sl':List V} {a:Act} {b b' b1:BL} {G:GT} {o:Oper} {v:V} {c:List Jk}
theorem HE (HT:JN P A.ty) (hp:JE A sl b o.dst o.op=some (c,v,b1)) (hk:∀ x ∈ c,x.ok):UW P o sl b v b1:=by
 intro Pn w0 F0 a w hdst hr K Q hK
 obtain ⟨⟨G,hc,hs⟩,hl,hd,hpin⟩:=hr
 obtain ⟨vv,w',G',hrun,k1,k2,k3⟩:=jq (o:=o) HT hc hs rfl hp hk
 have hrel:=Rel.put (d:=o.dst) k1 k2 hl hd hpin hdst k3
 unfold Oper.wp
 rcases hrun with hrun | ⟨hrun,hvv⟩
 ·rw [hrun];exact hK _ _ hrel
 ·rw [hrun];subst hvv;exact hK _ _ hrel
theorem jN (HT:JN P A.ty) (hcl:(match cls o.op with | .read=>true | _=>false)=true) (hp:JE A sl b o.dst o.op=some (c,v,b1)) (hk:∀ x ∈ c,x.ok) {g:List Nat} :
  Loc P o sl b v b1 (cat g (Ul (Jn o.op))) (Jl (Jm sl (Jn o.op))) [] []:=by
 have h0:=(Kt (A:=A) (sl:=sl) (sl':=sl) (b:=b) (b':=b) (d:=o.dst) hcl (fun _ _=>rfl) (fun _ _=>rfl) c v b1 hp).1
 subst h0
 refine ⟨fun _ _=>rfl,fun sl' b' h1 h2 h3=>?_⟩
 have ho:Qm sl sl' (Jn o.op):=Hr (fun t ht=>h1 t (by rw [Qd];simp [ht]))
 exact ⟨b',HE HT (Kt hcl ho h2 c v b1 hp).2 hk,fun s hs=>(by cases hs),fun _ _=>rfl⟩
def OS (c:V) (p:List Nat) (e:Ty) (n:Nat):Prop:=c.outer p=true∧∃ l,c.get p=some ([],.own e l)∧l.length=n
def sim (c c':V):Prop:=∀ p e n,OS c p e n ↔ OS c' p e n
def UX (x y:Option V):Prop:=(x=none∧y=none) ∨ ∃ c c',x=some c∧y=some c'∧sim c c'
theorem jO (c:V):sim c c:=fun _ _ _=>Iff.rfl
theorem WK (x:Option V):UX x x:=by
 cases x with
 | none=>exact .inl ⟨rfl,rfl⟩
 | some c=>exact .inr ⟨c,c,rfl,rfl,jO c⟩
theorem jP {x y:Option V} (h:UX x y):UX y x:=by
 rcases h with ⟨h1,h2⟩ | ⟨c,c',h1,h2,h3⟩
 ·exact .inl ⟨h2,h1⟩
 ·exact .inr ⟨c',c,h2,h1,fun p e n=>(h3 p e n).symm⟩
theorem Pk {x y z:Option V} (h:UX x y) (h':UX y z):UX x z:=by
 rcases h with ⟨h1,h2⟩ | ⟨c,c',h1,h2,h3⟩
 ·rcases h' with ⟨k1,k2⟩ | ⟨d,d',k1,k2,k3⟩
  ·exact .inl ⟨h1,k2⟩
  ·rw [h2] at k1;cases k1
 ·rcases h' with ⟨k1,k2⟩ | ⟨d,d',k1,k2,k3⟩
  ·rw [h2] at k1;cases k1
  ·rw [h2] at k1
   simp only [oj] at k1
   subst k1
   exact .inr ⟨c,d',h1,k2,fun p e n=>(h3 p e n).trans (k3 p e n)⟩
theorem CA {α:Type}:∀ (l:List α) (j i:Nat) (x:α),nth (JD l j x) i=if i=j then (match nth l j with | some _=>some x | none=>none) else nth l i
 | [],j,i,x=>by
  simp only [JD,nth]
  split<;>rfl
 | a :: l,0,i,x=>by
  cases i with
  | zero=>simp [JD,nth]
  | succ i=>simp [JD,nth]
 | a :: l,j + 1,i,x=>by
  cases i with
  | zero=>simp [JD,nth]
  | succ i=>
   simp only [JD,nth,CA l j i x]
   by_cases h:i=j
   ·simp [h]
   ·simp [h]
theorem Oh {c:V} {e:Ty} {n:Nat} (h:∀ e' l,c ≠ .own e' l):¬ OS c [] e n:=by
 rintro ⟨_,l,h1,_⟩
 simp only [V.get,oj,pj,true_and] at h1
 exact h _ _ h1
theorem Hs {c y:V} {j:Nat} {p:List Nat} {e:Ty} {n:Nat} (h1:∀ e' l,c ≠ .own e' l) (h2:∀ m e' l,c ≠ .arr m e' l) (hs:c.step j=some ([],y)):OS c (j :: p) e n ↔ OS y p e n:=by
 have ho:c.outer (j :: p)=y.outer p:=by
  cases c<;>first | exact absurd rfl (h1 _ _) | exact absurd rfl (h2 _ _ _) | (simp only [V.outer,hs])
 have hg:c.get (j :: p)=(match y.get p with | some (c',z)=>some (c',z) | none=>none):=by
  simp only [V.get,hs,cat]
  cases y.get p<;>rfl
 unfold OS
 rw [ho,hg]
 cases hy:y.get p with
 | none=>rfl
 | some q=>rfl
theorem VP {c:V} {j:Nat} {p:List Nat} {e:Ty} {n:Nat} (hs:c.step j=none):¬ OS c (j :: p) e n:=by
 rintro ⟨_,l,h1,_⟩
 simp only [V.get,hs] at h1
 cases h1
theorem Pl:∀ (q:List Nat) (c x:V),(∃ r,c.get q=some r)→c.outer q=false→sim c (c.set q x)
 | [],c,x,_,h=>by simp [V.outer] at h
 | j :: q,c,x,hg,h=>by
  have go:∀ (y:V),c.step j=some ([],y)→(∀ e' l,c ≠ .own e' l)→(∀ m e' l,c ≠ .arr m e' l)→sim y (y.set q x):=by
   intro y hs h1 h2
   refine Pl q y x ?_ ?_
   ·obtain ⟨r,hr⟩:=hg
    simp only [V.get,hs] at hr
    cases hy:y.get q with
    | none=>rw [hy] at hr;cases hr
    | some z=>exact ⟨z,rfl⟩
   ·cases c<;>first | exact absurd rfl (h1 _ _) | exact absurd rfl (h2 _ _ _) | (simp only [V.outer,hs] at h;exact h)
  obtain ⟨r,hr⟩:=hg
  cases c with
  | own e0 l=>
   intro p e n
   cases p with
   | nil=>
    simp only [V.set,V.step,V.put]
    constructor
    ·rintro ⟨_,l',h1,h2⟩
     simp only [V.get,oj,pj,true_and,V.own.injEq] at h1
     obtain ⟨rfl,rfl⟩:=h1
     exact ⟨rfl,_,rfl,by simpa using h2⟩
    ·rintro ⟨_,l',h1,h2⟩
     simp only [V.get,oj,pj,true_and,V.own.injEq] at h1
     obtain ⟨rfl,rfl⟩:=h1
     exact ⟨rfl,_,rfl,by simpa using h2⟩
   | cons i p=>
    simp only [V.set,V.step,V.put]
    constructor<;>(rintro ⟨h1,_⟩;simp [V.outer] at h1)
  | arr m e0 l=>
   intro p e n
   cases p with
   | nil=>
    simp only [V.set,V.step,V.put]
    constructor<;>(rintro ⟨_,l',h1,h2⟩;simp [V.get] at h1)
   | cons i p=>
    simp only [V.set,V.step,V.put]
    constructor<;>(rintro ⟨h1,_⟩;simp [V.outer] at h1)
  | agg vs=>
   cases hn:nth vs j with
   | none=>simp [V.get,V.step,hn] at hr
   | some y=>
    have hy:=go y (by simp [V.step,hn]) (by intro _ _ h;cases h) (by intro _ _ _ h;cases h)
    intro p e n
    simp only [V.set,V.step,hn,V.put]
    cases p with
    | nil=>exact ⟨fun h=>absurd h (Oh (by intro _ _ h;cases h)),fun h=>absurd h (Oh (by intro _ _ h;cases h))⟩
    | cons i p=>
     by_cases hij:i=j
     ·subst hij
      rw [Hs (y:=y) (by intro _ _ h;cases h) (by intro _ _ _ h;cases h) (by simp [V.step,hn]),Hs (y:=y.set q x) (by intro _ _ h;cases h) (by intro _ _ _ h;cases h) (by simp [V.step,CA,hn])]
      exact hy p e n
     ·cases hi:nth vs i with
      | none=>exact ⟨fun h=>absurd h (VP (by simp [V.step,hi])),fun h=>absurd h (VP (by simp [V.step,CA,hij,hi]))⟩
      | some z=>rw [Hs (y:=z) (by intro _ _ h;cases h) (by intro _ _ _ h;cases h) (by simp [V.step,hi]),Hs (y:=z) (by intro _ _ h;cases h) (by intro _ _ _ h;cases h) (by simp [V.step,CA,hij,hi])]
  | lst e0 vs=>
   cases hn:nth vs j with
   | none=>simp [V.get,V.step,hn] at hr
   | some y=>
    have hy:=go y (by simp [V.step,hn]) (by intro _ _ h;cases h) (by intro _ _ _ h;cases h)
    intro p e n
    simp only [V.set,V.step,hn,V.put]
    cases p with
    | nil=>exact ⟨fun h=>absurd h (Oh (by intro _ _ h;cases h)),fun h=>absurd h (Oh (by intro _ _ h;cases h))⟩
    | cons i p=>
     by_cases hij:i=j
     ·subst hij
      rw [Hs (y:=y) (by intro _ _ h;cases h) (by intro _ _ _ h;cases h) (by simp [V.step,hn]),Hs (y:=y.set q x) (by intro _ _ h;cases h) (by intro _ _ _ h;cases h) (by simp [V.step,CA,hn])]
      exact hy p e n
     ·cases hi:nth vs i with
      | none=>exact ⟨fun h=>absurd h (VP (by simp [V.step,hi])),fun h=>absurd h (VP (by simp [V.step,CA,hij,hi]))⟩
      | some z=>rw [Hs (y:=z) (by intro _ _ h;cases h) (by intro _ _ _ h;cases h) (by simp [V.step,hi]),Hs (y:=z) (by intro _ _ h;cases h) (by intro _ _ _ h;cases h) (by simp [V.step,CA,hij,hi])]
  | fn f vs=>
   cases hn:nth vs j with
   | none=>simp [V.get,V.step,hn] at hr
   | some y=>
    have hy:=go y (by simp [V.step,hn]) (by intro _ _ h;cases h) (by intro _ _ _ h;cases h)
    intro p e n
    simp only [V.set,V.step,hn,V.put]
    cases p with
    | nil=>exact ⟨fun h=>absurd h (Oh (by intro _ _ h;cases h)),fun h=>absurd h (Oh (by intro _ _ h;cases h))⟩
    | cons i p=>
     by_cases hij:i=j
     ·subst hij
      rw [Hs (y:=y) (by intro _ _ h;cases h) (by intro _ _ _ h;cases h) (by simp [V.step,hn]),Hs (y:=y.set q x) (by intro _ _ h;cases h) (by intro _ _ _ h;cases h) (by simp [V.step,CA,hn])]
      exact hy p e n
     ·cases hi:nth vs i with
      | none=>exact ⟨fun h=>absurd h (VP (by simp [V.step,hi])),fun h=>absurd h (VP (by simp [V.step,CA,hij,hi]))⟩
      | some z=>rw [Hs (y:=z) (by intro _ _ h;cases h) (by intro _ _ _ h;cases h) (by simp [V.step,hi]),Hs (y:=z) (by intro _ _ h;cases h) (by intro _ _ _ h;cases h) (by simp [V.step,CA,hij,hi])]
  | obox y=>
   have hy:=go y (by simp [V.step]) (by intro _ _ h;cases h) (by intro _ _ _ h;cases h)
   intro p e n
   simp only [V.set,V.step,V.put]
   cases p with
   | nil=>exact ⟨fun h=>absurd h (Oh (by intro _ _ h;cases h)),fun h=>absurd h (Oh (by intro _ _ h;cases h))⟩
   | cons i p=>
    rw [Hs (y:=y) (by intro _ _ h;cases h) (by intro _ _ _ h;cases h) (by simp [V.step]),Hs (y:=y.set q x) (by intro _ _ h;cases h) (by intro _ _ _ h;cases h) (by simp [V.step])]
    exact hy p e n
  | _=>simp [V.get,V.step] at hr
theorem Pm:∀ (p:List Nat) (c:V) {cs:List Jk} {x:V},c.outer p=true→c.get p=some (cs,x)→cs=[]
 | [],c,cs,x,_,h=>by simp only [V.get,oj,pj] at h;exact h.1.symm
 | j :: p,c,cs,x,ho,h=>by
  have go:∀ y,c.step j=some ([],y)→y.outer p=true→cs=[]:=by
   intro y hs hy
   simp only [V.get,hs,cat] at h
   cases hz:y.get p with
   | none=>rw [hz] at h;cases h
   | some q=>
    obtain ⟨c',z⟩:=q
    rw [hz] at h
    simp only [oj,pj] at h
    rw [← h.1]
    exact Pm p y hy hz
  cases c with
  | own e l=>simp [V.outer] at ho
  | arr n e l=>simp [V.outer] at ho
  | agg vs=>
   cases hn:nth vs j with
   | none=>simp [V.outer,V.step,hn] at ho
   | some y=>exact go y (by simp [V.step,hn]) (by simpa [V.outer,V.step,hn] using ho)
  | lst e vs=>
   cases hn:nth vs j with
   | none=>simp [V.outer,V.step,hn] at ho
   | some y=>exact go y (by simp [V.step,hn]) (by simpa [V.outer,V.step,hn] using ho)
  | fn f vs=>
   cases hn:nth vs j with
   | none=>simp [V.outer,V.step,hn] at ho
   | some y=>exact go y (by simp [V.step,hn]) (by simpa [V.outer,V.step,hn] using ho)
  | obox y=>exact go y (by simp [V.step]) (by simpa [V.outer,V.step] using ho)
  | _=>simp [V.outer,V.step] at ho
def XV (b b':BL) (L:List Nat):Prop:=∀ s ∈ L,UX (Jb b s) (Jb b' s)
theorem Po {b b':BL} {s:Nat} {p:List Nat} {cs:List Jk} {e:Ty} {l:List D} {c0:V} (h0:Jb b s=some c0) (ho:c0.outer p=true) (h:UX (Jb b s) (Jb b' s)) (hg:JS b s p=some (cs,.own e l)) :
  cs=[]∧∃ l',JS b' s p=some ([],.own e l')∧l'.length=l.length:=by
 unfold JS at hg
 rw [h0] at hg
 simp only at hg
 have hcs:=Pm p c0 ho hg
 subst hcs
 refine ⟨rfl,?_⟩
 rcases h with ⟨h1,_⟩ | ⟨c,c',h1,h2,h3⟩
 ·rw [h0] at h1;cases h1
 ·rw [h0] at h1
  simp only [oj] at h1
  subst h1
  obtain ⟨_,l',k1,k2⟩:=(h3 p e l.length).1 ⟨ho,l,hg,rfl⟩
  exact ⟨l',by unfold JS;rw [h2];exact k1,k2⟩
theorem jQ {x:V} {s:Nat} (h:VH b x=some s):(∃ p e c0,x=.full s p e∧Jb b s=some c0∧c0.outer p=true∧W6 c0=false) ∨ (∃ p o n e c0,x=.sub s p o n e∧Jb b s=some c0∧c0.outer p=true):=by
 unfold VH at h
 split at h
 ·split at h
  ·rename_i c0 hc
   split at h
   ·rename_i ho
    simp only [oj] at h
    subst h
    rw [Je] at ho
    exact .inl ⟨_,_,c0,rfl,hc,ho.1,by cases hq:W6 c0 with
     | false=>rfl
     | true=>rw [hq] at ho;simp [JO] at ho⟩
   ·cases h
  ·cases h
 ·split at h
  ·rename_i c0 hc
   split at h
   ·rename_i ho
    simp only [oj] at h
    subst h
    exact .inr ⟨_,_,_,_,c0,rfl,hc,ho⟩
   ·cases h
  ·cases h
 ·cases h
theorem jR {t:Ty} {x i:V} {s:Nat} (hL:VH b x=some s) (h:UX (Jb b s) (Jb b' s)) (hp:CE t b x i=some (c,v,b1)) (hk:∀ k ∈ c,k.ok):∃ c',CE t b' x i=some (c',v,b')∧(∀ k ∈ c',k.ok)∧b1=b:=by
 unfold CE at hp ⊢
 rcases jQ hL with ⟨p,e,c0,rfl,h0,ho,hnh⟩ | ⟨p,off,n,e,c0,rfl,h0,ho⟩
 ·split at hp
  ·rename_i i' hi
   simp only [hi]
   cases t with
   | slice e1=>
    simp only at hp ⊢
    split at hp
    ·rename_i cs e' l hg
     obtain ⟨rfl,l',k1,k2⟩:=Po h0 ho h hg
     split at hp
     ·rename_i hb
      simp only [oj,pj] at hp
      obtain ⟨rfl,rfl,rfl⟩:=hp
      refine ⟨cat [] [.ix i' l'.length],by simp only [k1,hb],?_,rfl⟩
      intro k hk'
      simp only [cat,List.mem_singleton] at hk'
      subst hk'
      have:=hk (.ix i' l.length) (by simp [cat])
      simp only [Jk.ok,k2] at this ⊢
      exact this
     ·cases hp
    ·unfold W7 at hp
     split at hp
     ·rw [h0] at hp
      cases c0<;>first | (simp [W6] at hnh;done) | (simp at hp;done)
     ·cases hp
   | arr m e1=>
    simp only at hp
    cases hp
   | _=>simp only at hp;cases hp
  ·cases hp
 ·split at hp
  ·rename_i i' hi
   simp only [hi]
   cases t with
   | slice e1=>
    simp only at hp ⊢
    split at hp
    ·rename_i cs e' l hg
     obtain ⟨rfl,l',k1,k2⟩:=Po h0 ho h hg
     split at hp
     ·rename_i hb
      simp only [oj,pj] at hp
      obtain ⟨rfl,rfl,rfl⟩:=hp
      refine ⟨cat [] [.ix i' n,.le (off + n) l'.length],by simp only [k1,hb],?_,rfl⟩
      intro k hk'
      have e1:=hk (.ix i' n) (by simp [cat])
      have e2:=hk (.le (off + n) l.length) (by simp [cat])
      simp only [cat,List.mem_cons,List.not_mem_nil,or_false] at hk'
      rcases hk' with rfl | rfl
      ·exact e1
      ·simp only [Jk.ok,k2] at e2 ⊢
       exact e2
     ·cases hp
    ·cases hp
   | arr m e1=>
    simp only at hp
    cases hp
   | _=>simp only at hp;cases hp
  ·cases hp
def OT (P:Program) (o:Oper) (sl:List V) (b:BL) (v:V) (b1:BL) (rd T W N L:List Nat):Prop:=
 (∀ s,s ∉ W→Jb b1 s=Jb b s) ∧
 ∀ sl' b',(∀ t ∈ rd,Jw sl' t=Jw sl t)→QP b b' T→XV b b' L→(∀ s ∈ N,s ∉ Jl sl'∧s ∉ Jv b') →
  ∃ b1',UW P o sl' b' v b1'∧(∀ s ∈ W,Jb b1' s=Jb b1 s)∧(∀ s,s ∉ W→Jb b1' s=Jb b' s)
theorem Loc.l {rd T W N L:List Nat} (h:Loc P o sl b v b1 rd T W N):OT P o sl b v b1 rd T W N L:=
 ⟨h.1,fun sl' b' h1 h2 _ h3=>h.2 sl' b' h1 h2 h3⟩
theorem jS (HT:JN P A.ty) (hcl:(match cls o.op with | .read=>true | _=>false)=true) (hp:JE A sl b o.dst o.op=some (c,v,b1)) (hk:∀ x ∈ c,x.ok) {g:List Nat} :
  OT P o sl b v b1 (cat g (Ul (Jn o.op))) (VI ⟨sl,b⟩ o.op) [] [] (WC ⟨sl,b⟩ o.op):=by
 have old:(Jl (Jm sl (Jn o.op))=VI ⟨sl,b⟩ o.op)→OT P o sl b v b1 (cat g (Ul (Jn o.op))) (VI ⟨sl,b⟩ o.op) [] [] (WC ⟨sl,b⟩ o.op):=by
  intro he
  rw [← he]
  exact (jN HT hcl hp hk).l
 have h0:=(Kt (A:=A) (sl:=sl) (sl':=sl) (b:=b) (b':=b) (d:=o.dst) hcl (fun _ _=>rfl) (fun _ _=>rfl) c v b1 hp).1
 subst h0
 have new:(∀ sl' b',Qm sl sl' (Jn o.op)→Ce b1 b' (JE A sl b1 o.dst o.op) (JE A sl' b' o.dst o.op))→OT P o sl b1 v b1 (cat g (Ul (Jn o.op))) (VI ⟨sl,b1⟩ o.op) [] [] (WC ⟨sl,b1⟩ o.op):=by
  intro hm
  refine ⟨fun _ _=>rfl,fun sl' b' h1 _ _ _=>?_⟩
  have ho:Qm sl sl' (Jn o.op):=Hr (fun t ht=>h1 t (by rw [Qd];simp [ht]))
  exact ⟨b',HE HT (hm sl' b' ho c v b1 hp).2 hk,fun s hs=>(by cases hs),fun _ _=>rfl⟩
 cases hop:o.op with
 | move x=>rw [← hop];refine new (fun sl' b' ho=>?_);rw [hop] at ho ⊢;simp only [JE];rw [ho x (by simp [Jn])];exact Qi
 | assign x=>rw [← hop];refine new (fun sl' b' ho=>?_);rw [hop] at ho ⊢;simp only [JE];rw [ho x (by simp [Jn])];exact Qi
 | pick q x y=>
  rw [← hop];refine new (fun sl' b' ho=>?_);rw [hop] at ho ⊢
  simp only [JE];rw [ho q (by simp [Jn]),ho x (by simp [Jn]),ho y (by simp [Jn])]
  split
  ·exact Qi
  ·exact Jz
 | unOp u t x=>
  rw [← hop];refine new (fun sl' b' ho=>?_);rw [hop] at ho ⊢
  simp only [JE];rw [ho x (by simp [Jn])]
  split
  ·exact Qi
  ·exact Jz
 | field t x f=>
  rw [← hop];refine new (fun sl' b' ho=>?_);rw [hop] at ho ⊢
  simp only [JE];rw [ho x (by simp [Jn])]
  split
  ·exact Qi
  ·exact Jz
 | extract x i=>
  rw [← hop];refine new (fun sl' b' ho=>?_);rw [hop] at ho ⊢
  simp only [JE];rw [ho x (by simp [Jn])]
  split
  ·split
   ·exact Qi
   ·exact Jz
  ·exact Jz
 | indexAddr t x i=>
  rw [← hop]
  cases hL:VH b1 (opd sl x) with
  | none=>exact old (by rw [hop];simp only [VI,hL,Jn])
  | some s=>
   refine ⟨fun _ _=>rfl,fun sl' b' h1 _ h2 _=>?_⟩
   have ho:Qm sl sl' (Jn o.op):=Hr (fun t ht=>h1 t (by rw [Qd];simp [ht]))
   rw [hop] at hp ho
   simp only [JE] at hp
   obtain ⟨c',k1,k2,_⟩:=jR hL (h2 s (by rw [hop];simp [WC,hL])) hp hk
   refine ⟨b',HE HT (c:=c') (b1:=b') ?_ k2,fun s hs=>(by cases hs),fun _ _=>rfl⟩
   rw [hop]
   simp only [JE]
   rw [ho x (by simp [Jn]),ho i (by simp [Jn])]
   exact k1
 | _=>rw [← hop];exact old (by rw [hop];rfl)
theorem VQ {x:V} {t:Nat} (h1:Jb b t=none) (h2:t ∉ Jl sl) (h3:t ∉ Jv b) (h4:t ∉ Jd x):Uh sl b x t=true:=by
 unfold Uh
 rw [h1]
 have e1:JT (Jl sl) t=false:=by cases h:JT (Jl sl) t with | false=>rfl | true=>exact absurd (UJ.1 h) h2
 have e2:JT (Jv b) t=false:=by cases h:JT (Jv b) t with | false=>rfl | true=>exact absurd (UJ.1 h) h3
 have e3:JT (Jd x) t=false:=by cases h:JT (Jd x) t with | false=>rfl | true=>exact absurd (UJ.1 h) h4
 simp [e1,e2,e3,bor,JO]
theorem Pp {x:V} {t:Nat} (h:Uh sl b x t=true):t ∉ Jd x:=(C6 h).2.2.2
def Fr (A:Ann) (op:Op) (sl:List V) (b:BL) (d:Option Nat) (c:List Jk) (v:V) (b1:BL):Prop:=
 ∃ t x,d=some t∧b1=Jp b t x∧Jb b t=none∧t ∉ Jd x ∧
  ∀ sl' b',Qm sl sl' (Jn op)→Uh sl' b' x t=true→JE A sl' b' d op=some (c,v,Jp b' t x)
theorem CB {d:Option Nat} {x:V} {cs:List Jk} (h:Q8 cs (fresh sl b d x)=some (c,v,b1)):∃ t,d=some t∧c=cs∧v=Qb t [] x∧b1=Jp b t x∧Jb b t=none∧t ∉ Jd x ∧
  ∀ sl' b',Uh sl' b' x t=true→Q8 cs (fresh sl' b' d x)=some (c,v,Jp b' t x):=by
 cases d with
 | none=>simp [fresh,Q8] at h
 | some t=>
  simp only [fresh] at h
  cases hu:Uh sl b x t with
  | false=>rw [hu] at h;simp [Q8] at h
  | true=>
   rw [hu] at h
   simp only [Q8,oj,pj] at h
   obtain ⟨rfl,rfl,rfl⟩:=h
   refine ⟨t,rfl,rfl,rfl,rfl,(C6 hu).1,Pp hu,fun sl' b' hu'=>?_⟩
   simp only [fresh,hu',Q8]
theorem jT {d:Option Nat} {op:Op} (hcl:(match cls op with | .fresh=>true | _=>false)=true) (hp:JE A sl b d op=some (c,v,b1)):Fr A op sl b d c v b1:=by
 cases op with
 | alloc t=>
  simp only [JE] at hp
  split at hp
  ·rename_i hz
   obtain ⟨t',h1,h2,h3,h4,h5,h6,h7⟩:=CB hp
   exact ⟨t',_,h1,h4,h5,h6,fun sl' b' _ hu=>by simp only [JE,hz];exact h7 sl' b' hu⟩
  ·cases hp
 | box t x=>
  simp only [JE] at hp
  split at hp
  ·rename_i hz
   obtain ⟨t',h1,h2,h3,h4,h5,h6,h7⟩:=CB hp
   exact ⟨t',_,h1,h4,h5,h6,fun sl' b' ho hu=>by simp only [JE,ho x (by simp [Jn]),hz];exact h7 sl' b' hu⟩
  ·cases hp
 | makeSlice t l cn=>
  simp only [JE] at hp
  split at hp
  ·rename_i e hty
   split at hp
   ·rename_i hpl
    split at hp
    ·rename_i l' c' hl hc
     obtain ⟨t',h1,h2,h3,h4,h5,h6,h7⟩:=CB hp
     exact ⟨t',_,h1,h4,h5,h6,fun sl' b' ho hu=>by
      simp only [JE,ho l (by simp [Jn]),ho cn (by simp [Jn]),hty,hpl,hl,hc];exact h7 sl' b' hu⟩
    ·cases hp
   ·cases hp
  ·cases hp
 | buildSlice t n ps=>
  simp only [JE] at hp
  split at hp
  ·rename_i e hty
   split at hp
   ·rename_i hz
    split at hp
    ·rename_i vs hf
     have go:∀ sl' b':_,Qm sl sl' (Jn (.buildSlice t n ps))→JE A sl' b' d (.buildSlice t n ps)=V6 e sl' b' d n vs:=by
      intro sl' b' ho
      simp only [JE,hty,hz]
      rw [Qm.opds (sl:=sl) (sl':=sl') (ps:=ps.toList) (by simpa [Jn] using ho),hf]
     unfold V6 at hp go
     split at hp
     ·rename_i hfl
      obtain ⟨t',h1,h2,h3,h4,h5,h6,h7⟩:=CB hp
      exact ⟨t',_,h1,h4,h5,h6,fun sl' b' ho hu=>by rw [go sl' b' ho];simp only [hfl];exact h7 sl' b' hu⟩
     ·rename_i hfl
      split at hp
      ·split at hp
       ·rename_i hpl
        obtain ⟨t',h1,h2,h3,h4,h5,h6,h7⟩:=CB hp
        exact ⟨t',_,h1,h4,h5,h6,fun sl' b' ho hu=>by rw [go sl' b' ho];simp only [hfl,hpl];exact h7 sl' b' hu⟩
       ·cases hp
      ·rename_i hn0
       obtain ⟨t',h1,h2,h3,h4,h5,h6,h7⟩:=CB hp
       exact ⟨t',_,h1,h4,h5,h6,fun sl' b' ho hu=>by
        rw [go sl' b' ho]
        simp only [hfl]
        cases n with
        | zero=>exact absurd rfl hn0
        | succ m=>exact h7 sl' b' hu⟩
    ·cases hp
   ·cases hp
  ·cases hp
 | call cl=>simp only [cls] at hcl;split at hcl<;>first | (cases hcl;done) | (rename_i h;split at h<;>cases h)
 | _=>simp [cls] at hcl
theorem jU (HT:JN P A.ty) (hcl:(match cls o.op with | .fresh=>true | _=>false)=true) (hp:JE A sl b o.dst o.op=some (c,v,b1)) (hk:∀ x ∈ c,x.ok) {g:List Nat} :
  Loc P o sl b v b1 (cat g (Ul (Jn o.op))) (J0 o.dst) (J0 o.dst) (J0 o.dst):=by
 obtain ⟨t,x,e1,e2,e3,e4,e5⟩:=jT hcl hp
 rw [e1]
 refine ⟨fun s hs=>?_,fun sl' b' h1 h2 h3=>?_⟩
 ·rw [e2,JG,if_neg]
  intro h;subst h;exact hs (by simp [J0])
 ·have ho:Qm sl sl' (Jn o.op):=Hr (fun t ht=>h1 t (by rw [Qd];simp [ht]))
  obtain ⟨n1,n2⟩:=h3 t (by simp [J0])
  have hu:Uh sl' b' x t=true:=VQ (by rw [h2 t (by simp [J0])];exact e3) n1 n2 e4
  have:=e5 sl' b' ho hu
  refine ⟨_,HE HT this hk,fun s hs=>?_,fun s hs=>?_⟩
  ·simp only [J0,List.mem_singleton] at hs
   subst hs
   rw [e2,JG,JG];simp
  ·rw [JG,if_neg]
   intro h;subst h;exact hs (by simp [J0])
theorem jV (HT:JN P A.ty) (hcl:(match cls o.op with | .store=>true | _=>false)=true) (hp:JE A sl b o.dst o.op=some (c,v,b1)) (hk:∀ x ∈ c,x.ok) {g:List Nat} :
  Loc P o sl b v b1 (cat g (Ul (Jn o.op))) (Of ⟨sl,b⟩ o.op) (Of ⟨sl,b⟩ o.op) []:=by
 cases hop:o.op with
 | store t ad x=>
  rw [hop] at hp
  simp only [JE] at hp
  split at hp
  ·cases hp
  ·rename_i hsz
   unfold O8 at hp
   split at hp
   ·rename_i s p had
    split at hp
    ·rename_i c0 hl
     split at hp
     ·rename_i cs y hg
      split at hp
      ·rename_i hf
       split at hp
       ·rename_i hsim
        simp only [oj,pj] at hp
        obtain ⟨rfl,rfl,rfl⟩:=hp
        have hss:Of ⟨sl,b⟩ (.store t ad x)=[s]:=by simp [Of,had,Jd]
        rw [hss]
        refine ⟨fun s' hs=>?_,fun sl' b' h1 h2 h3=>?_⟩
        ·rw [JG,if_neg]
         intro h;subst h;exact hs (by simp)
        ·have ho:Qm sl sl' (Jn (.store t ad x)):=Hr (fun t ht=>h1 t (by rw [Qd];simp [ht]))
         have hl':Jb b' s=some c0:=by rw [h2 s (by simp),hl]
         have hstep:JE A sl' b' o.dst o.op=some (cs,.void,Jp b' s (c0.set p (opd sl x))):=by
          rw [hop]
          simp only [JE,hsz,O8,ho ad (by simp [Jn]),ho x (by simp [Jn]),had,hl',hg,hf,hsim]
         refine ⟨_,HE HT hstep hk,fun s' hs=>?_,fun s' hs=>?_⟩
         ·simp only [List.mem_singleton] at hs
          subst hs
          rw [JG,JG];simp
         ·rw [JG,if_neg]
          intro h;subst h;exact hs (by simp)
       ·cases hp
      ·cases hp
     ·cases hp
    ·cases hp
   ·cases hp
 | call cl=>rw [hop] at hcl;simp only [cls] at hcl;split at hcl<;>first | (cases hcl;done) | (rename_i h;split at h<;>cases h)
 | _=>rw [hop] at hcl;simp [cls] at hcl
theorem VR {e:Ty} {x:V} {xs:List D} (hf:e.flat=true) (hs:XL b x=true) (ha:QP b b' (Jd x)) (h:Q4 e b x=some (c,xs,b1)):b1=b∧Q4 e b' x=some (c,xs,b'):=by
 have other:∀ y:V,QP b b' (Jd y)→(∀ bb,Q4 e bb y=(match U0 bb y with | some (c,e',l)=>(match e.beq e' with | true=>some (c,l,bb) | false=>none) | none=>none))→Q4 e b y=some (c,xs,b1) →
   b1=b∧Q4 e b' y=some (c,xs,b'):=by
  intro y hy hu h
  rw [hu] at h ⊢
  rw [XU hy]
  split at h
  ·split at h
   ·rename_i hb
    simp only [oj,pj] at h
    obtain ⟨rfl,rfl,rfl⟩:=h
    exact ⟨rfl,by simp only [hb]⟩
   ·cases h
  ·cases h
 cases x with
 | nilsl=>
  simp only [Q4,oj,pj] at h
  obtain ⟨rfl,rfl,rfl⟩:=h
  exact ⟨rfl,by simp only [Q4]⟩
 | emp e'=>
  simp only [Q4,oj,pj] at h
  obtain ⟨rfl,rfl,rfl⟩:=h
  exact ⟨rfl,by simp only [Q4]⟩
 | full s p e0=>
  simp only [Q4] at h ⊢
  rw [Cd (ha s (by simp [Jd]))]
  simp only [XL] at hs
  cases hg:JS b s p with
  | none=>rw [hg] at hs;cases hs
  | some q=>
   obtain ⟨c0,y⟩:=q
   rw [hg] at hs h
   cases y with
   | own e' l=>
    simp only at h ⊢
    split at h
    ·rename_i hb
     rw [hf] at h ⊢
     simp only [oj,pj] at h
     obtain ⟨rfl,rfl,rfl⟩:=h
     exact ⟨rfl,by simp only [hb]⟩
    ·cases h
   | _=>simp at hs
 | _=>exact other _ ha (fun bb=>by first | (simp only [Q4,hf];done) | (simp only [Q4,hf];rfl)) h
theorem Pq {t s:Nat} (h:s ∉ Jv b):s ∉ Jv (Qj b t):=by
 induction b with
 | nil=>exact h
 | cons a r ih=>
  obtain ⟨k,v⟩:=a
  simp only [Jv,Ju,not_or] at h
  unfold Qj
  split
  ·exact ih h.2
  ·simp only [Jv,Ju,not_or]
   exact ⟨h.1,ih h.2⟩
theorem Pr:∀ {vs:List V} {j:Nat} {x:V} {s:Nat},s ∈ Jl (JD vs j x)→s ∈ Jl vs ∨ s ∈ Jd x
 | [],j,x,s,h=>by simp [JD,Jl] at h
 | v :: vs,0,x,s,h=>by
  simp only [JD,Jl,Ju] at h ⊢
  rcases h with h | h
  ·exact .inr h
  ·exact .inl (.inr h)
 | v :: vs,j + 1,x,s,h=>by
  simp only [JD,Jl,Ju] at h ⊢
  rcases h with h | h
  ·exact .inl (.inl h)
  ·rcases Pr h with h | h
   ·exact .inl (.inr h)
   ·exact .inr h
theorem jW {v:V} {j:Nat} {x:V} {s:Nat} (h:s ∈ Jd (v.put j x)):s ∈ Jd v ∨ s ∈ Jd x:=by
 cases v<;>simp only [V.put,Jd] at h ⊢<;>first | exact Pr h | exact .inr h | exact .inl h | cases h
theorem jX {v y:V} {j:Nat} {c:List Jk} {s:Nat} (h:v.step j=some (c,y)) (hs:s ∈ Jd y):s ∈ Jd v:=by
 have part:∀ {vs:List V},(match nth vs j with | some v=>some (([]:List Jk),v) | none=>none)=some (c,y)→s ∈ Jl vs:=by
  intro vs h
  split at h
  ·rename_i hn
   simp only [oj,pj] at h
   obtain ⟨_,rfl⟩:=h
   exact Yx hn hs
  ·cases h
 have data:∀ {c':List Jk} {t:Ty} {d:D},some (c',dec true t d)=some (c,y)→s ∈ Jd v:=by
  intro c' t d h
  simp only [oj,pj] at h
  obtain ⟨_,rfl⟩:=h
  rw [Vk] at hs
  cases hs
 cases v with
 | agg vs=>simp only [Jd];exact part h
 | lst e vs=>simp only [Jd];exact part h
 | fn f vs=>simp only [Jd];exact part h
 | own e l=>exact data h
 | arr n e l=>exact data h
 | obox x=>
  simp only [V.step,oj,pj] at h
  obtain ⟨_,rfl⟩:=h
  simp only [Jd]
  exact hs
 | _=>simp only [V.step] at h;cases h
theorem Ku:∀ {p:List Nat} {v x:V} {s:Nat},s ∈ Jd (v.set p x)→s ∈ Jd v ∨ s ∈ Jd x
 | [],v,x,s,h=>.inr h
 | j :: p,v,x,s,h=>by
  unfold V.set at h
  split at h
  ·rename_i c y hst
   rcases jW h with h | h
   ·exact .inl h
   ·rcases Ku h with h | h
    ·exact .inl (jX hst h)
    ·exact .inr h
  ·exact .inl h
theorem Ps:∀ {b r:BL} {t:Nat},t ∈ Jv (b ++ r)→t ∈ Jv b ∨ t ∈ Jv r
 | [],r,t,h=>.inr h
 | (k,v) :: b,r,t,h=>by
  simp only [List.cons_append,Jv,Ju] at h ⊢
  rcases h with h | h
  ·exact .inl (.inl h)
  ·exact (Ps h).elim (fun h=>.inl (.inr h)) .inr
theorem Pt {b:BL} {s t:Nat} {x:V} (h1:t ∉ Jv b) (h2:t ∉ Jd x):t ∉ Jv (Jp b s x):=by
 unfold Jp
 rw [Qd]
 intro h
 rcases Ps h with h | h
 ·exact Pq h1 h
 ·simp [Jv,Ju] at h
  exact h2 h
theorem jY (HT:JN P A.ty) (hcl:(match cls o.op with | .app=>true | _=>false)=true) (hok:XM A ⟨sl,b⟩ o.op=true) (hp:JE A sl b o.dst o.op=some (c,v,b1)) (hk:∀ x ∈ c,x.ok) {g:List Nat} :
  Loc P o sl b v b1 (cat g (Ul (Jn o.op))) (OR ⟨sl,b⟩ o.dst o.op) (Og ⟨sl,b⟩ o.dst o.op) (Cw o.dst o.op):=by
 cases hop:o.op with
 | call cl=>
  rw [hop] at hcl hok hp
  cases hcal:cl.callee with
  | builtin f=>
   cases f with
   | append=>
    have hops:Jn (.call cl)=cl.args.toList:=by simp [Jn,hcal]
    simp only [JE,hcal] at hp
    simp only [XM] at hok
    split at hok
    ·rename_i t ts hts
     split at hok
     ·rename_i e hty
      split at hok
      ·rename_i hflat0
       rw [Je] at hflat0
       obtain ⟨hflat,hnit0⟩:=hflat0
       split at hok
       ·rename_i s x hargs
        rw [hcal] at hok
        simp only at hok
        rw [Je] at hok
        obtain ⟨hroot,hstill⟩:=hok
        have hN:Cw o.dst (.call cl)=J0 o.dst:=by simp only [Cw,hcal]
        have hT:OR ⟨sl,b⟩ o.dst (.call cl)=cat (cat (Jd s) (cat (Jd x) [])) (J0 o.dst):=by simp only [OR,hops,hargs,Jl,hN]
        have hW:Og ⟨sl,b⟩ o.dst (.call cl)=cat (Jd s) (J0 o.dst):=by simp only [Og,hargs,hN]
        rw [hT,hW,hN]
        rw [hargs,hts] at hp
        have run:∀ (sl':List V) (b':BL),Qm sl sl' (Jn (.call cl))→JE A sl' b' o.dst o.op=Ql A sl' b' o.dst .append (t :: ts) [s,x]:=by
         intro sl' b' ho
         rw [hop]
         simp only [JE,hcal]
         rw [Qm.map (by rw [hops] at ho;exact ho),hargs,hts]
        cases ts with
        | nil=>simp [Ql] at hp
        | cons tx ts=>
         cases ts with
         | cons _ _=>simp [Ql] at hp
         | nil=>
          have hnit:O4 (A.ty tx)=false:=by
           cases hq:O4 (A.ty tx) with
           | false=>rfl
           | true=>simp only [List.headD_cons,hq,JO] at hnit0;cases hnit0
          simp only [Ql,hty,hnit] at hp
          cases htx:UF (A.ty tx) with
          | false=>rw [htx] at hp;simp [J1] at hp
          | true=>
           rw [htx] at hp
           simp only [J1] at hp
           have run3:∀ (sl':List V) (b':BL),Qm sl sl' (Jn (.call cl))→JE A sl' b' o.dst o.op=On e sl' b' o.dst s x:=by
            intro sl' b' ho
            rw [run sl' b' ho]
            simp only [Ql,hty,hnit,htx,J1]
           have run2:∀ (sl':List V) (b':BL),Qm sl sl' (Jn (.call cl))→∀ r,Ht e sl' b' o.dst s x=some r→JE A sl' b' o.dst o.op=some r:=by
            intro sl' b' ho r hr
            rw [run3 sl' b' ho,On,hr]
           cases hav:Ht e sl b o.dst s x with
           | none=>
            rw [On,hav] at hp
            simp only [W4] at hp
            cases hpl:Jh e.plain (JO (Nat.beq e.size 0)) with
            | false=>rw [hpl] at hp;simp [J1] at hp
            | true=>
             rw [hpl] at hp
             simp only [J1] at hp
             cases hsrc:Q4 e b x with
             | none=>rw [hsrc] at hp;cases hp
             | some q=>
              obtain ⟨c0,xs,b0⟩:=q
              rw [hsrc] at hp
              simp only at hp
              have hb0:=(VR (b':=b) hflat hstill (fun _ _=>rfl) hsrc).1
              subst hb0
              have src:∀ b':BL,QP b0 b' (cat (cat (Jd s) (cat (Jd x) [])) (J0 o.dst))→Q4 e b' x=some (c0,xs,b'):=fun b' ha=>
               (VR (b':=b') hflat hstill (ha.sub (fun u hu=>by simp only [Ju];exact .inl (.inr (.inl hu)))) hsrc).2
              cases s with
              | full u p e'=>
               cases p with
               | nil=>simp at hp
               | cons p0 ps=>
                cases ps with
                | cons _ _=>simp at hp
                | nil=>
                 simp only at hp
                 cases hu:Jb b0 u with
                 | none=>rw [hu] at hp;simp at hp
                 | some cu=>
                  rw [hu] at hp
                  cases cu with
                  | own e3 l=>
                   cases e3 with
                   | slice e2=>
                    simp only at hp
                    cases hee:Jh (e.beq e') (e.beq e2) with
                    | false=>rw [hee] at hp;simp at hp
                    | true=>
                     rw [hee] at hp
                     simp only at hp
                     have hee1:e.beq e'=true:=by rw [Je] at hee;exact hee.1
                     obtain ⟨d,h1,h2,h3,h4,h5,h6,h7⟩:=CB hp
                     subst h2 h3 h4
                     rw [h1]
                     have hs0:Jd (V.full u [p0] e')=[u]:=rfl
                     rw [hs0]
                     refine ⟨fun s' hs'=>?_,fun sl' b' k1 k2 k3=>?_⟩
                     ·rw [JG,JG,if_neg,if_neg]
                      ·intro he;subst he;exact hs' (by simp [cat,J0])
                      ·intro he;subst he;exact hs' (by simp [cat,J0])
                     ·have ho:Qm sl sl' (Jn (.call cl)):=Hr (fun u hu=>k1 u (by rw [Qd];simp [hu]))
                      have k3':=k3 d (by simp [J0])
                      have hu':Jb b' u=some (.own (.slice e2) l):=by rw [k2 u (by simp [cat]),hu]
                      have hd':Jb (Jp b' u (.ownh e2 l p0)) d=none:=by
                       rw [JG] at h5 ⊢
                       by_cases hdu:d=u
                       ·rw [if_pos hdu] at h5;cases h5
                       ·rw [if_neg hdu] at h5 ⊢
                        rw [k2 d (by simp only [Ju];exact .inr (by simp [J0]))];exact h5
                      have hun:Uh sl' (Jp b' u (.ownh e2 l p0)) (.own e ((l.getD p0 (.int 0)).items ++ xs)) d=true:=VQ hd' k3'.1 (Pt k3'.2 (fun h=>by simp [Jd] at h)) (by simp [Jd])
                      have hst:JE A sl' b' o.dst o.op=some (cat c0 [.le (p0 + 1) l.length,.sz (l.getD p0 (.int 0)).items.length xs.length],Qb d [] (.own e ((l.getD p0 (.int 0)).items ++ xs)),Jp (Jp b' u (.ownh e2 l p0)) d (.own e ((l.getD p0 (.int 0)).items ++ xs))):=by
                       have hs1:=src b' (by rw [hs0,h1];exact k2)
                       have hnv:Ht e sl' b' o.dst (.full u [p0] e') x=none:=by
                        simp only [Ht,hpl,J1,hs1,hee1,QS,hu',V.get,V.step,cat]
                       rw [run3 sl' b' ho,On,hnv]
                       simp only [W4,hpl,J1,hs1,hu',hee]
                       exact h7 sl' _ hun
                      refine ⟨_,HE HT hst hk,fun s' hs'=>?_,fun s' hs'=>?_⟩
                      ·simp only [cat,J0,List.mem_cons,List.not_mem_nil,or_false] at hs'
                       rw [JG,JG,JG,JG]
                       rcases hs' with rfl | rfl
                       ·by_cases hdu:s'=d<;>simp [hdu]
                       ·simp
                      ·rw [JG,JG,if_neg,if_neg]
                       ·intro he;subst he;exact hs' (by simp [cat,J0])
                       ·intro he;subst he;exact hs' (by simp [cat,J0])
                   | _=>simp at hp
                  | _=>simp at hp
              | _=>simp at hp
           | some rr=>
           rw [On,hav] at hp
           simp only [oj] at hp
           subst hp
           have hp:=hav
           simp only [J1,Ht] at hp
           cases hpl:Jh e.plain (JO (Nat.beq e.size 0)) with
           | false=>rw [hpl] at hp;simp at hp
           | true=>
            rw [hpl] at hp
            simp only at hp
            cases hsrc:Q4 e b x with
            | none=>rw [hsrc] at hp;cases hp
            | some q=>
             obtain ⟨c0,xs,b0⟩:=q
             rw [hsrc] at hp
             simp only at hp
             have hb0:=(VR (b':=b) hflat hstill (fun _ _=>rfl) hsrc).1
             subst hb0
             have src:∀ b':BL,QP b0 b' (cat (cat (Jd s) (cat (Jd x) [])) (J0 o.dst))→Q4 e b' x=some (c0,xs,b'):=fun b' ha=>
              (VR (b':=b') hflat hstill (ha.sub (fun u hu=>by simp only [Ju];exact .inl (.inr (.inl hu)))) hsrc).2
             have bare:∀ {cs:List Jk},(Jd s=[])→Q8 cs (fresh sl b0 o.dst (.own e xs))=some (c,v,b1) →
               (∀ (sl':List V) (b':BL),Q4 e b' x=some (c0,xs,b')→Ht e sl' b' o.dst s x=Q8 cs (fresh sl' b' o.dst (.own e xs))) →
               Loc P o sl b0 v b1 (cat g (Ul (Jn (.call cl)))) (cat (cat (Jd s) (cat (Jd x) [])) (J0 o.dst)) (cat (Jd s) (J0 o.dst)) (J0 o.dst):=by
              intro cs hs0 hfr happ
              obtain ⟨d,h1,h2,h3,h4,h5,h6,h7⟩:=CB hfr
              subst h2 h3 h4
              rw [hs0,h1]
              refine ⟨fun s' hs'=>?_,fun sl' b' k1 k2 k3=>?_⟩
              ·rw [JG,if_neg]
               intro he;subst he;exact hs' (by simp [cat,J0])
              ·have ho:Qm sl sl' (Jn (.call cl)):=Hr (fun u hu=>k1 u (by rw [Qd];simp [hu]))
               have k3':=k3 d (by simp [J0])
               have hun:Uh sl' b' (.own e xs) d=true:=VQ (by rw [k2 d (by simp only [Ju];exact .inr (by simp [J0]))];exact h5) k3'.1 k3'.2 (by simp [Jd])
               have hst:JE A sl' b' o.dst o.op=some (c,Qb d [] (.own e xs),Jp b' d (.own e xs)):=by
                refine run2 sl' b' ho _ ?_
                rw [happ sl' b' (src b' (by rw [hs0,h1];exact k2))]
                exact h7 sl' b' hun
               refine ⟨_,HE HT hst hk,fun s' hs'=>?_,fun s' hs'=>?_⟩
               ·simp only [cat,J0,List.mem_singleton] at hs'
                subst hs'
                rw [JG,JG];simp
               ·rw [JG,if_neg]
                intro he;subst he;exact hs' (by simp [cat,J0])
             cases s with
             | nilsl=>exact bare (cs:=cat c0 [.sz 0 xs.length]) rfl hp (fun sl' b' hs'=>by simp only [Ht,hpl,J1,hs'])
             | emp e'=>
              simp only at hp
              cases hee:e.beq e' with
              | false=>rw [hee] at hp;cases hp
              | true=>
               rw [hee] at hp
               exact bare (cs:=cat c0 [.sz 0 xs.length]) rfl hp (fun sl' b' hs'=>by simp only [Ht,hpl,J1,hs',hee])
             | full u p e'=>
              cases p with
              | cons p0 ps=>
               simp only at hp
               cases hee:e.beq e' with
               | false=>rw [hee] at hp;cases hp
               | true=>
                rw [hee] at hp
                cases hu:Jb b0 u with
                | none=>simp [QS,hu] at hp
                | some cu=>
                 cases hg:cu.get (p0 :: ps) with
                 | none=>simp [QS,hu,hg] at hp
                 | some q=>
                  obtain ⟨cg,z⟩:=q
                  cases cg with
                  | cons _ _=>simp [QS,hu,hg] at hp
                  | nil=>
                   cases hbd:Jh (WY z) (cu.outer (p0 :: ps)) with
                   | false=>simp [QS,hu,hg,hbd] at hp
                   | true=>
                    simp only [QS,hu,hg,hbd] at hp
                    cases z with
                    | own e2 l=>
                     simp only at hp
                     cases he2:e.beq e2 with
                     | false=>rw [he2] at hp;simp [J1] at hp
                     | true=>
                      rw [he2] at hp
                      simp only [J1] at hp
                      obtain ⟨d,h1,h2,h3,h4,h5,h6,h7⟩:=CB hp
                      subst h2 h3 h4
                      rw [h1]
                      have hs0:Jd (V.full u (p0 :: ps) e')=[u]:=rfl
                      rw [hs0]
                      refine ⟨fun s' hs'=>?_,fun sl' b' k1 k2 k3=>?_⟩
                      ·rw [JG,JG,if_neg,if_neg]
                       ·intro he;subst he;exact hs' (by simp [cat,J0])
                       ·intro he;subst he;exact hs' (by simp [cat,J0])
                      ·have ho:Qm sl sl' (Jn (.call cl)):=Hr (fun u hu=>k1 u (by rw [Qd];simp [hu]))
                       have k3':=k3 d (by simp [J0])
                       have hu':Jb b' u=some cu:=by rw [k2 u (by simp [cat]),hu]
                       have hd':Jb (Jp b' u (cu.set (p0 :: ps) .undef)) d=none:=by
                        rw [JG] at h5 ⊢
                        by_cases hdu:d=u
                        ·rw [if_pos hdu] at h5;cases h5
                        ·rw [if_neg hdu] at h5 ⊢
                         rw [k2 d (by simp only [Ju];exact .inr (by simp [J0]))];exact h5
                       have hun:Uh sl' (Jp b' u (cu.set (p0 :: ps) .undef)) (.own e (l ++ xs)) d=true:=VQ hd' k3'.1 (Pt k3'.2 (fun h=>(Ku h).elim (fun h=>k3'.2 (Cr hu' h)) (fun h=>by simp [Jd] at h))) (by simp [Jd])
                       have hst:JE A sl' b' o.dst o.op=some (cat c0 [.sz l.length xs.length],Qb d [] (.own e (l ++ xs)),Jp (Jp b' u (cu.set (p0 :: ps) .undef)) d (.own e (l ++ xs))):=by
                        refine run2 sl' b' ho _ ?_
                        simp only [Ht,hpl,J1,src b' (by rw [hs0,h1];exact k2),hee,QS,hu',hg,hbd,he2]
                        exact h7 sl' _ hun
                       refine ⟨_,HE HT hst hk,fun s' hs'=>?_,fun s' hs'=>?_⟩
                       ·simp only [cat,J0,List.mem_cons,List.not_mem_nil,or_false] at hs'
                        rw [JG,JG,JG,JG]
                        rcases hs' with rfl | rfl
                        ·by_cases hdu:s'=d<;>simp [hdu]
                        ·simp
                       ·rw [JG,JG,if_neg,if_neg]
                        ·intro he;subst he;exact hs' (by simp [cat,J0])
                        ·intro he;subst he;exact hs' (by simp [cat,J0])
                    | _=>simp at hp
              | nil=>
               simp only at hp
               cases hee:e.beq e' with
               | false=>rw [hee] at hp;cases hp
               | true=>
                rw [hee] at hp
                cases hu:Jb b0 u with
                | none=>simp [QS,hu] at hp
                | some cu=>
                 simp only [QS,hu] at hp
                 cases cu with
                 | own e2 l=>
                  simp only at hp
                  cases he2:e.beq e2 with
                  | false=>rw [he2] at hp;simp [J1] at hp
                  | true=>
                   rw [he2] at hp
                   simp only [J1] at hp
                   obtain ⟨d,h1,h2,h3,h4,h5,h6,h7⟩:=CB hp
                   subst h2 h3 h4
                   rw [h1]
                   have hs0:Jd (V.full u [] e')=[u]:=rfl
                   rw [hs0]
                   refine ⟨fun s' hs'=>?_,fun sl' b' k1 k2 k3=>?_⟩
                   ·rw [JG,Ur,if_neg,if_neg]
                    ·intro he;subst he;exact hs' (by simp [cat,J0])
                    ·intro he;subst he;exact hs' (by simp [cat,J0])
                   ·have ho:Qm sl sl' (Jn (.call cl)):=Hr (fun u hu=>k1 u (by rw [Qd];simp [hu]))
                    have k3':=k3 d (by simp [J0])
                    have hu':Jb b' u=some (.own e2 l):=by rw [k2 u (by simp [cat]),hu]
                    have hd':Jb (Qj b' u) d=none:=by
                     rw [Ur]
                     rw [Ur] at h5
                     by_cases hdu:d=u
                     ·rw [if_pos hdu]
                     ·rw [if_neg hdu] at h5 ⊢
                      rw [k2 d (by simp only [Ju];exact .inr (by simp [J0]))];exact h5
                    have hun:Uh sl' (Qj b' u) (.own e (l ++ xs)) d=true:=VQ hd' k3'.1 (Pq k3'.2) (by simp [Jd])
                    have hst:JE A sl' b' o.dst o.op=some (cat c0 [.sz l.length xs.length],Qb d [] (.own e (l ++ xs)),Jp (Qj b' u) d (.own e (l ++ xs))):=by
                     refine run2 sl' b' ho _ ?_
                     simp only [Ht,hpl,J1,src b' (by rw [hs0,h1];exact k2),hee,QS,hu',he2]
                     exact h7 sl' _ hun
                    refine ⟨_,HE HT hst hk,fun s' hs'=>?_,fun s' hs'=>?_⟩
                    ·simp only [cat,J0,List.mem_cons,List.not_mem_nil,or_false] at hs'
                     rw [JG,JG,Ur,Ur]
                     rcases hs' with rfl | rfl
                     ·by_cases hdu:s'=d<;>simp [hdu]
                     ·simp
                    ·rw [JG,Ur,if_neg,if_neg]
                     ·intro he;subst he;exact hs' (by simp [cat,J0])
                     ·intro he;subst he;exact hs' (by simp [cat,J0])
                 | _=>simp at hp
             | sub u p off len e'=>
              simp only [hflat] at hp
              cases hee:e.beq e' with
              | false=>rw [hee] at hp;simp [Jh] at hp
              | true=>
               rw [hee] at hp
               simp only [Jh] at hp
               cases hu:Jb b0 u with
               | none=>simp [JS,hu] at hp
               | some cu=>
                cases hg:cu.get p with
                | none=>simp [JS,hu,hg] at hp
                | some q=>
                 obtain ⟨cg,z⟩:=q
                 cases z with
                 | own e2 l=>
                  simp only [JS,He,hu,hg] at hp
                  cases he2:e.beq e2 with
                  | false=>rw [he2] at hp;simp [J1] at hp
                  | true=>
                   rw [he2] at hp
                   simp only [J1,oj,pj] at hp
                   obtain ⟨rfl,rfl,rfl⟩:=hp
                   have hs0:Jd (V.sub u p off len e')=[u]:=rfl
                   rw [hs0]
                   refine ⟨fun s' hs'=>?_,fun sl' b' k1 k2 k3=>?_⟩
                   ·rw [JG,if_neg]
                    intro he;subst he;exact hs' (by simp [cat])
                   ·have ho:Qm sl sl' (Jn (.call cl)):=Hr (fun u hu=>k1 u (by rw [Qd];simp [hu]))
                    have hu':Jb b' u=some cu:=by rw [k2 u (by simp [cat]),hu]
                    have hst:JE A sl' b' o.dst o.op=some (cat (cat c0 cg) [.le (off + len + xs.length) l.length],.sub u p off (len + xs.length) e,Jp b' u (cu.set p (.own e (l.take (off + len) ++ xs ++ l.drop (off + len + xs.length))))):=by
                     refine run2 sl' b' ho _ ?_
                     have hb2:Jh (e.beq e') e.flat=true:=by rw [hee,hflat];rfl
                     simp only [Ht,hpl,J1,src b' (by rw [hs0];exact k2),hb2,JS,He,hu',hg,he2]
                    refine ⟨_,HE HT hst hk,fun s' hs'=>?_,fun s' hs'=>?_⟩
                    ·rw [JG,JG]
                     by_cases he:s'=u
                     ·simp [he]
                     ·simp only [he,if_false]
                      exact k2 s' (by simp only [Ju] at hs' ⊢;exact hs'.elim (fun h=>.inl (.inl h)) .inr)
                    ·rw [JG,if_neg]
                     intro he;subst he;exact hs' (by simp [cat])
                 | _=>simp [JS,hu,hg] at hp
             | _=>simp [Pc,Pd,bor] at hroot
       ·cases hok
      ·cases hok
     ·cases hok
    ·cases hok
   | copy=>
    have hops:Jn (.call cl)=cl.args.toList:=by simp [Jn,hcal]
    simp only [JE,hcal] at hp
    simp only [XM] at hok
    split at hok
    ·rename_i t ts hts
     split at hok
     ·rename_i e hty
      split at hok
      ·rename_i hflat0
       rw [Je] at hflat0
       obtain ⟨hflat,_⟩:=hflat0
       split at hok
       ·rename_i s x hargs
        rw [hcal] at hok
        simp only at hok
        rw [Je] at hok
        obtain ⟨hmine,hstill⟩:=hok
        have hN:Cw o.dst (.call cl)=[]:=by simp only [Cw,hcal]
        have hT:OR ⟨sl,b⟩ o.dst (.call cl)=cat (cat (Jd s) (cat (Jd x) [])) []:=by simp only [OR,hops,hargs,Jl,hN]
        have hW:Og ⟨sl,b⟩ o.dst (.call cl)=cat (Jd s) []:=by simp only [Og,hargs,hN]
        rw [hT,hW,hN]
        rw [hargs,hts] at hp
        cases ts with
        | nil=>simp [Ql] at hp
        | cons tx ts=>
         cases ts with
         | cons _ _=>simp [Ql] at hp
         | nil=>
          simp only [Ql,hty] at hp
          cases htx:UF (A.ty tx) with
          | false=>rw [htx] at hp;simp [J1] at hp
          | true=>
           rw [htx] at hp
           simp only [J1,O5] at hp
           have run2:∀ (sl':List V) (b':BL),Qm sl sl' (Jn (.call cl))→JE A sl' b' o.dst o.op=O5 e b' s x:=by
            intro sl' b' ho
            rw [hop]
            simp only [JE,hcal]
            rw [Qm.map (by rw [hops] at ho;exact ho),hargs,hts]
            simp only [Ql,hty,htx,J1]
           cases hpl:Jh e.plain (JO (Nat.beq e.size 0)) with
           | false=>rw [hpl] at hp;simp at hp
           | true=>
            rw [hpl] at hp
            simp only at hp
            cases hsrc:Q4 e b x with
            | none=>rw [hsrc] at hp;cases hp
            | some q=>
             obtain ⟨c0,xs,b0⟩:=q
             rw [hsrc] at hp
             simp only [hflat] at hp
             have hb0:=(VR (b':=b) hflat hstill (fun _ _=>rfl) hsrc).1
             subst hb0
             have src:∀ b':BL,QP b0 b' (cat (cat (Jd s) (cat (Jd x) [])) [])→Q4 e b' x=some (c0,xs,b'):=fun b' ha=>
              (VR (b':=b') hflat hstill (ha.sub (fun u hu=>by simp only [Ju];exact .inl (.inr (.inl hu)))) hsrc).2
             have fin:∀ {u:Nat} {p:List Nat} {cu y:V},Jd s=[u]→Jb b0 u=some cu→b1=Jp b0 u (cu.set p y) →
               (∀ (sl':List V) (b':BL),Qm sl sl' (Jn (.call cl))→QP b0 b' (cat (cat (Jd s) (cat (Jd x) [])) [])→Jb b' u=some cu→JE A sl' b' o.dst o.op=some (c,v,Jp b' u (cu.set p y))) →
               Loc P o sl b0 v b1 (cat g (Ul (Jn (.call cl)))) (cat (cat (Jd s) (cat (Jd x) [])) []) (cat (Jd s) []) []:=by
              intro u p cu y hs hu hb1 hstep
              subst hb1
              rw [hs]
              refine ⟨fun s' hs'=>?_,fun sl' b' k1 k2 k3=>?_⟩
              ·rw [JG,if_neg]
               intro he;subst he;exact hs' (by simp [cat])
              ·have ho:Qm sl sl' (Jn (.call cl)):=Hr (fun u hu=>k1 u (by rw [Qd];simp [hu]))
               have hu':Jb b' u=some cu:=by rw [k2 u (by simp [cat]),hu]
               refine ⟨_,HE HT (hstep sl' b' ho (by rw [hs];exact k2) hu') hk,fun s' hs'=>?_,fun s' hs'=>?_⟩
               ·simp only [cat,List.mem_singleton] at hs'
                subst hs'
                rw [JG,JG];simp
               ·rw [JG,if_neg]
                intro he;subst he;exact hs' (by simp [cat])
             cases s with
             | full u p e'=>
              simp only at hp
              cases hee:e.beq e' with
              | false=>rw [hee] at hp;cases hp
              | true=>
               rw [hee] at hp
               simp only at hp
               cases hu:Jb b0 u with
               | none=>simp [JS,hu] at hp
               | some cu=>
                cases hg:cu.get p with
                | none=>simp [JS,hu,hg] at hp
                | some q=>
                 obtain ⟨cg,z⟩:=q
                 cases z with
                 | own e2 l=>
                  simp only [JS,He,hu,hg] at hp
                  cases he2:e.beq e2 with
                  | false=>rw [he2] at hp;simp [J1] at hp
                  | true=>
                   rw [he2] at hp
                   simp only [J1,oj,pj] at hp
                   obtain ⟨rfl,rfl,rfl⟩:=hp
                   exact fin rfl hu rfl (fun sl' b' ho ha hu'=>by rw [run2 sl' b' ho];simp only [O5,hpl,J1,src b' ha,hflat,hee,JS,He,hu',hg,he2])
                 | _=>simp [JS,hu,hg] at hp
             | sub u p off len e'=>
              simp only at hp
              cases hee:e.beq e' with
              | false=>rw [hee] at hp;cases hp
              | true=>
               rw [hee] at hp
               simp only at hp
               cases hu:Jb b0 u with
               | none=>simp [JS,hu] at hp
               | some cu=>
                cases hg:cu.get p with
                | none=>simp [JS,hu,hg] at hp
                | some q=>
                 obtain ⟨cg,z⟩:=q
                 cases z with
                 | own e2 l=>
                  simp only [JS,He,hu,hg] at hp
                  cases he2:e.beq e2 with
                  | false=>rw [he2] at hp;simp [J1] at hp
                  | true=>
                   rw [he2] at hp
                   simp only [J1,oj,pj] at hp
                   obtain ⟨rfl,rfl,rfl⟩:=hp
                   exact fin rfl hu rfl (fun sl' b' ho ha hu'=>by rw [run2 sl' b' ho];simp only [O5,hpl,J1,src b' ha,hflat,hee,JS,He,hu',hg,he2])
                 | _=>simp [JS,hu,hg] at hp
             | _=>simp [Pe] at hmine
       ·cases hok
      ·cases hok
     ·cases hok
    ·cases hok
   | _=>simp [cls,hcal] at hcl
  | _=>simp [cls,hcal] at hcl
 | _=>rw [hop] at hcl;simp [cls] at hcl
end
end Go.Rai
namespace Go.Rai
variable [Inhabited Qk]
def CR (b b':BL):Prop:=∀ s c,Jb b s=some c→Jb b' s=some c
theorem XW {b b':BL} (h:CR b b') {s:Nat} {p:List Nat} {r:List Jk × V} (hg:JS b s p=some r):JS b' s p=some r:=by
 unfold JS at hg ⊢
 split at hg
 ·rename_i c hc
  rw [h s c hc]
  exact hg
 ·cases hg
theorem Pu {b b':BL} (h:CR b b'):∀ (n:Nat),(∀ v r,lend b n v=some r→lend b' n v=some r)∧(∀ vs r,UE b n vs=some r→UE b' n vs=some r)
 | 0=>⟨fun v r hv=>by simp [lend] at hv,fun vs r hv=>by simp [UE] at hv⟩
 | n + 1=>by
  have ih:=Pu h n
  constructor
  ·intro v r hv
   cases v with
   | full s p e=>
    simp only [lend] at hv ⊢
    split at hv
    ·rename_i hg
     rw [XW h hg]
     exact hv
    ·rename_i c e' vs hg
     rw [XW h hg]
     simp only
     split at hv
     ·rename_i c' ws hl
      rw [ih.2 _ _ hl]
      exact hv
     ·cases hv
    ·cases hv
   | sub s p o l e=>
    simp only [lend] at hv ⊢
    split at hv
    ·rename_i hg
     rw [XW h hg]
     exact hv
    ·cases hv
   | ptr s p=>
    simp only [lend] at hv ⊢
    split at hv
    ·rename_i hg
     rw [XW h hg]
     simp only
     split at hv
     ·rename_i hl
      rw [ih.1 _ _ hl]
      exact hv
     ·cases hv
    ·cases hv
   | obox x=>
    simp only [lend] at hv ⊢
    split at hv
    ·rename_i hl
     rw [ih.1 _ _ hl]
     exact hv
    ·cases hv
   | agg vs=>
    simp only [lend] at hv ⊢
    split at hv
    ·rename_i hl
     rw [ih.2 _ _ hl]
     exact hv
    ·cases hv
   | fn f caps=>
    simp only [lend] at hv ⊢
    split at hv
    ·rename_i hl
     rw [ih.2 _ _ hl]
     exact hv
    ·cases hv
   | _=>simpa only [lend] using hv
  ·intro vs r hv
   cases vs with
   | nil=>simpa only [UE] using hv
   | cons v vs=>
    simp only [UE] at hv ⊢
    split at hv
    ·rename_i hl
     rw [ih.1 _ _ hl]
     simp only
     split at hv
     ·rename_i hl2
      rw [ih.2 _ _ hl2]
      exact hv
     ·cases hv
    ·cases hv
theorem Kv {A:Ann} {f:FuncId} {b b':BL} (h:CR b b'):∀ {vs:List V} {i:Nat} {ts:List Ty} {r:List Jk × List V},Q9 A f b i ts vs=some r→Q9 A f b' i ts vs=some r
 | [],i,ts,r,hv=>by simpa only [Q9] using hv
 | v :: vs,i,ts,r,hv=>by
  have go:∀ (x x':G V),(∀ q,x=some q→x'=some q)→(match x with
    | some (c,w)=>match Q9 A f b (i + 1) ts.tail vs with
     | some (c',ws)=>some ((cat c c'),w :: ws)
     | none=>none
    | none=>none)=some r→(match x' with
    | some (c,w)=>match Q9 A f b' (i + 1) ts.tail vs with
     | some (c',ws)=>some ((cat c c'),w :: ws)
     | none=>none
    | none=>none)=some r:=by
   intro x x' hx hq
   split at hq
   ·rename_i h1
    rw [hx _ rfl]
    simp only
    split at hq
    ·rename_i h2
     rw [Kv h h2]
     exact hq
    ·cases hq
   ·cases hq
  simp only [Q9] at hv ⊢
  cases hm:A.mode f i with
  | lend=>simp only [hm] at hv ⊢;exact go _ _ (fun q hq=>(Pu h 9).1 _ _ hq) hv
  | io=>simp only [hm] at hv ⊢;exact go (some ([],v)) (some ([],v)) (fun q hq=>hq) hv
  | take=>simp only [hm] at hv ⊢;exact go (some ([],v)) (some ([],v)) (fun q hq=>hq) hv
  | keep=>simp only [hm] at hv ⊢;exact go _ _ (fun q hq=>hq) hv
theorem WL {b:BL}:∀ {L:List Nat},CR (Od b L) b
 | []=>fun s c h=>by simp [Od,Jb] at h
 | t :: L=>by
  intro s c h
  unfold Od at h
  split at h
  ·rename_i c0 hc
   simp only [Jb] at h
   split at h
   ·rename_i hb
    have:=Nat.eq_of_beq_eq_true hb
    subst this
    simp only [oj] at h
    subst h
    exact hc
   ·exact WL s c h
  ·exact WL s c h
theorem Kw {b:BL} {s:Nat} {c:V} (h:Jb b s=some c):s ∈ QC b:=by
 induction b with
 | nil=>simp [Jb] at h
 | cons x r ih=>
  obtain ⟨k,u⟩:=x
  simp only [Jb] at h
  simp only [QC,List.mem_cons]
  split at h
  ·rename_i hb;exact .inl (Nat.eq_of_beq_eq_true hb).symm
  ·exact .inr (ih h)
theorem jZ {b bR b':BL} (h:CR bR b) (ha:QP b b' (QC bR)):CR bR b':=fun s c hc=>by rw [ha s (Kw hc)];exact h s c hc
theorem Pv {b:BL} {s t:Nat} (h:t ∈ Jv (Qj b s)):t ∈ Jv b:=by
 induction b with
 | nil=>simpa [Qj] using h
 | cons x r ih=>
  obtain ⟨k,u⟩:=x
  unfold Qj at h
  simp only [Jv,Ju]
  split at h
  ·exact .inr (ih h)
  ·simp only [Jv,Ju] at h
   exact h.imp id ih
theorem Ky {b b':BL} {t:Nat}:t ∈ Jv (b ++ b') ↔ t ∈ Jv b ∨ t ∈ Jv b':=by
 induction b with
 | nil=>simp [Jv]
 | cons x r ih=>
  obtain ⟨k,u⟩:=x
  simp only [List.cons_append,Jv,Ju,ih,or_assoc]
theorem Pw {b:BL} {s t:Nat} {x:V} (h:t ∈ Jv (Jp b s x)):t ∈ Jv b ∨ t ∈ Jd x:=by
 unfold Jp at h
 rw [Qd,Ky] at h
 rcases h with h | h
 ·exact .inl (Pv h)
 ·right
  simpa [Jv,Ju] using h
theorem Px:∀ {b:BL} {s:Nat},Jb b s=none→Qj b s=b
 | [],s,_=>rfl
 | (k,u) :: r,s,h=>by
  simp only [Jb] at h
  unfold Qj
  split at h
  ·cases h
  ·rw [Px h]
theorem j0 {b:BL} {s t:Nat} {x:V} (h:t ∈ Jd x):t ∈ Jv (Jp b s x):=by
 unfold Jp
 rw [Qd,Ky]
 right
 simpa [Jv,Ju] using h
section
variable {P:Program} {A:Ann} {w w' w0:World} {F0:List Nat} {sl sl':List V} {a:Act} {b b' b1 bl:BL} {G:GT} {o:Oper} {v:V} {c:List Jk}
theorem Py {s:Nat} {x v:V} (h:place sl b s x=some (v,b1)) {bad:Nat→Prop} (h1:∀ t ∈ Jl sl',bad t ∨ t ∈ Jl sl) (h2:∀ t ∈ Jv b',bad t ∨ t ∈ Jv b) (h3:¬ bad s) (h4:Jb b' s=Jb b s) :
  ∃ b1',place sl' b' s x=some (v,b1')∧Jb b1' s=Jb b1 s∧(∀ t,t ≠ s→Jb b1' t=Jb b' t∧Jb b1 t=Jb b t)∧(∀ t ∈ Jv b1',bad t ∨ t ∈ Jv b1):=by
 unfold place at h ⊢
 split at h
 ·split at h
  ·rename_i hun
   simp only [oj,pj] at h
   obtain ⟨rfl,rfl⟩:=h
   have hx:=Pp hun
   have hn:s ∉ Jl sl∧s ∉ Jv b:=by
    unfold Uh at hun
    split at hun
    ·have h1:bor (JT (Jl sl) s) (bor (JT (Jv b) s) (JT (Jd x) s))=false:=by
      cases hb:bor (JT (Jl sl) s) (bor (JT (Jv b) s) (JT (Jd x) s)) with
      | false=>rfl
      | true=>rw [hb] at hun;simp [JO] at hun
     rw [OQ,OQ] at h1
     exact ⟨fun hm=>(by rw [UJ.2 hm] at h1;cases h1.1),fun hm=>(by rw [UJ.2 hm] at h1;cases h1.2.1)⟩
    ·cases hun
   have hu':Uh sl' b' x s=true:=VQ (by rw [h4];exact (C6 hun).1) (fun hm=>(h1 s hm).elim h3 hn.1) (fun hm=>(h2 s hm).elim h3 hn.2) hx
   rw [hu']
   refine ⟨_,rfl,by rw [JG,JG];simp,fun t ht=>⟨by rw [JG,if_neg ht],by rw [JG,if_neg ht]⟩,fun t ht=>?_⟩
   rcases Pw ht with ht | ht
   ·rcases h2 t ht with ht | ht
    ·exact .inl ht
    ·right
     unfold Jp
     rw [Px (C6 hun).1,Qd,Ky]
     exact .inl ht
   ·exact .inr (j0 ht)
  ·cases h
 ·simp only [oj,pj] at h
  obtain ⟨rfl,rfl⟩:=h
  exact ⟨b',rfl,h4,fun t ht=>⟨rfl,rfl⟩,h2⟩
theorem Pz {s:Nat} {bad:Nat→Prop}:∀ {vs:List V} {j:Nat} {sl sl':List V} {b b' b1:BL} {xs:List V},Hw s sl b j vs=some (xs,b1)→(∀ t ∈ Jl sl',bad t ∨ t ∈ Jl sl)→(∀ t ∈ Jv b',bad t ∨ t ∈ Jv b) →
  (∀ t ∈ UV s j vs,¬ bad t)→(∀ t ∈ UV s j vs,Jb b' t=Jb b t) →
  ∃ b1',Hw s sl' b' j vs=some (xs,b1')∧(∀ t ∈ UV s j vs,Jb b1' t=Jb b1 t)∧(∀ t,t ∉ UV s j vs→Jb b1' t=Jb b' t∧Jb b1 t=Jb b t)
 | [],j,sl,sl',b,b',b1,xs,h,h1,h2,h3,h4=>by
  simp only [Hw,oj,pj] at h
  obtain ⟨rfl,rfl⟩:=h
  exact ⟨b',rfl,fun t ht=>(by cases ht),fun t _=>⟨rfl,rfl⟩⟩
 | v :: vs,j,sl,sl',b,b',b1,xs,h,h1,h2,h3,h4=>by
  simp only [Hw] at h
  split at h
  ·rename_i x b2 hp
   split at h
   ·rename_i ys b3 hq
    simp only [oj,pj] at h
    obtain ⟨rfl,rfl⟩:=h
    obtain ⟨b2',p1,p2,p3,p4⟩:=Py hp h1 h2 (h3 _ (by simp [UV])) (h4 _ (by simp [UV]))
    have agree:∀ t ∈ UV s (j + 1) vs,Jb b2' t=Jb b2 t:=by
     intro t ht
     by_cases he:t=10000 + 16 * s + j
     ·subst he;exact p2
     ·rw [(p3 t he).1,(p3 t he).2];exact h4 t (by simp [UV,ht])
    obtain ⟨b3',q1,q2,q3⟩:=Pz (sl:=x :: sl) (sl':=x :: sl') hq
     (fun t ht=>by
      simp only [Jl,Ju] at ht ⊢
      rcases ht with ht | ht
      ·exact .inr (.inl ht)
      ·exact (h1 t ht).imp id .inr) p4 (fun t ht=>h3 t (by simp [UV,ht])) agree
    refine ⟨b3',by simp only [Hw,p1,q1],fun t ht=>?_,fun t ht=>?_⟩
    ·by_cases hm:t ∈ UV s (j + 1) vs
     ·exact q2 t hm
     ·have he:t=10000 + 16 * s + j:=by simpa [UV,hm] using ht
      rw [(q3 t hm).1,(q3 t hm).2,he];exact p2
    ·simp only [UV,List.mem_cons,not_or] at ht
     rw [(q3 t ht.2).1,(q3 t ht.2).2]
     exact p3 t ht.1
   ·cases h
  ·cases h
theorem Kz {s:Nat} {x:V} (h:∀ vs,x ≠ .tup vs):Uc sl b (some s) x=place sl b s x:=by
 cases x<;>first | exact absurd rfl (h _) | rfl
theorem j6 {s:Nat} {x:V} (h:∀ vs,x ≠ .tup vs):Um (some s) x=[s]:=by
 cases x<;>first | exact absurd rfl (h _) | rfl
theorem PA {d:Option Nat} {x v:V} (h:Uc sl b d x=some (v,b1)) (h1:∀ t ∈ Um d x,t ∉ Jl sl'∧t ∉ Jv b') (h4:∀ t ∈ Um d x,Jb b' t=Jb b t) :
  ∃ b1',Uc sl' b' d x=some (v,b1')∧(∀ t ∈ Um d x,Jb b1' t=Jb b1 t)∧(∀ t,t ∉ Um d x→Jb b1' t=Jb b' t∧Jb b1 t=Jb b t):=by
 cases d with
 | none=>
  simp only [Uc,oj,pj] at h
  obtain ⟨rfl,rfl⟩:=h
  exact ⟨b',rfl,fun t ht=>(by simp [Um] at ht),fun t _=>⟨rfl,rfl⟩⟩
 | some s=>
  let bad:Nat→Prop:=fun t=>t ∈ Jl sl' ∨ t ∈ Jv b'
  have one:(∀ vs,x ≠ .tup vs)→∃ b1',Uc sl' b' (some s) x=some (v,b1')∧(∀ t ∈ Um (some s) x,Jb b1' t=Jb b1 t)∧(∀ t,t ∉ Um (some s) x→Jb b1' t=Jb b' t∧Jb b1 t=Jb b t):=by
   intro e0
   rw [Kz e0] at h
   rw [j6 e0] at h1 h4 ⊢
   rw [Kz e0]
   obtain ⟨b2',p1,p2,p3,p4⟩:=Py (sl':=sl') (b':=b') (bad:=bad) h (fun t ht=>.inl (.inl ht)) (fun t ht=>.inl (.inr ht)) (fun hb=>hb.elim (h1 s (by simp)).1 (h1 s (by simp)).2) (h4 s (by simp))
   exact ⟨b2',p1,fun t ht=>(by simp only [List.mem_singleton] at ht;subst ht;exact p2),fun t ht=>p3 t (by simpa using ht)⟩
  cases x with
  | tup vs=>
   simp only [Uc] at h
   split at h
   ·rename_i xs b2 hp
    simp only [oj,pj] at h
    obtain ⟨rfl,rfl⟩:=h
    obtain ⟨b1',p1,p2,p3⟩:=Pz (sl':=sl') (b':=b') (bad:=bad) hp (fun t ht=>.inl (.inl ht)) (fun t ht=>.inl (.inr ht)) (fun t ht hb=>hb.elim (h1 t ht).1 (h1 t ht).2) h4
    exact ⟨b1',by simp only [Uc,p1],p2,p3⟩
   ·cases h
  | _=>exact one (by simp)
theorem PB {s:Nat} {x v:V} (h:place sl b s x=some (v,b1)):∀ t,t ≠ s→Jb b1 t=Jb b t:=by
 unfold place at h
 split at h
 ·split at h
  ·simp only [oj,pj] at h
   obtain ⟨rfl,rfl⟩:=h
   intro t ht
   rw [JG,if_neg ht]
  ·cases h
 ·simp only [oj,pj] at h
  obtain ⟨rfl,rfl⟩:=h
  intro t _;rfl
theorem PC {s:Nat}:∀ {vs:List V} {j:Nat} {sl:List V} {b b1:BL} {xs:List V},Hw s sl b j vs=some (xs,b1)→∀ t,t ∉ UV s j vs→Jb b1 t=Jb b t
 | [],j,sl,b,b1,xs,h=>by
  simp only [Hw,oj,pj] at h
  obtain ⟨rfl,rfl⟩:=h
  intro t _;rfl
 | v :: vs,j,sl,b,b1,xs,h=>by
  simp only [Hw] at h
  split at h
  ·rename_i x b2 hp
   split at h
   ·rename_i ys b3 hq
    simp only [oj,pj] at h
    obtain ⟨rfl,rfl⟩:=h
    intro t ht
    simp only [UV,List.mem_cons,not_or] at ht
    rw [PC hq t ht.2,PB hp t ht.1]
   ·cases h
  ·cases h
theorem PD {s:Nat} {x v:V} (h:Uc sl b (some s) x=some (v,b1)):∀ t,t ∉ Um (some s) x→Jb b1 t=Jb b t:=by
 cases x with
 | tup vs=>
  simp only [Uc] at h
  split at h
  ·rename_i xs b2 hp
   simp only [oj,pj] at h
   obtain ⟨rfl,rfl⟩:=h
   exact PC hp
  ·cases h
 | _=>
  intro t ht
  rw [Kz (by simp)] at h
  exact PB h t (by simpa [Um] using ht)
theorem PE {io:Nat→Bool} {cl:Call} {fo:Operand} {g:FuncId} {caps:List V} (ho:o.op=.call cl) (hcal:cl.callee=.value fo) (hf:opd sl fo=.fn g caps)
  {ts:List Ty} (hio:UG A g 0 (cat (Jm sl cl.args.toList) caps)=false) (hnt:Q0 (Jm sl cl.args.toList)=true) (hna:HJ caps=true) {ws:List V} {res:V} {outs:List V}
  (hp:Q9 A g b 0 ts (cat (Jm sl cl.args.toList) caps)=some (c,ws)) (hk:∀ x ∈ c,x.ok) (hco:HR P (fun i=>Qh (A.mode g i)) g ws res outs) (how:Qc res=true) (hpl:Uc sl b o.dst res=some (v,b1)) :
  UW P o sl b v b1:=by
 intro Pn w0 F0 a w hdst hr K Q hK
 let κ:St→Option St:=fun σ=>some σ
 let oc:OC St:=fun f args k=>bif Nat.beq f g then (match k res outs with | some r=>some r | none=>none) else none
 obtain ⟨⟨G,hc,hs⟩,hl,hd,hpin⟩:=hr
 obtain ⟨k1,k3⟩:=hco
 obtain ⟨fn,j1,j2,j3⟩:=k1
 have hfv:=JJ hs fo
 rw [hf] at hfv
 have hfv':=(JM rfl (by simp) (by simp)).1 hfv
 unfold InV at hfv'
 obtain ⟨vals,hfe,hcaps,_⟩:=hfv'
 simp only [List.cons.injEq,and_true] at hfe
 rw [Qd] at hp hio
 have hargs:UK (Ja w b G []) (fun j=>Ho (A.mode g j)) 0 (Jm sl cl.args.toList ++ caps) (cl.args.toList.map a.eval ++ vals.toList) []:=by
  have:=XF (XD (io:=fun j=>Ho (A.mode g j)) (i:=0) hs hnt) (XE (i:=0 + (Jm sl cl.args.toList).length) hna hcaps)
  simpa using this
 have htup:=(Y9 (Y:=[]) hc.ok (fun _ h=>h) hargs hp hk).1
 have hcalls:=k3 (fun _=>True) w (cl.args.toList.map a.eval ++ vals.toList) [] htup (by simp) (by simp)
 have hrun:(execOp a.eval o).run P w=.ok (.enter g (cl.args.toList.map a.eval ++ vals.toList).toArray) w:=by
  have hcf:=Kb (P:=P) (w:=w) (args:=(cl.args.toList.map a.eval ++ vals.toList).toArray) j1 j2 j3
  have he:(cl.args.toList.map a.eval ++ vals.toList).toArray=cl.args.map a.eval ++ vals:=by apply Array.ext';simp
  rw [he] at hcf ⊢
  simp [execOp,ho,resolve,hcal,hfe,Deferred.ofValue,invoke,hcf]
 unfold Oper.wp
 rw [hrun,Oper.upon_enter]
 refine Calls.mono hcalls ?_
 rintro e w2 ⟨v2,Fr,Fo,rfl,q1,q2,q3,q4,q5,q6,q7,q8,q9⟩
 have hFo:Fo=[]:=S3 hio (S2 hargs) q2
 subst hFo
 simp only [List.append_nil] at q1 q3 q4
 obtain ⟨t1,t2⟩:=hc.x.world (w':=w2) (X':=Fr) q6 (fun b hb _=>q5 b hb (by simp)) q3 (fun b hb=>⟨(q4 b hb).1,(q4 b hb).2.elim (fun h=>by cases h) .inr⟩) q7 q8 q9
 obtain ⟨G',s1,s2,s3⟩:=Ka (E:=Q2 (fun _=>True) w2 Fr) t1 (hs.go0 t2) rfl q1 how hpl
 exact hK _ _ (Rel.put s1 s2 hl hd hpin hdst s3)
theorem j7 {cl:Call} {fo:Operand} {g:FuncId} {caps:List V} (ho:o.op=.call cl) (hcal:cl.callee=.value fo) (hf:opd sl fo=.fn g caps)
  {ts:List Ty} (hio:UG A g 0 (cat (Jm sl cl.args.toList) caps)=false) (hnt:Q0 (Jm sl cl.args.toList)=true) (hna:HJ caps=true) {ws:List V} {res:V} {outs:List V} {bR:BL} (hR:CR bR b)
  (hp:Q9 A g bR 0 ts (cat (Jm sl cl.args.toList) caps)=some (c,ws)) (hk:∀ x ∈ c,x.ok) (hco:HR P (fun i=>Qh (A.mode g i)) g ws res outs) (how:Qc res=true) (hpl:Uc sl b o.dst res=some (v,b1)) {gs:List Nat} :
  Loc P o sl b v b1 (cat gs (Ul (Jn o.op))) (cat (QC bR) (Um o.dst res)) (Um o.dst res) (Um o.dst res):=by
 have hops:Jn o.op=fo :: cl.args.toList:=by rw [ho];simp [Jn,hcal]
 have base:∀ t,t ∉ Um o.dst res→Jb b1 t=Jb b t:=by
  cases hd:o.dst with
  | none=>
   rw [hd] at hpl
   simp only [Uc,oj,pj] at hpl
   intro t _;rw [hpl.2]
  | some s=>
   intro t ht
   rw [hd] at hpl
   exact PD hpl t ht
 refine ⟨base,fun sl' b' h1 h2 h3=>?_⟩
 have hag:Qm sl sl' (Jn o.op):=Hr (fun t ht=>h1 t (by rw [Qd];simp [ht]))
 rw [hops] at hag
 have e1:opd sl' fo=.fn g caps:=by rw [hag fo (by simp),hf]
 have e2:Jm sl' cl.args.toList=Jm sl cl.args.toList:=Qm.map (fun x hx=>hag x (by simp [hx]))
 have e3:Q9 A g b' 0 ts (cat (Jm sl' cl.args.toList) caps)=some (c,ws):=by
  rw [e2]
  exact Kv (jZ hR (h2.sub (fun s hs=>by rw [Qd];simp [hs]))) hp
 obtain ⟨b1',p1,p2,p3⟩:=PA (sl':=sl') (b':=b') hpl h3 (fun t ht=>h2 t (by rw [Qd];simp [ht]))
 exact ⟨b1',PE (io:=fun _=>false) ho hcal e1 (by rw [e2];exact hio) (by rw [e2];exact hnt) hna e3 hk hco how p1,p2,fun s hs=>(p3 s hs).1⟩
end
end Go.Rai
namespace Go.Rai
variable [Inhabited Qk]
theorem CC {l m:List Nat} (h:Ui l m=true):∀ s ∈ l,s ∉ m:=by
 induction l with
 | nil=>intro s hs;cases hs
 | cons a l ih=>
  unfold Ui at h
  rw [Je] at h
  intro s hs
  rcases List.mem_cons.1 hs with rfl | hs
  ·intro hm
   rw [UJ.2 hm] at h
   simp [JO] at h
  ·exact ih h.2 s hs
theorem CS {b:Bool} (h:JO b=true):b=false:=by cases b<;>simp [JO] at h ⊢
theorem CT {l:List Nat} {s:Nat} (h:JT l s=false):s ∉ l:=fun hm=>by rw [UJ.2 hm] at h;cases h
mutual
theorem WM:∀ (v:V),JH v=true→Jd v=[]
 | .int _ _,_=>rfl
 | .bool _,_=>rfl
 | .str _,_=>rfl
 | .own _ _,_=>rfl
 | .ownh _ _ _,ho=>by simp [JH] at ho
 | .arr _ _ _,_=>rfl
 | .agg vs,h=>by unfold JH at h;unfold Jd;exact KA vs h
 | .obox v,h=>by unfold JH at h;unfold Jd;exact WM v h
 | .tup vs,h=>by unfold JH at h;unfold Jd;exact KA vs h
 | .undef,ho=>by simp [JH] at ho
 | .void,ho=>by simp [JH] at ho
 | .rd _ _,ho=>by simp [JH] at ho
 | .lst _ _,ho=>by simp [JH] at ho
 | .nilsl,ho=>by simp [JH] at ho
 | .emp _,ho=>by simp [JH] at ho
 | .rp _,ho=>by simp [JH] at ho
 | .full _ _ _,ho=>by simp [JH] at ho
 | .sub _ _ _ _ _,ho=>by simp [JH] at ho
 | .ptr _ _,ho=>by simp [JH] at ho
 | .fn _ _,ho=>by simp [JH] at ho
 | .nilfn,ho=>by simp [JH] at ho
 | .nilptr,_=>rfl
 | .mp _,ho=>by simp [JH] at ho
 | .mref _,ho=>by simp [JH] at ho
theorem KA:∀ (vs:List V),Hc vs=true→Jl vs=[]
 | [],_=>rfl
 | v :: vs,h=>by
  unfold Hc at h;rw [Je] at h
  unfold Jl;rw [WM v h.1,KA vs h.2];rfl
end
section
variable {P:Program} {A:Ann} {w w' w0:World} {F0:List Nat} {sl:List V} {a:Act} {bl b b' b1:BL} {G:GT} {o:Oper} {X:List Nat} {v:V} {c:List Jk}
structure VS (E0 E':Env) (Lf Lp:List Nat) (s:Nat):Prop where
 on:s ∈ Lf ∨ s ∈ Lp
 f:s ∈ Lf→∀ e cs,InV E0 (.full s [] e) cs []→InV E' (.full s [] e) cs []
 p:s ∈ Lp→∀ cs,InV E0 (.ptr s [0]) cs []→InV E' (.ptr s [0]) cs []
mutual
theorem PF {E0 E E':Env} {s:Nat} {Lf Lp:List Nat} (hE:Jx E E' (fun t=>t=s)) (hb:VS E0 E' Lf Lp s):∀ (v:V) {cs:List Value},ioV Lf Lp v=true→InV E0 v cs []→InV E v cs []→InV E' v cs []
 | .full t p e,cs,hv,h0,h1=>by
  by_cases hts:t=s
  ·subst hts
   unfold ioV at hv
   rw [Je] at hv
   have hLp:=CT (CS hv.1)
   have hLf:=hb.on.resolve_right hLp
   have h2:=hv.2
   rw [UJ.2 hLf] at h2
   match p,h0,h1,h2 with
   | [],h0,h1,_=>exact hb.f hLf e cs h0
  ·exact hE.inV (by intro t' ht' e;simp [Jd] at ht';exact hts (ht' ▸ e)) (fun _ hb=>by cases hb) h1
 | .ptr t p,cs,hv,h0,h1=>by
  by_cases hts:t=s
  ·subst hts
   unfold ioV at hv
   rw [Je] at hv
   have hLf:=CT (CS hv.1)
   have hLp:=hb.on.resolve_left hLf
   have h2:=hv.2
   rw [UJ.2 hLp] at h2
   match p,h0,h1,h2 with
   | [0],h0,h1,_=>exact hb.p hLp cs h0
   | [],_,_,h2=>simp at h2
   | (n + 1) :: q,_,_,h2=>simp at h2
   | 0 :: m :: q,_,_,h2=>simp at h2
  ·exact hE.inV (by intro t' ht' e;simp [Jd] at ht';exact hts (ht' ▸ e)) (fun _ hb=>by cases hb) h1
 | .agg vs,cs,hv,h0,h1=>by
  unfold ioV at hv
  unfold InV at h0 h1 ⊢
  exact KB hE hb vs hv h0 h1
 | .fn f vs,cs,hv,h0,h1=>by
  unfold ioV at hv
  unfold InV at h0 h1 ⊢
  obtain ⟨vals,rfl,i1,i2⟩:=h1
  obtain ⟨vals',e1,j1,_⟩:=h0
  simp only [List.cons.injEq,Value.func.injEq,true_and,and_true] at e1
  subst e1
  exact ⟨vals,rfl,KB hE hb vs hv j1 i1,i2⟩
 | .tup vs,cs,hv,h0,h1=>by unfold InV at h0;exact h0.elim
 | .sub t p o l e,cs,hv,h0,h1=>by
  simp only [ioV,Je] at hv
  exact hE.inV (fun t ht e=>by subst e;exact hb.on.elim (CC hv.1 _ ht) (CC hv.2 _ ht)) (fun _ hb=>by cases hb) h1
 | .lst e vs,cs,hv,h0,h1=>by
  simp only [ioV,Je] at hv
  exact hE.inV (fun t ht e=>by subst e;exact hb.on.elim (CC hv.1 _ ht) (CC hv.2 _ ht)) (fun _ hb=>by cases hb) h1
 | .obox x,cs,hv,h0,h1=>by
  simp only [ioV,Je] at hv
  exact hE.inV (fun t ht e=>by subst e;exact hb.on.elim (CC hv.1 _ ht) (CC hv.2 _ ht)) (fun _ hb=>by cases hb) h1
 | .rp x,cs,hv,h0,h1=>by
  simp only [ioV,Je] at hv
  exact hE.inV (fun t ht e=>by subst e;exact hb.on.elim (CC hv.1 _ ht) (CC hv.2 _ ht)) (fun _ hb=>by cases hb) h1
 | .int _ _,cs,hv,h0,h1=>hE.inV (fun t ht=>by cases ht) (fun _ hb=>by cases hb) h1
 | .bool _,cs,hv,h0,h1=>hE.inV (fun t ht=>by cases ht) (fun _ hb=>by cases hb) h1
 | .str _,cs,hv,h0,h1=>hE.inV (fun t ht=>by cases ht) (fun _ hb=>by cases hb) h1
 | .own _ _,cs,hv,h0,h1=>hE.inV (fun t ht=>by cases ht) (fun _ hb=>by cases hb) h1
 | .ownh _ _ _,cs,hv,h0,h1=>hE.inV (fun t ht=>by cases ht) (fun _ hb=>by cases hb) h1
 | .rd _ _,cs,hv,h0,h1=>hE.inV (fun t ht=>by cases ht) (fun _ hb=>by cases hb) h1
 | .arr _ _ _,cs,hv,h0,h1=>hE.inV (fun t ht=>by cases ht) (fun _ hb=>by cases hb) h1
 | .undef,cs,hv,h0,h1=>hE.inV (fun t ht=>by cases ht) (fun _ hb=>by cases hb) h1
 | .void,cs,hv,h0,h1=>hE.inV (fun t ht=>by cases ht) (fun _ hb=>by cases hb) h1
 | .nilsl,cs,hv,h0,h1=>hE.inV (fun t ht=>by cases ht) (fun _ hb=>by cases hb) h1
 | .emp _,cs,hv,h0,h1=>hE.inV (fun t ht=>by cases ht) (fun _ hb=>by cases hb) h1
 | .nilfn,cs,hv,h0,h1=>hE.inV (fun t ht=>by cases ht) (fun _ hb=>by cases hb) h1
 | .nilptr,cs,hv,h0,h1=>hE.inV (fun t ht=>by cases ht) (fun _ hb=>by cases hb) h1
 | .mp _,cs,hv,h0,h1=>hE.inV (fun t ht=>by cases ht) (fun _ hb=>by cases hb) h1
 | .mref x,cs,hv,h0,h1=>by
  simp only [ioV,Je] at hv
  exact hE.inV (fun t ht e=>by subst e;exact hb.on.elim (CC hv.1 _ ht) (CC hv.2 _ ht)) (fun _ hb=>by cases hb) h1
theorem KB {E0 E E':Env} {s:Nat} {Lf Lp:List Nat} (hE:Jx E E' (fun t=>t=s)) (hb:VS E0 E' Lf Lp s):∀ (vs:List V) {cs:List Value},Ub Lf Lp vs=true→Jj E0 vs cs []→Jj E vs cs []→Jj E' vs cs []
 | [],cs,hv,h0,h1=>by unfold Jj at h1 ⊢;exact h1
 | v :: vs,cs,hv,h0,h1=>by
  unfold Ub at hv
  rw [Je] at hv
  unfold Jj at h0 h1 ⊢
  obtain ⟨c1,c2,F1,F2,e1,e2,i1,i2⟩:=h0
  obtain ⟨d1,d2,G1,G2,k1,k2,j1,j2⟩:=h1
  obtain ⟨rfl,rfl⟩:=List.append_eq_nil_iff.1 e2.symm
  obtain ⟨rfl,rfl⟩:=List.append_eq_nil_iff.1 k2.symm
  subst k1
  obtain ⟨rfl,rfl⟩:=List.append_inj e1 (by rw [Qq v i1,Qq v j1])
  exact ⟨d1,d2,[],[],rfl,rfl,PF hE hb v hv.1 i1 j1,KB hE hb vs hv.2 i2 j2⟩
end
theorem PG {x:V} {cs cs':List Value} {u:Value} (h:Qf x cs u) (h':Qf x cs' u):cs=cs':=by
 unfold Qf at h h'
 cases hx:isA x with
 | true=>
  rw [hx] at h h'
  simp only at h h'
  rw [h] at h'
  simpa using h'
 | false=>
  rw [hx] at h h'
  simp only at h h'
  rw [h,h']
theorem PH {E0 E E':Env} {s:Nat} {Lf Lp:List Nat} (hE:Jx E E' (fun t=>t=s)) (hb:VS E0 E' Lf Lp s) {x:V} {u:Value} (hv:ioV Lf Lp x=true) (h0:One E0 x u []) (h1:One E x u []):One E' x u []:=by
 obtain ⟨cs,i1,i2⟩:=h0
 obtain ⟨cs',j1,j2⟩:=h1
 have:=PG i2 j2
 subst this
 exact ⟨cs,PF hE hb x hv i1 j1,j2⟩
theorem PI {E0 E E':Env} {s:Nat} {Lf Lp:List Nat} (hE:Jx E E' (fun t=>t=s)) (hb:VS E0 E' Lf Lp s):∀ {xs:List V} {us:List Value},Ub Lf Lp xs=true→Tup E0 xs us []→Tup E xs us []→Tup E' xs us []
 | [],us,hv,h0,h1=>h1
 | x :: xs,us,hv,⟨u,r,F1,F2,e1,e2,i1,i2⟩,⟨u',r',G1,G2,k1,k2,j1,j2⟩=>by
  unfold Ub at hv
  rw [Je] at hv
  obtain ⟨rfl,rfl⟩:=List.append_eq_nil_iff.1 e2.symm
  obtain ⟨rfl,rfl⟩:=List.append_eq_nil_iff.1 k2.symm
  subst e1
  simp only [List.cons.injEq] at k1
  obtain ⟨rfl,rfl⟩:=k1
  exact ⟨u,r,[],[],rfl,rfl,PH hE hb hv.1 i1 j1,PI hE hb hv.2 i2 j2⟩
theorem j8 {E0 E E':Env} {s:Nat} {Lf Lp:List Nat} (hE:Jx E E' (fun t=>t=s)) (hb:VS E0 E' Lf Lp s) {x:V} {u:Value} (hv:ioV Lf Lp x=true) (h0:Val E0 x u []) (h1:Val E x u []):Val E' x u []:=by
 cases x with
 | tup xs=>
  obtain ⟨us,rfl,i1⟩:=h0
  obtain ⟨us',e1,j1⟩:=h1
  simp only [Value.tuple.injEq] at e1
  subst e1
  unfold ioV at hv
  exact ⟨us,rfl,PI hE hb hv i1 j1⟩
 | undef=>exact h1
 | _=>exact PH hE hb hv h0 h1
theorem KC {Lf Lp:List Nat}:∀ {sl:List V} {t:Nat},Ub Lf Lp sl=true→ioV Lf Lp (Jw sl t)=true
 | [],t,h=>by cases t<;>rfl
 | v :: sl,t,h=>by
  unfold Ub at h
  rw [Je] at h
  cases t with
  | zero=>exact h.1
  | succ t=>exact KC (sl:=sl) (t:=t) h.2
theorem PJ {E0 E E':Env} {s:Nat} {Lf Lp:List Nat} (hE:Jx E E' (fun t=>t=s)) (hb:VS E0 E' Lf Lp s) (hv:Ub Lf Lp sl=true) (h0:Jy E0 sl a) (h1:Jy E sl a):Jy E' sl a:=
 fun t=>j8 hE hb (KC hv) (h0 t) (h1 t)
theorem XX {f:FuncId}:∀ {vs:List V} {i:Nat},Hg A f b i vs=true→∀ s ∈ ioF A f i vs,∃ x,Jb b s=some x∧QB x=true
 | [],i,_,s,hs=>by simp [ioF] at hs
 | v :: vs,i,h,s,hs=>by
  unfold Hg at h
  unfold ioF at hs
  split at h
  ·rename_i hm
   rw [hm] at hs
   rw [Je] at h
   simp only at hs
   split at hs
   ·rename_i s' p e
    rcases List.mem_cons.1 hs with rfl | hs
    ·have h1:=h.1
     simp only [Va] at h1
     split at h1
     ·split at h1
      ·rename_i hl;exact ⟨_,hl,rfl⟩
      ·rename_i hl;exact ⟨_,hl,rfl⟩
      ·simp at h1
     ·simp at h1
    ·exact XX h.2 s hs
   ·exact XX h.2 s hs
  ·rename_i hm
   have:s ∈ ioF A f (i + 1) vs:=by
    split at hs
    ·rename_i hm';exact absurd hm' hm
    ·exact hs
   exact XX h s this
theorem XY {f:FuncId}:∀ {vs:List V} {i:Nat},Hg A f b i vs=true→∀ s ∈ ioP A f i vs,∃ x,Jb b s=some (.obox x)
 | [],i,_,s,hs=>by simp [ioP] at hs
 | v :: vs,i,h,s,hs=>by
  unfold Hg at h
  unfold ioP at hs
  split at h
  ·rename_i hm
   rw [hm] at hs
   rw [Je] at h
   simp only at hs
   split at hs
   ·rename_i s' p
    rcases List.mem_cons.1 hs with rfl | hs
    ·have h1:=h.1
     simp only [Va] at h1
     split at h1
     ·split at h1
      ·rename_i hl;exact ⟨_,hl⟩
      ·simp at h1
     ·simp at h1
    ·exact XY h.2 s hs
   ·exact XY h.2 s hs
  ·rename_i hm
   have:s ∈ ioP A f (i + 1) vs:=by
    split at hs
    ·rename_i hm';exact absurd hm' hm
    ·exact hs
   exact XY h s this
theorem PK {s:Nat} (h:bor (JT (Jv b) s) (match Jb b s with | some _=>true | none=>false)=false):Jb b s=none∧∀ t c,Jb b t=some c→s ∉ Jd c:=by
 rw [OQ] at h
 refine ⟨?_,fun t c hc hm=>CT h.1 (Cr hc hm)⟩
 cases hl:Jb b s with
 | none=>rfl
 | some c=>rw [hl] at h;simp at h
def KD (E:Env):Prop:=∀ s c,Jb E.bl s=some c→∃ rc F F',E.G s=some (rc,F)∧InV E c rc F'
theorem j9 {E0:Env} (h0:Jy E0 sl a) (hr0:KD E0) {Lf Lp:List Nat} (hf0:∀ s ∈ Lf,∃ x,Jb E0.bl s=some x∧QB x=true) (hp0:∀ s ∈ Lp,∃ x,Jb E0.bl s=some (.obox x)) (hsl:Ub Lf Lp sl=true)
  {F:List Nat} {v x:V} {u:Value} (hc:JK w bl G (F ++ X) w0 F0) (hs:Jy (Ja w bl G (F ++ X)) sl a) (hx:One (Ja w bl G (F ++ X)) x u F) (hv:One E0 v u []) (ho:Qe x=true)
  (hfull:∀ s p e,v=.full s p e→s ∈ Lf) (hptr:∀ s p,v=.ptr s p→s ∈ Lp) (h:Ou bl v x=some b') :
  ∃ G',JK w b' G' X w0 F0∧Jy (Ja w b' G' X) sl a∧Le (Ja w bl G (F ++ X)) (Ja w b' G' X):=by
 unfold Ou at h
 split at h
 ·rename_i s p e
  split at h
  ·split at h
   ·rename_i e' l
    split at h
    ·rename_i hfree
     simp only [oj] at h
     subst h
     obtain ⟨f1,f2⟩:=PK hfree
     obtain ⟨cs,i1,i2⟩:=hx
     obtain ⟨cs0,j1,j2⟩:=hv
     unfold Qf at i2 j2
     simp only [isA] at i2 j2
     subst i2;subst j2
     have hin:InV (Ja w bl G (F ++ X)) (.own e' l) [u] F:=i1
     obtain ⟨g1,g2⟩:=hc.add f1 f2 hin (by simp [Jd])
     have hLf:s ∈ Lf:=hfull _ _ _ rfl
     obtain ⟨x0,k1,k2⟩:=hf0 s hLf
     obtain ⟨rc0,Fr0,_,k3,_⟩:=hr0 s x0 k1
     refine ⟨_,g1,PJ g2 ⟨.inl hLf,?_,?_⟩ hsl h0 hs,g2.le⟩
     ·intro _ e2 cs hcs
      unfold InV at hcs j1 ⊢
      obtain ⟨_,⟨A1,n1,c1,e1⟩,q1⟩:=hcs
      obtain ⟨_,_,q2⟩:=j1
      obtain ⟨v1,r1,r2⟩:=q1 x0 rc0 Fr0 k1 k3 x0 _ rfl k2
      obtain ⟨v2,r3,r4⟩:=q2 x0 rc0 Fr0 k1 k3 x0 _ rfl k2
      rw [r1] at r3
      simp only [oj,List.cons.injEq,and_true] at r3 r4
      refine ⟨rfl,⟨A1,n1,c1,e1⟩,?_⟩
      intro c rc F1 hl hg x L hloc _
      simp only [Ja,JG,if_true,oj,pj] at hl hg
      obtain ⟨rfl,rfl⟩:=hg
      subst hl
      simp only [Jf,oj,pj] at hloc
      obtain ⟨rfl,rfl⟩:=hloc
      exact ⟨u,rfl,by rw [r2,r3,← r4]⟩
     ·intro hLp
      obtain ⟨y0,hy0⟩:=hp0 s hLp
      rw [k1] at hy0
      simp only [oj] at hy0
      subst hy0
      simp [QB] at k2
    ·cases h
   ·cases h
  ·cases h
 ·rename_i s p
  split at h
  ·split at h
   ·rename_i y
    split at h
    ·rename_i hfree
     simp only [oj] at h
     subst h
     obtain ⟨f1,f2⟩:=PK hfree
     obtain ⟨cs,i1,i2⟩:=hx
     obtain ⟨cs0,j1,j2⟩:=hv
     unfold Qf at i2 j2
     simp only [isA] at i2 j2
     subst i2;subst j2
     have hin:InV (Ja w bl G (F ++ X)) (.obox y) [u] F:=i1
     obtain ⟨g1,g2⟩:=hc.add f1 f2 hin (by rw [Xz ho];simp)
     have hLp:s ∈ Lp:=hptr _ _ rfl
     obtain ⟨y0,k1⟩:=hp0 s hLp
     obtain ⟨rc0,Fr0,Fr1,k3,k4⟩:=hr0 s _ k1
     unfold InV at k4
     obtain ⟨a0,cs0,_,rfl,_⟩:=k4
     refine ⟨_,g1,PJ g2 ⟨.inr hLp,?_,?_⟩ hsl h0 hs,g2.le⟩
     ·intro hLf
      obtain ⟨x0,hx0,hx1⟩:=hf0 s hLf
      rw [k1] at hx0
      simp only [oj] at hx0
      subst hx0
      simp [QB] at hx1
     ·intro _ cs hcs
      unfold InV at hcs j1 ⊢
      obtain ⟨_,⟨a1,e1⟩,q1⟩:=hcs
      obtain ⟨_,_,q2⟩:=j1
      have hloc:Jf E0.w (.obox y0) (.reg [.pointer (some a0)]) [0]=some (y0,.mem a0):=by simp [Jf,Ji.head]
      obtain ⟨a2,r1,r2⟩:=q1 _ _ _ k1 k3 _ _ hloc
      obtain ⟨a3,r3,r4⟩:=q2 _ _ _ k1 k3 _ _ hloc
      simp only [Ji.mem.injEq] at r1 r3
      subst r1;subst r3
      simp only [List.cons.injEq,and_true] at r4
      refine ⟨rfl,⟨a0,r2⟩,?_⟩
      intro c rc F1 hl hg x L hloc
      simp only [Ja,JG,if_true,oj,pj] at hl hg
      obtain ⟨rfl,rfl⟩:=hg
      subst hl
      rw [r4] at hloc
      simp only [Jf,Ji.head,List.getElem?_cons_zero,oj,pj] at hloc
      obtain ⟨rfl,rfl⟩:=hloc
      exact ⟨a0,rfl,r2⟩
    ·cases h
   ·cases h
  ·cases h
 ·cases h
theorem KE {kp:Bool} {f:FuncId} {E0:Env} (h0:Jy E0 sl a) (hr0:KD E0) {Lf Lp:List Nat} (hf0:∀ s ∈ Lf,∃ x,Jb E0.bl s=some x∧QB x=true) (hp0:∀ s ∈ Lp,∃ x,Jb E0.bl s=some (.obox x)) (hsl:Ub Lf Lp sl=true) :
  ∀ {vs xs:List V} {i:Nat} {us:List Value} {Fo:List Nat} {bl b':BL} {G:GT} {E:Env},JK w bl G (Fo ++ X) w0 F0→Jy (Ja w bl G (Fo ++ X)) sl a→E.w=w→(kp=true→Kle E (Ja w bl G (Fo ++ X)))→CP E (fun j=>Qh (A.mode f j)) i xs us Fo→Tup E0 vs us [] →
   (∀ s ∈ ioF A f i vs,s ∈ Lf)→(∀ s ∈ ioP A f i vs,s ∈ Lp)→Ua A kp f i bl vs xs=some b'→∃ G',JK w b' G' X w0 F0∧Jy (Ja w b' G' X) sl a
 | [],[],i,us,Fo,bl,b',G,E,hc,hs,hE,hle,ho,hv,hlf,hlp,h=>by
  simp only [Ua,oj] at h
  subst h
  obtain ⟨_,rfl⟩:=ho
  exact ⟨G,hc,hs⟩
 | [],x :: xs,i,us,Fo,bl,b',G,E,hc,hs,hE,hle,ho,hv,hlf,hlp,h=>by simp [Ua] at h
 | v :: vs,[],i,us,Fo,bl,b',G,E,hc,hs,hE,hle,ho,hv,hlf,hlp,h=>by simp [Ua] at h
 | v :: vs,x :: xs,i,us,Fo,bl,b',G,E,hc,hs,hE,hle,ho,hv,hlf,hlp,h=>by
  obtain ⟨u,r,F1,F2,e1,rfl,h1,h2,h3⟩:=ho
  obtain ⟨u',r',K1,K2,k1,k2,j1,j2⟩:=hv
  obtain ⟨rfl,rfl⟩:=List.append_eq_nil_iff.1 k2.symm
  rw [e1] at k1
  simp only [List.cons.injEq] at k1
  obtain ⟨rfl,rfl⟩:=k1
  simp only [Ua] at h
  split at h
  ·rename_i hm
   have hlf':∀ s p e,v=.full s p e→s ∈ Lf:=fun s p e hv=>hlf s (by rw [hv];simp [ioF,hm])
   have hlp':∀ s p,v=.ptr s p→s ∈ Lp:=fun s p hv=>hlp s (by rw [hv];simp [ioP,hm])
   have hlf2:∀ s ∈ ioF A f (i + 1) vs,s ∈ Lf:=fun s hs=>hlf s (by
    simp only [ioF,hm]
    split
    ·simp [hs]
    ·exact hs)
   have hlp2:∀ s ∈ ioP A f (i + 1) vs,s ∈ Lp:=fun s hs=>hlp s (by
    simp only [ioP,hm]
    split
    ·simp [hs]
    ·exact hs)
   split at h
   ·rename_i hx
    split at h
    ·rename_i b2 hp
     obtain ⟨t1,t2⟩:=hc.perm (show ((F1 ++ F2) ++ X).Perm (F1 ++ (F2 ++ X)) by rw [List.append_assoc])
     have hxk:Qe x=true:=by
      rw [Co,Je] at hx
      rcases hx with hx | hx
      ·exact Y6 hx
      ·exact hx.2
     obtain ⟨cs,m1,m2⟩:=h1 (by show Qh (A.mode f i)=true;rw [hm];rfl)
     have hone:One (Ja w bl G (F1 ++ (F2 ++ X))) x u F1:=by
      rw [Co,Je] at hx
      rcases hx with hx | hx
      ·exact ⟨cs,Oc (E:=E) (by rw [hE];rfl) _ hx m1,m2⟩
      ·exact ⟨cs,XA (E:=E) (by have:=hle hx.1;rw [List.append_assoc] at this;exact this) (by rw [hE];rfl) hx.2 m1,m2⟩
     obtain ⟨G1,q1,q2,q3⟩:=j9 h0 hr0 hf0 hp0 hsl t1 (hs.go0 t2) hone j1 hxk hlf' hlp' hp
     exact KE h0 hr0 hf0 hp0 hsl q1 q2 hE (fun hk=>by have:=hle hk;rw [List.append_assoc] at this;exact fun b h1 h2=>⟨(q3.stab b (this b h1 h2).1).1,q3.kept b (this b h1 h2).1 (this b h1 h2).2⟩) h3 j2 hlf2 hlp2 h
    ·cases h
   ·cases h
  ·rename_i hm
   have hf:Qh (A.mode f i)=false:=by
    cases hq:A.mode f i with
    | io=>exact absurd hq hm
    | take=>rfl
    | lend=>rfl
    | keep=>rfl
   have:=h2 hf
   subst this
   refine KE h0 hr0 hf0 hp0 hsl (Fo:=F2) hc hs hE hle h3 j2 (fun s hs=>hlf s ?_) (fun s hs=>hlp s ?_) h
   ·unfold ioF
    split
    ·rename_i hm';exact absurd hm' hm
    ·exact hs
   ·unfold ioP
    split
    ·rename_i hm';exact absurd hm' hm
    ·exact hs
theorem KF {E:Env} {io:Nat→Bool}:∀ {xs:List V} {i:Nat} {vs:List Value} {F:List Nat},UK E io i xs vs F→Tup E xs vs F
 | [],i,vs,F,h=>h
 | x :: xs,i,vs,F,⟨v,r,F1,F2,e1,e2,h1,h2,h3⟩=>⟨v,r,F1,F2,e1,e2,h1,KF h3⟩
theorem PL {cl:Call} {fo:Operand} {g:FuncId} {caps:List V} {b2:BL} (ho:o.op=.call cl) (hcal:cl.callee=.value fo) (hf:opd sl fo=.fn g caps)
  {ts:List Ty} (hnt:Q0 (Jm sl cl.args.toList)=true) (hna:HJ caps=true)
  (hroots:Hg A g b 0 (cat (Jm sl cl.args.toList) caps)=true)
  (hsl:Ub (ioF A g 0 (cat (Jm sl cl.args.toList) caps)) (ioP A g 0 (cat (Jm sl cl.args.toList) caps)) sl=true)
  {ws:List V} {res:V} {outs:List V}
  (hp:O9 A g b ts (cat (Jm sl cl.args.toList) caps)=some (c,ws,bl)) (hk:∀ x ∈ c,x.ok) (hco:HR P (fun i=>Qh (A.mode g i)) g ws res outs) (how:Qc res=true)
  (hre:Ua A (UO A g 0 ws) g 0 bl (cat (Jm sl cl.args.toList) caps) outs=some b2) (hpl:Uc sl b2 o.dst res=some (v,b1)) :
  UW P o sl b v b1:=by
 intro Pn w0 F0 a w hdst hr K Q hK
 obtain ⟨⟨G,hc,hs⟩,hl,hd,hpin⟩:=hr
 obtain ⟨k1,k3⟩:=hco
 obtain ⟨fn,j1,j2,j3⟩:=k1
 have hfv:=JJ hs fo
 rw [hf] at hfv
 have hfv':=(JM rfl (by simp) (by simp)).1 hfv
 unfold InV at hfv'
 obtain ⟨vals,hfe,hcaps,_⟩:=hfv'
 simp only [List.cons.injEq,and_true] at hfe
 rw [Qd] at hp hroots hsl hre
 have hargs:Tup (Ja w b G []) (Jm sl cl.args.toList ++ caps) (cl.args.toList.map a.eval ++ vals.toList) []:=by
  have:=XF (XD (io:=fun j=>Ho (A.mode g j)) (i:=0) hs hnt) (XE (i:=0 + (Jm sl cl.args.toList).length) hna hcaps)
  exact KF (by simpa using this)
 have hroot0:KD (Ja w b G []):=fun s c hc'=>by
  obtain ⟨rc,F,F1,h1,h2,_⟩:=hc.ok.root s c hc'
  exact ⟨rc,F,F1,h1,h2⟩
 obtain ⟨F,G1,p1,p2',p3,p4⟩:=jz hc hargs hp hk
 obtain ⟨Kx,p2,hKx⟩:∃ Kx,Tup (Q2 Kx w F) ws (cl.args.toList.map a.eval ++ vals.toList) F∧(UO A g 0 ws=true→Kx=XB w bl G1 F):=by
  cases hq:UO A g 0 ws with
  | false=>exact ⟨_,p2',fun h=>by cases h⟩
  | true=>exact ⟨_,p4 hq,fun _=>rfl⟩
 have hcalls:=k3 Kx w (cl.args.toList.map a.eval ++ vals.toList) F p2 p1.ok.xnd p1.ok.xlt
 have hrun:(execOp a.eval o).run P w=.ok (.enter g (cl.args.toList.map a.eval ++ vals.toList).toArray) w:=by
  have hcf:=Kb (P:=P) (w:=w) (args:=(cl.args.toList.map a.eval ++ vals.toList).toArray) j1 j2 j3
  have he:(cl.args.toList.map a.eval ++ vals.toList).toArray=cl.args.map a.eval ++ vals:=by apply Array.ext';simp
  rw [he] at hcf ⊢
  simp [execOp,ho,resolve,hcal,hfe,Deferred.ofValue,invoke,hcf]
 unfold Oper.wp
 rw [hrun,Oper.upon_enter]
 refine Calls.mono hcalls ?_
 rintro e w2 ⟨v2,Fr,Fo,rfl,q1,q2,q3,q4,q5,q6,q7,q8,q9⟩
 obtain ⟨t1,t2⟩:=p1.world (w':=w2) (X':=Fr ++ Fo) q6 (fun b hb hx=>q5 b hb hx) q3 q4 q7 q8 q9
 have hs2:Jy (Ja w2 bl G1 (Fr ++ Fo)) sl a:=(hs.go0 p3).go0 t2
 obtain ⟨t3,t4⟩:=t1.perm (List.perm_append_comm (l₁:=Fr) (l₂:=Fo))
 have hleK:UO A g 0 ws=true→Kle (Q2 Kx w2 (Fr ++ Fo)) (Ja w2 bl G1 (Fo ++ Fr)):=fun hq=>by
  have:=hKx hq
  subst this
  intro b h1 h2
  refine ⟨⟨h1.1,fun ho=>?_⟩,h2.2⟩
  rcases ho with ho | ho
  ·exact h1.2 (by rcases List.mem_append.1 ho with h | h<;>simp [h])
  ·exact h2.1.2 (.inr ho)
 obtain ⟨G2,r1,r2⟩:=KE (X:=Fr) (E:=Q2 Kx w2 (Fr ++ Fo)) hs hroot0 (XX hroots) (XY hroots) hsl t3 (hs2.go0 t4) rfl hleK q2 hargs (fun s h=>h) (fun s h=>h) hre
 obtain ⟨G',s1,s2,s3⟩:=Ka (E:=Q2 Kx w2 (Fr ++ Fo)) r1 r2 rfl q1 how hpl
 exact hK _ _ (Rel.put s1 s2 hl hd hpin hdst s3)
end
end Go.Rai
namespace Go.Rai
variable [Inhabited Qk]
def VT (E E':Env) (s n m:Nat):Prop:=
 ∀ c' rc F',Jb E'.bl s=some c'→E'.G s=some (rc,F')→∃ c F0,Jb E.bl s=some c∧E.G s=some (rc,F0) ∧
  Q5 false n E.w E'.w c c' (.reg rc)∧Q5 true m E.w E'.w c c' (.reg rc)
theorem OU {α:Type}:∀ (l:List α),Up l=l.length
 | []=>rfl
 | _ :: l=>by simp [Up,OU l]
theorem KG {s n:Nat} {p:List Nat} (h:V8 s n s p=true):p.length<n:=by
 unfold V8 at h
 rw [Nat.beq_refl] at h
 have:=Nat.le_of_ble_eq_true h
 rw [OU] at this
 exact this
mutual
theorem PM {E E':Env} {s n m:Nat} (hE:Jx E E' (fun t=>t=s)) (hb:VT E E' s n m):∀ (v:V) {cs:List Value},UP s n m v=true→InV E v cs []→InV E' v cs []
 | .full t p e,cs,hv,h1=>by
  by_cases hts:t=s
  ·subst hts
   unfold UP at hv
   have hlen:=KG hv
   unfold InV at h1 ⊢
   obtain ⟨h0,h2,h3⟩:=h1
   refine ⟨h0,h2,fun c' rc F' hc hg x' L hl ho=>?_⟩
   obtain ⟨c,F0,hc0,hg0,_,hal⟩:=hb c' rc F' hc hg
   obtain ⟨x,hx,hown⟩:=hal p hlen x' L hl
   obtain ⟨ho',hh⟩:=hown rfl ho
   obtain ⟨v,hv,hcs⟩:=h3 c rc F0 hc0 hg0 x L hx ho'
   exact ⟨v,by rw [hh];exact hv,hcs⟩
  ·exact hE.inV (by intro t' ht' e;simp [Jd] at ht';exact hts (ht' ▸ e)) (fun _ hb=>by cases hb) h1
 | .sub t p off len e,cs,hv,h1=>by
  by_cases hts:t=s
  ·subst hts
   unfold UP at hv
   have hlen:=KG hv
   unfold InV at h1 ⊢
   obtain ⟨h0,h2,h3⟩:=h1
   refine ⟨h0,h2,fun c' rc F' hc hg x' L hl ho=>?_⟩
   obtain ⟨c,F0,hc0,hg0,_,hal⟩:=hb c' rc F' hc hg
   obtain ⟨x,hx,hown⟩:=hal p hlen x' L hl
   obtain ⟨ho',hh⟩:=hown rfl ho
   obtain ⟨A,n,k,A',hv,hcs⟩:=h3 c rc F0 hc0 hg0 x L hx ho'
   exact ⟨A,n,k,A',by rw [hh];exact hv,hcs⟩
  ·exact hE.inV (by intro t' ht' e;simp [Jd] at ht';exact hts (ht' ▸ e)) (fun _ hb=>by cases hb) h1
 | .ptr t p,cs,hv,h1=>by
  by_cases hts:t=s
  ·subst hts
   unfold UP at hv
   have hlen:=KG hv
   unfold InV at h1 ⊢
   obtain ⟨h0,h2,h3⟩:=h1
   refine ⟨h0,h2,fun c' rc F' hc hg x' L hl=>?_⟩
   obtain ⟨c,F0,hc0,hg0,hal,_⟩:=hb c' rc F' hc hg
   obtain ⟨x,hx,_⟩:=hal p hlen x' L hl
   exact h3 c rc F0 hc0 hg0 x L hx
  ·exact hE.inV (by intro t' ht' e;simp [Jd] at ht';exact hts (ht' ▸ e)) (fun _ hb=>by cases hb) h1
 | .agg vs,cs,hv,h1=>by
  unfold UP at hv
  unfold InV at h1 ⊢
  exact KH hE hb vs hv h1
 | .fn f vs,cs,hv,h1=>by
  unfold UP at hv
  unfold InV at h1 ⊢
  obtain ⟨vals,rfl,i1,i2⟩:=h1
  exact ⟨vals,rfl,KH hE hb vs hv i1,i2⟩
 | .tup vs,cs,hv,h1=>by unfold InV at h1;exact h1.elim
 | .lst e vs,cs,hv,h1=>by
  simp only [UP] at hv
  exact hE.inV (fun t ht e=>by subst e;exact CT (CS hv) ht) (fun _ hb=>by cases hb) h1
 | .obox x,cs,hv,h1=>by
  simp only [UP] at hv
  exact hE.inV (fun t ht e=>by subst e;exact CT (CS hv) ht) (fun _ hb=>by cases hb) h1
 | .rp x,cs,hv,h1=>by
  simp only [UP] at hv
  exact hE.inV (fun t ht e=>by subst e;exact CT (CS hv) ht) (fun _ hb=>by cases hb) h1
 | .int _ _,cs,hv,h1=>hE.inV (fun t ht=>by cases ht) (fun _ hb=>by cases hb) h1
 | .bool _,cs,hv,h1=>hE.inV (fun t ht=>by cases ht) (fun _ hb=>by cases hb) h1
 | .str _,cs,hv,h1=>hE.inV (fun t ht=>by cases ht) (fun _ hb=>by cases hb) h1
 | .own _ _,cs,hv,h1=>hE.inV (fun t ht=>by cases ht) (fun _ hb=>by cases hb) h1
 | .ownh _ _ _,cs,hv,h1=>hE.inV (fun t ht=>by cases ht) (fun _ hb=>by cases hb) h1
 | .rd _ _,cs,hv,h1=>hE.inV (fun t ht=>by cases ht) (fun _ hb=>by cases hb) h1
 | .arr _ _ _,cs,hv,h1=>hE.inV (fun t ht=>by cases ht) (fun _ hb=>by cases hb) h1
 | .undef,cs,hv,h1=>hE.inV (fun t ht=>by cases ht) (fun _ hb=>by cases hb) h1
 | .void,cs,hv,h1=>hE.inV (fun t ht=>by cases ht) (fun _ hb=>by cases hb) h1
 | .nilsl,cs,hv,h1=>hE.inV (fun t ht=>by cases ht) (fun _ hb=>by cases hb) h1
 | .emp _,cs,hv,h1=>hE.inV (fun t ht=>by cases ht) (fun _ hb=>by cases hb) h1
 | .nilfn,cs,hv,h1=>hE.inV (fun t ht=>by cases ht) (fun _ hb=>by cases hb) h1
 | .nilptr,cs,hv,h1=>hE.inV (fun t ht=>by cases ht) (fun _ hb=>by cases hb) h1
 | .mp _,cs,hv,h1=>hE.inV (fun t ht=>by cases ht) (fun _ hb=>by cases hb) h1
 | .mref x,cs,hv,h1=>by
  simp only [UP] at hv
  exact hE.inV (fun t ht e=>by subst e;exact CT (CS hv) ht) (fun _ hb=>by cases hb) h1
theorem KH {E E':Env} {s n m:Nat} (hE:Jx E E' (fun t=>t=s)) (hb:VT E E' s n m):∀ (vs:List V) {cs:List Value},UQ s n m vs=true→Jj E vs cs []→Jj E' vs cs []
 | [],cs,hv,h1=>by unfold Jj at h1 ⊢;exact h1
 | v :: vs,cs,hv,h1=>by
  unfold UQ at hv
  rw [Je] at hv
  unfold Jj at h1 ⊢
  obtain ⟨d1,d2,G1,G2,k1,k2,j1,j2⟩:=h1
  obtain ⟨rfl,rfl⟩:=List.append_eq_nil_iff.1 k2.symm
  exact ⟨d1,d2,[],[],k1,rfl,PM hE hb v hv.1 j1,KH hE hb vs hv.2 j2⟩
end
section
variable {P:Program} {A:Ann} {w w' w0:World} {F0:List Nat} {sl:List V} {a:Act} {bl b b' b1:BL} {G:GT} {o:Oper} {X:List Nat} {v:V} {c:List Jk}
theorem PN {E E':Env} {s n m:Nat} (hE:Jx E E' (fun t=>t=s)) (hb:VT E E' s n m) {x:V} {u:Value} (hv:UP s n m x=true) (h1:One E x u []):One E' x u []:=by
 obtain ⟨cs',j1,j2⟩:=h1
 exact ⟨cs',PM hE hb x hv j1,j2⟩
theorem PO {E E':Env} {s n m:Nat} (hE:Jx E E' (fun t=>t=s)) (hb:VT E E' s n m):∀ {xs:List V} {us:List Value},UQ s n m xs=true→Tup E xs us []→Tup E' xs us []
 | [],us,hv,h1=>h1
 | x :: xs,us,hv,⟨u',r',G1,G2,k1,k2,j1,j2⟩=>by
  unfold UQ at hv
  rw [Je] at hv
  obtain ⟨rfl,rfl⟩:=List.append_eq_nil_iff.1 k2.symm
  exact ⟨u',r',[],[],k1,rfl,PN hE hb hv.1 j1,PO hE hb hv.2 j2⟩
theorem qa {E E':Env} {s n m:Nat} (hE:Jx E E' (fun t=>t=s)) (hb:VT E E' s n m) {x:V} {u:Value} (hv:UP s n m x=true) (h1:Val E x u []):Val E' x u []:=by
 cases x with
 | tup xs=>
  obtain ⟨us',e1,j1⟩:=h1
  unfold UP at hv
  exact ⟨us',e1,PO hE hb hv j1⟩
 | undef=>exact h1
 | _=>exact PN hE hb hv h1
theorem PP {s n m:Nat}:∀ {sl:List V} {t:Nat},UQ s n m sl=true→UP s n m (Jw sl t)=true
 | [],t,h=>by cases t<;>rfl
 | v :: sl,t,h=>by
  unfold UQ at h
  rw [Je] at h
  cases t with
  | zero=>exact h.1
  | succ t=>exact PP (sl:=sl) (t:=t) h.2
theorem KI {E E':Env} {s n m:Nat} (hE:Jx E E' (fun t=>t=s)) (hb:VT E E' s n m) (hv:UQ s n m sl=true) (h1:Jy E sl a):Jy E' sl a:=
 fun t=>qa hE hb (PP hv) (h1 t)
theorem PQ {t:Ty} {vs:List V}:UN t (.tup vs)=.tup vs:=by cases t<;>rfl
theorem PR (HT:JN P A.ty) (hc:JX w bl G w0 F0) (hs:Jy (Ja w bl G []) sl a) {sl':List V} (hs':Jy (Ja w bl G []) sl' a) {t:TypeId} {x y:Operand} {co:List Jk} {b:BL} (h:o.op=.store t x y)
  (hv:C3 (A.ty t) sl' bl (opd sl x) (opd sl y)=some (co,b)) (hk:∀ k ∈ co,k.ok):Jo P w0 F0 sl' a w o .void b:=by
 have hx:=JJ hs x
 unfold C3 at hv
 split at hv
 ·rename_i s p hxe
  split at hv
  ·rename_i c1 yv b1 hin
   split at hv
   ·rename_i hchk
    rw [Je,Je,Je,Je] at hchk
    obtain ⟨⟨hyo,hyf⟩,⟨hpl,hpos⟩,hns⟩:=hchk
    have hns':=CT (CS hns)
    have hpos':(A.ty t).size ≠ 0:=by
     intro h0
     have:=CS hpos
     rw [h0] at this
     cases this
    split at hv
    ·rename_i c hl
     split at hv
     ·rename_i c2 z hg
      split at hv
      ·rename_i hz
       simp only [oj,pj] at hv
       obtain ⟨rfl,rfl⟩:=hv
       rw [Je,Co,Je,Je,Co] at hz
       obtain ⟨hz,hpath⟩:=hz
       obtain ⟨hk1,hk2⟩:=QU hk
       have hyt:∀ xs,opd sl y ≠ .tup xs:=by
        intro xs hxs
        rw [hxs,PQ] at hin
        cases hq:inl 9 bl (.tup xs) with
        | none=>rw [hq] at hin;cases hin
        | some r=>
         simp only [inl] at hin
         split at hin
         ·simp only [oj,pj] at hin
          rw [← hin.2.1] at hyf
          cases hA:A.ty t<;>rw [hA] at hyf<;>simp [Jq] at hyf
         ·cases hin
       obtain ⟨csy,y1,y2⟩:=VE hyt (JJ hs y)
       obtain ⟨Fy,G1,q1,q2,q3⟩:=(Oa 9).1 (F:=[]) (X:=[]) hc.x (Vv (A.ty t) y1) hin hk1
       simp only [List.append_nil] at q1 q2 q3
       have hT:=HT t (Cs hyf)
       have hx':Val (Ja w b1 G1 Fy) (.ptr s p) (a.eval x) []:=by rw [← hxe];exact JJ (hs.go0 q3) x
       obtain ⟨rc,F,F1,g1,g2,g3,g4,g5⟩:=q1.ok.root s c hl
       obtain ⟨Lx,i4⟩:=HO (Ja w b1 G1 Fy) p c rc F1 (.reg rc) c2 z g2 ⟨[],by simp⟩ hg hk2
       obtain ⟨csx,Fx,Fr,m1,m2,m3,m4,m5⟩:=q1.modifyN hl g1 i4 (by rw [hg];rfl)
       obtain ⟨ad,rfl,hpx⟩:=C7 hx' hl g1 i4
       have hunf:=Cu (Ja w b1 G1 Fy) p c rc F1 (.reg rc) z ad g2 ⟨[],by simp⟩ (fun b hb=>by cases hb) i4
       have hzs:vsz z=(A.ty t).size:=by
        rcases hz with ⟨_,hzf⟩ | ⟨_,hzu⟩
        ·exact (Qt hzf).1
        ·unfold Tj at hzu
         split at hzu
         ·rename_i hty;rw [hty];rfl
         ·cases hzu
       have q4:csy.length=(A.ty t).size:=by rw [Qq _ q2,(Qt hyf).1]
       have q5:∀ u ∈ csy,u.oneCell'=true:=Vt hyf q2
       have hcells:(a.eval y).cells=csy.toArray:=by
        unfold Qf at y2
        split at y2
        ·rw [y2];rfl
        ·subst y2;exact Vu (q5 _ (by simp))
       rw [hzs,← q4] at hunf
       have hunf':QJ w ad csy.length:=hunf
       have hrun:=Xv (w:=w) hT hunf' q4 hcells q5 (by rw [q4];exact hpos')
       obtain ⟨e1,e2,e3⟩:=OK ad.block csy ad.off w
       have hadF:ad.block ∈ F:=by
        rcases m4 with ⟨a',ha',hin'⟩ | ⟨ds,hds⟩
        ·cases ha';exact (m3.mem_iff).2 (by simp [hin'])
        ·cases hds
       have hadY:ad.block ∉ Fy:=(g5 _ hadF).2
       have hmem:∀ b,b<w.heap.size→b ∉ Fx→(∀ a,Ji.mem ad=.mem a→b ≠ a.block)→(w.setCells ad.block ad.off csy).heap[b]?=w.heap[b]?:=
        fun b hb hbF hba=>HP _ _ (fun e=>hba ad rfl e) _ _ _
       have hyin:∀ E':Env,E'.w=w.setCells ad.block ad.off csy→InV E' yv csy Fy:=by
        intro E' hE'
        have h1:InV ⟨w.setCells ad.block ad.off csy,(Ja w b1 G1 Fy).S,Kept.K,[],fun _=>none⟩ yv csy Fy:=by
         refine U2 (E:=Ja w b1 G1 Fy) (E':=⟨w.setCells ad.block ad.off csy,(Ja w b1 G1 Fy).S,Kept.K,[],fun _=>none⟩) ⟨fun b hb=>⟨hb,?_⟩,by show _≤(World.setCells _ _ _ _).heap.size;rw [Hn];exact Nat.le_refl _,fun _ _ h=>h⟩ _ (fun s' hs'=>by rw [WM _ hyo] at hs';cases hs') (fun b hb=>?_) q2
         ·refine HP _ _ (fun e=>hb.2 ?_) _ _ _
          subst e
          exact .inr ⟨s,c,rc,F,hl,g1,hadF⟩
         ·exact HP _ _ (fun (e:_=ad.block)=>hadY (by rw [← e];exact hb)) _ _ _
        exact Oc (by rw [hE']) yv hyo h1
       obtain ⟨p1,p2,p3⟩:=m5 (w.setCells ad.block ad.off csy) yv csy Fy [] (fun u=>u=s) (fun _ h=>h)
        (fun _ t' ct hct hm=>hns' (Cr hct hm))
        (by rw [hzs,(Qt hyf).1])
        (by
         intro hout t' ht'
         obtain ⟨hzo,hzf⟩:JH z=true∧Jq (A.ty t) z=true:=by
          rcases hz with ⟨hzo,hzf⟩ | ⟨ho,_⟩
          ·exact ⟨hzo.elim id (fun h=>by rw [h] at hout;cases hout),hzf⟩
          ·rw [ho] at hout;cases hout
         have s1:=VA hpl hzf hzo
         have s2:=VA hpl hyf hyo
         rw [← YW s1 ht']
         exact s2)
        (by rw [Hn];exact Nat.le_refl _)
        (fun b hb hbF _ hba=>hmem b hb hbF hba)
        (fun _ _=>.inr (.inr trivial))
        (by rw [hzs,← q4];exact Vy (U9 hunf') hunf' rfl)
        (Vz (U9 hunf') hunf')
        (by rintro ⟨ds,hd⟩;cases hd)
        (by rw [List.append_nil];exact q1.ok.xnd)
        (by
         intro b hb
         rw [List.append_nil] at hb
         exact ⟨by rw [Hn];exact q1.ok.xlt b hb,.inr (.inl hb)⟩)
        (fun h=>absurd rfl h) e1 e2 e3 hmem
        (fun _=>hyin _ rfl) (fun _=>hyin _ rfl)
       refine ⟨undef,_,_,.inr ⟨?_,rfl⟩,p1.c,KI p2 ?_ hpath (hs'.go0 q3),OE.2 ⟨rfl,rfl⟩⟩
       ·simp only [execOp,h,hpx,Sem.run_bind,hrun,Result.andThen_ok,Sem.run_pure]
       ·intro c' rc' F' hl' hg'
        simp only [Ja,JG,if_true,oj,pj] at hl' hg'
        obtain ⟨rfl,_⟩:=hg'
        subst hl'
        refine ⟨c,F,hl,g1,?_,?_⟩
        ·refine (p3 false 1 ?_).mono (by rw [OU];omega)
         intro q hq x' L' hlq
         have:q=[]:=List.eq_nil_of_length_eq_zero (by omega)
         subst this
         simp only [Jf,oj,pj] at hlq
         obtain ⟨rfl,rfl⟩:=hlq
         exact ⟨z,rfl,fun h=>by cases h⟩
        ·refine (p3 true 0 (fun q hq=>by omega)).mono (by rw [OU];omega)
      ·simp at hv
     ·unfold Tk at hv
      split at hv
      ·rename_i e l i hgn
       split at hv
       ·rename_i j
        split at hv
        ·rename_i hz
         simp only [oj,pj] at hv
         obtain ⟨rfl,rfl⟩:=hv
         rw [Je] at hz
         obtain ⟨hte,hpath⟩:=hz
         have hte:=Ty.beq_eq _ _ hte
         obtain ⟨hk1,hk2⟩:=QU hk
         have hij1:i≤j:=hk2 (.le i j) (by simp)
         have hij2:j≤i:=hk2 (.le j i) (by simp)
         have hij:j=i:=by omega
         subst hij
         have hyt:∀ xs,opd sl y ≠ .tup xs:=by
          intro xs hxs
          rw [hxs,PQ] at hin
          cases hq:inl 9 bl (.tup xs) with
          | none=>rw [hq] at hin;cases hin
          | some r=>
           simp only [inl] at hin
           split at hin
           ·simp only [oj,pj] at hin
            rw [← hin.2.1] at hyf
            cases hA:A.ty t<;>rw [hA] at hyf<;>simp [Jq] at hyf
           ·cases hin
         obtain ⟨csy,y1,y2⟩:=VE hyt (JJ hs y)
         obtain ⟨Fy,G1,q1,q2,q3⟩:=(Oa 9).1 (F:=[]) (X:=[]) hc.x (Vv (A.ty t) y1) hin hk1
         simp only [List.append_nil] at q1 q2 q3
         have hT:=HT t (Cs hyf)
         have hx':Val (Ja w b1 G1 Fy) (.ptr s [j]) (a.eval x) []:=by rw [← hxe];exact JJ (hs.go0 q3) x
         obtain ⟨rc,F,F1,g1,g2,g3,g4,g5⟩:=q1.ok.root s _ hl
         obtain ⟨csx,Fx,Fr,m1,m2,m3,m4,m5⟩:=q1.modifyN (p:=[]) (x:=.ownh e l j) (Lx:=.reg rc) hl g1 rfl rfl
         unfold InV at m1
         obtain ⟨hi0,hp,ad0,cap,d1,v0,d2,K1,K2,hcs,r1,r2,hcl,hFx,hlc,hb,ho⟩:=m1
         have hhd:(Ji.reg rc).head w=some (.slice (some ad0) l.length cap):=JL (by rw [← hcs];exact m2)
         have hz1:(Ty.slice e).size=1:=rfl
         have i4:Jf w (.ownh e l j) (.reg rc) [j]=some (.undef,.mem (ad0.add (j * (Ty.slice e).size))):=by
          simp only [Jf,hhd,if_pos hi0,if_true]
         obtain ⟨ad,had,hpx⟩:=C7 hx' hl g1 i4
         simp only [Ji.mem.injEq] at had
         have hlen1:d1.length=j:=by
          have:=Hj (fun d c G hd=>Qn (.slice e) hd) r1
          rw [List.length_take,hz1] at this
          omega
         have hadb:ad.block=ad0.block:=by rw [← had,Q1]
         have q4:csy.length=1:=by rw [Qq _ q2,(Qt hyf).1,hte];rfl
         have q5:∀ u ∈ csy,u.oneCell'=true:=Vt hyf q2
         have hcells:(a.eval y).cells=csy.toArray:=by
          unfold Qf at y2
          split at y2
          ·rw [y2];rfl
          ·subst y2;exact Vu (q5 _ (by simp))
         have hunf':QJ w ad csy.length:=by
          rw [← had]
          exact CL ho (by rw [q4,hz1];omega)
         have hrun:=Xv (w:=w) hT hunf' (by rw [q4,hte];rfl) hcells q5 (by rw [q4];omega)
         obtain ⟨e1,e2,e3⟩:=OK ad.block csy ad.off w
         have hFxF:∀ b ∈ Fx,b ∈ F:=fun b hb=>(m3.mem_iff).2 (by simp [hb])
         have hadF:ad.block ∈ F:=hFxF _ (by rw [hFx,hadb];simp)
         have hadY:ad.block ∉ Fy:=(g5 _ hadF).2
         have hnd:=(List.nodup_append.1 ((m3.nodup_iff).1 g4)).2.1
         have hnd2:=hnd
         rw [hFx] at hnd2
         have hK:∀ b ∈ K1 ++ K2,b ≠ ad.block:=fun b hb he=>(List.nodup_cons.1 hnd2).1 (by rw [← hadb,← he];exact hb)
         have hheap:∀ b,b ≠ ad.block→(w.setCells ad.block ad.off csy).heap[b]?=w.heap[b]?:=fun b hb=>HP _ _ (fun e=>hb e) _ _ _
         have hmem:∀ b,b<w.heap.size→b ∉ Fx→(∀ a,Ji.reg rc=.mem a→b ≠ a.block)→(w.setCells ad.block ad.off csy).heap[b]?=w.heap[b]?:=
          fun b hb hbF _=>hheap b (fun he=>hbF (by rw [he,hFx,hadb];simp))
         have hyin:∀ E':Env,E'.w=w.setCells ad.block ad.off csy→InV E' yv csy Fy:=by
          intro E' hE'
          have h1:InV ⟨w.setCells ad.block ad.off csy,(Ja w b1 G1 Fy).S,Kept.K,[],fun _=>none⟩ yv csy Fy:=by
           refine U2 (E:=Ja w b1 G1 Fy) (E':=⟨w.setCells ad.block ad.off csy,(Ja w b1 G1 Fy).S,Kept.K,[],fun _=>none⟩) ⟨fun b hb=>⟨hb,?_⟩,by show _≤(World.setCells _ _ _ _).heap.size;rw [Hn];exact Nat.le_refl _,fun _ _ h=>h⟩ _ (fun s' hs'=>by rw [WM _ hyo] at hs';cases hs') (fun b hb=>?_) q2
           ·refine hheap b (fun e=>hb.2 ?_)
            subst e
            exact .inr ⟨s,_,rc,F,hl,g1,hadF⟩
           ·exact hheap b (fun e=>hadY (by rw [← e];exact hb))
          exact Oc (by rw [hE']) yv hyo h1
         have hshp:shp (.slice e) yv=true:=by rw [← hte];exact VA hpl hyf hyo
         have hps:US w (w.setCells ad.block ad.off csy) (.mem (ad0.add (d1.length + 0))) 1:=by
          have:=Vy (w:=w) (U9 hunf') hunf' rfl
          rw [q4] at this
          rw [Nat.add_zero,hlen1]
          rw [← had,hz1,Nat.mul_one] at this
          rw [← had,hz1,Nat.mul_one]
          exact this
         have hat:QG (w.setCells ad.block ad.off csy) (ad0.add d1.length) csy:=by
          have:=Vz (w:=w) (U9 hunf') hunf'
          rw [hlen1]
          have e0:ad=ad0.add j:=by rw [← had,hz1,Nat.mul_one]
          rw [e0] at this ⊢
          exact this
         have hrow:∀ {lx:List D} {dx:List Value} {Kx:List Nat},(∀ b ∈ Kx,b ∈ K1 ++ K2)→Row (DIn true w (.slice e)) lx dx Kx→Row (DIn true (w.setCells ad.block ad.off csy) (.slice e)) lx dx Kx:=by
          intro lx dx Kx hKx hr
          exact HM (fun d _ cc G hG hd=>H3 (by rw [Hn];exact Nat.le_refl _) _ (fun b hb'=>hheap b (hK b (hKx b (hG b hb')))) hd) hr
         have hset:l.set j (enc yv)=l.take j ++ (enc yv :: l.drop (j + 1)):=List.set_eq_take_append_cons_drop.trans (by rw [if_pos hi0])
         have hnew:∀ E':Env,E'.w=w.setCells ad.block ad.off csy→InV E' (.own (.slice e) (l.set j (enc yv))) csx (ad0.block :: (K1 ++ (Fy ++ K2))):=by
          intro E' hE'
          have hd:DIn true E'.w (.slice e) (enc yv) csy Fy:=Vg (.slice e) hshp (hyin E' hE')
          unfold InV
          rw [hE'] at hd ⊢
          refine ⟨hp,some ad0,cap,by rw [List.length_set];exact hcs,.inr ⟨ad0,d1 ++ (csy ++ d2),K1 ++ (Fy ++ K2),rfl,?_,?_,rfl,by rw [List.length_set];exact hlc,by rw [Hn];exact hb,fun _=>Xk hps ho⟩⟩
          ·rw [hset]
           exact OM (hrow (fun b hb=>by simp [hb]) r1) ⟨csy,d2,Fy,K2,rfl,rfl,hd,hrow (fun b hb=>by simp [hb]) r2⟩
          ·have hcl':QG w ad0 (d1 ++ ([v0] ++ d2)):=hcl
           exact Yv (c:=[v0]) (by rw [q4];rfl) hcl' (.inr ⟨0,1,hps,by simp⟩) hat
         obtain ⟨p1,p2,p3⟩:=m5 (w.setCells ad.block ad.off csy) (.own (.slice e) (l.set j (enc yv))) csx (ad0.block :: (K1 ++ (Fy ++ K2))) [] (fun u=>u=s) (fun _ h=>h)
          (fun _ t' ct hct hm=>hns' (Cr hct hm))
          rfl
          (fun hout=>by simp [V.outer] at hout)
          (by rw [Hn];exact Nat.le_refl _)
          (fun b hb hbF _ hba=>hmem b hb hbF hba)
          (fun _ _=>.inr (.inr trivial))
          True.intro m2 (fun _=>rfl)
          (by
           rw [List.append_nil]
           have hperm:(ad0.block :: (K1 ++ (Fy ++ K2))).Perm ((ad0.block :: (K1 ++ K2)) ++ Fy):=by
            simp only [List.cons_append]
            refine List.Perm.cons _ ?_
            rw [List.append_assoc]
            exact (List.perm_append_comm).append_left K1
           refine (hperm.nodup_iff).2 (List.nodup_append.2 ⟨hnd2,q1.ok.xnd,fun b hb b' hb' hbb=>?_⟩)
           subst hbb
           exact (g5 b (hFxF b (by rw [hFx];exact hb))).2 hb')
          (by
           intro b hb
           rw [List.append_nil] at hb
           rw [Hn]
           have hcase:b ∈ Fx ∨ b ∈ Fy:=by
            rw [hFx]
            simp only [List.mem_cons,List.mem_append] at hb ⊢
            rcases hb with h | h | h | h
            ·exact .inl (.inl h)
            ·exact .inl (.inr (.inl h))
            ·exact .inr h
            ·exact .inl (.inr (.inr h))
           rcases hcase with h | h
           ·exact ⟨(g5 b (hFxF b h)).1,.inl h⟩
           ·exact ⟨q1.ok.xlt b h,.inr (.inl h)⟩)
          (fun h=>absurd rfl h) e1 e2 e3 hmem
          (fun _=>hnew _ rfl) (fun _=>hnew _ rfl)
         refine ⟨undef,_,_,.inr ⟨?_,rfl⟩,p1.c,KI p2 ?_ hpath (hs'.go0 q3),OE.2 ⟨rfl,rfl⟩⟩
         ·simp only [execOp,h,hpx,Sem.run_bind,hrun,Result.andThen_ok,Sem.run_pure]
         ·intro c' rc' F' hl' hg'
          simp only [Ja,JG,if_true,oj,pj] at hl' hg'
          obtain ⟨rfl,_⟩:=hg'
          subst hl'
          refine ⟨_,F,hl,g1,?_,?_⟩
          ·intro q hq x' L' hlq
           cases q with
           | nil=>
            simp only [Jf,oj,pj] at hlq
            obtain ⟨rfl,rfl⟩:=hlq
            exact ⟨_,rfl,fun h=>by cases h⟩
           | cons k q=>
            have hq0:q=[]:=List.eq_nil_of_length_eq_zero (by simp only [List.length_cons] at hq;omega)
            subst hq0
            have hhd':(Ji.reg rc).head (w.setCells ad.block ad.off csy)=some (.slice (some ad0) l.length cap):=hhd
            simp only [Ja,Jf,List.length_set,hhd'] at hlq
            by_cases hkl:k<l.length
            ·rw [if_pos hkl] at hlq
             simp only [oj,pj] at hlq
             obtain ⟨rfl,rfl⟩:=hlq
             refine ⟨if k=j then .undef else dec true (.slice e) (l.getD k (.int 0)),?_,fun h=>by cases h⟩
             simp only [Ja,Jf,hhd,if_pos hkl]
            ·rw [if_neg hkl] at hlq;cases hlq
          ·intro q hq x' L' hlq
           have hq0:q=[]:=List.eq_nil_of_length_eq_zero (by omega)
           subst hq0
           simp only [Jf,oj,pj] at hlq
           obtain ⟨rfl,rfl⟩:=hlq
           exact ⟨_,rfl,fun _ _=>⟨rfl,rfl⟩⟩
        ·simp at hv
       ·simp at hv
      ·simp at hv
    ·simp at hv
   ·simp at hv
  ·simp at hv
 ·simp at hv
theorem PS (HT:JN P A.ty) {t:TypeId} {x y:Operand} {co:List Jk} (h:o.op=.store t x y)
  (hv:C3 (A.ty t) sl b (opd sl x) (opd sl y)=some (co,b1)) (hk:∀ k ∈ co,k.ok):UW P o sl b .void b1:=by
 intro Pn w0 F0 a w hdst hr K Q hK
 obtain ⟨⟨G,hc,hs⟩,hl,hd,hpin⟩:=hr
 obtain ⟨vv,w',G',hrun,k1,k2,k3⟩:=PR (o:=o) HT hc hs hs h hv hk
 have hrel:=Rel.put (d:=o.dst) k1 k2 hl hd hpin hdst k3
 unfold Oper.wp
 rcases hrun with hrun | ⟨hrun,hvv⟩
 ·rw [hrun];exact hK _ _ hrel
 ·rw [hrun];subst hvv;exact hK _ _ hrel
theorem PT (s n m:Nat):∀ (sl:List V),(HK s n m sl).length=sl.length
 | []=>rfl
 | v :: sl=>by simp only [HK,List.length_cons,PT s n m sl]
theorem PU (s n m:Nat):∀ (sl:List V) (t:Nat),Jw (HK s n m sl) t=Jw sl t ∨ Jw (HK s n m sl) t=.undef
 | [],t=>.inl rfl
 | v :: sl,0=>by
  simp only [HK,Jw]
  split
  ·exact .inl rfl
  ·exact .inr rfl
 | v :: sl,t + 1=>by simpa only [HK,Jw] using PU s n m sl t
theorem qc {E:Env} (s n m:Nat) (h:Jy E sl a):Jy E (HK s n m sl) a:=fun t=>by
 rcases PU s n m sl t with e | e
 ·rw [e];exact h t
 ·rw [e];exact rfl
theorem qd {b b':BL} {vs:List V} {v':V} {c:List Jk} (h:inl 9 b (.agg vs)=some (c,v',b')):isA v'=true:=by
 simp only [inl] at h
 split at h
 ·simp only [oj,pj] at h
  obtain ⟨_,rfl,_⟩:=h
  rfl
 ·cases h
def OV (P:Program) (o:Oper) (sl:List V) (b:BL) (sl1:List V) (v:V) (b1:BL):Prop:=
 ∀ {Pn:Nat→Option Value} {w0:World} {F0:List Nat} {a:Act} {w:World},(∀ t,o.dst=some t→Pn t=none)→Rel Pn w0 F0 ⟨sl,b⟩ a w→∀ {K:Act→World→Prop} {Q:Exit→Act→World→Prop},
  (∀ a' w',Rel Pn w0 F0 ⟨Qy sl1 o.dst v,b1⟩ a' w'→K a' w')→o.wp P a w K Q
theorem qe (HT:JN P A.ty) {t:TypeId} {x y:Operand} {co:List Jk} {s n m:Nat} (h:o.op=.store t x y)
  (hv:C3 (A.ty t) (HK s n m sl) b (opd sl x) (opd sl y)=some (co,b1)) (hk:∀ k ∈ co,k.ok):OV P o sl b (HK s n m sl) .void b1:=by
 intro Pn w0 F0 a w hdst hr K Q hK
 obtain ⟨⟨G,hc,hs⟩,hl,hd,hpin⟩:=hr
 obtain ⟨vv,w',G',hrun,k1,k2,k3⟩:=PR (o:=o) HT hc hs (qc s n m hs) h hv hk
 have hrel:=Rel.put (d:=o.dst) k1 k2 (by rw [PT];exact hl) hd hpin hdst k3
 unfold Oper.wp
 rcases hrun with hrun | ⟨hrun,hvv⟩
 ·rw [hrun];exact hK _ _ hrel
 ·rw [hrun];subst hvv;exact hK _ _ hrel
theorem qg (HT:JN P A.ty) (hc:JX w bl G w0 F0) (hs:Jy (Ja w bl G []) sl a) {t:TypeId} {x y:Operand} {co:List Jk} {b:BL} (h:o.op=.store t x y)
  (hv:Wc (A.ty t) bl (opd sl x) (opd sl y)=some (co,b)) (hk:∀ k ∈ co,k.ok):Jo P w0 F0 sl a w o .void b:=by
 have hx:=JJ hs x
 unfold Wc at hv
 split at hv
 ·rename_i s p hxe
  split at hv
  ·rename_i c hl
   split at hv
   ·rename_i cs hg
    split at hv
    ·rename_i hchk
     simp only [oj,pj] at hv
     obtain ⟨rfl,rfl⟩:=hv
     rw [Je,Je,Je] at hchk
     obtain ⟨⟨hsl,hfit⟩,hsy,hout⟩:=hchk
     obtain ⟨e,hty⟩:∃ e,A.ty t=.slice e:=by cases hq:A.ty t<;>simp [hq,UF] at hsl;exact ⟨_,rfl⟩
     have hT:=HT t (Cs hfit)
     have hsize:(A.ty t).size=1:=by rw [hty];rfl
     rw [hxe] at hx
     obtain ⟨c0,rc,F,i1,i2,i3,Lx,csx,Fx,i4,i5,i6,i7,i8,i9⟩:=Uy hc (bl:=bl) (p:=p) (s:=s) (c:=cs) (x:=.undef) (by unfold JS;rw [hl];exact hg) hk
     rw [hl] at i1;simp only [oj] at i1;subst i1
     obtain ⟨ad,rfl,hpx⟩:=C7 hx (E:=Ja w bl G []) hl i2 i4
     obtain ⟨rc',F',F1,g1,g2,g3,g4,g5⟩:=hc.ok.root s c hl
     rw [i2] at g1;simp only [oj,pj] at g1;obtain ⟨rfl,rfl⟩:=g1
     have hunf:=Cu (Ja w bl G []) p c rc F1 (.reg rc) .undef ad g2 ⟨[],by simp⟩ (fun b hb=>by cases hb) i4
     obtain ⟨csy,q1,q2,q3,q4,q5⟩:=Wo hfit (JJ hs y)
     have hzs:vsz .undef=(A.ty t).size:=by rw [hsize];rfl
     rw [hzs] at hunf
     rw [← q4] at hunf
     have hunf':QJ w ad csy.length:=hunf
     have hrun:=Xv (w:=w) hT hunf' q4 q3 q5 (by rw [q4,hsize];decide)
     obtain ⟨csx2,Fx2,Fr,m1,m2,m3,m4,m5⟩:=hc.x.modify hl i2 i4 (by rw [hg];rfl)
     obtain ⟨e1,e2,e3⟩:=OK ad.block csy ad.off w
     have hmem:∀ b,b<w.heap.size→b ∉ Fx2→(∀ a,Ji.mem ad=.mem a→b ≠ a.block)→(w.setCells ad.block ad.off csy).heap[b]?=w.heap[b]?:=
      fun b hb hbF hba=>HP _ _ (fun e=>hba ad rfl e) _ _ _
     have hnol:∀ q x' L' (w':World),Jf w' (opd sl y) (.mem ad) q=some (x',L')→q=[]∧x'=opd sl y∧L'=.mem ad:=by
      intro q x' L' w' hq
      cases q with
      | nil=>simp only [Jf,oj,pj] at hq;exact ⟨rfl,hq.1.symm,hq.2.symm⟩
      | cons j q=>
       exfalso
       rw [hty] at hfit
       cases hy:opd sl y<;>rw [hy] at hfit hsy hq<;>simp [Jq,U1,Jf] at hfit hsy hq
     have hnown:QB (opd sl y)=false:=by
      rw [hty] at hfit
      cases hy:opd sl y<;>rw [hy] at hfit hsy<;>simp [Jq,U1,QB] at hfit hsy ⊢
     obtain ⟨p1,p2⟩:=m5 (w.setCells ad.block ad.off csy) (opd sl y) csy [] [] (by rw [hzs,(Qt hfit).1])
      (by intro ho;rw [hout] at ho;cases ho)
      (by rw [Hn];exact Nat.le_refl _)
      (fun b hb hbF _ hba=>hmem b hb hbF hba)
      (fun _ _=>.inr (.inr trivial))
      (by rw [hzs,← q4];exact Vy (U9 hunf') hunf' rfl)
      (Vz (U9 hunf') hunf')
      (by rintro ⟨ds,hd⟩;cases hd)
      (by simp) (by intro b hb;simp at hb)
      (by
       intro q x' L' hq
       obtain ⟨rfl,rfl,rfl⟩:=hnol q x' L' _ hq
       exact ⟨.undef,rfl,fun ho=>by rw [hnown] at ho;cases ho⟩) e1 e2 e3 hmem
      (fun hle=>U2 hle _ (fun s' _ c' rc' F' hlk=>by simp [Jb] at hlk) (fun b hb=>by cases hb) q1)
      (fun hgo=>hgo.inV (fun _ _=>id) (fun b hb=>by cases hb) q1)
     refine ⟨undef,_,_,.inr ⟨?_,rfl⟩,p1.c,hs.go0 p2,OE.2 ⟨rfl,rfl⟩⟩
     simp only [execOp,h,hpx,Sem.run_bind,hrun,Result.andThen_ok,Sem.run_pure]
    ·simp at hv
   ·simp at hv
  ·simp at hv
 ·simp at hv
theorem qh (HT:JN P A.ty) {t:TypeId} {x y:Operand} {co:List Jk} (h:o.op=.store t x y)
  (hv:Wc (A.ty t) b (opd sl x) (opd sl y)=some (co,b1)) (hk:∀ k ∈ co,k.ok):UW P o sl b .void b1:=by
 intro Pn w0 F0 a w hdst hr K Q hK
 obtain ⟨⟨G,hc,hs⟩,hl,hd,hpin⟩:=hr
 obtain ⟨vv,w',G',hrun,k1,k2,k3⟩:=qg (o:=o) HT hc hs h hv hk
 have hrel:=Rel.put (d:=o.dst) k1 k2 hl hd hpin hdst k3
 unfold Oper.wp
 rcases hrun with hrun | ⟨hrun,hvv⟩
 ·rw [hrun];exact hK _ _ hrel
 ·rw [hrun];subst hvv;exact hK _ _ hrel
theorem qi (HT:JN P A.ty) {t:TypeId} {x:Operand} {co:List Jk} {u:Nat} {z:V} (h:o.op=.box t x) (hv:Yr A sl b o.dst t x=some (co,(v,b1),u,z)) (hk:∀ k ∈ co,k.ok):OV P o sl b (JD sl u z) v b1:=by
 intro Pn w0 F0 a w hdst hr K Q hK
 obtain ⟨⟨G,hc,hs⟩,hl,hd,hpin⟩:=hr
 unfold Yr at hv
 split at hv
 ·rename_i u0
  split at hv
  ·rename_i vs hslot
   split at hv
   ·cases hv
   ·split at hv
    ·rename_i hchk
     rw [Je] at hchk
     split at hv
     ·rename_i c y b2 hin
      split at hv
      ·rename_i e hde
       split at hv
       ·rename_i hun
        simp only [oj,pj] at hv
        obtain ⟨rfl,⟨rfl,rfl⟩,rfl,rfl⟩:=hv
        have hx:=JJ hs (.tmp u0)
        rw [show opd sl (.tmp u0)=.agg vs from hslot] at hx
        obtain ⟨cs,q1,q2,q3,q4,q5⟩:=Wo hchk.2 hx
        obtain ⟨F',G1,p1,p2,p3⟩:=(Oa 9).1 (X:=[]) (F:=[]) hc.x q1 hin hk
        have hs1:=hs.go0 p3
        obtain ⟨k1,k2⟩:=p1.alloc (.cells cs.toArray t)
        have hsame:QN w (w.alloc (.cells cs.toArray t)) F':=fun z hz=>Go.RowKit.Below.heap_alloc w _ z (p1.ok.xlt z (by simp [hz]))
        have hy:=Sm (t:=A.ty t) (k2.inV (fun _ _=>id) hsame p2)
        have hca:QG (w.alloc (.cells cs.toArray t)) ⟨w.heap.size,0,none⟩ cs:=by
         have:=Wn (w:=w) (cs:=cs) (t:=t) (r:=[])
         rwa [List.append_nil] at this
        have hob:InV (Ja (w.alloc (.cells cs.toArray t)) b2 G1 (w.heap.size :: (F' ++ []))) (.obox (Uq (A.ty t) y)) [.pointer (some ⟨w.heap.size,0,none⟩)] (w.heap.size :: F'):=by
         unfold InV
         exact ⟨_,cs,F',rfl,hy,hca,rfl,by simp [Ja],Vs⟩
        obtain ⟨u1,u2,u3,u4⟩:=C6 hun
        obtain ⟨g1,g2⟩:=JK.add (F:=w.heap.size :: F') (X:=[]) k1 u1 u3 hob u4
        have hs2:=(hs1.go0 k2).goes g2 (fun s hs' hst=>u2 (hst ▸ hs'))
        have hb:Jb (Jp b2 e (.obox (Uq (A.ty t) y))) e=some (.obox (Uq (A.ty t) y)):=by rw [JG];simp
        have hg:(fun q=>if q=e then some ([Value.pointer (some ⟨w.heap.size,0,none⟩)],w.heap.size :: F') else G1 q) e=some ([Value.pointer (some ⟨w.heap.size,0,none⟩)],w.heap.size :: F'):=by simp
        have hv1:Val (Ja (w.alloc (.cells cs.toArray t)) (Jp b2 e (.obox (Uq (A.ty t) y))) (fun q=>if q=e then some ([Value.pointer (some ⟨w.heap.size,0,none⟩)],w.heap.size :: F') else G1 q) []) (.ptr e [0]) (.pointer (some ⟨w.heap.size,0,none⟩)) []:=by
         have:=Vp (E:=Ja (w.alloc (.cells cs.toArray t)) (Jp b2 e (.obox (Uq (A.ty t) y))) (fun q=>if q=e then some ([Value.pointer (some ⟨w.heap.size,0,none⟩)],w.heap.size :: F') else G1 q) []) (s:=e) hb hg (p:=[]) (v:=.obox (Uq (A.ty t) y)) (L:=.reg [Value.pointer (some ⟨w.heap.size,0,none⟩)]) (u:=.pointer (some ⟨w.heap.size,0,none⟩)) (by simp [Jf]) ⟨[],by simp⟩ (g2.inV (fun s hs' hst=>u4 (hst ▸ hs')) (fun b _=>rfl) hob) rfl
         exact this
        have hisA:isA (Uq (A.ty t) y)=true:=by
         have h1:=qd hin
         cases y<;>simp [isA] at h1 ⊢<;>(cases hA:A.ty t<;>simp [Uq,UN,isA])
        have hv2:Val (Ja (w.alloc (.cells cs.toArray t)) (Jp b2 e (.obox (Uq (A.ty t) y))) (fun q=>if q=e then some ([Value.pointer (some ⟨w.heap.size,0,none⟩)],w.heap.size :: F') else G1 q) []) (Qb e [0] (Uq (A.ty t) y)) (a.tmps.getD u0 undef) []:=by
         refine Vp (E:=Ja (w.alloc (.cells cs.toArray t)) (Jp b2 e (.obox (Uq (A.ty t) y))) (fun q=>if q=e then some ([Value.pointer (some ⟨w.heap.size,0,none⟩)],w.heap.size :: F') else G1 q) []) (s:=e) hb hg (p:=[0]) (v:=Uq (A.ty t) y) (cs:=cs) (L:=.mem ⟨w.heap.size,0,none⟩) (by simp [Jf,Ji.head]) hca (g2.inV (fun s hs' hst=>u4 (hst ▸ by simpa [Jd] using hs')) (fun b _=>rfl) hy) ?_
         unfold Qf at q2 ⊢
         rw [hisA]
         simpa [isA,Act.eval] using q2
        have hs3:Jy (Ja (w.alloc (.cells cs.toArray t)) (Jp b2 e (.obox (Uq (A.ty t) y))) (fun q=>if q=e then some ([Value.pointer (some ⟨w.heap.size,0,none⟩)],w.heap.size :: F') else G1 q) []) (JD sl u0 (Qb e [0] (Uq (A.ty t) y))) a:=by
         intro t'
         rw [OP]
         split
         ·rename_i ht;rw [ht.1];exact hv2
         ·exact hs2 t'
        have hrel:=Rel.put (d:=o.dst) g1.c hs3 (by rw [VD];exact hl) hd hpin hdst hv1
        have hrun:(execOp a.eval o).run P w=.ok (.value (.pointer (some ⟨w.heap.size,0,none⟩))) (w.alloc (.cells cs.toArray t)):=by
         simp [execOp,h,Instr.box,newVar,newRow,q3]
        unfold Oper.wp
        rw [hrun]
        exact hK _ _ hrel
       ·cases hv
      ·cases hv
     ·cases hv
    ·cases hv
  ·cases hv
 ·cases hv
mutual
theorem WN:∀ (x y:V),Qu x y=true→vsz y=vsz x∧isA y=isA x∧(QB y=true→QB x=true)∧∀ t,shp t x=true→shp t y=true
 | .int k _,y,h=>by
  cases y<;>simp [Qu] at h
  exact ⟨rfl,rfl,id,fun t ht=>by cases t<;>simp [shp] at ht ⊢;rw [UC ht,UC h];exact Xb _⟩
 | .bool _,y,h=>by
  cases y<;>simp [Qu] at h
  exact ⟨rfl,rfl,id,fun t ht=>by cases t<;>simp [shp] at ht ⊢⟩
 | .str _,y,h=>by
  cases y<;>simp [Qu] at h
  exact ⟨rfl,rfl,id,fun t ht=>by cases t<;>simp [shp] at ht ⊢⟩
 | .own e _,y,h=>by
  cases y<;>simp [Qu] at h
  rw [Ty.beq_eq _ _ h]
  exact ⟨rfl,rfl,id,fun t ht=>TV ht⟩
 | .arr n e _,y,h=>by
  cases y<;>simp [Qu,Je] at h
  rw [← h.1,← Ty.beq_eq _ _ h.2]
  exact ⟨rfl,rfl,id,fun t ht=>TW ht⟩
 | .agg vs,y,h=>by
  cases y with
  | agg xs=>
   unfold Qu at h
   obtain ⟨h1,h2⟩:=PV vs xs h
   refine ⟨h1,rfl,id,fun t ht=>?_⟩
   cases t<;>simp only [shp] at ht ⊢<;>first | exact h2 _ ht | cases ht
  | _=>simp [Qu] at h
 | .undef,y,h=>by simp [Qu] at h
 | .void,y,h=>by simp [Qu] at h
 | .rd _ _,y,h=>by simp [Qu] at h
 | .lst _ _,y,h=>by simp [Qu] at h
 | .nilsl,y,h=>by simp [Qu] at h
 | .emp _,y,h=>by simp [Qu] at h
 | .obox _,y,h=>by simp [Qu] at h
 | .rp _,y,h=>by simp [Qu] at h
 | .full _ _ _,y,h=>by simp [Qu] at h
 | .sub _ _ _ _ _,y,h=>by simp [Qu] at h
 | .ptr _ _,y,h=>by simp [Qu] at h
 | .fn _ _,y,h=>by simp [Qu] at h
 | .nilfn,y,h=>by simp [Qu] at h
 | .nilptr,y,h=>by simp [Qu] at h
 | .mp _,y,h=>by simp [Qu] at h
 | .mref _,y,h=>by simp [Qu] at h
 | .tup _,y,h=>by simp [Qu] at h
 | .ownh _ _ _,y,h=>by simp [Qu] at h
theorem PV:∀ (xs ys:List V),Cm xs ys=true→Jt ys=Jt xs∧∀ ts,Qw ts xs=true→Qw ts ys=true
 | [],ys,h=>by
  cases ys with
  | nil=>exact ⟨rfl,fun _ h=>h⟩
  | cons _ _=>simp [Cm] at h
 | x :: xs,ys,h=>by
  cases ys with
  | nil=>simp [Cm] at h
  | cons y ys=>
   unfold Cm at h
   rw [Je] at h
   obtain ⟨h1,_,_,h2⟩:=WN x y h.1
   obtain ⟨h3,h4⟩:=PV xs ys h.2
   refine ⟨by simp [Jt,h1,h3],fun ts ht=>?_⟩
   cases ts with
   | nil=>simp [Qw] at ht
   | cons t ts=>
    unfold Qw at ht ⊢
    rw [Je] at ht ⊢
    exact ⟨h2 t ht.1,h4 ts ht.2⟩
end
theorem PW:∀ {p q:List Nat} {c:List Jk},eqP p q=some c→(∀ k ∈ c,k.ok)→p=q
 | [],[],c,h,hk=>rfl
 | [],_ :: _,c,h,hk=>by simp [eqP] at h
 | _ :: _,[],c,h,hk=>by simp [eqP] at h
 | a :: p,b :: q,c,h,hk=>by
  simp only [eqP] at h
  split at h
  ·rename_i c' hc
   simp only [oj] at h
   subst h
   have h1:a≤b:=hk (.le a b) (by simp)
   have h2:b≤a:=hk (.le b a) (by simp)
   rw [PW hc (fun k hk'=>hk k (by simp [hk'])),Nat.le_antisymm h1 h2]
  ·cases h
mutual
theorem PY {E:Env} {s:Nat} {c0:V} {rc:List Value} {F:List Nat} (hl:Jb E.bl s=some c0) (hg:E.G s=some (rc,F)):∀ (v x:V) {p:List Nat} {cs cx:List Value} {Fx:List Nat} {L:Ji} {c:List Jk},
  alC s p v x=some c→(∀ k ∈ c,k.ok)→Jf E.w c0 (.reg rc) p=some (x,L)→L.holds E.w cx→InV E x cx Fx→InV E v cs []→cs=cx∧isA v=isA x
 | .full t q e,x,p,cs,cx,Fx,L,c,h,hk,h1,h2,h3,h4=>by
  cases x<;>simp only [alC] at h<;>try (cases h;done)
  split at h
  ·rename_i hts
   have:=Nat.eq_of_beq_eq_true hts
   subst this
   have:=PW h hk
   subst this
   unfold InV at h4
   obtain ⟨_,_,h5⟩:=h4
   obtain ⟨u,g1,g2⟩:=h5 c0 rc F hl hg _ L h1 rfl
   unfold InV at h3
   obtain ⟨_,Ad,cap,hcs,_⟩:=h3
   rw [hcs] at h2
   rw [JL h2] at g1
   simp only [oj] at g1
   rw [g2,hcs,g1]
   exact ⟨rfl,rfl⟩
  ·cases h
 | .int k n,x,p,cs,cx,Fx,L,c,h,hk,h1,h2,h3,h4=>by
  cases x<;>simp only [alC] at h<;>try (cases h;done)
  split at h
  ·rename_i hkk
   simp only [oj] at h
   subst h
   have he:n=_:=hk _ (List.mem_singleton.2 rfl)
   unfold InV at h3 h4
   rw [h3.1,h4.1,he,UC hkk]
   exact ⟨rfl,rfl⟩
  ·cases h
 | .bool n,x,p,cs,cx,Fx,L,c,h,hk,h1,h2,h3,h4=>by
  cases x<;>simp only [alC] at h<;>try (cases h;done)
  simp only [oj] at h
  subst h
  have he:n=_:=hk _ (List.mem_singleton.2 rfl)
  unfold InV at h3 h4
  rw [h3.1,h4.1,he]
  exact ⟨rfl,rfl⟩
 | .agg vs,x,p,cs,cx,Fx,L,c,h,hk,h1,h2,h3,h4=>by
  cases x<;>simp only [alC] at h<;>try (cases h;done)
  rename_i xs
  unfold InV at h3 h4
  refine ⟨PZ hl hg vs xs (L:=L) (j:=0) h hk (fun i x hi=>?_) h2 h3 h4,rfl⟩
  rw [U8,h1]
  simp [Jf,hi]
 | .undef,x,p,cs,cx,Fx,L,c,h,hk,h1,h2,h3,h4=>by simp [alC] at h
 | .void,x,p,cs,cx,Fx,L,c,h,hk,h1,h2,h3,h4=>by simp [alC] at h
 | .str _,x,p,cs,cx,Fx,L,c,h,hk,h1,h2,h3,h4=>by simp [alC] at h
 | .arr _ _ _,x,p,cs,cx,Fx,L,c,h,hk,h1,h2,h3,h4=>by simp [alC] at h
 | .own _ _,x,p,cs,cx,Fx,L,c,h,hk,h1,h2,h3,h4=>by simp [alC] at h
 | .ownh _ _ _,x,p,cs,cx,Fx,L,c,h,hk,h1,h2,h3,h4=>by simp [alC] at h
 | .rd _ _,x,p,cs,cx,Fx,L,c,h,hk,h1,h2,h3,h4=>by simp [alC] at h
 | .lst _ _,x,p,cs,cx,Fx,L,c,h,hk,h1,h2,h3,h4=>by simp [alC] at h
 | .nilsl,x,p,cs,cx,Fx,L,c,h,hk,h1,h2,h3,h4=>by simp [alC] at h
 | .emp _,x,p,cs,cx,Fx,L,c,h,hk,h1,h2,h3,h4=>by simp [alC] at h
 | .obox _,x,p,cs,cx,Fx,L,c,h,hk,h1,h2,h3,h4=>by simp [alC] at h
 | .rp _,x,p,cs,cx,Fx,L,c,h,hk,h1,h2,h3,h4=>by simp [alC] at h
 | .sub _ _ _ _ _,x,p,cs,cx,Fx,L,c,h,hk,h1,h2,h3,h4=>by simp [alC] at h
 | .ptr _ _,x,p,cs,cx,Fx,L,c,h,hk,h1,h2,h3,h4=>by simp [alC] at h
 | .fn _ _,x,p,cs,cx,Fx,L,c,h,hk,h1,h2,h3,h4=>by simp [alC] at h
 | .nilfn,x,p,cs,cx,Fx,L,c,h,hk,h1,h2,h3,h4=>by simp [alC] at h
 | .nilptr,x,p,cs,cx,Fx,L,c,h,hk,h1,h2,h3,h4=>by simp [alC] at h
 | .mp _,x,p,cs,cx,Fx,L,c,h,hk,h1,h2,h3,h4=>by simp [alC] at h
 | .mref _,x,p,cs,cx,Fx,L,c,h,hk,h1,h2,h3,h4=>by simp [alC] at h
 | .tup _,x,p,cs,cx,Fx,L,c,h,hk,h1,h2,h3,h4=>by simp [alC] at h
theorem PZ {E:Env} {s:Nat} {c0:V} {rc:List Value} {F:List Nat} (hl:Jb E.bl s=some c0) (hg:E.G s=some (rc,F)):∀ (vs xs:List V) {p:List Nat} {j:Nat} {cs cx:List Value} {Fx:List Nat} {L:Ji} {c:List Jk},
  Vb s p j vs xs=some c→(∀ k ∈ c,k.ok)→(∀ i x,nth xs i=some x→Jf E.w c0 (.reg rc) (p ++ [j + i])=some (x,L.shift (Jt (xs.take i))))→L.holds E.w cx→Jj E xs cx Fx→Jj E vs cs []→cs=cx
 | [],xs,p,j,cs,cx,Fx,L,c,h,hk,h1,h2,h3,h4=>by
  cases xs with
  | nil=>unfold Jj at h3 h4;rw [h3.1,h4.1]
  | cons _ _=>simp [Vb] at h
 | v :: vs,xs,p,j,cs,cx,Fx,L,c,h,hk,h1,h2,h3,h4=>by
  cases xs with
  | nil=>simp [Vb] at h
  | cons x xs=>
   simp only [Vb] at h
   split at h
   ·rename_i c1 e1
    split at h
    ·rename_i c2 e2
     simp only [oj] at h
     subst h
     obtain ⟨hk1,hk2⟩:=QU hk
     unfold Jj at h3 h4
     obtain ⟨a1,a2,F1,F2,e3,e4,i1,i2⟩:=h3
     obtain ⟨b1,b2,K1,K2,e5,e6,j1,j2⟩:=h4
     obtain ⟨rfl,rfl⟩:=List.append_eq_nil_iff.1 e6.symm
     subst e3;subst e5
     have g0:=h1 0 x rfl
     have hsh0:L.shift 0=L:=by cases L<;>simp [Ji.shift,Addr.add]
     simp only [Nat.add_zero,List.take_zero,Jt,hsh0] at g0
     have r1:=(PY hl hg v x e1 hk1 (by rw [Qd];exact g0) (Xg h2) i1 j1).1
     have r2:=PZ hl hg vs xs (L:=L.shift a1.length) e2 hk2 (fun i y hi=>by
      have:=h1 (i + 1) y (by simpa [nth] using hi)
      rw [C4,Qq x i1]
      simp only [List.take_succ_cons,Jt] at this
      rw [show j + 1 + i=j + (i + 1) by omega]
      exact this) (Xh h2) i2 j2
     rw [r1,r2]
    ·cases h
   ·cases h
end
theorem qj {E:Env} {s:Nat} {c0:V} {rc:List Value} {F:List Nat} (hl:Jb E.bl s=some c0) (hg:E.G s=some (rc,F)) {v x:V} {p:List Nat} {cs cx:List Value} {Fx:List Nat} {L:Ji} {c:List Jk} (hv:V9 v=some (s,p))
  (h:Xa s p v x=some c) (hk:∀ k ∈ c,k.ok) (h1:Jf E.w c0 (.reg rc) p=some (x,L)) (h2:L.holds E.w cx) (h3:InV E x cx Fx) (h4:InV E v cs []):cs=cx∧isA v=isA x:=by
 unfold Xa at h
 split at h
 ·rename_i t q e
  simp only [V9,oj,pj] at hv
  obtain ⟨rfl,rfl⟩:=hv
  split at h
  ·unfold InV at h4
   obtain ⟨_,_,h5⟩:=h4
   obtain ⟨u,g1,g2⟩:=h5 c0 rc F hl hg _ L h1 rfl
   unfold InV at h3
   obtain ⟨_,Ad,cap,hcs,_⟩:=h3
   rw [hcs] at h2
   rw [JL h2] at g1
   simp only [oj] at g1
   rw [g2,hcs,g1]
   exact ⟨rfl,rfl⟩
  ·cases h
 ·exact PY hl hg v x h hk h1 h2 h3 h4
theorem P0 {f:FuncId} {E E':Env} (hg:Jx E E' (fun _=>False)) {x v:V} {Fx:List Nat}:∀ {vs:List V} {i:Nat} {us:List Value},UH A f i vs=some v→Tup E vs us []→(∀ u,One E v u []→One E' x u Fx)→UK E' (fun j=>Ho (A.mode f j)) i (Cl A f x i vs) us Fx
 | [],i,us,h,_,_=>by simp [UH] at h
 | y :: vs,i,us,h,⟨u,r,F1,F2,e1,e2,h1,h2⟩,hx=>by
  obtain ⟨rfl,rfl⟩:=List.append_eq_nil_iff.1 e2.symm
  subst e1
  have up:One E y u []→One E' y u []:=fun ⟨cs,i1,i2⟩=>⟨cs,hg.inV (fun _ _=>id) (fun b hb=>by cases hb) i1,i2⟩
  have other:Ho (A.mode f i)=false→UH A f (i + 1) vs=some v→Cl A f x i (y :: vs)=y :: Cl A f x (i + 1) vs→UK E' (fun j=>Ho (A.mode f j)) i (Cl A f x i (y :: vs)) (u :: r) Fx:=by
   intro hm ho hp
   rw [hp]
   exact ⟨u,r,[],Fx,rfl,rfl,up h1,fun _=>rfl,P0 hg ho h2 hx⟩
  cases hm:A.mode f i with
  | io=>
   simp only [UH,hm] at h
   simp only [Cl,hm]
   split at h
   ·cases h
   ·rename_i hany
    simp only [oj] at h
    subst h
    have rest:∀ {vs:List V} {j:Nat} {us:List Value},UG A f j vs=false→Tup E vs us []→UK E' (fun j=>Ho (A.mode f j)) j vs us []:=by
     intro vs
     induction vs with
     | nil=>intro j us _ h;exact h
     | cons z vs ih=>
      rintro j us ha ⟨u',r',K1,K2,k1,k2,k3,k4⟩
      obtain ⟨rfl,rfl⟩:=List.append_eq_nil_iff.1 k2.symm
      obtain ⟨cs,i1,i2⟩:=k3
      refine ⟨u',r',[],[],k1,rfl,⟨cs,hg.inV (fun _ _=>id) (fun b hb=>by cases hb) i1,i2⟩,fun _=>rfl,ih ?_ k4⟩
      simp only [UG] at ha
      split at ha
      ·cases ha
      ·cases ha
      ·exact ha
    exact ⟨u,r,Fx,[],rfl,by simp,hx u h1,fun hf=>(by have hf':Ho (A.mode f i)=false:=hf;rw [hm] at hf';cases hf'),rest hany h2⟩
  | take=>simp only [UH,hm] at h;cases h
  | lend=>exact other (by rw [hm];rfl) (by simpa only [UH,hm] using h) (by simp only [Cl,hm])
  | keep=>exact other (by rw [hm];rfl) (by simpa only [UH,hm] using h) (by simp only [Cl,hm])
theorem P1 {f:FuncId} {E E':Env} {v y:V} {Fo:List Nat}:∀ {vs outs:List V} {i:Nat} {us:List Value},UH A f i vs=some v→CG A f i vs outs=some y→Tup E vs us []→CP E' (fun j=>Qh (A.mode f j)) i outs us Fo→∃ u,One E v u []∧One E' y u Fo
 | [],outs,i,us,h,_,_,_=>by simp [UH] at h
 | z :: vs,[],i,us,h,h',_,_=>by simp [CG] at h'
 | z :: vs,o :: outs,i,us,h,h',⟨u,r,F1,F2,e1,e2,h1,h2⟩,⟨u',r',K1,K2,k1,k2,k3,k4,k5⟩=>by
  obtain ⟨rfl,rfl⟩:=List.append_eq_nil_iff.1 e2.symm
  rw [e1] at k1
  simp only [List.cons.injEq] at k1
  obtain ⟨rfl,rfl⟩:=k1
  have other:Qh (A.mode f i)=false→UH A f (i + 1) vs=some v→CG A f (i + 1) vs outs=some y→∃ u,One E v u []∧One E' y u Fo:=by
   intro hm ho hp
   have:=k4 hm
   subst this
   subst k2
   exact P1 ho hp h2 k5
  cases hm:A.mode f i with
  | io=>
   simp only [UH,hm] at h
   simp only [CG,hm,oj] at h'
   subst h'
   split at h
   ·cases h
   ·rename_i hany
    simp only [oj] at h
    subst h
    have rest:∀ {vs outs:List V} {j:Nat} {us:List Value} {K:List Nat},UG A f j vs=false→Tup E vs us []→CP E' (fun j=>Qh (A.mode f j)) j outs us K→K=[]:=by
     intro vs
     induction vs with
     | nil=>
      rintro outs j us K _ ⟨rfl,_⟩ ho
      cases outs with
      | nil=>exact ho.2
      | cons o outs=>obtain ⟨_,_,_,_,q,_⟩:=ho;cases q
     | cons z vs ih=>
      rintro outs j us K ha ⟨u',r',L1,L2,l1,l2,l3,l4⟩ ho
      obtain ⟨rfl,rfl⟩:=List.append_eq_nil_iff.1 l2.symm
      simp only [UG] at ha
      split at ha
      ·cases ha
      ·cases ha
      ·rename_i hm' hm''
       cases outs with
       | nil=>exact ho.2
       | cons o outs=>
        obtain ⟨u2,r2,M1,M2,n1,n2,n3,n4,n5⟩:=ho
        rw [l1] at n1
        simp only [List.cons.injEq] at n1
        obtain ⟨rfl,rfl⟩:=n1
        have hf:Qh (A.mode f j)=false:=by
         cases hq:A.mode f j with
         | io=>exact absurd hq hm'
         | take=>rfl
         | lend=>rfl
         | keep=>rfl
        rw [n2,n4 hf,ih ha l4 n5];rfl
    have:=rest hany h2 k5
    subst this
    rw [List.append_nil] at k2
    subst k2
    exact ⟨u,h1,k3 (by show Qh (A.mode f i)=true;rw [hm];rfl)⟩
  | take=>simp only [UH,hm] at h;cases h
  | lend=>exact other (by rw [hm];rfl) (by simpa only [UH,hm] using h) (by simpa only [CG,hm] using h')
  | keep=>exact other (by rw [hm];rfl) (by simpa only [UH,hm] using h) (by simpa only [CG,hm] using h')
theorem P2 (a b:Nat):Ov a b≤a∧Ov a b≤b:=by
 unfold Ov
 cases h:Nat.ble a b with
 | true=>exact ⟨Nat.le_refl _,Nat.le_of_ble_eq_true h⟩
 | false=>
  have:¬ a≤b:=fun hn=>by rw [Nat.ble_eq_true_of_le hn] at h;cases h
  exact ⟨by show b≤a;omega,Nat.le_refl _⟩
theorem qk (a b k:Nat):Ov (k + a) (k + b)=k + Ov a b:=by
 unfold Ov
 cases h:Nat.ble a b with
 | true=>rw [Nat.ble_eq_true_of_le (show k + a≤k + b by have:=Nat.le_of_ble_eq_true h;omega)]
 | false=>
  have h1:¬ a≤b:=fun hn=>by rw [Nat.ble_eq_true_of_le hn] at h;cases h
  cases h2:Nat.ble (k + a) (k + b) with
  | true=>exact absurd (Nat.le_of_ble_eq_true h2) (by omega)
  | false=>rfl
mutual
theorem KJ (k:Nat):∀ (v:V),Qp k v=k + Qp 0 v
 | .agg vs=>by simp only [Qp];rw [P3 k vs];rfl
 | .int _ _=>by simp [Qp]
 | .bool _=>by simp [Qp]
 | .str _=>by simp [Qp]
 | .undef=>by simp [Qp]
 | .void=>by simp [Qp]
 | .arr _ _ _=>by simp [Qp]
 | .own _ _=>by simp [Qp]
 | .ownh _ _ _=>by simp [Qp]
 | .rd _ _=>by simp [Qp]
 | .lst _ _=>by simp [Qp]
 | .nilsl=>by simp [Qp]
 | .emp _=>by simp [Qp]
 | .obox _=>by simp [Qp]
 | .rp _=>by simp [Qp]
 | .full _ _ _=>by simp [Qp]
 | .sub _ _ _ _ _=>by simp [Qp]
 | .ptr _ _=>by simp [Qp]
 | .fn _ _=>by simp [Qp]
 | .nilfn=>by simp [Qp]
 | .nilptr=>by simp [Qp]
 | .mp _=>by simp [Qp]
 | .mref _=>by simp [Qp]
 | .tup _=>by simp [Qp]
theorem P3 (k:Nat):∀ (vs:List V),Ow k vs=k + Ow 0 vs
 | []=>by simp [Ow]
 | v :: vs=>by simp only [Ow];rw [KJ k v,P3 k vs,qk]
end
theorem P4:∀ {vs:List V} {j:Nat} {x:V},nth vs j=some x→Ow 0 vs≤Qp 0 x
 | [],j,x,h=>by simp [nth] at h
 | v :: vs,0,x,h=>by
  simp only [nth,oj] at h
  subst h
  exact (P2 _ _).1
 | v :: vs,j + 1,x,h=>by
  simp only [nth] at h
  exact Nat.le_trans (P2 _ _).2 (P4 h)
theorem P5:∀ {xs ys:List V} {j:Nat} {y:V},Cm xs ys=true→nth ys j=some y→∃ x,nth xs j=some x∧Qu x y=true∧Jt (ys.take j)=Jt (xs.take j)
 | [],ys,j,y,h,hj=>by
  cases ys with
  | nil=>simp [nth] at hj
  | cons _ _=>simp [Cm] at h
 | x :: xs,[],j,y,h,hj=>by simp [nth] at hj
 | x :: xs,y0 :: ys,0,y,h,hj=>by
  unfold Cm at h
  rw [Je] at h
  simp only [nth,oj] at hj
  subst hj
  exact ⟨x,rfl,h.1,rfl⟩
 | x :: xs,y0 :: ys,j + 1,y,h,hj=>by
  unfold Cm at h
  rw [Je] at h
  simp only [nth] at hj
  obtain ⟨x',h1,h2,h3⟩:=P5 h.2 hj
  exact ⟨x',h1,h2,by simp only [List.take_succ_cons,Jt,h3,(WN x y0 h.1).1]⟩
theorem ql {w w2:World}:∀ (x y:V),Qu x y=true→∀ {cs:List Value} {L:Ji},cs.length=vsz x→L.holds w cs→L.holds w2 cs→∀ (q:List Nat),q.length<Qp 0 x→∀ x' L',Jf w2 y L q=some (x',L') →
  ∃ x0,Jf w x L q=some (x0,L')∧(QB x'=true→QB x0=true∧L'.head w2=L'.head w):=by
 intro x y hlike cs L hlen h1 h2 q
 induction q generalizing x y cs L with
 | nil=>
  intro _ x' L' hl
  simp only [Jf,oj,pj] at hl
  obtain ⟨rfl,rfl⟩:=hl
  refine ⟨x,rfl,fun ho=>⟨(WN x y hlike).2.2.1 ho,?_⟩⟩
  have hs:vsz x=1:=by
   have:=(WN x y hlike).1
   rw [← this]
   cases y<;>first | rfl | (simp [QB] at ho)
  rw [hs] at hlen
  obtain ⟨v,rfl⟩:=List.length_eq_one_iff.1 hlen
  rw [JL h1,JL h2]
 | cons j q ih=>
  intro hq x' L' hl
  cases y with
  | agg ys=>
   cases x with
   | agg xs=>
    simp only [Qu] at hlike
    simp only [Jf] at hl ⊢
    cases hj:nth ys j with
    | none=>rw [hj] at hl;cases hl
    | some y1=>
     rw [hj] at hl
     simp only at hl
     obtain ⟨x1,k1,k2,k3⟩:=P5 hlike hj
     rw [k3] at hl
     rw [k1]
     simp only
     have hsz:=Vi k1
     simp only [vsz] at hlen
     refine ih x1 y1 k2 (cs:=(cs.drop (Jt (xs.take j))).take (vsz x1)) (by rw [List.length_take,List.length_drop];omega) ?_ ?_ ?_ x' L' hl
     ·exact Vj h1 (by rw [List.length_take,List.length_drop];omega) (fun k hk=>by
       rw [List.length_take,List.length_drop] at hk
       rw [List.getElem?_take_of_lt (by omega),List.getElem?_drop])
     ·exact Vj h2 (by rw [List.length_take,List.length_drop];omega) (fun k hk=>by
       rw [List.length_take,List.length_drop] at hk
       rw [List.getElem?_take_of_lt (by omega),List.getElem?_drop])
     ·simp only [Qp,List.length_cons] at hq
      have:=P4 k1
      omega
   | _=>simp [Qu] at hlike
  | int k n=>simp [Jf] at hl
  | bool b=>simp [Jf] at hl
  | str b=>simp [Jf] at hl
  | own e l=>cases x<;>simp [Qu] at hlike;simp [Qp] at hq
  | arr n e l=>cases x<;>simp [Qu] at hlike;simp [Qp] at hq
  | _=>cases x<;>simp [Qu] at hlike
theorem qm {cl:Call} {fo:Operand} {g:FuncId} {caps:List V} (ho:o.op=.call cl) (hcal:cl.callee=.value fo) (hf:opd sl fo=.fn g caps)
  {ts:List Ty} (hnt:Q0 (Jm sl cl.args.toList)=true) (hna:HJ caps=true)
  {s:Nat} {p:List Nat} {vio c0 x y:V} (hone:UH A g 0 (cat (Jm sl cl.args.toList) caps)=some vio) (hloc:V9 vio=some (s,p)) (hl0:Jb b s=some c0) (hc0:JH c0=true) (hxo:JH x=true)
  {c1 c2 c3:List Jk} (hget:c0.get p=some (c1,x)) (hns:JT (Jv b) s=false) (hpath:UQ s (Qp (Up p) x) (Qp (Up p) x) sl=true) (hal:Xa s p vio x=some c2)
  {ws:List V} {res:V} {outs:List V} (hp:Q9 A g (Qj b s) 0 ts (Cl A g x 0 (cat (Jm sl cl.args.toList) caps))=some (c3,ws)) (hk:∀ x ∈ cat c1 (cat c2 c3),x.ok)
  (hco:HR P (fun i=>Qh (A.mode g i)) g ws res outs) (hout:CG A g 0 (cat (Jm sl cl.args.toList) caps) outs=some y) (how:Qc res=true) (hoy:JH y=true) (hlike:Qu x y=true)
  (hpl:Uc sl (Jp b s (c0.set p y)) o.dst res=some (v,b1)):UW P o sl b v b1:=by
 intro Pn w0 F0 a w hdst hr K Q hK
 obtain ⟨⟨G,hc,hs⟩,hl,hd,hpin⟩:=hr
 obtain ⟨k1,k3⟩:=hco
 obtain ⟨fn,j1,j2,j3⟩:=k1
 obtain ⟨hk1,hk23⟩:=QU hk
 obtain ⟨hk2,hk3⟩:=QU hk23
 have hfv:=JJ hs fo
 rw [hf] at hfv
 have hfv':=(JM rfl (by simp) (by simp)).1 hfv
 unfold InV at hfv'
 obtain ⟨vals,hfe,hcaps,_⟩:=hfv'
 simp only [List.cons.injEq,and_true] at hfe
 rw [Qd] at hp hone hout
 have hargs:Tup (Ja w b G []) (Jm sl cl.args.toList ++ caps) (cl.args.toList.map a.eval ++ vals.toList) []:=by
  have:=XF (XD (io:=fun j=>Ho (A.mode g j)) (i:=0) hs hnt) (XE (i:=0 + (Jm sl cl.args.toList).length) hna hcaps)
  exact KF (by simpa using this)
 obtain ⟨rc,F,F1,g1,g2,g3,g4,g5⟩:=hc.ok.root s c0 hl0
 obtain ⟨Lx,i4⟩:=HO (Ja w b G []) p c0 rc F1 (.reg rc) c1 x g2 ⟨[],by simp⟩ hget hk1
 obtain ⟨csx,Fx,Fr,m1,m2,m3,m4,m5⟩:=hc.x.modifyN hl0 g1 i4 (by rw [hget];rfl)
 have hnd:=(List.nodup_append.1 ((m3.nodup_iff).1 g4))
 have hFxF:∀ q ∈ Fx,q ∈ F:=fun q hq=>(m3.mem_iff).2 (by simp [hq])
 have arg:∀ u,One (Ja w b G []) vio u []→Qf x csx u:=by
  rintro u ⟨cs,r1,r2⟩
  obtain ⟨r3,r4⟩:=qj (E:=Ja w b G []) hl0 g1 hloc hal hk2 i4 m2 m1 r1
  rw [← r3]
  unfold Qf at r2 ⊢
  rw [← r4]
  exact r2
 obtain ⟨rc',F',Fc,d1,d2,d3,d4,d5⟩:=hc.x.drop hl0
 rw [g1] at d1
 simp only [oj,pj] at d1
 obtain ⟨rfl,rfl⟩:=d1
 have hargs2:=P0 (A:=A) (f:=g) (x:=x) (Fx:=Fx) d5 hone hargs (fun u hu=>⟨csx,Oc (by rfl) x hxo m1,arg u hu⟩)
 have htup:=(Y9 (Y:=Fx) d4.ok (fun q hm=>by simp [(d2.mem_iff).2 (hFxF q hm)]) hargs2 hp hk3).1
 have hcalls:=k3 (fun _=>True) w (cl.args.toList.map a.eval ++ vals.toList) Fx htup hnd.2.1 (fun q hq=>(g5 q (hFxF q hq)).1)
 have hrun:(execOp a.eval o).run P w=.ok (.enter g (cl.args.toList.map a.eval ++ vals.toList).toArray) w:=by
  have hcf:=Kb (P:=P) (w:=w) (args:=(cl.args.toList.map a.eval ++ vals.toList).toArray) j1 j2 j3
  have he:(cl.args.toList.map a.eval ++ vals.toList).toArray=cl.args.map a.eval ++ vals:=by apply Array.ext';simp
  rw [he] at hcf ⊢
  simp [execOp,ho,resolve,hcal,hfe,Deferred.ofValue,invoke,hcf]
 unfold Oper.wp
 rw [hrun,Oper.upon_enter]
 refine Calls.mono hcalls ?_
 rintro e w2 ⟨v2,Fr2,Fo,rfl,q1,q2,q3,q4,q5,q6,q7,q8,q9⟩
 obtain ⟨u,hu,cs',o1,o2⟩:=P1 hone hout hargs q2
 obtain ⟨l1,l2,l3,l4⟩:=WN x y hlike
 have hcsy:cs'=csx:=by
  refine PG o2 ?_
  have:=arg u hu
  unfold Qf at this ⊢
  rw [l2]
  exact this
 subst hcsy
 have hLb:∀ ad,Lx=.mem ad→w2.heap[ad.block]?=w.heap[ad.block]?:=by
  intro ad had
  rcases m4 with ⟨a',ha',hin⟩ | ⟨ds,hds⟩
  ·rw [had] at ha';cases ha'
   have hmF:ad.block ∈ F:=(m3.mem_iff).2 (by simp [hin])
   exact q5 _ (g5 _ hmF).1 (fun hx=>hnd.2.2 _ hin _ hx rfl)
  ·rw [had] at hds;cases hds
 have hmem:∀ q,q<w.heap.size→q ∉ Fx→(∀ a,Lx=.mem a→q ≠ a.block)→w2.heap[q]?=w.heap[q]?:=fun q hq hx _=>q5 q hq hx
 have hhead:Lx.head w2=Lx.head w:=by
  cases Lx with
  | reg ds=>rfl
  | mem ad=>exact Oy (hLb ad rfl)
 obtain ⟨t1,t2,t3⟩:=m5 w2 y cs' Fo Fr2 (fun t=>t=s) (fun _ h=>h) (fun _ t ct hct hm=>CT hns (Cr hct hm))
  l1 (fun _=>l4) q6 (fun q hq hx _ hne=>hmem q hq hx hne) (fun _ _=>.inr (.inr trivial))
  (by
   cases Lx with
   | reg ds=>trivial
   | mem ad=>
    intro bb hbb hsp
    have hblk:=hLb ad rfl
    rw [← hbb] at hblk
    exact ⟨fun _=>Oy hblk,Yt hblk,fun ⟨z,hz⟩=>⟨z,by rw [Oy hblk];exact hz⟩⟩)
  (Cp m2 hLb) (fun _=>rfl)
  ((List.perm_append_comm.nodup_iff).1 q3)
  (by
   intro q hq
   have:=q4 q (by
    rcases List.mem_append.1 hq with h | h
    ·exact List.mem_append.2 (.inr h)
    ·exact List.mem_append.2 (.inl h))
   exact ⟨this.1,this.2.elim .inl (fun h=>.inr (.inr h))⟩)
  (fun h=>absurd rfl h) q7 q8 q9 hmem
  (fun _=>Oc (by rfl) y hoy o1) (fun _=>Oc (by rfl) y hoy o1)
 have hs2:=KI (m:=Qp (Up p) x) (n:=Qp (Up p) x) t2 (by
  intro c' rc2 F2 hl' hg'
  simp only [Ja,JG,if_true,oj,pj] at hl' hg'
  obtain ⟨rfl,_⟩:=hg'
  subst hl'
  have base:∀ al,Q5 al (Qp 0 x) w w2 x y Lx:=by
   intro al q hq x' L' hlq
   obtain ⟨x1,z1,z2⟩:=ql x y hlike (Qq _ m1) m2 (Cp m2 hLb) q hq x' L' hlq
   exact ⟨x1,z1,fun _=>z2⟩
  exact ⟨c0,F,hl0,g1,(t3 false _ (base _)).mono (by rw [KJ,OU];omega),(t3 true _ (base _)).mono (by rw [KJ,OU];omega)⟩) hpath hs
 obtain ⟨G',s1,s2,s3⟩:=Ka (E:=Q2 (fun _=>True) w2 (Fr2 ++ Fo)) t1 hs2 rfl q1 how hpl
 exact hK _ _ (Rel.put s1 s2 hl hd hpin hdst s3)
end
end Go.Rai
namespace Go.Rai
variable [Inhabited Qk]
theorem qn (b b':BL) (s:Nat):Jb (b ++ b') s=match Jb b s with | some x=>some x | none=>Jb b' s:=by
 induction b with
 | nil=>simp [Jb]
 | cons x r ih=>
  obtain ⟨k,u⟩:=x
  simp only [List.cons_append,Jb]
  split
  ·rfl
  ·exact ih
theorem P6:∀ {K:List Nat} {b:BL} {s:Nat},Jb (WA b K) s=if s ∈ K then none else Jb b s
 | [],b,s=>by simp [WA]
 | t :: K,b,s=>by
  simp only [WA,P6 (K:=K),Ur]
  by_cases h:s=t
  ·subst h;simp
  ·simp [h]
theorem XZ {b b':BL} {K:List Nat} (h:∀ s,s ∉ K→Jb b' s=none) (s:Nat):Jb (CQ b K b') s=if s ∈ K then Jb b' s else Jb b s:=by
 unfold CQ
 rw [Qd,qn,P6]
 by_cases hs:s ∈ K
 ·simp [hs]
 ·simp only [hs,if_false,h s hs]
  cases Jb b s<;>rfl
theorem P7 {b:BL} {s:Nat} (h:s ∉ QC b):Jb b s=none:=by
 cases hl:Jb b s with
 | none=>rfl
 | some c=>exact absurd (Kw hl) h
structure AgK (K:List Nat) (b b':BL):Prop where
 on:∀ s,s ∈ K→Jb b' s=Jb b s
 off:∀ s,s ∉ K→Jb b s=none
structure StK (K:List Nat) (b b1:BL):Prop where
 look:∀ s,s ∉ K→Jb b1 s=Jb b s
 names:∀ s,s ∈ Jv b1→s ∈ Jv b
theorem StK.refl {K:List Nat} {b:BL}:StK K b b:=⟨fun _ _=>rfl,fun _ h=>h⟩
theorem StK.trans {K:List Nat} {b b1 b2:BL} (h:StK K b b1) (h':StK K b1 b2):StK K b b2:=
 ⟨fun s hs=>(h'.look s hs).trans (h.look s hs),fun s hs=>h.names s (h'.names s hs)⟩
theorem AgK.get {K:List Nat} {b b':BL} (h:AgK K b b') {s:Nat} {c:V} (hl:Jb b s=some c):s ∈ K∧Jb b' s=some c:=by
 by_cases hs:s ∈ K
 ·exact ⟨hs,by rw [h.on s hs];exact hl⟩
 ·rw [h.off s hs] at hl;cases hl
theorem AgK.drop {K:List Nat} {b b':BL} (h:AgK K b b') {s:Nat} (hs:s ∈ K):AgK K (Qj b s) (Qj b' s)∧StK K b' (Qj b' s):=by
 refine ⟨⟨fun t ht=>?_,fun t ht=>?_⟩,fun t ht=>?_,fun t ht=>Pv ht⟩
 ·rw [Ur,Ur,h.on t ht]
 ·rw [Ur,h.off t ht];split<;>rfl
 ·rw [Ur,if_neg];rintro rfl;exact ht hs
theorem AgK.set {K:List Nat} {b b':BL} (h:AgK K b b') {s:Nat} (hs:s ∈ K) {x:V} (hx:∀ t,t ∈ Jd x→t ∈ Jv b'):AgK K (Jp b s x) (Jp b' s x)∧StK K b' (Jp b' s x):=by
 refine ⟨⟨fun t ht=>?_,fun t ht=>?_⟩,fun t ht=>?_,fun t ht=>?_⟩
 ·rw [JG,JG,h.on t ht]
 ·rw [JG,if_neg (by rintro rfl;exact ht hs),h.off t ht]
 ·rw [JG,if_neg];rintro rfl;exact ht hs
 ·exact (Pw ht).elim id (hx t)
theorem X0 {K:List Nat} {b b' b1:BL} {s:Nat} {p:List Nat} {x:V} (h:QS b s p=some (x,b1)) (hK:AgK K b b'):∃ b1',QS b' s p=some (x,b1')∧AgK K b1 b1'∧StK K b' b1':=by
 unfold QS at h ⊢
 split at h
 ·rename_i c hc
  obtain ⟨hs,hc'⟩:=hK.get hc
  rw [hc']
  simp only
  split at h
  ·simp only [oj,pj] at h
   obtain ⟨rfl,rfl⟩:=h
   exact ⟨_,rfl,(hK.drop hs).1,(hK.drop hs).2⟩
  ·split at h
   ·rename_i y hg
    split at h
    ·rename_i hb
     simp only [oj,pj] at h
     obtain ⟨rfl,rfl⟩:=h
     have hx:∀ t,t ∈ Jd (c.set p .undef)→t ∈ Jv b':=by
      intro t ht
      rcases Ku ht with ht | ht
      ·exact Cr hc' ht
      ·simp [Jd] at ht
     exact ⟨_,rfl,(hK.set hs hx).1,(hK.set hs hx).2⟩
    ·cases h
   ·cases h
 ·cases h
theorem qo {K:List Nat} {b b':BL} {s:Nat} {p:List Nat} {c0:V} (hc:Jb b s=some c0) (h:QS b s p=none) (hK:AgK K b b'):QS b' s p=none:=by
 obtain ⟨_,hc'⟩:=hK.get hc
 unfold QS at h ⊢
 rw [hc] at h
 rw [hc']
 simp only at h ⊢
 split at h
 ·cases h
 ·split at h
  ·split at h
   ·cases h
   ·rename_i hb
    simp only [hb]
  ·rfl
theorem KK {K:List Nat}:∀ (n:Nat),(∀ {b b' b1:BL} {v w:V} {c:List Jk},inl n b v=some (c,w,b1)→AgK K b b'→∃ b1',inl n b' v=some (c,w,b1')∧AgK K b1 b1'∧StK K b' b1') ∧
  (∀ {b b' b1:BL} {vs ws:List V} {c:List Jk},Q7 n b vs=some (c,ws,b1)→AgK K b b'→∃ b1',Q7 n b' vs=some (c,ws,b1')∧AgK K b1 b1'∧StK K b' b1')
 | 0=>⟨fun h=>by simp [inl] at h,fun h=>by simp [Q7] at h⟩
 | n + 1=>by
  obtain ⟨ih1,ih2⟩:=KK (K:=K) n
  constructor
  ·intro b b' b1 v w c h hK
   have rest:some (([]:List Jk),v,b)=some (c,w,b1)→∃ b1',some (([]:List Jk),v,b')=some (c,w,b1')∧AgK K b1 b1'∧StK K b' b1':=by
    intro h
    simp only [oj,pj] at h
    obtain ⟨rfl,rfl,rfl⟩:=h
    exact ⟨b',rfl,hK,StK.refl⟩
   cases v with
   | full s p e=>
    simp only [inl] at h ⊢
    split at h
    ·rename_i e1 l b2 ht
     simp only [oj,pj] at h
     obtain ⟨rfl,rfl,rfl⟩:=h
     obtain ⟨b1',k1,k2,k3⟩:=X0 ht hK
     exact ⟨b1',by rw [k1],k2,k3⟩
    ·rename_i e1 vs b2 ht
     obtain ⟨b2',k1,k2,k3⟩:=X0 ht hK
     split at h
     ·rename_i c1 ws b3 hi
      obtain ⟨b3',m1,m2,m3⟩:=ih2 hi k2
      split at h
      ·rename_i hb
       simp only [oj,pj] at h
       obtain ⟨rfl,rfl,rfl⟩:=h
       exact ⟨b3',by rw [k1];simp only [m1,hb],m2,k3.trans m3⟩
      ·cases h
     ·cases h
    ·cases h
    ·rename_i hn
     split at h
     ·rename_i c1 e1 l hg
      simp only [oj,pj] at h
      obtain ⟨rfl,rfl,rfl⟩:=h
      have hg0:=hg
      unfold JS at hg0
      split at hg0
      ·rename_i c0 hc
       obtain ⟨hs,hc'⟩:=hK.get hc
       refine ⟨Qj b' s,?_,(hK.drop hs).1,(hK.drop hs).2⟩
       rw [qo hc hn hK]
       simp only [JS,hc',hg0]
      ·cases hg0
     ·cases h
   | sub s p o l e=>
    simp only [inl] at h ⊢
    split at h
    ·rename_i e1 l1 b2 ht
     obtain ⟨b1',k1,k2,k3⟩:=X0 ht hK
     split at h
     ·rename_i hb
      simp only [oj,pj] at h
      obtain ⟨rfl,rfl,rfl⟩:=h
      exact ⟨b1',by rw [k1];simp only [hb],k2,k3⟩
     ·cases h
    ·cases h
   | ptr s p=>
    simp only [inl] at h ⊢
    split at h
    ·split at h
     ·rename_i x b2 ht
      obtain ⟨b2',k1,k2,k3⟩:=X0 ht hK
      split at h
      ·rename_i c1 y b3 hi
       simp only [oj,pj] at h
       obtain ⟨rfl,rfl,rfl⟩:=h
       obtain ⟨b3',m1,m2,m3⟩:=ih1 hi k2
       exact ⟨b3',by rw [k1];simp only [m1],m2,k3.trans m3⟩
      ·cases h
     ·cases h
    ·cases h
   | agg vs=>
    simp only [inl] at h ⊢
    split at h
    ·rename_i c1 ws b3 hi
     simp only [oj,pj] at h
     obtain ⟨rfl,rfl,rfl⟩:=h
     obtain ⟨b3',m1,m2,m3⟩:=ih2 hi hK
     exact ⟨b3',by rw [m1],m2,m3⟩
    ·cases h
   | tup vs=>
    simp only [inl] at h ⊢
    split at h
    ·rename_i c1 ws b3 hi
     simp only [oj,pj] at h
     obtain ⟨rfl,rfl,rfl⟩:=h
     obtain ⟨b3',m1,m2,m3⟩:=ih2 hi hK
     exact ⟨b3',by rw [m1],m2,m3⟩
    ·cases h
   | fn f vs=>
    simp only [inl] at h ⊢
    split at h
    ·rename_i c1 ws b3 hi
     simp only [oj,pj] at h
     obtain ⟨rfl,rfl,rfl⟩:=h
     obtain ⟨b3',m1,m2,m3⟩:=ih2 hi hK
     exact ⟨b3',by rw [m1],m2,m3⟩
    ·cases h
   | obox x=>
    simp only [inl] at h ⊢
    split at h
    ·rename_i c1 ws b3 hi
     simp only [oj,pj] at h
     obtain ⟨rfl,rfl,rfl⟩:=h
     obtain ⟨b3',m1,m2,m3⟩:=ih1 hi hK
     exact ⟨b3',by rw [m1],m2,m3⟩
    ·cases h
   | lst e vs=>simp only [inl] at h;cases h
   | ownh _ _ _=>simp only [inl] at h;cases h
   | mp _=>simp only [inl] at h;cases h
   | mref _=>simp only [inl] at h;cases h
   | undef=>simp only [inl] at h;cases h
   | void=>simp only [inl] at h;cases h
   | _=>simp only [inl] at h ⊢;exact rest h
  ·intro b b' b1 vs ws c h hK
   cases vs with
   | nil=>
    simp only [Q7,oj,pj] at h ⊢
    obtain ⟨rfl,rfl,rfl⟩:=h
    exact ⟨b',⟨rfl,rfl,rfl⟩,hK,StK.refl⟩
   | cons v vs=>
    simp only [Q7] at h ⊢
    split at h
    ·rename_i c1 w b2 h1
     obtain ⟨b2',k1,k2,k3⟩:=ih1 h1 hK
     split at h
     ·rename_i c2 ws2 b3 h2
      simp only [oj,pj] at h
      obtain ⟨rfl,rfl,rfl⟩:=h
      obtain ⟨b3',m1,m2,m3⟩:=ih2 h2 k2
      exact ⟨b3',by simp only [k1,m1],m2,k3.trans m3⟩
     ·cases h
    ·cases h
theorem KL {A:Ann} {f:FuncId} {K:List Nat}:∀ {vs ws:List V} {i:Nat} {b b' b1:BL} {c:List Jk},Hv A f i b vs=some (c,ws,b1)→AgK K b b'→∃ b1',Hv A f i b' vs=some (c,ws,b1')∧AgK K b1 b1'∧StK K b' b1'
 | [],ws,i,b,b',b1,c,h,hK=>by
  simp only [Hv,oj,pj] at h ⊢
  obtain ⟨rfl,rfl,rfl⟩:=h
  exact ⟨b',⟨rfl,rfl,rfl⟩,hK,StK.refl⟩
 | v :: vs,ws,i,b,b',b1,c,h,hK=>by
  have go:∀ (x:BL→G (V × BL)),(∀ {c w b1},x b=some (c,w,b1)→∃ b1',x b'=some (c,w,b1')∧AgK K b1 b1'∧StK K b' b1') →
    (match x b with
    | some (c,w,b')=>match Hv A f (i + 1) b' vs with
     | some (c',ws,b'')=>some ((cat c c'),w :: ws,b'')
     | none=>none
    | none=>none)=some (c,ws,b1)→∃ b1',(match x b' with
    | some (c,w,b')=>match Hv A f (i + 1) b' vs with
     | some (c',ws,b'')=>some ((cat c c'),w :: ws,b'')
     | none=>none
    | none=>none)=some (c,ws,b1')∧AgK K b1 b1'∧StK K b' b1':=by
   intro x hx h
   split at h
   ·rename_i c1 w b2 h1
    obtain ⟨b2',k1,k2,k3⟩:=hx h1
    split at h
    ·rename_i c2 ws2 b3 h2
     simp only [oj,pj] at h
     obtain ⟨rfl,rfl,rfl⟩:=h
     obtain ⟨b3',m1,m2,m3⟩:=KL h2 k2
     exact ⟨b3',by simp only [k1,m1],m2,k3.trans m3⟩
    ·cases h
   ·cases h
  have still:∀ {c w b1},(some (([]:List Jk),v,b):G (V × BL))=some (c,w,b1)→∃ b1',(some (([]:List Jk),v,b'):G (V × BL))=some (c,w,b1')∧AgK K b1 b1'∧StK K b' b1':=by
   intro c w b1 h
   simp only [oj,pj] at h
   obtain ⟨rfl,rfl,rfl⟩:=h
   exact ⟨b',rfl,hK,StK.refl⟩
  simp only [Hv] at h ⊢
  cases hm:A.mode f i with
  | lend=>simp only [hm] at h ⊢;exact go (fun b=>some ([],v,b)) still h
  | keep=>simp only [hm] at h ⊢;exact go (fun b=>some ([],v,b)) still h
  | io=>simp only [hm] at h ⊢;exact go (fun b=>inl 9 b v) (fun h=>(KK 9).1 h hK) h
  | take=>simp only [hm] at h ⊢;exact go (fun b=>inl 9 b v) (fun h=>(KK 9).1 h hK) h
theorem qq {K:List Nat} {b b':BL} (hK:AgK K b b') {v:V} (h:Va b v=true):Va b' v=true∧(∀ s p e,v=.full s p e→s ∈ K)∧(∀ s p,v=.ptr s p→s ∈ K):=by
 unfold Va at h ⊢
 split at h
 ·rename_i s p e
  split at h
  ·split at h
   ·rename_i hl
    obtain ⟨h1,h2⟩:=hK.get hl
    exact ⟨by rw [h2],(fun s' p' e' he=>by cases he;exact h1),(fun s' p' he=>by cases he)⟩
   ·rename_i hl
    obtain ⟨h1,h2⟩:=hK.get hl
    exact ⟨by rw [h2],(fun s' p' e' he=>by cases he;exact h1),(fun s' p' he=>by cases he)⟩
   ·cases h
  ·cases h
 ·rename_i s p
  split at h
  ·split at h
   ·rename_i hl
    obtain ⟨h1,h2⟩:=hK.get hl
    exact ⟨by rw [h2],(fun s' p' e' he=>by cases he),(fun s' p' he=>by cases he;exact h1)⟩
   ·cases h
  ·cases h
 ·cases h
theorem VU {A:Ann} {f:FuncId} {K:List Nat} {b b':BL} (hK:AgK K b b'):∀ {vs:List V} {i:Nat},Hg A f b i vs=true→Hg A f b' i vs=true∧(∀ s,s ∈ ioF A f i vs→s ∈ K)∧(∀ s,s ∈ ioP A f i vs→s ∈ K)
 | [],i,h=>⟨rfl,fun s hs=>(by simp [ioF] at hs),fun s hs=>(by simp [ioP] at hs)⟩
 | v :: vs,i,h=>by
  simp only [Hg,ioF,ioP] at h ⊢
  cases hm:A.mode f i with
  | io=>
   simp only [hm] at h ⊢
   rw [Je] at h
   obtain ⟨k1,k2,k3⟩:=qq hK h.1
   obtain ⟨m1,m2,m3⟩:=VU hK h.2
   refine ⟨by rw [k1,m1];rfl,fun s hs=>?_,fun s hs=>?_⟩
   ·split at hs
    ·rcases List.mem_cons.1 hs with rfl | hs
     ·exact k2 _ _ _ rfl
     ·exact m2 s hs
    ·exact m2 s hs
   ·split at hs
    ·rcases List.mem_cons.1 hs with rfl | hs
     ·exact k3 _ _ rfl
     ·exact m3 s hs
    ·exact m3 s hs
  | lend=>simp only [hm] at h ⊢;exact VU hK h
  | take=>simp only [hm] at h ⊢;exact VU hK h
  | keep=>simp only [hm] at h ⊢;exact VU hK h
theorem P8 {K:List Nat} {b b':BL} (hK:AgK K b b') {s:Nat} (hs:s ∈ K) (hn:s ∉ Jv b') (h:bor (JT (Jv b) s) (match Jb b s with | some _=>true | none=>false)=false) :
  bor (JT (Jv b') s) (match Jb b' s with | some _=>true | none=>false)=false:=by
 rw [OQ] at h ⊢
 refine ⟨?_,?_⟩
 ·cases hi:JT (Jv b') s with
  | false=>rfl
  | true=>exact absurd (UJ.1 hi) hn
 ·rw [hK.on s hs];exact h.2
theorem qr {K:List Nat} {b b' b1:BL} {v x:V} (h:Ou b v x=some b1) (hK:AgK K b b') (hx:Jd x=[]) (hf:∀ s p e,v=.full s p e→s ∈ K∧s ∉ Jv b') (hp:∀ s p,v=.ptr s p→s ∈ K∧s ∉ Jv b') :
  ∃ b1',Ou b' v x=some b1'∧AgK K b1 b1'∧StK K b' b1':=by
 unfold Ou at h ⊢
 split at h
 ·rename_i s p e
  obtain ⟨hs,hn⟩:=hf _ _ _ rfl
  split at h
  ·split at h
   ·rename_i e1 l
    split at h
    ·rename_i hb
     simp only [oj] at h
     subst h
     have hx':∀ t,t ∈ Jd (V.own e1 l)→t ∈ Jv b':=fun t ht=>by simp [Jd] at ht
     split
     ·exact ⟨_,rfl,(hK.set hs hx').1,(hK.set hs hx').2⟩
     ·rename_i ht
      exact absurd (ht.symm.trans (P8 hK hs hn hb)) (by simp)
    ·cases h
   ·cases h
  ·cases h
 ·rename_i s p
  obtain ⟨hs,hn⟩:=hp _ _ rfl
  split at h
  ·split at h
   ·rename_i y
    split at h
    ·rename_i hb
     simp only [oj] at h
     subst h
     have hx':∀ t,t ∈ Jd (V.obox y)→t ∈ Jv b':=fun t ht=>by rw [hx] at ht;cases ht
     split
     ·exact ⟨_,rfl,(hK.set hs hx').1,(hK.set hs hx').2⟩
     ·rename_i ht
      exact absurd (ht.symm.trans (P8 hK hs hn hb)) (by simp)
    ·cases h
   ·cases h
  ·cases h
 ·cases h
theorem WO {A:Ann} {f:FuncId} {kp:Bool} {K:List Nat}:∀ {vs xs:List V} {i:Nat} {b b' b1:BL},Ua A kp f i b vs xs=some b1→AgK K b b'→(∀ s,s ∈ ioF A f i vs→s ∈ K∧s ∉ Jv b')→(∀ s,s ∈ ioP A f i vs→s ∈ K∧s ∉ Jv b') →
  ∃ b1',Ua A kp f i b' vs xs=some b1'∧AgK K b1 b1'∧StK K b' b1'
 | [],[],i,b,b',b1,h,hK,_,_=>by
  simp only [Ua,oj] at h ⊢
  subst h
  exact ⟨b',rfl,hK,StK.refl⟩
 | v :: vs,[],i,b,b',b1,h,_,_,_=>by simp [Ua] at h
 | [],x :: xs,i,b,b',b1,h,_,_,_=>by simp [Ua] at h
 | v :: vs,x :: xs,i,b,b',b1,h,hK,hf,hp=>by
  simp only [Ua,ioF,ioP] at h hf hp ⊢
  cases hm:A.mode f i with
  | io=>
   simp only [hm] at h hf hp ⊢
   split at h
   ·rename_i hb
    have hx:Jd x=[]:=by
     rw [Co,Je] at hb
     rcases hb with hb | hb
     ·exact WM x hb
     ·exact Xz hb.2
    split at h
    ·rename_i b2 hr
     obtain ⟨b2',k1,k2,k3⟩:=qr hr hK hx (fun s p e he=>by subst he;exact hf s (by simp)) (fun s p he=>by subst he;exact hp s (by simp))
     have up:∀ {s:Nat},s ∈ K∧s ∉ Jv b'→s ∈ K∧s ∉ Jv b2':=fun q=>⟨q.1,fun hm=>q.2 (k3.names _ hm)⟩
     obtain ⟨b3',m1,m2,m3⟩:=WO h k2 (fun s hs=>up (hf s (by split<;>simp [hs]))) (fun s hs=>up (hp s (by split<;>simp [hs])))
     exact ⟨b3',by simp only [hb,k1,m1],m2,k3.trans m3⟩
    ·cases h
   ·cases h
  | lend=>simp only [hm] at h hf hp ⊢;exact WO h hK hf hp
  | take=>simp only [hm] at h hf hp ⊢;exact WO h hK hf hp
  | keep=>simp only [hm] at h hf hp ⊢;exact WO h hK hf hp
section
variable {P:Program} {A:Ann} {w w' w0:World} {F0:List Nat} {sl sl':List V} {a:Act} {b b' b1 bl:BL} {G:GT} {o:Oper} {v:V} {c:List Jk}
def X1 (P:Program) (o:Oper) (sl:List V) (b:BL) (v:V) (b1:BL) (rd T W N L qf qp:List Nat):Prop:=
 (∀ s,s ∉ W→Jb b1 s=Jb b s) ∧
 ∀ sl' b',(∀ t ∈ rd,Jw sl' t=Jw sl t)→QP b b' T→XV b b' L→(∀ s ∈ N,s ∉ Jl sl'∧s ∉ Jv b')→Ub qf qp sl'=true→(∀ s,s ∈ qf ∨ s ∈ qp→s ∉ Jv b') →
  ∃ b1',UW P o sl' b' v b1'∧(∀ s ∈ W,Jb b1' s=Jb b1 s)∧(∀ s,s ∉ W→Jb b1' s=Jb b' s)
theorem OT.q {rd T W N L qf qp:List Nat} (h:OT P o sl b v b1 rd T W N L):X1 P o sl b v b1 rd T W N L qf qp:=
 ⟨h.1,fun sl' b' h1 h2 h3 h4 _ _=>h.2 sl' b' h1 h2 h3 h4⟩
theorem qs {g:FuncId} {bR bW b2 b1':BL} {K:List Nat} {ts:List Ty} {vs:List V} {r:List Jk × List V} (hR:∀ s,s ∉ K→∀ c,Jb bR s=some c→Jb b1' s=some c) (hK:AgK K b2 b1')
  (h:Q9 A g (CQ bR K b2) 0 ts vs=some r):Q9 A g b1' 0 ts vs=some r:=by
 refine Kv (fun s c hc=>?_) h
 rw [XZ hK.off] at hc
 split at hc
 ·rename_i hs;rw [hK.on s hs];exact hc
 ·rename_i hs;exact hR s hs c hc
theorem qt {cl:Call} {fo:Operand} {g:FuncId} {caps:List V} (ho:o.op=.call cl) (hcal:cl.callee=.value fo) (hf:opd sl fo=.fn g caps)
  {ts:List Ty} (hnt:Q0 (Jm sl cl.args.toList)=true) (hna:HJ caps=true) {bW bR b2 b3:BL} (hW:CR bW b) (hR:CR bR b)
  (hroots:Hg A g bW 0 (cat (Jm sl cl.args.toList) caps)=true) {ws us:List V} {c c':List Jk} {res:V} {outs:List V}
  (hp:Hv A g 0 bW (cat (Jm sl cl.args.toList) caps)=some (c,ws,b2)) (hp2:Q9 A g (CQ bR (QC bW) b2) 0 ts ws=some (c',us)) (hk:∀ x ∈ cat c c',x.ok)
  (hco:HR P (fun i=>Qh (A.mode g i)) g us res outs) (how:Qc res=true)
  (hre:Ua A (UO A g 0 us) g 0 b2 (cat (Jm sl cl.args.toList) caps) outs=some b3) (hpl:Uc sl (CQ b (QC bW) b3) o.dst res=some (v,b1)) {gs:List Nat} :
  X1 P o sl b v b1 (cat gs (Ul (Jn o.op))) (cat (cat (QC bR) (QC bW)) (Um o.dst res)) (cat (QC bW) (Um o.dst res)) (Um o.dst res) []
   (ioF A g 0 (cat (Jm sl cl.args.toList) caps)) (ioP A g 0 (cat (Jm sl cl.args.toList) caps)):=by
 have hops:Jn o.op=fo :: cl.args.toList:=by rw [ho];simp [Jn,hcal]
 have key:∀ b',QP b b' (cat (cat (QC bR) (QC bW)) (Um o.dst res))→(∀ s,s ∈ ioF A g 0 (cat (Jm sl cl.args.toList) caps) ∨ s ∈ ioP A g 0 (cat (Jm sl cl.args.toList) caps)→s ∉ Jv b') →
   ∃ b2' b3',O9 A g b' ts (cat (Jm sl cl.args.toList) caps)=some (cat c c',us,b2')∧Ua A (UO A g 0 us) g 0 b2' (cat (Jm sl cl.args.toList) caps) outs=some b3'∧AgK (QC bW) b3 b3'∧StK (QC bW) b' b3' ∧
    Hg A g b' 0 (cat (Jm sl cl.args.toList) caps)=true:=by
  intro b' h2 hq
  have hK:AgK (QC bW) bW b':=by
   refine ⟨fun s hs=>?_,fun s hs=>P7 hs⟩
   cases hl:Jb bW s with
   | none=>
    exfalso
    have:∀ {b:BL} {s:Nat},s ∈ QC b→Jb b s ≠ none:=by
     intro b
     induction b with
     | nil=>intro s h;simp [QC] at h
     | cons x r ih=>
      obtain ⟨k,u⟩:=x
      intro s h
      simp only [QC,List.mem_cons] at h
      simp only [Jb]
      split
      ·simp
      ·rename_i hb
       rcases h with rfl | h
       ·rw [Nat.beq_refl] at hb;cases hb
       ·exact ih h
    exact this hs hl
   | some x=>rw [h2 s (by simp only [Ju];exact .inl (.inr hs))];exact hW s x hl
  obtain ⟨r1,r2,r3⟩:=VU hK hroots
  obtain ⟨b2',k1,k2,k3⟩:=KL hp hK
  have hl:=qs (b1':=b2') (bR:=bR) (bW:=bW) (fun s hs x hx=>by
   rw [k3.look s hs,h2 s (by simp only [Ju];exact .inl (.inl (Kw hx)))]
   exact hR s x hx) k2 hp2
  obtain ⟨b3',m1,m2,m3⟩:=WO hre k2 (fun s hs=>⟨r2 s hs,fun hm=>hq s (.inl hs) (k3.names s hm)⟩) (fun s hs=>⟨r3 s hs,fun hm=>hq s (.inr hs) (k3.names s hm)⟩)
  exact ⟨b2',b3',by unfold O9;simp only [k1,hl],m1,m2,k3.trans m3,r1⟩
 have off3:∀ s,s ∉ QC bW→Jb b3 s=none:=by
  have hK:AgK (QC bW) bW bW:=⟨fun _ _=>rfl,fun s hs=>P7 hs⟩
  obtain ⟨b2',k1,k2,k3⟩:=KL hp hK
  have hre':∀ {vs xs:List V} {i:Nat} {b b1:BL} {kp:Bool},Ua A kp g i b vs xs=some b1→(∀ s,s ∉ QC bW→Jb b s=none)→(∀ s,s ∈ ioF A g i vs→s ∈ QC bW)→(∀ s,s ∈ ioP A g i vs→s ∈ QC bW)→∀ s,s ∉ QC bW→Jb b1 s=none:=by
   intro vs
   induction vs with
   | nil=>
    intro xs i b b1 kp h h0 _ _
    cases xs with
    | nil=>simp only [Ua,oj] at h;subst h;exact h0
    | cons x xs=>simp [Ua] at h
   | cons v vs ih=>
    intro xs i b b1 kp h h0 hf hp
    cases xs with
    | nil=>simp [Ua] at h
    | cons x xs=>
     simp only [Ua,ioF,ioP] at h hf hp
     cases hm:A.mode g i with
     | io=>
      simp only [hm] at h hf hp
      split at h
      ·split at h
       ·rename_i b2 hr
        refine ih h ?_ (fun s hs=>hf s (by split<;>simp [hs])) (fun s hs=>hp s (by split<;>simp [hs]))
        intro s hs
        unfold Ou at hr
        split at hr
        ·split at hr
         ·split at hr
          ·split at hr
           ·simp only [oj] at hr
            subst hr
            rw [JG,if_neg (by rintro rfl;exact hs (hf _ (by simp))),h0 s hs]
           ·cases hr
          ·cases hr
         ·cases hr
        ·split at hr
         ·split at hr
          ·split at hr
           ·simp only [oj] at hr
            subst hr
            rw [JG,if_neg (by rintro rfl;exact hs (hp _ (by simp))),h0 s hs]
           ·cases hr
          ·cases hr
         ·cases hr
        ·cases hr
       ·cases h
      ·cases h
     | lend=>simp only [hm] at h hf hp;exact ih h h0 hf hp
     | take=>simp only [hm] at h hf hp;exact ih h h0 hf hp
     | keep=>simp only [hm] at h hf hp;exact ih h h0 hf hp
  obtain ⟨_,r2,r3⟩:=VU hK hroots
  exact hre' hre k2.off r2 r3
 have base:∀ t,t ∉ Um o.dst res→Jb b1 t=Jb (CQ b (QC bW) b3) t:=by
  cases hd:o.dst with
  | none=>
   rw [hd] at hpl
   simp only [Uc,oj,pj] at hpl
   intro t _;rw [hpl.2]
  | some s=>
   intro t ht
   rw [hd] at hpl
   exact PD hpl t ht
 refine ⟨fun s hs=>?_,fun sl' b' h1 h2 _ h3 h4 h5=>?_⟩
 ·simp only [Ju,not_or] at hs
  rw [base s hs.2,XZ off3,if_neg hs.1]
 ·have hag:Qm sl sl' (Jn o.op):=Hr (fun t ht=>h1 t (by rw [Qd];simp [ht]))
  rw [hops] at hag
  have e1:opd sl' fo=.fn g caps:=by rw [hag fo (by simp),hf]
  have e2:Jm sl' cl.args.toList=Jm sl cl.args.toList:=Qm.map (fun x hx=>hag x (by simp [hx]))
  obtain ⟨b2',b3',k1,k2,k3,k4,k5⟩:=key b' h2 h5
  obtain ⟨b1',p1,p2,p3⟩:=PA (sl':=sl') (b':=b3') hpl (fun t ht=>⟨(h3 t ht).1,fun hm=>(h3 t ht).2 (k4.names t hm)⟩) (fun t ht=>by
   rw [XZ off3]
   split
   ·rename_i hs;exact k3.on t hs
   ·rename_i hs;rw [k4.look t hs];exact h2 t (by simp only [Ju];exact .inr ht))
  refine ⟨b1',PL ho hcal e1 (by rw [e2];exact hnt) hna (by rw [e2];exact k5) (by rw [e2];exact h4) (by rw [e2];exact k1) hk hco how (by rw [e2];exact k2) p1,fun s hs=>?_,fun s hs=>?_⟩
  ·by_cases hr:s ∈ Um o.dst res
   ·exact p2 s hr
   ·simp only [Ju,hr,or_false] at hs
    rw [(p3 s hr).1,(p3 s hr).2,XZ off3,if_pos hs]
    exact k3.on s hs
  ·simp only [Ju,not_or] at hs
   rw [(p3 s hs.2).1,k4.look s hs.1]
end
end Go.Rai
