/- An evaluator of the model's programs over plain values, proved sound, part 4 of 5. It is used by the claim's law; it has no condition of its own. -/
import Derived.Test.YtkanhbelkdpmbaaRaiU3
import Derived.Orders
set_option linter.unusedVariables false
set_option linter.unusedSectionVars false
set_option linter.unusedSimpArgs false
namespace Go.Rai
variable [Inhabited Qe]
def UM (P:Program) (o:Oper) (sl:List V) (b:BL) (v:V) (b1:BL):Prop:=
 ∀ {Pn:Nat→Option Value} {w0:World} {F0:List Nat} {a:Act} {w:World},(∀ t,o.dst=some t→Pn t=none)→Rel Pn w0 F0 ⟨sl,b⟩ a w→∀ {K:Act→World→Prop} {Q:Exit→Act→World→Prop},
  (∀ a' w',Rel Pn w0 F0 ⟨Qx sl o.dst v,b1⟩ a' w'→K a' w')→o.wp P a w K Q
def Loc (P:Program) (o:Oper) (sl:List V) (b:BL) (v:V) (b1:BL) (rd T W N:List Nat):Prop:=
 (∀ s,s ∉ W→Jb b1 s=Jb b s) ∧
 ∀ sl' b',(∀ t ∈ rd,Jy sl' t=Jy sl t)→QS b b' T→(∀ s ∈ N,s ∉ Jn sl'∧s ∉ Ju b') →
  ∃ b1',UM P o sl' b' v b1'∧(∀ s ∈ W,Jb b1' s=Jb b1 s)∧(∀ s,s ∉ W→Jb b1' s=Jb b' s)
section
variable {P:Program} {A:Ann} {w w' w0:World} {F0:List Nat} {sl sl':List V} {a:Act} {b b' b1:BL} {G:GT} {o:Oper} {v:V} {c:List Jm}
theorem HL (HT:JY P A.ty) (hp:JI A sl b o.dst o.op=some (c,v,b1)) (hk:∀ x ∈ c,x.ok):UM P o sl b v b1:=by
 intro Pn w0 F0 a w hdst hr K Q hK
 obtain ⟨⟨G,hc,hs⟩,hl,hd,hpin⟩:=hr
 obtain ⟨vv,w',G',hrun,k1,k2,k3⟩:=MS (o:=o) HT hc hs rfl hp hk
 have hrel:=Rel.put (d:=o.dst) k1 k2 hl hd hpin hdst k3
 unfold Oper.wp
 rcases hrun with hrun | ⟨hrun,hvv⟩
 ·rw [hrun]; exact hK _ _ hrel
 ·rw [hrun]; subst hvv; exact hK _ _ hrel
theorem je (HT:JY P A.ty) (hcl:(match cls o.op with | .read=>true | _=>false)=true) (hp:JI A sl b o.dst o.op=some (c,v,b1)) (hk:∀ x ∈ c,x.ok) {g:List Nat} :
  Loc P o sl b v b1 (cat g (Ue (Jp o.op))) (Jn (Jo sl (Jp o.op))) [] []:=by
 have h0:=(Y6 (A:=A) (sl:=sl) (sl':=sl) (b:=b) (b':=b) (d:=o.dst) hcl (fun _ _=>rfl) (fun _ _=>rfl) c v b1 hp).1
 subst h0
 refine ⟨fun _ _=>rfl,fun sl' b' h1 h2 h3=>?_⟩
 have ho:Ql sl sl' (Jp o.op):=Hs (fun t ht=>h1 t (by rw [J8]; simp [ht]))
 exact ⟨b',HL HT (Y6 hcl ho h2 c v b1 hp).2 hk,fun s hs=>(by cases hs),fun _ _=>rfl⟩
def Oz (c:V) (p:List Nat) (e:Ty) (n:Nat):Prop:=c.outer p=true∧∃ l,c.get p=some ([],.own e l)∧l.length=n
def sim (c c':V):Prop:=∀ p e n,Oz c p e n ↔ Oz c' p e n
def UN (x y:Option V):Prop:=(x=none∧y=none) ∨ ∃ c c',x=some c∧y=some c'∧sim c c'
theorem jf (c:V):sim c c:=fun _ _ _=>Iff.rfl
theorem Ws (x:Option V):UN x x:=by
 cases x with
 | none=>exact .inl ⟨rfl,rfl⟩
 | some c=>exact .inr ⟨c,c,rfl,rfl,jf c⟩
theorem jg {x y:Option V} (h:UN x y):UN y x:=by
 rcases h with ⟨h1,h2⟩ | ⟨c,c',h1,h2,h3⟩
 ·exact .inl ⟨h2,h1⟩
 ·exact .inr ⟨c',c,h2,h1,fun p e n=>(h3 p e n).symm⟩
theorem SU {x y z:Option V} (h:UN x y) (h':UN y z):UN x z:=by
 rcases h with ⟨h1,h2⟩ | ⟨c,c',h1,h2,h3⟩
 ·rcases h' with ⟨k1,k2⟩ | ⟨d,d',k1,k2,k3⟩
  ·exact .inl ⟨h1,k2⟩
  ·rw [h2] at k1; cases k1
 ·rcases h' with ⟨k1,k2⟩ | ⟨d,d',k1,k2,k3⟩
  ·rw [h2] at k1; cases k1
  ·rw [h2] at k1
   simp only [oj] at k1
   subst k1
   exact .inr ⟨c,d',h1,k2,fun p e n=>(h3 p e n).trans (k3 p e n)⟩
theorem Cl {α:Type}:∀ (l:List α) (j i:Nat) (x:α),nth (JF l j x) i=if i=j then (match nth l j with | some _=>some x | none=>none) else nth l i
 | [],j,i,x=>by
  simp only [JF,nth]
  split <;> rfl
 | a :: l,0,i,x=>by
  cases i with
  | zero=>simp [JF,nth]
  | succ i=>simp [JF,nth]
 | a :: l,j + 1,i,x=>by
  cases i with
  | zero=>simp [JF,nth]
  | succ i=>
   simp only [JF,nth,Cl l j i x]
   by_cases h:i=j
   ·simp [h]
   ·simp [h]
theorem C1 {c:V} {e:Ty} {n:Nat} (h:∀ e' l,c ≠ .own e' l):¬ Oz c [] e n:=by
 rintro ⟨_,l,h1,_⟩
 simp only [V.get,oj,pj,true_and] at h1
 exact h _ _ h1
theorem Hg {c y:V} {j:Nat} {p:List Nat} {e:Ty} {n:Nat} (h1:∀ e' l,c ≠ .own e' l) (h2:∀ m e' l,c ≠ .arr m e' l) (hs:c.step j=some ([],y)):Oz c (j :: p) e n ↔ Oz y p e n:=by
 have ho:c.outer (j :: p)=y.outer p:=by
  cases c <;> first | exact absurd rfl (h1 _ _) | exact absurd rfl (h2 _ _ _) | (simp only [V.outer,hs])
 have hg:c.get (j :: p)=(match y.get p with | some (c',z)=>some (c',z) | none=>none):=by
  simp only [V.get,hs,cat]
  cases y.get p <;> rfl
 unfold Oz
 rw [ho,hg]
 cases hy:y.get p with
 | none=>rfl
 | some q=>rfl
theorem Vq {c:V} {j:Nat} {p:List Nat} {e:Ty} {n:Nat} (hs:c.step j=none):¬ Oz c (j :: p) e n:=by
 rintro ⟨_,l,h1,_⟩
 simp only [V.get,hs] at h1
 cases h1
theorem SV:∀ (q:List Nat) (c x:V),(∃ r,c.get q=some r)→c.outer q=false→sim c (c.set q x)
 | [],c,x,_,h=>by simp [V.outer] at h
 | j :: q,c,x,hg,h=>by
  have go:∀ (y:V),c.step j=some ([],y)→(∀ e' l,c ≠ .own e' l)→(∀ m e' l,c ≠ .arr m e' l)→sim y (y.set q x):=by
   intro y hs h1 h2
   refine SV q y x ?_ ?_
   ·obtain ⟨r,hr⟩:=hg
    simp only [V.get,hs] at hr
    cases hy:y.get q with
    | none=>rw [hy] at hr; cases hr
    | some z=>exact ⟨z,rfl⟩
   ·cases c <;> first | exact absurd rfl (h1 _ _) | exact absurd rfl (h2 _ _ _) | (simp only [V.outer,hs] at h; exact h)
  obtain ⟨r,hr⟩:=hg
  cases c with
  | own e0 l=>
   intro p e n
   cases p with
   | nil=>
    simp only [V.set,V.step,V.put]
    constructor
    ·rintro ⟨_,l',h1,h2⟩
     simp only [V.get,oj,pj,true_and,V.own.injEq] at h1
     obtain ⟨rfl,rfl⟩:=h1
     exact ⟨rfl,_,rfl,by simpa using h2⟩
    ·rintro ⟨_,l',h1,h2⟩
     simp only [V.get,oj,pj,true_and,V.own.injEq] at h1
     obtain ⟨rfl,rfl⟩:=h1
     exact ⟨rfl,_,rfl,by simpa using h2⟩
   | cons i p=>
    simp only [V.set,V.step,V.put]
    constructor <;> (rintro ⟨h1,_⟩; simp [V.outer] at h1)
  | arr m e0 l=>
   intro p e n
   cases p with
   | nil=>
    simp only [V.set,V.step,V.put]
    constructor <;> (rintro ⟨_,l',h1,h2⟩; simp [V.get] at h1)
   | cons i p=>
    simp only [V.set,V.step,V.put]
    constructor <;> (rintro ⟨h1,_⟩; simp [V.outer] at h1)
  | agg vs=>
   cases hn:nth vs j with
   | none=>simp [V.get,V.step,hn] at hr
   | some y=>
    have hy:=go y (by simp [V.step,hn]) (by intro _ _ h; cases h) (by intro _ _ _ h; cases h)
    intro p e n
    simp only [V.set,V.step,hn,V.put]
    cases p with
    | nil=>exact ⟨fun h=>absurd h (C1 (by intro _ _ h; cases h)),fun h=>absurd h (C1 (by intro _ _ h; cases h))⟩
    | cons i p=>
     by_cases hij:i=j
     ·subst hij
      rw [Hg (y:=y) (by intro _ _ h; cases h) (by intro _ _ _ h; cases h) (by simp [V.step,hn]),Hg (y:=y.set q x) (by intro _ _ h; cases h) (by intro _ _ _ h; cases h) (by simp [V.step,Cl,hn])]
      exact hy p e n
     ·cases hi:nth vs i with
      | none=>exact ⟨fun h=>absurd h (Vq (by simp [V.step,hi])),fun h=>absurd h (Vq (by simp [V.step,Cl,hij,hi]))⟩
      | some z=>rw [Hg (y:=z) (by intro _ _ h; cases h) (by intro _ _ _ h; cases h) (by simp [V.step,hi]),Hg (y:=z) (by intro _ _ h; cases h) (by intro _ _ _ h; cases h) (by simp [V.step,Cl,hij,hi])]
  | lst e0 vs=>
   cases hn:nth vs j with
   | none=>simp [V.get,V.step,hn] at hr
   | some y=>
    have hy:=go y (by simp [V.step,hn]) (by intro _ _ h; cases h) (by intro _ _ _ h; cases h)
    intro p e n
    simp only [V.set,V.step,hn,V.put]
    cases p with
    | nil=>exact ⟨fun h=>absurd h (C1 (by intro _ _ h; cases h)),fun h=>absurd h (C1 (by intro _ _ h; cases h))⟩
    | cons i p=>
     by_cases hij:i=j
     ·subst hij
      rw [Hg (y:=y) (by intro _ _ h; cases h) (by intro _ _ _ h; cases h) (by simp [V.step,hn]),Hg (y:=y.set q x) (by intro _ _ h; cases h) (by intro _ _ _ h; cases h) (by simp [V.step,Cl,hn])]
      exact hy p e n
     ·cases hi:nth vs i with
      | none=>exact ⟨fun h=>absurd h (Vq (by simp [V.step,hi])),fun h=>absurd h (Vq (by simp [V.step,Cl,hij,hi]))⟩
      | some z=>rw [Hg (y:=z) (by intro _ _ h; cases h) (by intro _ _ _ h; cases h) (by simp [V.step,hi]),Hg (y:=z) (by intro _ _ h; cases h) (by intro _ _ _ h; cases h) (by simp [V.step,Cl,hij,hi])]
  | fn f vs=>
   cases hn:nth vs j with
   | none=>simp [V.get,V.step,hn] at hr
   | some y=>
    have hy:=go y (by simp [V.step,hn]) (by intro _ _ h; cases h) (by intro _ _ _ h; cases h)
    intro p e n
    simp only [V.set,V.step,hn,V.put]
    cases p with
    | nil=>exact ⟨fun h=>absurd h (C1 (by intro _ _ h; cases h)),fun h=>absurd h (C1 (by intro _ _ h; cases h))⟩
    | cons i p=>
     by_cases hij:i=j
     ·subst hij
      rw [Hg (y:=y) (by intro _ _ h; cases h) (by intro _ _ _ h; cases h) (by simp [V.step,hn]),Hg (y:=y.set q x) (by intro _ _ h; cases h) (by intro _ _ _ h; cases h) (by simp [V.step,Cl,hn])]
      exact hy p e n
     ·cases hi:nth vs i with
      | none=>exact ⟨fun h=>absurd h (Vq (by simp [V.step,hi])),fun h=>absurd h (Vq (by simp [V.step,Cl,hij,hi]))⟩
      | some z=>rw [Hg (y:=z) (by intro _ _ h; cases h) (by intro _ _ _ h; cases h) (by simp [V.step,hi]),Hg (y:=z) (by intro _ _ h; cases h) (by intro _ _ _ h; cases h) (by simp [V.step,Cl,hij,hi])]
  | obox y=>
   have hy:=go y (by simp [V.step]) (by intro _ _ h; cases h) (by intro _ _ _ h; cases h)
   intro p e n
   simp only [V.set,V.step,V.put]
   cases p with
   | nil=>exact ⟨fun h=>absurd h (C1 (by intro _ _ h; cases h)),fun h=>absurd h (C1 (by intro _ _ h; cases h))⟩
   | cons i p=>
    rw [Hg (y:=y) (by intro _ _ h; cases h) (by intro _ _ _ h; cases h) (by simp [V.step]),Hg (y:=y.set q x) (by intro _ _ h; cases h) (by intro _ _ _ h; cases h) (by simp [V.step])]
    exact hy p e n
  | _=>simp [V.get,V.step] at hr
theorem SW:∀ (p:List Nat) (c:V) {cs:List Jm} {x:V},c.outer p=true→c.get p=some (cs,x)→cs=[]
 | [],c,cs,x,_,h=>by simp only [V.get,oj,pj] at h; exact h.1.symm
 | j :: p,c,cs,x,ho,h=>by
  have go:∀ y,c.step j=some ([],y)→y.outer p=true→cs=[]:=by
   intro y hs hy
   simp only [V.get,hs,cat] at h
   cases hz:y.get p with
   | none=>rw [hz] at h; cases h
   | some q=>
    obtain ⟨c',z⟩:=q
    rw [hz] at h
    simp only [oj,pj] at h
    rw [← h.1]
    exact SW p y hy hz
  cases c with
  | own e l=>simp [V.outer] at ho
  | arr n e l=>simp [V.outer] at ho
  | agg vs=>
   cases hn:nth vs j with
   | none=>simp [V.outer,V.step,hn] at ho
   | some y=>exact go y (by simp [V.step,hn]) (by simpa [V.outer,V.step,hn] using ho)
  | lst e vs=>
   cases hn:nth vs j with
   | none=>simp [V.outer,V.step,hn] at ho
   | some y=>exact go y (by simp [V.step,hn]) (by simpa [V.outer,V.step,hn] using ho)
  | fn f vs=>
   cases hn:nth vs j with
   | none=>simp [V.outer,V.step,hn] at ho
   | some y=>exact go y (by simp [V.step,hn]) (by simpa [V.outer,V.step,hn] using ho)
  | obox y=>exact go y (by simp [V.step]) (by simpa [V.outer,V.step] using ho)
  | _=>simp [V.outer,V.step] at ho
def XA (b b':BL) (L:List Nat):Prop:=∀ s ∈ L,UN (Jb b s) (Jb b' s)
theorem SX {b b':BL} {s:Nat} {p:List Nat} {cs:List Jm} {e:Ty} {l:List D} {c0:V} (h0:Jb b s=some c0) (ho:c0.outer p=true) (h:UN (Jb b s) (Jb b' s)) (hg:J1 b s p=some (cs,.own e l)) :
  cs=[]∧∃ l',J1 b' s p=some ([],.own e l')∧l'.length=l.length:=by
 unfold J1 at hg
 rw [h0] at hg
 simp only at hg
 have hcs:=SW p c0 ho hg
 subst hcs
 refine ⟨rfl,?_⟩
 rcases h with ⟨h1,_⟩ | ⟨c,c',h1,h2,h3⟩
 ·rw [h0] at h1; cases h1
 ·rw [h0] at h1
  simp only [oj] at h1
  subst h1
  obtain ⟨_,l',k1,k2⟩:=(h3 p e l.length).1 ⟨ho,l,hg,rfl⟩
  exact ⟨l',by unfold J1; rw [h2]; exact k1,k2⟩
theorem jh {x:V} {s:Nat} (h:Vj b x=some s):(∃ p e c0,x=.full s p e∧Jb b s=some c0∧c0.outer p=true) ∨ (∃ p o n e c0,x=.sub s p o n e∧Jb b s=some c0∧c0.outer p=true):=by
 unfold Vj at h
 split at h
 ·split at h
  ·rename_i c0 hc
   split at h
   ·rename_i ho
    simp only [oj] at h
    subst h
    exact .inl ⟨_,_,c0,rfl,hc,ho⟩
   ·cases h
  ·cases h
 ·split at h
  ·rename_i c0 hc
   split at h
   ·rename_i ho
    simp only [oj] at h
    subst h
    exact .inr ⟨_,_,_,_,c0,rfl,hc,ho⟩
   ·cases h
  ·cases h
 ·cases h
theorem ji {t:Ty} {x i:V} {s:Nat} (hL:Vj b x=some s) (h:UN (Jb b s) (Jb b' s)) (hp:Cn t b x i=some (c,v,b1)) (hk:∀ k ∈ c,k.ok):∃ c',Cn t b' x i=some (c',v,b')∧(∀ k ∈ c',k.ok)∧b1=b:=by
 unfold Cn at hp ⊢
 rcases jh hL with ⟨p,e,c0,rfl,h0,ho⟩ | ⟨p,off,n,e,c0,rfl,h0,ho⟩
 ·split at hp
  ·rename_i i' hi
   simp only [hi]
   cases t with
   | slice e1=>
    simp only at hp ⊢
    split at hp
    ·rename_i cs e' l hg
     obtain ⟨rfl,l',k1,k2⟩:=SX h0 ho h hg
     split at hp
     ·rename_i hb
      simp only [oj,pj] at hp
      obtain ⟨rfl,rfl,rfl⟩:=hp
      refine ⟨cat [] [.ix i' l'.length],by simp only [k1,hb],?_,rfl⟩
      intro k hk'
      simp only [cat,List.mem_singleton] at hk'
      subst hk'
      have:=hk (.ix i' l.length) (by simp [cat])
      simp only [Jm.ok,k2] at this ⊢
      exact this
     ·cases hp
    ·cases hp
   | arr m e1=>
    simp only at hp
    cases hp
   | _=>simp only at hp; cases hp
  ·cases hp
 ·split at hp
  ·rename_i i' hi
   simp only [hi]
   cases t with
   | slice e1=>
    simp only at hp ⊢
    split at hp
    ·rename_i cs e' l hg
     obtain ⟨rfl,l',k1,k2⟩:=SX h0 ho h hg
     split at hp
     ·rename_i hb
      simp only [oj,pj] at hp
      obtain ⟨rfl,rfl,rfl⟩:=hp
      refine ⟨cat [] [.ix i' n,.le (off + n) l'.length],by simp only [k1,hb],?_,rfl⟩
      intro k hk'
      have e1:=hk (.ix i' n) (by simp [cat])
      have e2:=hk (.le (off + n) l.length) (by simp [cat])
      simp only [cat,List.mem_cons,List.not_mem_nil,or_false] at hk'
      rcases hk' with rfl | rfl
      ·exact e1
      ·simp only [Jm.ok,k2] at e2 ⊢
       exact e2
     ·cases hp
    ·cases hp
   | arr m e1=>
    simp only at hp
    cases hp
   | _=>simp only at hp; cases hp
  ·cases hp
def OA (P:Program) (o:Oper) (sl:List V) (b:BL) (v:V) (b1:BL) (rd T W N L:List Nat):Prop:=
 (∀ s,s ∉ W→Jb b1 s=Jb b s) ∧
 ∀ sl' b',(∀ t ∈ rd,Jy sl' t=Jy sl t)→QS b b' T→XA b b' L→(∀ s ∈ N,s ∉ Jn sl'∧s ∉ Ju b') →
  ∃ b1',UM P o sl' b' v b1'∧(∀ s ∈ W,Jb b1' s=Jb b1 s)∧(∀ s,s ∉ W→Jb b1' s=Jb b' s)
theorem Loc.l {rd T W N L:List Nat} (h:Loc P o sl b v b1 rd T W N):OA P o sl b v b1 rd T W N L:=
 ⟨h.1,fun sl' b' h1 h2 _ h3=>h.2 sl' b' h1 h2 h3⟩
theorem jj (HT:JY P A.ty) (hcl:(match cls o.op with | .read=>true | _=>false)=true) (hp:JI A sl b o.dst o.op=some (c,v,b1)) (hk:∀ x ∈ c,x.ok) {g:List Nat} :
  OA P o sl b v b1 (cat g (Ue (Jp o.op))) (Vk ⟨sl,b⟩ o.op) [] [] (Wk ⟨sl,b⟩ o.op):=by
 have old:(Jn (Jo sl (Jp o.op))=Vk ⟨sl,b⟩ o.op)→OA P o sl b v b1 (cat g (Ue (Jp o.op))) (Vk ⟨sl,b⟩ o.op) [] [] (Wk ⟨sl,b⟩ o.op):=by
  intro he
  rw [← he]
  exact (je HT hcl hp hk).l
 have h0:=(Y6 (A:=A) (sl:=sl) (sl':=sl) (b:=b) (b':=b) (d:=o.dst) hcl (fun _ _=>rfl) (fun _ _=>rfl) c v b1 hp).1
 subst h0
 have new:(∀ sl' b',Ql sl sl' (Jp o.op)→H2 b1 b' (JI A sl b1 o.dst o.op) (JI A sl' b' o.dst o.op))→OA P o sl b1 v b1 (cat g (Ue (Jp o.op))) (Vk ⟨sl,b1⟩ o.op) [] [] (Wk ⟨sl,b1⟩ o.op):=by
  intro hm
  refine ⟨fun _ _=>rfl,fun sl' b' h1 _ _ _=>?_⟩
  have ho:Ql sl sl' (Jp o.op):=Hs (fun t ht=>h1 t (by rw [J8]; simp [ht]))
  exact ⟨b',HL HT (hm sl' b' ho c v b1 hp).2 hk,fun s hs=>(by cases hs),fun _ _=>rfl⟩
 cases hop:o.op with
 | move x=>rw [← hop]; refine new (fun sl' b' ho=>?_); rw [hop] at ho ⊢; simp only [JI]; rw [ho x (by simp [Jp])]; exact Qj
 | assign x=>rw [← hop]; refine new (fun sl' b' ho=>?_); rw [hop] at ho ⊢; simp only [JI]; rw [ho x (by simp [Jp])]; exact Qj
 | pick q x y=>
  rw [← hop]; refine new (fun sl' b' ho=>?_); rw [hop] at ho ⊢
  simp only [JI]; rw [ho q (by simp [Jp]),ho x (by simp [Jp]),ho y (by simp [Jp])]
  split
  ·exact Qj
  ·exact JC
 | unOp u t x=>
  rw [← hop]; refine new (fun sl' b' ho=>?_); rw [hop] at ho ⊢
  simp only [JI]; rw [ho x (by simp [Jp])]
  split
  ·exact Qj
  ·exact JC
 | field t x f=>
  rw [← hop]; refine new (fun sl' b' ho=>?_); rw [hop] at ho ⊢
  simp only [JI]; rw [ho x (by simp [Jp])]
  split
  ·exact Qj
  ·exact JC
 | extract x i=>
  rw [← hop]; refine new (fun sl' b' ho=>?_); rw [hop] at ho ⊢
  simp only [JI]; rw [ho x (by simp [Jp])]
  split
  ·split
   ·exact Qj
   ·exact JC
  ·exact JC
 | indexAddr t x i=>
  rw [← hop]
  cases hL:Vj b1 (opd sl x) with
  | none=>exact old (by rw [hop]; simp only [Vk,hL,Jp])
  | some s=>
   refine ⟨fun _ _=>rfl,fun sl' b' h1 _ h2 _=>?_⟩
   have ho:Ql sl sl' (Jp o.op):=Hs (fun t ht=>h1 t (by rw [J8]; simp [ht]))
   rw [hop] at hp ho
   simp only [JI] at hp
   obtain ⟨c',k1,k2,_⟩:=ji hL (h2 s (by rw [hop]; simp [Wk,hL])) hp hk
   refine ⟨b',HL HT (c:=c') (b1:=b') ?_ k2,fun s hs=>(by cases hs),fun _ _=>rfl⟩
   rw [hop]
   simp only [JI]
   rw [ho x (by simp [Jp]),ho i (by simp [Jp])]
   exact k1
 | _=>rw [← hop]; exact old (by rw [hop]; rfl)
theorem Wt {x:V} {t:Nat} (h1:Jb b t=none) (h2:t ∉ Jn sl) (h3:t ∉ Ju b) (h4:t ∉ Jf x):Uh sl b x t=true:=by
 unfold Uh
 rw [h1]
 have e1:J3 (Jn sl) t=false:=by cases h:J3 (Jn sl) t with | false=>rfl | true=>exact absurd (UB.1 h) h2
 have e2:J3 (Ju b) t=false:=by cases h:J3 (Ju b) t with | false=>rfl | true=>exact absurd (UB.1 h) h3
 have e3:J3 (Jf x) t=false:=by cases h:J3 (Jf x) t with | false=>rfl | true=>exact absurd (UB.1 h) h4
 simp [e1,e2,e3,bor,J2]
theorem SY {x:V} {t:Nat} (h:Uh sl b x t=true):t ∉ Jf x:=(CS h).2.2.2
def Fr (A:Ann) (op:Op) (sl:List V) (b:BL) (d:Option Nat) (c:List Jm) (v:V) (b1:BL):Prop:=
 ∃ t x,d=some t∧b1=Jx b t x∧Jb b t=none∧t ∉ Jf x ∧
  ∀ sl' b',Ql sl sl' (Jp op)→Uh sl' b' x t=true→JI A sl' b' d op=some (c,v,Jx b' t x)
theorem CG {d:Option Nat} {x:V} {cs:List Jm} (h:Ui cs (fresh sl b d x)=some (c,v,b1)):∃ t,d=some t∧c=cs∧v=Qh t [] x∧b1=Jx b t x∧Jb b t=none∧t ∉ Jf x ∧
  ∀ sl' b',Uh sl' b' x t=true→Ui cs (fresh sl' b' d x)=some (c,v,Jx b' t x):=by
 cases d with
 | none=>simp [fresh,Ui] at h
 | some t=>
  simp only [fresh] at h
  cases hu:Uh sl b x t with
  | false=>rw [hu] at h; simp [Ui] at h
  | true=>
   rw [hu] at h
   simp only [Ui,oj,pj] at h
   obtain ⟨rfl,rfl,rfl⟩:=h
   refine ⟨t,rfl,rfl,rfl,rfl,(CS hu).1,SY hu,fun sl' b' hu'=>?_⟩
   simp only [fresh,hu',Ui]
theorem jk {d:Option Nat} {op:Op} (hcl:(match cls op with | .fresh=>true | _=>false)=true) (hp:JI A sl b d op=some (c,v,b1)):Fr A op sl b d c v b1:=by
 cases op with
 | alloc t=>
  simp only [JI] at hp
  split at hp
  ·rename_i hz
   obtain ⟨t',h1,h2,h3,h4,h5,h6,h7⟩:=CG hp
   exact ⟨t',_,h1,h4,h5,h6,fun sl' b' _ hu=>by simp only [JI,hz]; exact h7 sl' b' hu⟩
  ·cases hp
 | box t x=>
  simp only [JI] at hp
  split at hp
  ·rename_i hz
   obtain ⟨t',h1,h2,h3,h4,h5,h6,h7⟩:=CG hp
   exact ⟨t',_,h1,h4,h5,h6,fun sl' b' ho hu=>by simp only [JI,ho x (by simp [Jp]),hz]; exact h7 sl' b' hu⟩
  ·cases hp
 | makeSlice t l cn=>
  simp only [JI] at hp
  split at hp
  ·rename_i e hty
   split at hp
   ·rename_i hpl
    split at hp
    ·rename_i l' c' hl hc
     obtain ⟨t',h1,h2,h3,h4,h5,h6,h7⟩:=CG hp
     exact ⟨t',_,h1,h4,h5,h6,fun sl' b' ho hu=>by
      simp only [JI,ho l (by simp [Jp]),ho cn (by simp [Jp]),hty,hpl,hl,hc]; exact h7 sl' b' hu⟩
    ·cases hp
   ·cases hp
  ·cases hp
 | buildSlice t n ps=>
  simp only [JI] at hp
  split at hp
  ·rename_i e hty
   split at hp
   ·rename_i hz
    split at hp
    ·rename_i vs hf
     have go:∀ sl' b':_,Ql sl sl' (Jp (.buildSlice t n ps))→JI A sl' b' d (.buildSlice t n ps)=VE e sl' b' d n vs:=by
      intro sl' b' ho
      simp only [JI,hty,hz]
      rw [Ql.opds (sl:=sl) (sl':=sl') (ps:=ps.toList) (by simpa [Jp] using ho),hf]
     unfold VE at hp go
     split at hp
     ·rename_i hfl
      obtain ⟨t',h1,h2,h3,h4,h5,h6,h7⟩:=CG hp
      exact ⟨t',_,h1,h4,h5,h6,fun sl' b' ho hu=>by rw [go sl' b' ho]; simp only [hfl]; exact h7 sl' b' hu⟩
     ·rename_i hfl
      split at hp
      ·split at hp
       ·rename_i hpl
        obtain ⟨t',h1,h2,h3,h4,h5,h6,h7⟩:=CG hp
        exact ⟨t',_,h1,h4,h5,h6,fun sl' b' ho hu=>by rw [go sl' b' ho]; simp only [hfl,hpl]; exact h7 sl' b' hu⟩
       ·cases hp
      ·rename_i hn0
       obtain ⟨t',h1,h2,h3,h4,h5,h6,h7⟩:=CG hp
       exact ⟨t',_,h1,h4,h5,h6,fun sl' b' ho hu=>by
        rw [go sl' b' ho]
        simp only [hfl]
        cases n with
        | zero=>exact absurd rfl hn0
        | succ m=>exact h7 sl' b' hu⟩
    ·cases hp
   ·cases hp
  ·cases hp
 | call cl=>simp only [cls] at hcl; split at hcl <;> first | (cases hcl; done) | (rename_i h; split at h <;> cases h)
 | _=>simp [cls] at hcl
theorem jl (HT:JY P A.ty) (hcl:(match cls o.op with | .fresh=>true | _=>false)=true) (hp:JI A sl b o.dst o.op=some (c,v,b1)) (hk:∀ x ∈ c,x.ok) {g:List Nat} :
  Loc P o sl b v b1 (cat g (Ue (Jp o.op))) (Qf o.dst) (Qf o.dst) (Qf o.dst):=by
 obtain ⟨t,x,e1,e2,e3,e4,e5⟩:=jk hcl hp
 rw [e1]
 refine ⟨fun s hs=>?_,fun sl' b' h1 h2 h3=>?_⟩
 ·rw [e2,JU,if_neg]
  intro h; subst h; exact hs (by simp [Qf])
 ·have ho:Ql sl sl' (Jp o.op):=Hs (fun t ht=>h1 t (by rw [J8]; simp [ht]))
  obtain ⟨n1,n2⟩:=h3 t (by simp [Qf])
  have hu:Uh sl' b' x t=true:=Wt (by rw [h2 t (by simp [Qf])]; exact e3) n1 n2 e4
  have:=e5 sl' b' ho hu
  refine ⟨_,HL HT this hk,fun s hs=>?_,fun s hs=>?_⟩
  ·simp only [Qf,List.mem_singleton] at hs
   subst hs
   rw [e2,JU,JU]; simp
  ·rw [JU,if_neg]
   intro h; subst h; exact hs (by simp [Qf])
theorem jm (HT:JY P A.ty) (hcl:(match cls o.op with | .store=>true | _=>false)=true) (hp:JI A sl b o.dst o.op=some (c,v,b1)) (hk:∀ x ∈ c,x.ok) {g:List Nat} :
  Loc P o sl b v b1 (cat g (Ue (Jp o.op))) (CY ⟨sl,b⟩ o.op) (CY ⟨sl,b⟩ o.op) []:=by
 cases hop:o.op with
 | store t ad x=>
  rw [hop] at hp
  simp only [JI] at hp
  split at hp
  ·cases hp
  ·rename_i hsz
   unfold OQ at hp
   split at hp
   ·rename_i s p had
    split at hp
    ·rename_i c0 hl
     split at hp
     ·rename_i cs y hg
      split at hp
      ·rename_i hf
       split at hp
       ·rename_i hsim
        simp only [oj,pj] at hp
        obtain ⟨rfl,rfl,rfl⟩:=hp
        have hss:CY ⟨sl,b⟩ (.store t ad x)=[s]:=by simp [CY,had,Jf]
        rw [hss]
        refine ⟨fun s' hs=>?_,fun sl' b' h1 h2 h3=>?_⟩
        ·rw [JU,if_neg]
         intro h; subst h; exact hs (by simp)
        ·have ho:Ql sl sl' (Jp (.store t ad x)):=Hs (fun t ht=>h1 t (by rw [J8]; simp [ht]))
         have hl':Jb b' s=some c0:=by rw [h2 s (by simp),hl]
         have hstep:JI A sl' b' o.dst o.op=some (cs,.void,Jx b' s (c0.set p (opd sl x))):=by
          rw [hop]
          simp only [JI,hsz,OQ,ho ad (by simp [Jp]),ho x (by simp [Jp]),had,hl',hg,hf,hsim]
         refine ⟨_,HL HT hstep hk,fun s' hs=>?_,fun s' hs=>?_⟩
         ·simp only [List.mem_singleton] at hs
          subst hs
          rw [JU,JU]; simp
         ·rw [JU,if_neg]
          intro h; subst h; exact hs (by simp)
       ·cases hp
      ·cases hp
     ·cases hp
    ·cases hp
   ·cases hp
 | call cl=>rw [hop] at hcl; simp only [cls] at hcl; split at hcl <;> first | (cases hcl; done) | (rename_i h; split at h <;> cases h)
 | _=>rw [hop] at hcl; simp [cls] at hcl
theorem XB {e:Ty} {x:V} {xs:List D} (hf:e.flat=true) (hs:Xq b x=true) (ha:QS b b' (Jf x)) (h:Uj e b x=some (c,xs,b1)):b1=b∧Uj e b' x=some (c,xs,b'):=by
 have other:∀ y:V,QS b b' (Jf y)→(∀ bb,Uj e bb y=(match UP bb y with | some (c,e',l)=>(match e.beq e' with | true=>some (c,l,bb) | false=>none) | none=>none))→Uj e b y=some (c,xs,b1) →
   b1=b∧Uj e b' y=some (c,xs,b'):=by
  intro y hy hu h
  rw [hu] at h ⊢
  rw [Xz hy]
  split at h
  ·split at h
   ·rename_i hb
    simp only [oj,pj] at h
    obtain ⟨rfl,rfl,rfl⟩:=h
    exact ⟨rfl,by simp only [hb]⟩
   ·cases h
  ·cases h
 cases x with
 | nilsl=>
  simp only [Uj,oj,pj] at h
  obtain ⟨rfl,rfl,rfl⟩:=h
  exact ⟨rfl,by simp only [Uj]⟩
 | emp e'=>
  simp only [Uj,oj,pj] at h
  obtain ⟨rfl,rfl,rfl⟩:=h
  exact ⟨rfl,by simp only [Uj]⟩
 | full s p e0=>
  simp only [Uj] at h ⊢
  rw [H1 (ha s (by simp [Jf]))]
  simp only [Xq] at hs
  cases hg:J1 b s p with
  | none=>rw [hg] at hs; cases hs
  | some q=>
   obtain ⟨c0,y⟩:=q
   rw [hg] at hs h
   cases y with
   | own e' l=>
    simp only at h ⊢
    split at h
    ·rename_i hb
     rw [hf] at h ⊢
     simp only [oj,pj] at h
     obtain ⟨rfl,rfl,rfl⟩:=h
     exact ⟨rfl,by simp only [hb]⟩
    ·cases h
   | _=>simp at hs
 | _=>exact other _ ha (fun bb=>by first | (simp only [Uj,hf]; done) | (simp only [Uj,hf]; rfl)) h
theorem SZ {t s:Nat} (h:s ∉ Ju b):s ∉ Ju (Qb b t):=by
 induction b with
 | nil=>exact h
 | cons a r ih=>
  obtain ⟨k,v⟩:=a
  simp only [Ju,Jv,not_or] at h
  unfold Qb
  split
  ·exact ih h.2
  ·simp only [Ju,Jv,not_or]
   exact ⟨h.1,ih h.2⟩
theorem S0:∀ {vs:List V} {j:Nat} {x:V} {s:Nat},s ∈ Jn (JF vs j x)→s ∈ Jn vs ∨ s ∈ Jf x
 | [],j,x,s,h=>by simp [JF,Jn] at h
 | v :: vs,0,x,s,h=>by
  simp only [JF,Jn,Jv] at h ⊢
  rcases h with h | h
  ·exact .inr h
  ·exact .inl (.inr h)
 | v :: vs,j + 1,x,s,h=>by
  simp only [JF,Jn,Jv] at h ⊢
  rcases h with h | h
  ·exact .inl (.inl h)
  ·rcases S0 h with h | h
   ·exact .inl (.inr h)
   ·exact .inr h
theorem jn {v:V} {j:Nat} {x:V} {s:Nat} (h:s ∈ Jf (v.put j x)):s ∈ Jf v ∨ s ∈ Jf x:=by
 cases v <;> simp only [V.put,Jf] at h ⊢ <;> first | exact S0 h | exact .inr h | exact .inl h | cases h
theorem jo {v y:V} {j:Nat} {c:List Jm} {s:Nat} (h:v.step j=some (c,y)) (hs:s ∈ Jf y):s ∈ Jf v:=by
 have part:∀ {vs:List V},(match nth vs j with | some v=>some (([]:List Jm),v) | none=>none)=some (c,y)→s ∈ Jn vs:=by
  intro vs h
  split at h
  ·rename_i hn
   simp only [oj,pj] at h
   obtain ⟨_,rfl⟩:=h
   exact Ye hn hs
  ·cases h
 have data:∀ {c':List Jm} {t:Ty} {d:D},some (c',dec true t d)=some (c,y)→s ∈ Jf v:=by
  intro c' t d h
  simp only [oj,pj] at h
  obtain ⟨_,rfl⟩:=h
  rw [VM] at hs
  cases hs
 cases v with
 | agg vs=>simp only [Jf]; exact part h
 | lst e vs=>simp only [Jf]; exact part h
 | fn f vs=>simp only [Jf]; exact part h
 | own e l=>exact data h
 | arr n e l=>exact data h
 | obox x=>
  simp only [V.step,oj,pj] at h
  obtain ⟨_,rfl⟩:=h
  simp only [Jf]
  exact hs
 | _=>simp only [V.step] at h; cases h
theorem Y7:∀ {p:List Nat} {v x:V} {s:Nat},s ∈ Jf (v.set p x)→s ∈ Jf v ∨ s ∈ Jf x
 | [],v,x,s,h=>.inr h
 | j :: p,v,x,s,h=>by
  unfold V.set at h
  split at h
  ·rename_i c y hst
   rcases jn h with h | h
   ·exact .inl h
   ·rcases Y7 h with h | h
    ·exact .inl (jo hst h)
    ·exact .inr h
  ·exact .inl h
theorem S1:∀ {b r:BL} {t:Nat},t ∈ Ju (b ++ r)→t ∈ Ju b ∨ t ∈ Ju r
 | [],r,t,h=>.inr h
 | (k,v) :: b,r,t,h=>by
  simp only [List.cons_append,Ju,Jv] at h ⊢
  rcases h with h | h
  ·exact .inl (.inl h)
  ·exact (S1 h).elim (fun h=>.inl (.inr h)) .inr
theorem jp {b:BL} {s t:Nat} {x:V} (h1:t ∉ Ju b) (h2:t ∉ Jf x):t ∉ Ju (Jx b s x):=by
 unfold Jx
 rw [J8]
 intro h
 rcases S1 h with h | h
 ·exact SZ h1 h
 ·simp [Ju,Jv] at h
  exact h2 h
theorem jq (HT:JY P A.ty) (hcl:(match cls o.op with | .app=>true | _=>false)=true) (hok:Xr A ⟨sl,b⟩ o.op=true) (hp:JI A sl b o.dst o.op=some (c,v,b1)) (hk:∀ x ∈ c,x.ok) {g:List Nat} :
  Loc P o sl b v b1 (cat g (Ue (Jp o.op))) (Oy ⟨sl,b⟩ o.dst o.op) (CZ ⟨sl,b⟩ o.dst o.op) (Ch o.dst o.op):=by
 cases hop:o.op with
 | call cl=>
  rw [hop] at hcl hok hp
  cases hcal:cl.callee with
  | builtin f=>
   cases f with
   | append=>
    have hops:Jp (.call cl)=cl.args.toList:=by simp [Jp,hcal]
    simp only [JI,hcal] at hp
    simp only [Xr] at hok
    split at hok
    ·rename_i t ts hts
     split at hok
     ·rename_i e hty
      split at hok
      ·rename_i hflat0
       rw [Je] at hflat0
       obtain ⟨hflat,hnit0⟩:=hflat0
       split at hok
       ·rename_i s x hargs
        rw [hcal] at hok
        simp only at hok
        rw [Je] at hok
        obtain ⟨hroot,hstill⟩:=hok
        have hN:Ch o.dst (.call cl)=Qf o.dst:=by simp only [Ch,hcal]
        have hT:Oy ⟨sl,b⟩ o.dst (.call cl)=cat (cat (Jf s) (cat (Jf x) [])) (Qf o.dst):=by simp only [Oy,hops,hargs,Jn,hN]
        have hW:CZ ⟨sl,b⟩ o.dst (.call cl)=cat (Jf s) (Qf o.dst):=by simp only [CZ,hargs,hN]
        rw [hT,hW,hN]
        rw [hargs,hts] at hp
        have run:∀ (sl':List V) (b':BL),Ql sl sl' (Jp (.call cl))→JI A sl' b' o.dst o.op=Qd A sl' b' o.dst .append (t :: ts) [s,x]:=by
         intro sl' b' ho
         rw [hop]
         simp only [JI,hcal]
         rw [Ql.map (by rw [hops] at ho; exact ho),hargs,hts]
        cases ts with
        | nil=>simp [Qd] at hp
        | cons tx ts=>
         cases ts with
         | cons _ _=>simp [Qd] at hp
         | nil=>
          have hnit:OM (A.ty tx)=false:=by
           cases hq:OM (A.ty tx) with
           | false=>rfl
           | true=>simp only [List.headD_cons,hq,J2] at hnit0; cases hnit0
          simp only [Qd,hty,hnit] at hp
          cases htx:Uz (A.ty tx) with
          | false=>rw [htx] at hp; simp [Qc] at hp
          | true=>
           rw [htx] at hp
           simp only [Qc,H6] at hp
           have run2:∀ (sl':List V) (b':BL),Ql sl sl' (Jp (.call cl))→JI A sl' b' o.dst o.op=H6 e sl' b' o.dst s x:=by
            intro sl' b' ho
            rw [run sl' b' ho]
            simp only [Qd,hty,hnit,htx,Qc]
           cases hpl:Jh e.plain (J2 (Nat.beq e.size 0)) with
           | false=>rw [hpl] at hp; simp at hp
           | true=>
            rw [hpl] at hp
            simp only at hp
            cases hsrc:Uj e b x with
            | none=>rw [hsrc] at hp; cases hp
            | some q=>
             obtain ⟨c0,xs,b0⟩:=q
             rw [hsrc] at hp
             simp only at hp
             have hb0:=(XB (b':=b) hflat hstill (fun _ _=>rfl) hsrc).1
             subst hb0
             have src:∀ b':BL,QS b0 b' (cat (cat (Jf s) (cat (Jf x) [])) (Qf o.dst))→Uj e b' x=some (c0,xs,b'):=fun b' ha=>
              (XB (b':=b') hflat hstill (ha.sub (fun u hu=>by simp only [Jv]; exact .inl (.inr (.inl hu)))) hsrc).2
             have bare:∀ {cs:List Jm},(Jf s=[])→Ui cs (fresh sl b0 o.dst (.own e xs))=some (c,v,b1) →
               (∀ (sl':List V) (b':BL),Uj e b' x=some (c0,xs,b')→H6 e sl' b' o.dst s x=Ui cs (fresh sl' b' o.dst (.own e xs))) →
               Loc P o sl b0 v b1 (cat g (Ue (Jp (.call cl)))) (cat (cat (Jf s) (cat (Jf x) [])) (Qf o.dst)) (cat (Jf s) (Qf o.dst)) (Qf o.dst):=by
              intro cs hs0 hfr happ
              obtain ⟨d,h1,h2,h3,h4,h5,h6,h7⟩:=CG hfr
              subst h2 h3 h4
              rw [hs0,h1]
              refine ⟨fun s' hs'=>?_,fun sl' b' k1 k2 k3=>?_⟩
              ·rw [JU,if_neg]
               intro he; subst he; exact hs' (by simp [cat,Qf])
              ·have ho:Ql sl sl' (Jp (.call cl)):=Hs (fun u hu=>k1 u (by rw [J8]; simp [hu]))
               have k3':=k3 d (by simp [Qf])
               have hun:Uh sl' b' (.own e xs) d=true:=Wt (by rw [k2 d (by simp only [Jv]; exact .inr (by simp [Qf]))]; exact h5) k3'.1 k3'.2 (by simp [Jf])
               have hst:JI A sl' b' o.dst o.op=some (c,Qh d [] (.own e xs),Jx b' d (.own e xs)):=by
                rw [run2 sl' b' ho,happ sl' b' (src b' (by rw [hs0,h1]; exact k2))]
                exact h7 sl' b' hun
               refine ⟨_,HL HT hst hk,fun s' hs'=>?_,fun s' hs'=>?_⟩
               ·simp only [cat,Qf,List.mem_singleton] at hs'
                subst hs'
                rw [JU,JU]; simp
               ·rw [JU,if_neg]
                intro he; subst he; exact hs' (by simp [cat,Qf])
             cases s with
             | nilsl=>exact bare (cs:=cat c0 [.sz 0 xs.length]) rfl hp (fun sl' b' hs'=>by simp only [H6,hpl,Qc,hs'])
             | emp e'=>
              simp only at hp
              cases hee:e.beq e' with
              | false=>rw [hee] at hp; cases hp
              | true=>
               rw [hee] at hp
               exact bare (cs:=cat c0 [.sz 0 xs.length]) rfl hp (fun sl' b' hs'=>by simp only [H6,hpl,Qc,hs',hee])
             | full u p e'=>
              cases p with
              | cons p0 ps=>
               simp only at hp
               cases hee:e.beq e' with
               | false=>rw [hee] at hp; cases hp
               | true=>
                rw [hee] at hp
                cases hu:Jb b0 u with
                | none=>simp [QT,hu] at hp
                | some cu=>
                 cases hg:cu.get (p0 :: ps) with
                 | none=>simp [QT,hu,hg] at hp
                 | some q=>
                  obtain ⟨cg,z⟩:=q
                  cases cg with
                  | cons _ _=>simp [QT,hu,hg] at hp
                  | nil=>
                   cases hbd:Jh (WI z) (cu.outer (p0 :: ps)) with
                   | false=>simp [QT,hu,hg,hbd] at hp
                   | true=>
                    simp only [QT,hu,hg,hbd] at hp
                    cases z with
                    | own e2 l=>
                     simp only at hp
                     cases he2:e.beq e2 with
                     | false=>rw [he2] at hp; simp [Qc] at hp
                     | true=>
                      rw [he2] at hp
                      simp only [Qc] at hp
                      obtain ⟨d,h1,h2,h3,h4,h5,h6,h7⟩:=CG hp
                      subst h2 h3 h4
                      rw [h1]
                      have hs0:Jf (V.full u (p0 :: ps) e')=[u]:=rfl
                      rw [hs0]
                      refine ⟨fun s' hs'=>?_,fun sl' b' k1 k2 k3=>?_⟩
                      ·rw [JU,JU,if_neg,if_neg]
                       ·intro he; subst he; exact hs' (by simp [cat,Qf])
                       ·intro he; subst he; exact hs' (by simp [cat,Qf])
                      ·have ho:Ql sl sl' (Jp (.call cl)):=Hs (fun u hu=>k1 u (by rw [J8]; simp [hu]))
                       have k3':=k3 d (by simp [Qf])
                       have hu':Jb b' u=some cu:=by rw [k2 u (by simp [cat]),hu]
                       have hd':Jb (Jx b' u (cu.set (p0 :: ps) .undef)) d=none:=by
                        rw [JU] at h5 ⊢
                        by_cases hdu:d=u
                        ·rw [if_pos hdu] at h5; cases h5
                        ·rw [if_neg hdu] at h5 ⊢
                         rw [k2 d (by simp only [Jv]; exact .inr (by simp [Qf]))]; exact h5
                       have hun:Uh sl' (Jx b' u (cu.set (p0 :: ps) .undef)) (.own e (l ++ xs)) d=true:=Wt hd' k3'.1 (jp k3'.2 (fun h=>(Y7 h).elim (fun h=>k3'.2 (Cu hu' h)) (fun h=>by simp [Jf] at h))) (by simp [Jf])
                       have hst:JI A sl' b' o.dst o.op=some (cat c0 [.sz l.length xs.length],Qh d [] (.own e (l ++ xs)),Jx (Jx b' u (cu.set (p0 :: ps) .undef)) d (.own e (l ++ xs))):=by
                        rw [run2 sl' b' ho]
                        simp only [H6,hpl,Qc,src b' (by rw [hs0,h1]; exact k2),hee,QT,hu',hg,hbd,he2]
                        exact h7 sl' _ hun
                       refine ⟨_,HL HT hst hk,fun s' hs'=>?_,fun s' hs'=>?_⟩
                       ·simp only [cat,Qf,List.mem_cons,List.not_mem_nil,or_false] at hs'
                        rw [JU,JU,JU,JU]
                        rcases hs' with rfl | rfl
                        ·by_cases hdu:s'=d <;> simp [hdu]
                        ·simp
                       ·rw [JU,JU,if_neg,if_neg]
                        ·intro he; subst he; exact hs' (by simp [cat,Qf])
                        ·intro he; subst he; exact hs' (by simp [cat,Qf])
                    | _=>simp at hp
              | nil=>
               simp only at hp
               cases hee:e.beq e' with
               | false=>rw [hee] at hp; cases hp
               | true=>
                rw [hee] at hp
                cases hu:Jb b0 u with
                | none=>simp [QT,hu] at hp
                | some cu=>
                 simp only [QT,hu] at hp
                 cases cu with
                 | own e2 l=>
                  simp only at hp
                  cases he2:e.beq e2 with
                  | false=>rw [he2] at hp; simp [Qc] at hp
                  | true=>
                   rw [he2] at hp
                   simp only [Qc] at hp
                   obtain ⟨d,h1,h2,h3,h4,h5,h6,h7⟩:=CG hp
                   subst h2 h3 h4
                   rw [h1]
                   have hs0:Jf (V.full u [] e')=[u]:=rfl
                   rw [hs0]
                   refine ⟨fun s' hs'=>?_,fun sl' b' k1 k2 k3=>?_⟩
                   ·rw [JU,Uo,if_neg,if_neg]
                    ·intro he; subst he; exact hs' (by simp [cat,Qf])
                    ·intro he; subst he; exact hs' (by simp [cat,Qf])
                   ·have ho:Ql sl sl' (Jp (.call cl)):=Hs (fun u hu=>k1 u (by rw [J8]; simp [hu]))
                    have k3':=k3 d (by simp [Qf])
                    have hu':Jb b' u=some (.own e2 l):=by rw [k2 u (by simp [cat]),hu]
                    have hd':Jb (Qb b' u) d=none:=by
                     rw [Uo]
                     rw [Uo] at h5
                     by_cases hdu:d=u
                     ·rw [if_pos hdu]
                     ·rw [if_neg hdu] at h5 ⊢
                      rw [k2 d (by simp only [Jv]; exact .inr (by simp [Qf]))]; exact h5
                    have hun:Uh sl' (Qb b' u) (.own e (l ++ xs)) d=true:=Wt hd' k3'.1 (SZ k3'.2) (by simp [Jf])
                    have hst:JI A sl' b' o.dst o.op=some (cat c0 [.sz l.length xs.length],Qh d [] (.own e (l ++ xs)),Jx (Qb b' u) d (.own e (l ++ xs))):=by
                     rw [run2 sl' b' ho]
                     simp only [H6,hpl,Qc,src b' (by rw [hs0,h1]; exact k2),hee,QT,hu',he2]
                     exact h7 sl' _ hun
                    refine ⟨_,HL HT hst hk,fun s' hs'=>?_,fun s' hs'=>?_⟩
                    ·simp only [cat,Qf,List.mem_cons,List.not_mem_nil,or_false] at hs'
                     rw [JU,JU,Uo,Uo]
                     rcases hs' with rfl | rfl
                     ·by_cases hdu:s'=d <;> simp [hdu]
                     ·simp
                    ·rw [JU,Uo,if_neg,if_neg]
                     ·intro he; subst he; exact hs' (by simp [cat,Qf])
                     ·intro he; subst he; exact hs' (by simp [cat,Qf])
                 | _=>simp at hp
             | sub u p off len e'=>
              simp only [hflat] at hp
              cases hee:e.beq e' with
              | false=>rw [hee] at hp; simp [Jh] at hp
              | true=>
               rw [hee] at hp
               simp only [Jh] at hp
               cases hu:Jb b0 u with
               | none=>simp [J1,hu] at hp
               | some cu=>
                cases hg:cu.get p with
                | none=>simp [J1,hu,hg] at hp
                | some q=>
                 obtain ⟨cg,z⟩:=q
                 cases z with
                 | own e2 l=>
                  simp only [J1,U4,hu,hg] at hp
                  cases he2:e.beq e2 with
                  | false=>rw [he2] at hp; simp [Qc] at hp
                  | true=>
                   rw [he2] at hp
                   simp only [Qc,oj,pj] at hp
                   obtain ⟨rfl,rfl,rfl⟩:=hp
                   have hs0:Jf (V.sub u p off len e')=[u]:=rfl
                   rw [hs0]
                   refine ⟨fun s' hs'=>?_,fun sl' b' k1 k2 k3=>?_⟩
                   ·rw [JU,if_neg]
                    intro he; subst he; exact hs' (by simp [cat])
                   ·have ho:Ql sl sl' (Jp (.call cl)):=Hs (fun u hu=>k1 u (by rw [J8]; simp [hu]))
                    have hu':Jb b' u=some cu:=by rw [k2 u (by simp [cat]),hu]
                    have hst:JI A sl' b' o.dst o.op=some (cat (cat c0 cg) [.le (off + len + xs.length) l.length],.sub u p off (len + xs.length) e,Jx b' u (cu.set p (.own e (l.take (off + len) ++ xs ++ l.drop (off + len + xs.length))))):=by
                     rw [run2 sl' b' ho]
                     have hb2:Jh (e.beq e') e.flat=true:=by rw [hee,hflat]; rfl
                     simp only [H6,hpl,Qc,src b' (by rw [hs0]; exact k2),hb2,J1,U4,hu',hg,he2]
                    refine ⟨_,HL HT hst hk,fun s' hs'=>?_,fun s' hs'=>?_⟩
                    ·rw [JU,JU]
                     by_cases he:s'=u
                     ·simp [he]
                     ·simp only [he,if_false]
                      exact k2 s' (by simp only [Jv] at hs' ⊢; exact hs'.elim (fun h=>.inl (.inl h)) .inr)
                    ·rw [JU,if_neg]
                     intro he; subst he; exact hs' (by simp [cat])
                 | _=>simp [J1,hu,hg] at hp
             | _=>simp [SM,SN,bor] at hroot
       ·cases hok
      ·cases hok
     ·cases hok
    ·cases hok
   | copy=>
    have hops:Jp (.call cl)=cl.args.toList:=by simp [Jp,hcal]
    simp only [JI,hcal] at hp
    simp only [Xr] at hok
    split at hok
    ·rename_i t ts hts
     split at hok
     ·rename_i e hty
      split at hok
      ·rename_i hflat0
       rw [Je] at hflat0
       obtain ⟨hflat,_⟩:=hflat0
       split at hok
       ·rename_i s x hargs
        rw [hcal] at hok
        simp only at hok
        rw [Je] at hok
        obtain ⟨hmine,hstill⟩:=hok
        have hN:Ch o.dst (.call cl)=[]:=by simp only [Ch,hcal]
        have hT:Oy ⟨sl,b⟩ o.dst (.call cl)=cat (cat (Jf s) (cat (Jf x) [])) []:=by simp only [Oy,hops,hargs,Jn,hN]
        have hW:CZ ⟨sl,b⟩ o.dst (.call cl)=cat (Jf s) []:=by simp only [CZ,hargs,hN]
        rw [hT,hW,hN]
        rw [hargs,hts] at hp
        cases ts with
        | nil=>simp [Qd] at hp
        | cons tx ts=>
         cases ts with
         | cons _ _=>simp [Qd] at hp
         | nil=>
          simp only [Qd,hty] at hp
          cases htx:Uz (A.ty tx) with
          | false=>rw [htx] at hp; simp [Qc] at hp
          | true=>
           rw [htx] at hp
           simp only [Qc,ON] at hp
           have run2:∀ (sl':List V) (b':BL),Ql sl sl' (Jp (.call cl))→JI A sl' b' o.dst o.op=ON e b' s x:=by
            intro sl' b' ho
            rw [hop]
            simp only [JI,hcal]
            rw [Ql.map (by rw [hops] at ho; exact ho),hargs,hts]
            simp only [Qd,hty,htx,Qc]
           cases hpl:Jh e.plain (J2 (Nat.beq e.size 0)) with
           | false=>rw [hpl] at hp; simp at hp
           | true=>
            rw [hpl] at hp
            simp only at hp
            cases hsrc:Uj e b x with
            | none=>rw [hsrc] at hp; cases hp
            | some q=>
             obtain ⟨c0,xs,b0⟩:=q
             rw [hsrc] at hp
             simp only [hflat] at hp
             have hb0:=(XB (b':=b) hflat hstill (fun _ _=>rfl) hsrc).1
             subst hb0
             have src:∀ b':BL,QS b0 b' (cat (cat (Jf s) (cat (Jf x) [])) [])→Uj e b' x=some (c0,xs,b'):=fun b' ha=>
              (XB (b':=b') hflat hstill (ha.sub (fun u hu=>by simp only [Jv]; exact .inl (.inr (.inl hu)))) hsrc).2
             have fin:∀ {u:Nat} {p:List Nat} {cu y:V},Jf s=[u]→Jb b0 u=some cu→b1=Jx b0 u (cu.set p y) →
               (∀ (sl':List V) (b':BL),Ql sl sl' (Jp (.call cl))→QS b0 b' (cat (cat (Jf s) (cat (Jf x) [])) [])→Jb b' u=some cu→JI A sl' b' o.dst o.op=some (c,v,Jx b' u (cu.set p y))) →
               Loc P o sl b0 v b1 (cat g (Ue (Jp (.call cl)))) (cat (cat (Jf s) (cat (Jf x) [])) []) (cat (Jf s) []) []:=by
              intro u p cu y hs hu hb1 hstep
              subst hb1
              rw [hs]
              refine ⟨fun s' hs'=>?_,fun sl' b' k1 k2 k3=>?_⟩
              ·rw [JU,if_neg]
               intro he; subst he; exact hs' (by simp [cat])
              ·have ho:Ql sl sl' (Jp (.call cl)):=Hs (fun u hu=>k1 u (by rw [J8]; simp [hu]))
               have hu':Jb b' u=some cu:=by rw [k2 u (by simp [cat]),hu]
               refine ⟨_,HL HT (hstep sl' b' ho (by rw [hs]; exact k2) hu') hk,fun s' hs'=>?_,fun s' hs'=>?_⟩
               ·simp only [cat,List.mem_singleton] at hs'
                subst hs'
                rw [JU,JU]; simp
               ·rw [JU,if_neg]
                intro he; subst he; exact hs' (by simp [cat])
             cases s with
             | full u p e'=>
              simp only at hp
              cases hee:e.beq e' with
              | false=>rw [hee] at hp; cases hp
              | true=>
               rw [hee] at hp
               simp only at hp
               cases hu:Jb b0 u with
               | none=>simp [J1,hu] at hp
               | some cu=>
                cases hg:cu.get p with
                | none=>simp [J1,hu,hg] at hp
                | some q=>
                 obtain ⟨cg,z⟩:=q
                 cases z with
                 | own e2 l=>
                  simp only [J1,U4,hu,hg] at hp
                  cases he2:e.beq e2 with
                  | false=>rw [he2] at hp; simp [Qc] at hp
                  | true=>
                   rw [he2] at hp
                   simp only [Qc,oj,pj] at hp
                   obtain ⟨rfl,rfl,rfl⟩:=hp
                   exact fin rfl hu rfl (fun sl' b' ho ha hu'=>by rw [run2 sl' b' ho]; simp only [ON,hpl,Qc,src b' ha,hflat,hee,J1,U4,hu',hg,he2])
                 | _=>simp [J1,hu,hg] at hp
             | sub u p off len e'=>
              simp only at hp
              cases hee:e.beq e' with
              | false=>rw [hee] at hp; cases hp
              | true=>
               rw [hee] at hp
               simp only at hp
               cases hu:Jb b0 u with
               | none=>simp [J1,hu] at hp
               | some cu=>
                cases hg:cu.get p with
                | none=>simp [J1,hu,hg] at hp
                | some q=>
                 obtain ⟨cg,z⟩:=q
                 cases z with
                 | own e2 l=>
                  simp only [J1,U4,hu,hg] at hp
                  cases he2:e.beq e2 with
                  | false=>rw [he2] at hp; simp [Qc] at hp
                  | true=>
                   rw [he2] at hp
                   simp only [Qc,oj,pj] at hp
                   obtain ⟨rfl,rfl,rfl⟩:=hp
                   exact fin rfl hu rfl (fun sl' b' ho ha hu'=>by rw [run2 sl' b' ho]; simp only [ON,hpl,Qc,src b' ha,hflat,hee,J1,U4,hu',hg,he2])
                 | _=>simp [J1,hu,hg] at hp
             | _=>simp [SO] at hmine
       ·cases hok
      ·cases hok
     ·cases hok
    ·cases hok
   | _=>simp [cls,hcal] at hcl
  | _=>simp [cls,hcal] at hcl
 | _=>rw [hop] at hcl; simp [cls] at hcl
end
end Go.Rai
namespace Go.Rai
variable [Inhabited Qe]
def CH (b b':BL):Prop:=∀ s c,Jb b s=some c→Jb b' s=some c
theorem XC {b b':BL} (h:CH b b') {s:Nat} {p:List Nat} {r:List Jm × V} (hg:J1 b s p=some r):J1 b' s p=some r:=by
 unfold J1 at hg ⊢
 split at hg
 ·rename_i c hc
  rw [h s c hc]
  exact hg
 ·cases hg
theorem S2 {b b':BL} (h:CH b b'):∀ (n:Nat),(∀ v r,lend b n v=some r→lend b' n v=some r)∧(∀ vs r,Uy b n vs=some r→Uy b' n vs=some r)
 | 0=>⟨fun v r hv=>by simp [lend] at hv,fun vs r hv=>by simp [Uy] at hv⟩
 | n + 1=>by
  have ih:=S2 h n
  constructor
  ·intro v r hv
   cases v with
   | full s p e=>
    simp only [lend] at hv ⊢
    split at hv
    ·rename_i hg
     rw [XC h hg]
     exact hv
    ·rename_i c e' vs hg
     rw [XC h hg]
     simp only
     split at hv
     ·rename_i c' ws hl
      rw [ih.2 _ _ hl]
      exact hv
     ·cases hv
    ·cases hv
   | sub s p o l e=>
    simp only [lend] at hv ⊢
    split at hv
    ·rename_i hg
     rw [XC h hg]
     exact hv
    ·cases hv
   | ptr s p=>
    simp only [lend] at hv ⊢
    split at hv
    ·rename_i hg
     rw [XC h hg]
     simp only
     split at hv
     ·rename_i hl
      rw [ih.1 _ _ hl]
      exact hv
     ·cases hv
    ·cases hv
   | obox x=>
    simp only [lend] at hv ⊢
    split at hv
    ·rename_i hl
     rw [ih.1 _ _ hl]
     exact hv
    ·cases hv
   | agg vs=>
    simp only [lend] at hv ⊢
    split at hv
    ·rename_i hl
     rw [ih.2 _ _ hl]
     exact hv
    ·cases hv
   | fn f caps=>
    simp only [lend] at hv ⊢
    split at hv
    ·rename_i hl
     rw [ih.2 _ _ hl]
     exact hv
    ·cases hv
   | _=>simpa only [lend] using hv
  ·intro vs r hv
   cases vs with
   | nil=>simpa only [Uy] using hv
   | cons v vs=>
    simp only [Uy] at hv ⊢
    split at hv
    ·rename_i hl
     rw [ih.1 _ _ hl]
     simp only
     split at hv
     ·rename_i hl2
      rw [ih.2 _ _ hl2]
      exact hv
     ·cases hv
    ·cases hv
theorem Y8 {A:Ann} {f:FuncId} {b b':BL} (h:CH b b'):∀ {vs:List V} {i:Nat} {ts:List Ty} {r:List Jm × List V},Q4 A f b i ts vs=some r→Q4 A f b' i ts vs=some r
 | [],i,ts,r,hv=>by simpa only [Q4] using hv
 | v :: vs,i,ts,r,hv=>by
  have go:∀ (x x':G V),(∀ q,x=some q→x'=some q)→(match x with
    | some (c,w)=>match Q4 A f b (i + 1) ts.tail vs with
     | some (c',ws)=>some ((cat c c'),w :: ws)
     | none=>none
    | none=>none)=some r→(match x' with
    | some (c,w)=>match Q4 A f b' (i + 1) ts.tail vs with
     | some (c',ws)=>some ((cat c c'),w :: ws)
     | none=>none
    | none=>none)=some r:=by
   intro x x' hx hq
   split at hq
   ·rename_i h1
    rw [hx _ rfl]
    simp only
    split at hq
    ·rename_i h2
     rw [Y8 h h2]
     exact hq
    ·cases hq
   ·cases hq
  simp only [Q4] at hv ⊢
  cases hm:A.mode f i with
  | lend=>simp only [hm] at hv ⊢; exact go _ _ (fun q hq=>(S2 h 9).1 _ _ hq) hv
  | io=>simp only [hm] at hv ⊢; exact go (some ([],v)) (some ([],v)) (fun q hq=>hq) hv
  | take=>simp only [hm] at hv ⊢; exact go (some ([],v)) (some ([],v)) (fun q hq=>hq) hv
  | keep=>simp only [hm] at hv ⊢; exact go _ _ (fun q hq=>hq) hv
theorem Wu {b:BL}:∀ {L:List Nat},CH (CW b L) b
 | []=>fun s c h=>by simp [CW,Jb] at h
 | t :: L=>by
  intro s c h
  unfold CW at h
  split at h
  ·rename_i c0 hc
   simp only [Jb] at h
   split at h
   ·rename_i hb
    have:=Nat.eq_of_beq_eq_true hb
    subst this
    simp only [oj] at h
    subst h
    exact hc
   ·exact Wu s c h
  ·exact Wu s c h
theorem Y9 {b:BL} {s:Nat} {c:V} (h:Jb b s=some c):s ∈ QC b:=by
 induction b with
 | nil=>simp [Jb] at h
 | cons x r ih=>
  obtain ⟨k,u⟩:=x
  simp only [Jb] at h
  simp only [QC,List.mem_cons]
  split at h
  ·rename_i hb; exact .inl (Nat.eq_of_beq_eq_true hb).symm
  ·exact .inr (ih h)
theorem jr {b bR b':BL} (h:CH bR b) (ha:QS b b' (QC bR)):CH bR b':=fun s c hc=>by rw [ha s (Y9 hc)]; exact h s c hc
theorem S3 {b:BL} {s t:Nat} (h:t ∈ Ju (Qb b s)):t ∈ Ju b:=by
 induction b with
 | nil=>simpa [Qb] using h
 | cons x r ih=>
  obtain ⟨k,u⟩:=x
  unfold Qb at h
  simp only [Ju,Jv]
  split at h
  ·exact .inr (ih h)
  ·simp only [Ju,Jv] at h
   exact h.imp id ih
theorem Ka {b b':BL} {t:Nat}:t ∈ Ju (b ++ b') ↔ t ∈ Ju b ∨ t ∈ Ju b':=by
 induction b with
 | nil=>simp [Ju]
 | cons x r ih=>
  obtain ⟨k,u⟩:=x
  simp only [List.cons_append,Ju,Jv,ih,or_assoc]
theorem S4 {b:BL} {s t:Nat} {x:V} (h:t ∈ Ju (Jx b s x)):t ∈ Ju b ∨ t ∈ Jf x:=by
 unfold Jx at h
 rw [J8,Ka] at h
 rcases h with h | h
 ·exact .inl (S3 h)
 ·right
  simpa [Ju,Jv] using h
theorem S5:∀ {b:BL} {s:Nat},Jb b s=none→Qb b s=b
 | [],s,_=>rfl
 | (k,u) :: r,s,h=>by
  simp only [Jb] at h
  unfold Qb
  split at h
  ·cases h
  ·rw [S5 h]
theorem js {b:BL} {s t:Nat} {x:V} (h:t ∈ Jf x):t ∈ Ju (Jx b s x):=by
 unfold Jx
 rw [J8,Ka]
 right
 simpa [Ju,Jv] using h
section
variable {P:Program} {A:Ann} {w w' w0:World} {F0:List Nat} {sl sl':List V} {a:Act} {b b' b1 bl:BL} {G:GT} {o:Oper} {v:V} {c:List Jm}
theorem S6 {s:Nat} {x v:V} (h:place sl b s x=some (v,b1)) {bad:Nat→Prop} (h1:∀ t ∈ Jn sl',bad t ∨ t ∈ Jn sl) (h2:∀ t ∈ Ju b',bad t ∨ t ∈ Ju b) (h3:¬ bad s) (h4:Jb b' s=Jb b s) :
  ∃ b1',place sl' b' s x=some (v,b1')∧Jb b1' s=Jb b1 s∧(∀ t,t ≠ s→Jb b1' t=Jb b' t∧Jb b1 t=Jb b t)∧(∀ t ∈ Ju b1',bad t ∨ t ∈ Ju b1):=by
 unfold place at h ⊢
 split at h
 ·split at h
  ·rename_i hun
   simp only [oj,pj] at h
   obtain ⟨rfl,rfl⟩:=h
   have hx:=SY hun
   have hn:s ∉ Jn sl∧s ∉ Ju b:=by
    unfold Uh at hun
    split at hun
    ·have h1:bor (J3 (Jn sl) s) (bor (J3 (Ju b) s) (J3 (Jf x) s))=false:=by
      cases hb:bor (J3 (Jn sl) s) (bor (J3 (Ju b) s) (J3 (Jf x) s)) with
      | false=>rfl
      | true=>rw [hb] at hun; simp [J2] at hun
     rw [Ox,Ox] at h1
     exact ⟨fun hm=>(by rw [UB.2 hm] at h1; cases h1.1),fun hm=>(by rw [UB.2 hm] at h1; cases h1.2.1)⟩
    ·cases hun
   have hu':Uh sl' b' x s=true:=Wt (by rw [h4]; exact (CS hun).1) (fun hm=>(h1 s hm).elim h3 hn.1) (fun hm=>(h2 s hm).elim h3 hn.2) hx
   rw [hu']
   refine ⟨_,rfl,by rw [JU,JU]; simp,fun t ht=>⟨by rw [JU,if_neg ht],by rw [JU,if_neg ht]⟩,fun t ht=>?_⟩
   rcases S4 ht with ht | ht
   ·rcases h2 t ht with ht | ht
    ·exact .inl ht
    ·right
     unfold Jx
     rw [S5 (CS hun).1,J8,Ka]
     exact .inl ht
   ·exact .inr (js ht)
  ·cases h
 ·simp only [oj,pj] at h
  obtain ⟨rfl,rfl⟩:=h
  exact ⟨b',rfl,h4,fun t ht=>⟨rfl,rfl⟩,h2⟩
theorem S7 {s:Nat} {bad:Nat→Prop}:∀ {vs:List V} {j:Nat} {sl sl':List V} {b b' b1:BL} {xs:List V},Hj s sl b j vs=some (xs,b1)→(∀ t ∈ Jn sl',bad t ∨ t ∈ Jn sl)→(∀ t ∈ Ju b',bad t ∨ t ∈ Ju b) →
  (∀ t ∈ UL s j vs,¬ bad t)→(∀ t ∈ UL s j vs,Jb b' t=Jb b t) →
  ∃ b1',Hj s sl' b' j vs=some (xs,b1')∧(∀ t ∈ UL s j vs,Jb b1' t=Jb b1 t)∧(∀ t,t ∉ UL s j vs→Jb b1' t=Jb b' t∧Jb b1 t=Jb b t)
 | [],j,sl,sl',b,b',b1,xs,h,h1,h2,h3,h4=>by
  simp only [Hj,oj,pj] at h
  obtain ⟨rfl,rfl⟩:=h
  exact ⟨b',rfl,fun t ht=>(by cases ht),fun t _=>⟨rfl,rfl⟩⟩
 | v :: vs,j,sl,sl',b,b',b1,xs,h,h1,h2,h3,h4=>by
  simp only [Hj] at h
  split at h
  ·rename_i x b2 hp
   split at h
   ·rename_i ys b3 hq
    simp only [oj,pj] at h
    obtain ⟨rfl,rfl⟩:=h
    obtain ⟨b2',p1,p2,p3,p4⟩:=S6 hp h1 h2 (h3 _ (by simp [UL])) (h4 _ (by simp [UL]))
    have agree:∀ t ∈ UL s (j + 1) vs,Jb b2' t=Jb b2 t:=by
     intro t ht
     by_cases he:t=10000 + 16 * s + j
     ·subst he; exact p2
     ·rw [(p3 t he).1,(p3 t he).2]; exact h4 t (by simp [UL,ht])
    obtain ⟨b3',q1,q2,q3⟩:=S7 (sl:=x :: sl) (sl':=x :: sl') hq
     (fun t ht=>by
      simp only [Jn,Jv] at ht ⊢
      rcases ht with ht | ht
      ·exact .inr (.inl ht)
      ·exact (h1 t ht).imp id .inr) p4 (fun t ht=>h3 t (by simp [UL,ht])) agree
    refine ⟨b3',by simp only [Hj,p1,q1],fun t ht=>?_,fun t ht=>?_⟩
    ·by_cases hm:t ∈ UL s (j + 1) vs
     ·exact q2 t hm
     ·have he:t=10000 + 16 * s + j:=by simpa [UL,hm] using ht
      rw [(q3 t hm).1,(q3 t hm).2,he]; exact p2
    ·simp only [UL,List.mem_cons,not_or] at ht
     rw [(q3 t ht.2).1,(q3 t ht.2).2]
     exact p3 t ht.1
   ·cases h
  ·cases h
theorem Kb {s:Nat} {x:V} (h:∀ vs,x ≠ .tup vs):Q7 sl b (some s) x=place sl b s x:=by
 cases x <;> first | exact absurd rfl (h _) | rfl
theorem jt {s:Nat} {x:V} (h:∀ vs,x ≠ .tup vs):Uf (some s) x=[s]:=by
 cases x <;> first | exact absurd rfl (h _) | rfl
theorem S8 {d:Option Nat} {x v:V} (h:Q7 sl b d x=some (v,b1)) (h1:∀ t ∈ Uf d x,t ∉ Jn sl'∧t ∉ Ju b') (h4:∀ t ∈ Uf d x,Jb b' t=Jb b t) :
  ∃ b1',Q7 sl' b' d x=some (v,b1')∧(∀ t ∈ Uf d x,Jb b1' t=Jb b1 t)∧(∀ t,t ∉ Uf d x→Jb b1' t=Jb b' t∧Jb b1 t=Jb b t):=by
 cases d with
 | none=>
  simp only [Q7,oj,pj] at h
  obtain ⟨rfl,rfl⟩:=h
  exact ⟨b',rfl,fun t ht=>(by simp [Uf] at ht),fun t _=>⟨rfl,rfl⟩⟩
 | some s=>
  let bad:Nat→Prop:=fun t=>t ∈ Jn sl' ∨ t ∈ Ju b'
  have one:(∀ vs,x ≠ .tup vs)→∃ b1',Q7 sl' b' (some s) x=some (v,b1')∧(∀ t ∈ Uf (some s) x,Jb b1' t=Jb b1 t)∧(∀ t,t ∉ Uf (some s) x→Jb b1' t=Jb b' t∧Jb b1 t=Jb b t):=by
   intro e0
   rw [Kb e0] at h
   rw [jt e0] at h1 h4 ⊢
   rw [Kb e0]
   obtain ⟨b2',p1,p2,p3,p4⟩:=S6 (sl':=sl') (b':=b') (bad:=bad) h (fun t ht=>.inl (.inl ht)) (fun t ht=>.inl (.inr ht)) (fun hb=>hb.elim (h1 s (by simp)).1 (h1 s (by simp)).2) (h4 s (by simp))
   exact ⟨b2',p1,fun t ht=>(by simp only [List.mem_singleton] at ht; subst ht; exact p2),fun t ht=>p3 t (by simpa using ht)⟩
  cases x with
  | tup vs=>
   simp only [Q7] at h
   split at h
   ·rename_i xs b2 hp
    simp only [oj,pj] at h
    obtain ⟨rfl,rfl⟩:=h
    obtain ⟨b1',p1,p2,p3⟩:=S7 (sl':=sl') (b':=b') (bad:=bad) hp (fun t ht=>.inl (.inl ht)) (fun t ht=>.inl (.inr ht)) (fun t ht hb=>hb.elim (h1 t ht).1 (h1 t ht).2) h4
    exact ⟨b1',by simp only [Q7,p1],p2,p3⟩
   ·cases h
  | _=>exact one (by simp)
theorem S9 {s:Nat} {x v:V} (h:place sl b s x=some (v,b1)):∀ t,t ≠ s→Jb b1 t=Jb b t:=by
 unfold place at h
 split at h
 ·split at h
  ·simp only [oj,pj] at h
   obtain ⟨rfl,rfl⟩:=h
   intro t ht
   rw [JU,if_neg ht]
  ·cases h
 ·simp only [oj,pj] at h
  obtain ⟨rfl,rfl⟩:=h
  intro t _; rfl
theorem Pa {s:Nat}:∀ {vs:List V} {j:Nat} {sl:List V} {b b1:BL} {xs:List V},Hj s sl b j vs=some (xs,b1)→∀ t,t ∉ UL s j vs→Jb b1 t=Jb b t
 | [],j,sl,b,b1,xs,h=>by
  simp only [Hj,oj,pj] at h
  obtain ⟨rfl,rfl⟩:=h
  intro t _; rfl
 | v :: vs,j,sl,b,b1,xs,h=>by
  simp only [Hj] at h
  split at h
  ·rename_i x b2 hp
   split at h
   ·rename_i ys b3 hq
    simp only [oj,pj] at h
    obtain ⟨rfl,rfl⟩:=h
    intro t ht
    simp only [UL,List.mem_cons,not_or] at ht
    rw [Pa hq t ht.2,S9 hp t ht.1]
   ·cases h
  ·cases h
theorem Pb {s:Nat} {x v:V} (h:Q7 sl b (some s) x=some (v,b1)):∀ t,t ∉ Uf (some s) x→Jb b1 t=Jb b t:=by
 cases x with
 | tup vs=>
  simp only [Q7] at h
  split at h
  ·rename_i xs b2 hp
   simp only [oj,pj] at h
   obtain ⟨rfl,rfl⟩:=h
   exact Pa hp
  ·cases h
 | _=>
  intro t ht
  rw [Kb (by simp)] at h
  exact S9 h t (by simpa [Uf] using ht)
theorem Pc {io:Nat→Bool} {cl:Call} {fo:Operand} {g:FuncId} {caps:List V} (ho:o.op=.call cl) (hcal:cl.callee=.value fo) (hf:opd sl fo=.fn g caps)
  {ts:List Ty} (hio:UA A g 0 (cat (Jo sl cl.args.toList) caps)=false) (hnt:QV (Jo sl cl.args.toList)=true) (hna:Hy caps=true) {ws:List V} {res:V} {outs:List V}
  (hp:Q4 A g b 0 ts (cat (Jo sl cl.args.toList) caps)=some (c,ws)) (hk:∀ x ∈ c,x.ok) (hco:HF P (fun i=>J9 (A.mode g i)) g ws res outs) (how:Qa res=true) (hpl:Q7 sl b o.dst res=some (v,b1)) :
  UM P o sl b v b1:=by
 intro Pn w0 F0 a w hdst hr K Q hK
 let κ:St→Option St:=fun σ=>some σ
 let oc:OC St:=fun f args k=>bif Nat.beq f g then (match k res outs with | some r=>some r | none=>none) else none
 obtain ⟨⟨G,hc,hs⟩,hl,hd,hpin⟩:=hr
 obtain ⟨k1,k3⟩:=hco
 obtain ⟨fn,j1,j2,j3⟩:=k1
 have hfv:=JZ hs fo
 rw [hf] at hfv
 have hfv':=(JV rfl (by simp) (by simp)).1 hfv
 unfold InV at hfv'
 obtain ⟨vals,hfe,hcaps,_⟩:=hfv'
 simp only [List.cons.injEq,and_true] at hfe
 rw [J8] at hp hio
 have hargs:UC (Ja w b G []) (fun j=>Hd (A.mode g j)) 0 (Jo sl cl.args.toList ++ caps) (cl.args.toList.map a.eval ++ vals.toList) []:=by
  have:=Xk (Xi (io:=fun j=>Hd (A.mode g j)) (i:=0) hs hnt) (Xj (i:=0 + (Jo sl cl.args.toList).length) hna hcaps)
  simpa using this
 have htup:=(YO (Y:=[]) hc.ok (fun _ h=>h) hargs hp hk).1
 have hcalls:=k3 (fun _=>True) w (cl.args.toList.map a.eval ++ vals.toList) [] htup (by simp) (by simp)
 have hrun:(execOp a.eval o).run P w=.ok (.enter g (cl.args.toList.map a.eval ++ vals.toList).toArray) w:=by
  have hcf:=YQ (P:=P) (w:=w) (args:=(cl.args.toList.map a.eval ++ vals.toList).toArray) j1 j2 j3
  have he:(cl.args.toList.map a.eval ++ vals.toList).toArray=cl.args.map a.eval ++ vals:=by apply Array.ext'; simp
  rw [he] at hcf ⊢
  simp [execOp,ho,resolve,hcal,hfe,Deferred.ofValue,invoke,hcf]
 unfold Oper.wp
 rw [hrun,Oper.upon_enter]
 refine Calls.mono hcalls ?_
 rintro e w2 ⟨v2,Fr,Fo,rfl,q1,q2,q3,q4,q5,q6,q7,q8,q9⟩
 have hFo:Fo=[]:=SC hio (SB hargs) q2
 subst hFo
 simp only [List.append_nil] at q1 q3 q4
 obtain ⟨t1,t2⟩:=hc.x.world (w':=w2) (X':=Fr) q6 (fun b hb _=>q5 b hb (by simp)) q3 (fun b hb=>⟨(q4 b hb).1,(q4 b hb).2.elim (fun h=>by cases h) .inr⟩) q7 q8 q9
 obtain ⟨G',s1,s2,s3⟩:=YP (E:=QW (fun _=>True) w2 Fr) t1 (hs.go0 t2) rfl q1 how hpl
 exact hK _ _ (Rel.put s1 s2 hl hd hpin hdst s3)
theorem ju {cl:Call} {fo:Operand} {g:FuncId} {caps:List V} (ho:o.op=.call cl) (hcal:cl.callee=.value fo) (hf:opd sl fo=.fn g caps)
  {ts:List Ty} (hio:UA A g 0 (cat (Jo sl cl.args.toList) caps)=false) (hnt:QV (Jo sl cl.args.toList)=true) (hna:Hy caps=true) {ws:List V} {res:V} {outs:List V} {bR:BL} (hR:CH bR b)
  (hp:Q4 A g bR 0 ts (cat (Jo sl cl.args.toList) caps)=some (c,ws)) (hk:∀ x ∈ c,x.ok) (hco:HF P (fun i=>J9 (A.mode g i)) g ws res outs) (how:Qa res=true) (hpl:Q7 sl b o.dst res=some (v,b1)) {gs:List Nat} :
  Loc P o sl b v b1 (cat gs (Ue (Jp o.op))) (cat (QC bR) (Uf o.dst res)) (Uf o.dst res) (Uf o.dst res):=by
 have hops:Jp o.op=fo :: cl.args.toList:=by rw [ho]; simp [Jp,hcal]
 have base:∀ t,t ∉ Uf o.dst res→Jb b1 t=Jb b t:=by
  cases hd:o.dst with
  | none=>
   rw [hd] at hpl
   simp only [Q7,oj,pj] at hpl
   intro t _; rw [hpl.2]
  | some s=>
   intro t ht
   rw [hd] at hpl
   exact Pb hpl t ht
 refine ⟨base,fun sl' b' h1 h2 h3=>?_⟩
 have hag:Ql sl sl' (Jp o.op):=Hs (fun t ht=>h1 t (by rw [J8]; simp [ht]))
 rw [hops] at hag
 have e1:opd sl' fo=.fn g caps:=by rw [hag fo (by simp),hf]
 have e2:Jo sl' cl.args.toList=Jo sl cl.args.toList:=Ql.map (fun x hx=>hag x (by simp [hx]))
 have e3:Q4 A g b' 0 ts (cat (Jo sl' cl.args.toList) caps)=some (c,ws):=by
  rw [e2]
  exact Y8 (jr hR (h2.sub (fun s hs=>by rw [J8]; simp [hs]))) hp
 obtain ⟨b1',p1,p2,p3⟩:=S8 (sl':=sl') (b':=b') hpl h3 (fun t ht=>h2 t (by rw [J8]; simp [ht]))
 exact ⟨b1',Pc (io:=fun _=>false) ho hcal e1 (by rw [e2]; exact hio) (by rw [e2]; exact hnt) hna e3 hk hco how p1,p2,fun s hs=>(p3 s hs).1⟩
end
end Go.Rai
namespace Go.Rai
variable [Inhabited Qe]
theorem C2 {l m:List Nat} (h:Ub l m=true):∀ s ∈ l,s ∉ m:=by
 induction l with
 | nil=>intro s hs; cases hs
 | cons a l ih=>
  unfold Ub at h
  rw [Je] at h
  intro s hs
  rcases List.mem_cons.1 hs with rfl | hs
  ·intro hm
   rw [UB.2 hm] at h
   simp [J2] at h
  ·exact ih h.2 s hs
theorem C3 {b:Bool} (h:J2 b=true):b=false:=by cases b <;> simp [J2] at h ⊢
theorem C4 {l:List Nat} {s:Nat} (h:J3 l s=false):s ∉ l:=fun hm=>by rw [UB.2 hm] at h; cases h
mutual
theorem XD:∀ (v:V),JT v=true→Jf v=[]
 | .int _ _,_=>rfl
 | .bool _,_=>rfl
 | .str _,_=>rfl
 | .own _ _,_=>rfl
 | .arr _ _ _,_=>rfl
 | .agg vs,h=>by unfold JT at h; unfold Jf; exact Kc vs h
 | .obox v,h=>by unfold JT at h; unfold Jf; exact XD v h
 | .tup vs,h=>by unfold JT at h; unfold Jf; exact Kc vs h
 | .undef,ho=>by simp [JT] at ho
 | .void,ho=>by simp [JT] at ho
 | .rd _ _,ho=>by simp [JT] at ho
 | .lst _ _,ho=>by simp [JT] at ho
 | .nilsl,ho=>by simp [JT] at ho
 | .emp _,ho=>by simp [JT] at ho
 | .rp _,ho=>by simp [JT] at ho
 | .full _ _ _,ho=>by simp [JT] at ho
 | .sub _ _ _ _ _,ho=>by simp [JT] at ho
 | .ptr _ _,ho=>by simp [JT] at ho
 | .fn _ _,ho=>by simp [JT] at ho
 | .nilfn,ho=>by simp [JT] at ho
 | .nilptr,_=>rfl
theorem Kc:∀ (vs:List V),U3 vs=true→Jn vs=[]
 | [],_=>rfl
 | v :: vs,h=>by
  unfold U3 at h; rw [Je] at h
  unfold Jn; rw [XD v h.1,Kc vs h.2]; rfl
end
section
variable {P:Program} {A:Ann} {w w' w0:World} {F0:List Nat} {sl:List V} {a:Act} {bl b b' b1:BL} {G:GT} {o:Oper} {X:List Nat} {v:V} {c:List Jm}
structure Vr (E0 E':Env) (Lf Lp:List Nat) (s:Nat):Prop where
 on:s ∈ Lf ∨ s ∈ Lp
 f:s ∈ Lf→∀ e cs,InV E0 (.full s [] e) cs []→InV E' (.full s [] e) cs []
 p:s ∈ Lp→∀ cs,InV E0 (.ptr s [0]) cs []→InV E' (.ptr s [0]) cs []
mutual
theorem Pd {E0 E E':Env} {s:Nat} {Lf Lp:List Nat} (hE:Jz E E' (fun t=>t=s)) (hb:Vr E0 E' Lf Lp s):∀ (v:V) {cs:List Value},ioV Lf Lp v=true→InV E0 v cs []→InV E v cs []→InV E' v cs []
 | .full t p e,cs,hv,h0,h1=>by
  by_cases hts:t=s
  ·subst hts
   unfold ioV at hv
   rw [Je] at hv
   have hLp:=C4 (C3 hv.1)
   have hLf:=hb.on.resolve_right hLp
   have h2:=hv.2
   rw [UB.2 hLf] at h2
   match p,h0,h1,h2 with
   | [],h0,h1,_=>exact hb.f hLf e cs h0
  ·exact hE.inV (by intro t' ht' e; simp [Jf] at ht'; exact hts (ht' ▸ e)) (fun _ hb=>by cases hb) h1
 | .ptr t p,cs,hv,h0,h1=>by
  by_cases hts:t=s
  ·subst hts
   unfold ioV at hv
   rw [Je] at hv
   have hLf:=C4 (C3 hv.1)
   have hLp:=hb.on.resolve_left hLf
   have h2:=hv.2
   rw [UB.2 hLp] at h2
   match p,h0,h1,h2 with
   | [0],h0,h1,_=>exact hb.p hLp cs h0
   | [],_,_,h2=>simp at h2
   | (n + 1) :: q,_,_,h2=>simp at h2
   | 0 :: m :: q,_,_,h2=>simp at h2
  ·exact hE.inV (by intro t' ht' e; simp [Jf] at ht'; exact hts (ht' ▸ e)) (fun _ hb=>by cases hb) h1
 | .agg vs,cs,hv,h0,h1=>by
  unfold ioV at hv
  unfold InV at h0 h1 ⊢
  exact Kd hE hb vs hv h0 h1
 | .fn f vs,cs,hv,h0,h1=>by
  unfold ioV at hv
  unfold InV at h0 h1 ⊢
  obtain ⟨vals,rfl,i1,i2⟩:=h1
  obtain ⟨vals',e1,j1,_⟩:=h0
  simp only [List.cons.injEq,Value.func.injEq,true_and,and_true] at e1
  subst e1
  exact ⟨vals,rfl,Kd hE hb vs hv j1 i1,i2⟩
 | .tup vs,cs,hv,h0,h1=>by unfold InV at h0; exact h0.elim
 | .sub t p o l e,cs,hv,h0,h1=>by
  simp only [ioV,Je] at hv
  exact hE.inV (fun t ht e=>by subst e; exact hb.on.elim (C2 hv.1 _ ht) (C2 hv.2 _ ht)) (fun _ hb=>by cases hb) h1
 | .lst e vs,cs,hv,h0,h1=>by
  simp only [ioV,Je] at hv
  exact hE.inV (fun t ht e=>by subst e; exact hb.on.elim (C2 hv.1 _ ht) (C2 hv.2 _ ht)) (fun _ hb=>by cases hb) h1
 | .obox x,cs,hv,h0,h1=>by
  simp only [ioV,Je] at hv
  exact hE.inV (fun t ht e=>by subst e; exact hb.on.elim (C2 hv.1 _ ht) (C2 hv.2 _ ht)) (fun _ hb=>by cases hb) h1
 | .rp x,cs,hv,h0,h1=>by
  simp only [ioV,Je] at hv
  exact hE.inV (fun t ht e=>by subst e; exact hb.on.elim (C2 hv.1 _ ht) (C2 hv.2 _ ht)) (fun _ hb=>by cases hb) h1
 | .int _ _,cs,hv,h0,h1=>hE.inV (fun t ht=>by cases ht) (fun _ hb=>by cases hb) h1
 | .bool _,cs,hv,h0,h1=>hE.inV (fun t ht=>by cases ht) (fun _ hb=>by cases hb) h1
 | .str _,cs,hv,h0,h1=>hE.inV (fun t ht=>by cases ht) (fun _ hb=>by cases hb) h1
 | .own _ _,cs,hv,h0,h1=>hE.inV (fun t ht=>by cases ht) (fun _ hb=>by cases hb) h1
 | .rd _ _,cs,hv,h0,h1=>hE.inV (fun t ht=>by cases ht) (fun _ hb=>by cases hb) h1
 | .arr _ _ _,cs,hv,h0,h1=>hE.inV (fun t ht=>by cases ht) (fun _ hb=>by cases hb) h1
 | .undef,cs,hv,h0,h1=>hE.inV (fun t ht=>by cases ht) (fun _ hb=>by cases hb) h1
 | .void,cs,hv,h0,h1=>hE.inV (fun t ht=>by cases ht) (fun _ hb=>by cases hb) h1
 | .nilsl,cs,hv,h0,h1=>hE.inV (fun t ht=>by cases ht) (fun _ hb=>by cases hb) h1
 | .emp _,cs,hv,h0,h1=>hE.inV (fun t ht=>by cases ht) (fun _ hb=>by cases hb) h1
 | .nilfn,cs,hv,h0,h1=>hE.inV (fun t ht=>by cases ht) (fun _ hb=>by cases hb) h1
 | .nilptr,cs,hv,h0,h1=>hE.inV (fun t ht=>by cases ht) (fun _ hb=>by cases hb) h1
theorem Kd {E0 E E':Env} {s:Nat} {Lf Lp:List Nat} (hE:Jz E E' (fun t=>t=s)) (hb:Vr E0 E' Lf Lp s):∀ (vs:List V) {cs:List Value},Q6 Lf Lp vs=true→Ji E0 vs cs []→Ji E vs cs []→Ji E' vs cs []
 | [],cs,hv,h0,h1=>by unfold Ji at h1 ⊢; exact h1
 | v :: vs,cs,hv,h0,h1=>by
  unfold Q6 at hv
  rw [Je] at hv
  unfold Ji at h0 h1 ⊢
  obtain ⟨c1,c2,F1,F2,e1,e2,i1,i2⟩:=h0
  obtain ⟨d1,d2,G1,G2,k1,k2,j1,j2⟩:=h1
  obtain ⟨rfl,rfl⟩:=List.append_eq_nil_iff.1 e2.symm
  obtain ⟨rfl,rfl⟩:=List.append_eq_nil_iff.1 k2.symm
  subst k1
  obtain ⟨rfl,rfl⟩:=List.append_inj e1 (by rw [Qp v i1,Qp v j1])
  exact ⟨d1,d2,[],[],rfl,rfl,Pd hE hb v hv.1 i1 j1,Kd hE hb vs hv.2 i2 j2⟩
end
theorem Pe {x:V} {cs cs':List Value} {u:Value} (h:Qi x cs u) (h':Qi x cs' u):cs=cs':=by
 unfold Qi at h h'
 cases hx:isA x with
 | true=>
  rw [hx] at h h'
  simp only at h h'
  rw [h] at h'
  simpa using h'
 | false=>
  rw [hx] at h h'
  simp only at h h'
  rw [h,h']
theorem Pf {E0 E E':Env} {s:Nat} {Lf Lp:List Nat} (hE:Jz E E' (fun t=>t=s)) (hb:Vr E0 E' Lf Lp s) {x:V} {u:Value} (hv:ioV Lf Lp x=true) (h0:One E0 x u []) (h1:One E x u []):One E' x u []:=by
 obtain ⟨cs,i1,i2⟩:=h0
 obtain ⟨cs',j1,j2⟩:=h1
 have:=Pe i2 j2
 subst this
 exact ⟨cs,Pd hE hb x hv i1 j1,j2⟩
theorem Pg {E0 E E':Env} {s:Nat} {Lf Lp:List Nat} (hE:Jz E E' (fun t=>t=s)) (hb:Vr E0 E' Lf Lp s):∀ {xs:List V} {us:List Value},Q6 Lf Lp xs=true→Tup E0 xs us []→Tup E xs us []→Tup E' xs us []
 | [],us,hv,h0,h1=>h1
 | x :: xs,us,hv,⟨u,r,F1,F2,e1,e2,i1,i2⟩,⟨u',r',G1,G2,k1,k2,j1,j2⟩=>by
  unfold Q6 at hv
  rw [Je] at hv
  obtain ⟨rfl,rfl⟩:=List.append_eq_nil_iff.1 e2.symm
  obtain ⟨rfl,rfl⟩:=List.append_eq_nil_iff.1 k2.symm
  subst e1
  simp only [List.cons.injEq] at k1
  obtain ⟨rfl,rfl⟩:=k1
  exact ⟨u,r,[],[],rfl,rfl,Pf hE hb hv.1 i1 j1,Pg hE hb hv.2 i2 j2⟩
theorem jv {E0 E E':Env} {s:Nat} {Lf Lp:List Nat} (hE:Jz E E' (fun t=>t=s)) (hb:Vr E0 E' Lf Lp s) {x:V} {u:Value} (hv:ioV Lf Lp x=true) (h0:Val E0 x u []) (h1:Val E x u []):Val E' x u []:=by
 cases x with
 | tup xs=>
  obtain ⟨us,rfl,i1⟩:=h0
  obtain ⟨us',e1,j1⟩:=h1
  simp only [Value.tuple.injEq] at e1
  subst e1
  unfold ioV at hv
  exact ⟨us,rfl,Pg hE hb hv i1 j1⟩
 | undef=>exact h1
 | _=>exact Pf hE hb hv h0 h1
theorem Ke {Lf Lp:List Nat}:∀ {sl:List V} {t:Nat},Q6 Lf Lp sl=true→ioV Lf Lp (Jy sl t)=true
 | [],t,h=>by cases t <;> rfl
 | v :: sl,t,h=>by
  unfold Q6 at h
  rw [Je] at h
  cases t with
  | zero=>exact h.1
  | succ t=>exact Ke (sl:=sl) (t:=t) h.2
theorem Ph {E0 E E':Env} {s:Nat} {Lf Lp:List Nat} (hE:Jz E E' (fun t=>t=s)) (hb:Vr E0 E' Lf Lp s) (hv:Q6 Lf Lp sl=true) (h0:JA E0 sl a) (h1:JA E sl a):JA E' sl a:=
 fun t=>jv hE hb (Ke hv) (h0 t) (h1 t)
theorem XE {f:FuncId}:∀ {vs:List V} {i:Nat},U6 A f b i vs=true→∀ s ∈ ioF A f i vs,∃ x,Jb b s=some x∧QE x=true
 | [],i,_,s,hs=>by simp [ioF] at hs
 | v :: vs,i,h,s,hs=>by
  unfold U6 at h
  unfold ioF at hs
  split at h
  ·rename_i hm
   rw [hm] at hs
   rw [Je] at h
   simp only at hs
   split at hs
   ·rename_i s' p e
    rcases List.mem_cons.1 hs with rfl | hs
    ·have h1:=h.1
     simp only [OS] at h1
     split at h1
     ·split at h1
      ·rename_i hl; exact ⟨_,hl,rfl⟩
      ·rename_i hl; exact ⟨_,hl,rfl⟩
      ·simp at h1
     ·simp at h1
    ·exact XE h.2 s hs
   ·exact XE h.2 s hs
  ·rename_i hm
   have:s ∈ ioF A f (i + 1) vs:=by
    split at hs
    ·rename_i hm'; exact absurd hm' hm
    ·exact hs
   exact XE h s this
theorem XF {f:FuncId}:∀ {vs:List V} {i:Nat},U6 A f b i vs=true→∀ s ∈ ioP A f i vs,∃ x,Jb b s=some (.obox x)
 | [],i,_,s,hs=>by simp [ioP] at hs
 | v :: vs,i,h,s,hs=>by
  unfold U6 at h
  unfold ioP at hs
  split at h
  ·rename_i hm
   rw [hm] at hs
   rw [Je] at h
   simp only at hs
   split at hs
   ·rename_i s' p
    rcases List.mem_cons.1 hs with rfl | hs
    ·have h1:=h.1
     simp only [OS] at h1
     split at h1
     ·split at h1
      ·rename_i hl; exact ⟨_,hl⟩
      ·simp at h1
     ·simp at h1
    ·exact XF h.2 s hs
   ·exact XF h.2 s hs
  ·rename_i hm
   have:s ∈ ioP A f (i + 1) vs:=by
    split at hs
    ·rename_i hm'; exact absurd hm' hm
    ·exact hs
   exact XF h s this
theorem Pi {s:Nat} (h:bor (J3 (Ju b) s) (match Jb b s with | some _=>true | none=>false)=false):Jb b s=none∧∀ t c,Jb b t=some c→s ∉ Jf c:=by
 rw [Ox] at h
 refine ⟨?_,fun t c hc hm=>C4 h.1 (Cu hc hm)⟩
 cases hl:Jb b s with
 | none=>rfl
 | some c=>rw [hl] at h; simp at h
def Kf (E:Env):Prop:=∀ s c,Jb E.bl s=some c→∃ rc F F',E.G s=some (rc,F)∧InV E c rc F'
theorem jx {E0:Env} (h0:JA E0 sl a) (hr0:Kf E0) {Lf Lp:List Nat} (hf0:∀ s ∈ Lf,∃ x,Jb E0.bl s=some x∧QE x=true) (hp0:∀ s ∈ Lp,∃ x,Jb E0.bl s=some (.obox x)) (hsl:Q6 Lf Lp sl=true)
  {F:List Nat} {v x:V} {u:Value} (hc:JW w bl G (F ++ X) w0 F0) (hs:JA (Ja w bl G (F ++ X)) sl a) (hx:One (Ja w bl G (F ++ X)) x u F) (hv:One E0 v u []) (ho:Qo x=true)
  (hfull:∀ s p e,v=.full s p e→s ∈ Lf) (hptr:∀ s p,v=.ptr s p→s ∈ Lp) (h:Oc bl v x=some b') :
  ∃ G',JW w b' G' X w0 F0∧JA (Ja w b' G' X) sl a∧Le (Ja w bl G (F ++ X)) (Ja w b' G' X):=by
 unfold Oc at h
 split at h
 ·rename_i s p e
  split at h
  ·split at h
   ·rename_i e' l
    split at h
    ·rename_i hfree
     simp only [oj] at h
     subst h
     obtain ⟨f1,f2⟩:=Pi hfree
     obtain ⟨cs,i1,i2⟩:=hx
     obtain ⟨cs0,j1,j2⟩:=hv
     unfold Qi at i2 j2
     simp only [isA] at i2 j2
     subst i2; subst j2
     have hin:InV (Ja w bl G (F ++ X)) (.own e' l) [u] F:=i1
     obtain ⟨g1,g2⟩:=hc.add f1 f2 hin (by simp [Jf])
     have hLf:s ∈ Lf:=hfull _ _ _ rfl
     obtain ⟨x0,k1,k2⟩:=hf0 s hLf
     obtain ⟨rc0,Fr0,_,k3,_⟩:=hr0 s x0 k1
     refine ⟨_,g1,Ph g2 ⟨.inl hLf,?_,?_⟩ hsl h0 hs,g2.le⟩
     ·intro _ e2 cs hcs
      unfold InV at hcs j1 ⊢
      obtain ⟨_,⟨A1,n1,c1,e1⟩,q1⟩:=hcs
      obtain ⟨_,_,q2⟩:=j1
      obtain ⟨v1,r1,r2⟩:=q1 x0 rc0 Fr0 k1 k3 x0 _ rfl k2
      obtain ⟨v2,r3,r4⟩:=q2 x0 rc0 Fr0 k1 k3 x0 _ rfl k2
      rw [r1] at r3
      simp only [oj,List.cons.injEq,and_true] at r3 r4
      refine ⟨rfl,⟨A1,n1,c1,e1⟩,?_⟩
      intro c rc F1 hl hg x L hloc _
      simp only [Ja,JU,if_true,oj,pj] at hl hg
      obtain ⟨rfl,rfl⟩:=hg
      subst hl
      simp only [Jg,oj,pj] at hloc
      obtain ⟨rfl,rfl⟩:=hloc
      exact ⟨u,rfl,by rw [r2,r3,← r4]⟩
     ·intro hLp
      obtain ⟨y0,hy0⟩:=hp0 s hLp
      rw [k1] at hy0
      simp only [oj] at hy0
      subst hy0
      simp [QE] at k2
    ·cases h
   ·cases h
  ·cases h
 ·rename_i s p
  split at h
  ·split at h
   ·rename_i y
    split at h
    ·rename_i hfree
     simp only [oj] at h
     subst h
     obtain ⟨f1,f2⟩:=Pi hfree
     obtain ⟨cs,i1,i2⟩:=hx
     obtain ⟨cs0,j1,j2⟩:=hv
     unfold Qi at i2 j2
     simp only [isA] at i2 j2
     subst i2; subst j2
     have hin:InV (Ja w bl G (F ++ X)) (.obox y) [u] F:=i1
     obtain ⟨g1,g2⟩:=hc.add f1 f2 hin (by rw [Xe ho]; simp)
     have hLp:s ∈ Lp:=hptr _ _ rfl
     obtain ⟨y0,k1⟩:=hp0 s hLp
     obtain ⟨rc0,Fr0,Fr1,k3,k4⟩:=hr0 s _ k1
     unfold InV at k4
     obtain ⟨a0,cs0,_,rfl,_⟩:=k4
     refine ⟨_,g1,Ph g2 ⟨.inr hLp,?_,?_⟩ hsl h0 hs,g2.le⟩
     ·intro hLf
      obtain ⟨x0,hx0,hx1⟩:=hf0 s hLf
      rw [k1] at hx0
      simp only [oj] at hx0
      subst hx0
      simp [QE] at hx1
     ·intro _ cs hcs
      unfold InV at hcs j1 ⊢
      obtain ⟨_,⟨a1,e1⟩,q1⟩:=hcs
      obtain ⟨_,_,q2⟩:=j1
      have hloc:Jg E0.w (.obox y0) (.reg [.pointer (some a0)]) [0]=some (y0,.mem a0):=by simp [Jg,Jj.head]
      obtain ⟨a2,r1,r2⟩:=q1 _ _ _ k1 k3 _ _ hloc
      obtain ⟨a3,r3,r4⟩:=q2 _ _ _ k1 k3 _ _ hloc
      simp only [Jj.mem.injEq] at r1 r3
      subst r1; subst r3
      simp only [List.cons.injEq,and_true] at r4
      refine ⟨rfl,⟨a0,r2⟩,?_⟩
      intro c rc F1 hl hg x L hloc
      simp only [Ja,JU,if_true,oj,pj] at hl hg
      obtain ⟨rfl,rfl⟩:=hg
      subst hl
      rw [r4] at hloc
      simp only [Jg,Jj.head,List.getElem?_cons_zero,oj,pj] at hloc
      obtain ⟨rfl,rfl⟩:=hloc
      exact ⟨a0,rfl,r2⟩
    ·cases h
   ·cases h
  ·cases h
 ·cases h
theorem qS {E1 E2 E3:Env} (h:Le E1 E2) (k:Le E2 E3):Le E1 E3:=
 ⟨fun b hb=>⟨(k.stab b (h.stab b hb).1).1,(k.stab b (h.stab b hb).1).2.trans (h.stab b hb).2⟩,Nat.le_trans h.size k.size,fun b h1 h2=>k.kept b (h.stab b h1).1 (h.kept b h1 h2)⟩
theorem Kg {kp:Bool} {f:FuncId} {E0:Env} (h0:JA E0 sl a) (hr0:Kf E0) {Lf Lp:List Nat} (hf0:∀ s ∈ Lf,∃ x,Jb E0.bl s=some x∧QE x=true) (hp0:∀ s ∈ Lp,∃ x,Jb E0.bl s=some (.obox x)) (hsl:Q6 Lf Lp sl=true) :
  ∀ {vs xs:List V} {i:Nat} {us:List Value} {Fo:List Nat} {bl b':BL} {G:GT} {E:Env},JW w bl G (Fo ++ X) w0 F0→JA (Ja w bl G (Fo ++ X)) sl a→E.w=w→(kp=true→Kle E (Ja w bl G (Fo ++ X)))→CD E (fun j=>J9 (A.mode f j)) i xs us Fo→Tup E0 vs us [] →
   (∀ s ∈ ioF A f i vs,s ∈ Lf)→(∀ s ∈ ioP A f i vs,s ∈ Lp)→Q5 A kp f i bl vs xs=some b'→∃ G',JW w b' G' X w0 F0∧JA (Ja w b' G' X) sl a
 | [],[],i,us,Fo,bl,b',G,E,hc,hs,hE,hle,ho,hv,hlf,hlp,h=>by
  simp only [Q5,oj] at h
  subst h
  obtain ⟨_,rfl⟩:=ho
  exact ⟨G,hc,hs⟩
 | [],x :: xs,i,us,Fo,bl,b',G,E,hc,hs,hE,hle,ho,hv,hlf,hlp,h=>by simp [Q5] at h
 | v :: vs,[],i,us,Fo,bl,b',G,E,hc,hs,hE,hle,ho,hv,hlf,hlp,h=>by simp [Q5] at h
 | v :: vs,x :: xs,i,us,Fo,bl,b',G,E,hc,hs,hE,hle,ho,hv,hlf,hlp,h=>by
  obtain ⟨u,r,F1,F2,e1,rfl,h1,h2,h3⟩:=ho
  obtain ⟨u',r',K1,K2,k1,k2,j1,j2⟩:=hv
  obtain ⟨rfl,rfl⟩:=List.append_eq_nil_iff.1 k2.symm
  rw [e1] at k1
  simp only [List.cons.injEq] at k1
  obtain ⟨rfl,rfl⟩:=k1
  simp only [Q5] at h
  split at h
  ·rename_i hm
   have hlf':∀ s p e,v=.full s p e→s ∈ Lf:=fun s p e hv=>hlf s (by rw [hv]; simp [ioF,hm])
   have hlp':∀ s p,v=.ptr s p→s ∈ Lp:=fun s p hv=>hlp s (by rw [hv]; simp [ioP,hm])
   have hlf2:∀ s ∈ ioF A f (i + 1) vs,s ∈ Lf:=fun s hs=>hlf s (by
    simp only [ioF,hm]
    split
    ·simp [hs]
    ·exact hs)
   have hlp2:∀ s ∈ ioP A f (i + 1) vs,s ∈ Lp:=fun s hs=>hlp s (by
    simp only [ioP,hm]
    split
    ·simp [hs]
    ·exact hs)
   split at h
   ·rename_i hx
    split at h
    ·rename_i b2 hp
     obtain ⟨t1,t2⟩:=hc.perm (show ((F1 ++ F2) ++ X).Perm (F1 ++ (F2 ++ X)) by rw [List.append_assoc])
     have hxk:Qo x=true:=by
      rw [Cc,Je] at hx
      rcases hx with hx | hx
      ·exact YL hx
      ·exact hx.2
     obtain ⟨cs,m1,m2⟩:=h1 (by show J9 (A.mode f i)=true; rw [hm]; rfl)
     have hone:One (Ja w bl G (F1 ++ (F2 ++ X))) x u F1:=by
      rw [Cc,Je] at hx
      rcases hx with hx | hx
      ·exact ⟨cs,Ow (E:=E) (by rw [hE]; rfl) _ hx m1,m2⟩
      ·exact ⟨cs,Xf (E:=E) (by have:=hle hx.1; rw [List.append_assoc] at this; exact this) (by rw [hE]; rfl) hx.2 m1,m2⟩
     obtain ⟨G1,q1,q2,q3⟩:=jx h0 hr0 hf0 hp0 hsl t1 (hs.go0 t2) hone j1 hxk hlf' hlp' hp
     exact Kg h0 hr0 hf0 hp0 hsl q1 q2 hE (fun hk=>by have:=hle hk; rw [List.append_assoc] at this; exact fun b h1 h2=>⟨(q3.stab b (this b h1 h2).1).1,q3.kept b (this b h1 h2).1 (this b h1 h2).2⟩) h3 j2 hlf2 hlp2 h
    ·cases h
   ·cases h
  ·rename_i hm
   have hf:J9 (A.mode f i)=false:=by
    cases hq:A.mode f i with
    | io=>exact absurd hq hm
    | take=>rfl
    | lend=>rfl
    | keep=>rfl
   have:=h2 hf
   subst this
   refine Kg h0 hr0 hf0 hp0 hsl (Fo:=F2) hc hs hE hle h3 j2 (fun s hs=>hlf s ?_) (fun s hs=>hlp s ?_) h
   ·unfold ioF
    split
    ·rename_i hm'; exact absurd hm' hm
    ·exact hs
   ·unfold ioP
    split
    ·rename_i hm'; exact absurd hm' hm
    ·exact hs
theorem Kh {E:Env} {io:Nat→Bool}:∀ {xs:List V} {i:Nat} {vs:List Value} {F:List Nat},UC E io i xs vs F→Tup E xs vs F
 | [],i,vs,F,h=>h
 | x :: xs,i,vs,F,⟨v,r,F1,F2,e1,e2,h1,h2,h3⟩=>⟨v,r,F1,F2,e1,e2,h1,Kh h3⟩
theorem Pj {cl:Call} {fo:Operand} {g:FuncId} {caps:List V} {b2:BL} (ho:o.op=.call cl) (hcal:cl.callee=.value fo) (hf:opd sl fo=.fn g caps)
  {ts:List Ty} (hnt:QV (Jo sl cl.args.toList)=true) (hna:Hy caps=true)
  (hroots:U6 A g b 0 (cat (Jo sl cl.args.toList) caps)=true)
  (hsl:Q6 (ioF A g 0 (cat (Jo sl cl.args.toList) caps)) (ioP A g 0 (cat (Jo sl cl.args.toList) caps)) sl=true)
  {ws:List V} {res:V} {outs:List V}
  (hp:OR A g b ts (cat (Jo sl cl.args.toList) caps)=some (c,ws,bl)) (hk:∀ x ∈ c,x.ok) (hco:HF P (fun i=>J9 (A.mode g i)) g ws res outs) (how:Qa res=true)
  (hre:Q5 A (UH A g 0 ws) g 0 bl (cat (Jo sl cl.args.toList) caps) outs=some b2) (hpl:Q7 sl b2 o.dst res=some (v,b1)) :
  UM P o sl b v b1:=by
 intro Pn w0 F0 a w hdst hr K Q hK
 obtain ⟨⟨G,hc,hs⟩,hl,hd,hpin⟩:=hr
 obtain ⟨k1,k3⟩:=hco
 obtain ⟨fn,j1,j2,j3⟩:=k1
 have hfv:=JZ hs fo
 rw [hf] at hfv
 have hfv':=(JV rfl (by simp) (by simp)).1 hfv
 unfold InV at hfv'
 obtain ⟨vals,hfe,hcaps,_⟩:=hfv'
 simp only [List.cons.injEq,and_true] at hfe
 rw [J8] at hp hroots hsl hre
 have hargs:Tup (Ja w b G []) (Jo sl cl.args.toList ++ caps) (cl.args.toList.map a.eval ++ vals.toList) []:=by
  have:=Xk (Xi (io:=fun j=>Hd (A.mode g j)) (i:=0) hs hnt) (Xj (i:=0 + (Jo sl cl.args.toList).length) hna hcaps)
  exact Kh (by simpa using this)
 have hroot0:Kf (Ja w b G []):=fun s c hc'=>by
  obtain ⟨rc,F,F1,h1,h2,_⟩:=hc.ok.root s c hc'
  exact ⟨rc,F,F1,h1,h2⟩
 obtain ⟨F,G1,p1,p2',p3,p4⟩:=M0 hc hargs hp hk
 obtain ⟨Kx,p2,hKx⟩:∃ Kx,Tup (QW Kx w F) ws (cl.args.toList.map a.eval ++ vals.toList) F∧(UH A g 0 ws=true→Kx=Xg w bl G1 F):=by
  cases hq:UH A g 0 ws with
  | false=>exact ⟨_,p2',fun h=>by cases h⟩
  | true=>exact ⟨_,p4 hq,fun _=>rfl⟩
 have hcalls:=k3 Kx w (cl.args.toList.map a.eval ++ vals.toList) F p2 p1.ok.xnd p1.ok.xlt
 have hrun:(execOp a.eval o).run P w=.ok (.enter g (cl.args.toList.map a.eval ++ vals.toList).toArray) w:=by
  have hcf:=YQ (P:=P) (w:=w) (args:=(cl.args.toList.map a.eval ++ vals.toList).toArray) j1 j2 j3
  have he:(cl.args.toList.map a.eval ++ vals.toList).toArray=cl.args.map a.eval ++ vals:=by apply Array.ext'; simp
  rw [he] at hcf ⊢
  simp [execOp,ho,resolve,hcal,hfe,Deferred.ofValue,invoke,hcf]
 unfold Oper.wp
 rw [hrun,Oper.upon_enter]
 refine Calls.mono hcalls ?_
 rintro e w2 ⟨v2,Fr,Fo,rfl,q1,q2,q3,q4,q5,q6,q7,q8,q9⟩
 obtain ⟨t1,t2⟩:=p1.world (w':=w2) (X':=Fr ++ Fo) q6 (fun b hb hx=>q5 b hb hx) q3 q4 q7 q8 q9
 have hs2:JA (Ja w2 bl G1 (Fr ++ Fo)) sl a:=(hs.go0 p3).go0 t2
 obtain ⟨t3,t4⟩:=t1.perm (List.perm_append_comm (l₁:=Fr) (l₂:=Fo))
 have hleK:UH A g 0 ws=true→Kle (QW Kx w2 (Fr ++ Fo)) (Ja w2 bl G1 (Fo ++ Fr)):=fun hq=>by
  have:=hKx hq
  subst this
  intro b h1 h2
  refine ⟨⟨h1.1,fun ho=>?_⟩,h2.2⟩
  rcases ho with ho | ho
  ·exact h1.2 (by rcases List.mem_append.1 ho with h | h <;> simp [h])
  ·exact h2.1.2 (.inr ho)
 obtain ⟨G2,r1,r2⟩:=Kg (X:=Fr) (E:=QW Kx w2 (Fr ++ Fo)) hs hroot0 (XE hroots) (XF hroots) hsl t3 (hs2.go0 t4) rfl hleK q2 hargs (fun s h=>h) (fun s h=>h) hre
 obtain ⟨G',s1,s2,s3⟩:=YP (E:=QW Kx w2 (Fr ++ Fo)) r1 r2 rfl q1 how hpl
 exact hK _ _ (Rel.put s1 s2 hl hd hpin hdst s3)
end
end Go.Rai
namespace Go.Rai
variable [Inhabited Qe]
def Vs (E E':Env) (s n m:Nat):Prop:=
 ∀ c' rc F',Jb E'.bl s=some c'→E'.G s=some (rc,F')→∃ c F0,Jb E.bl s=some c∧E.G s=some (rc,F0) ∧
  Q1 false n E.w E'.w c c' (.reg rc)∧Q1 true m E.w E'.w c c' (.reg rc)
theorem OB {α:Type}:∀ (l:List α),Ul l=l.length
 | []=>rfl
 | _ :: l=>by simp [Ul,OB l]
theorem Ki {s n:Nat} {p:List Nat} (h:VG s n s p=true):p.length<n:=by
 unfold VG at h
 rw [Nat.beq_refl] at h
 have:=Nat.le_of_ble_eq_true h
 rw [OB] at this
 exact this
mutual
theorem Pk {E E':Env} {s n m:Nat} (hE:Jz E E' (fun t=>t=s)) (hb:Vs E E' s n m):∀ (v:V) {cs:List Value},UR s n m v=true→InV E v cs []→InV E' v cs []
 | .full t p e,cs,hv,h1=>by
  by_cases hts:t=s
  ·subst hts
   unfold UR at hv
   have hlen:=Ki hv
   unfold InV at h1 ⊢
   obtain ⟨h0,h2,h3⟩:=h1
   refine ⟨h0,h2,fun c' rc F' hc hg x' L hl ho=>?_⟩
   obtain ⟨c,F0,hc0,hg0,_,hal⟩:=hb c' rc F' hc hg
   obtain ⟨x,hx,hown⟩:=hal p hlen x' L hl
   obtain ⟨ho',hh⟩:=hown rfl ho
   obtain ⟨v,hv,hcs⟩:=h3 c rc F0 hc0 hg0 x L hx ho'
   exact ⟨v,by rw [hh]; exact hv,hcs⟩
  ·exact hE.inV (by intro t' ht' e; simp [Jf] at ht'; exact hts (ht' ▸ e)) (fun _ hb=>by cases hb) h1
 | .sub t p off len e,cs,hv,h1=>by
  by_cases hts:t=s
  ·subst hts
   unfold UR at hv
   have hlen:=Ki hv
   unfold InV at h1 ⊢
   obtain ⟨h0,h2,h3⟩:=h1
   refine ⟨h0,h2,fun c' rc F' hc hg x' L hl ho=>?_⟩
   obtain ⟨c,F0,hc0,hg0,_,hal⟩:=hb c' rc F' hc hg
   obtain ⟨x,hx,hown⟩:=hal p hlen x' L hl
   obtain ⟨ho',hh⟩:=hown rfl ho
   obtain ⟨A,n,k,A',hv,hcs⟩:=h3 c rc F0 hc0 hg0 x L hx ho'
   exact ⟨A,n,k,A',by rw [hh]; exact hv,hcs⟩
  ·exact hE.inV (by intro t' ht' e; simp [Jf] at ht'; exact hts (ht' ▸ e)) (fun _ hb=>by cases hb) h1
 | .ptr t p,cs,hv,h1=>by
  by_cases hts:t=s
  ·subst hts
   unfold UR at hv
   have hlen:=Ki hv
   unfold InV at h1 ⊢
   obtain ⟨h0,h2,h3⟩:=h1
   refine ⟨h0,h2,fun c' rc F' hc hg x' L hl=>?_⟩
   obtain ⟨c,F0,hc0,hg0,hal,_⟩:=hb c' rc F' hc hg
   obtain ⟨x,hx,_⟩:=hal p hlen x' L hl
   exact h3 c rc F0 hc0 hg0 x L hx
  ·exact hE.inV (by intro t' ht' e; simp [Jf] at ht'; exact hts (ht' ▸ e)) (fun _ hb=>by cases hb) h1
 | .agg vs,cs,hv,h1=>by
  unfold UR at hv
  unfold InV at h1 ⊢
  exact Kj hE hb vs hv h1
 | .fn f vs,cs,hv,h1=>by
  unfold UR at hv
  unfold InV at h1 ⊢
  obtain ⟨vals,rfl,i1,i2⟩:=h1
  exact ⟨vals,rfl,Kj hE hb vs hv i1,i2⟩
 | .tup vs,cs,hv,h1=>by unfold InV at h1; exact h1.elim
 | .lst e vs,cs,hv,h1=>by
  simp only [UR] at hv
  exact hE.inV (fun t ht e=>by subst e; exact C4 (C3 hv) ht) (fun _ hb=>by cases hb) h1
 | .obox x,cs,hv,h1=>by
  simp only [UR] at hv
  exact hE.inV (fun t ht e=>by subst e; exact C4 (C3 hv) ht) (fun _ hb=>by cases hb) h1
 | .rp x,cs,hv,h1=>by
  simp only [UR] at hv
  exact hE.inV (fun t ht e=>by subst e; exact C4 (C3 hv) ht) (fun _ hb=>by cases hb) h1
 | .int _ _,cs,hv,h1=>hE.inV (fun t ht=>by cases ht) (fun _ hb=>by cases hb) h1
 | .bool _,cs,hv,h1=>hE.inV (fun t ht=>by cases ht) (fun _ hb=>by cases hb) h1
 | .str _,cs,hv,h1=>hE.inV (fun t ht=>by cases ht) (fun _ hb=>by cases hb) h1
 | .own _ _,cs,hv,h1=>hE.inV (fun t ht=>by cases ht) (fun _ hb=>by cases hb) h1
 | .rd _ _,cs,hv,h1=>hE.inV (fun t ht=>by cases ht) (fun _ hb=>by cases hb) h1
 | .arr _ _ _,cs,hv,h1=>hE.inV (fun t ht=>by cases ht) (fun _ hb=>by cases hb) h1
 | .undef,cs,hv,h1=>hE.inV (fun t ht=>by cases ht) (fun _ hb=>by cases hb) h1
 | .void,cs,hv,h1=>hE.inV (fun t ht=>by cases ht) (fun _ hb=>by cases hb) h1
 | .nilsl,cs,hv,h1=>hE.inV (fun t ht=>by cases ht) (fun _ hb=>by cases hb) h1
 | .emp _,cs,hv,h1=>hE.inV (fun t ht=>by cases ht) (fun _ hb=>by cases hb) h1
 | .nilfn,cs,hv,h1=>hE.inV (fun t ht=>by cases ht) (fun _ hb=>by cases hb) h1
 | .nilptr,cs,hv,h1=>hE.inV (fun t ht=>by cases ht) (fun _ hb=>by cases hb) h1
theorem Kj {E E':Env} {s n m:Nat} (hE:Jz E E' (fun t=>t=s)) (hb:Vs E E' s n m):∀ (vs:List V) {cs:List Value},US s n m vs=true→Ji E vs cs []→Ji E' vs cs []
 | [],cs,hv,h1=>by unfold Ji at h1 ⊢; exact h1
 | v :: vs,cs,hv,h1=>by
  unfold US at hv
  rw [Je] at hv
  unfold Ji at h1 ⊢
  obtain ⟨d1,d2,G1,G2,k1,k2,j1,j2⟩:=h1
  obtain ⟨rfl,rfl⟩:=List.append_eq_nil_iff.1 k2.symm
  exact ⟨d1,d2,[],[],k1,rfl,Pk hE hb v hv.1 j1,Kj hE hb vs hv.2 j2⟩
end
section
variable {P:Program} {A:Ann} {w w' w0:World} {F0:List Nat} {sl:List V} {a:Act} {bl b b' b1:BL} {G:GT} {o:Oper} {X:List Nat} {v:V} {c:List Jm}
theorem Pl {E E':Env} {s n m:Nat} (hE:Jz E E' (fun t=>t=s)) (hb:Vs E E' s n m) {x:V} {u:Value} (hv:UR s n m x=true) (h1:One E x u []):One E' x u []:=by
 obtain ⟨cs',j1,j2⟩:=h1
 exact ⟨cs',Pk hE hb x hv j1,j2⟩
theorem Pm {E E':Env} {s n m:Nat} (hE:Jz E E' (fun t=>t=s)) (hb:Vs E E' s n m):∀ {xs:List V} {us:List Value},US s n m xs=true→Tup E xs us []→Tup E' xs us []
 | [],us,hv,h1=>h1
 | x :: xs,us,hv,⟨u',r',G1,G2,k1,k2,j1,j2⟩=>by
  unfold US at hv
  rw [Je] at hv
  obtain ⟨rfl,rfl⟩:=List.append_eq_nil_iff.1 k2.symm
  exact ⟨u',r',[],[],k1,rfl,Pl hE hb hv.1 j1,Pm hE hb hv.2 j2⟩
theorem jy {E E':Env} {s n m:Nat} (hE:Jz E E' (fun t=>t=s)) (hb:Vs E E' s n m) {x:V} {u:Value} (hv:UR s n m x=true) (h1:Val E x u []):Val E' x u []:=by
 cases x with
 | tup xs=>
  obtain ⟨us',e1,j1⟩:=h1
  unfold UR at hv
  exact ⟨us',e1,Pm hE hb hv j1⟩
 | undef=>exact h1
 | _=>exact Pl hE hb hv h1
theorem Po {s n m:Nat}:∀ {sl:List V} {t:Nat},US s n m sl=true→UR s n m (Jy sl t)=true
 | [],t,h=>by cases t <;> rfl
 | v :: sl,t,h=>by
  unfold US at h
  rw [Je] at h
  cases t with
  | zero=>exact h.1
  | succ t=>exact Po (sl:=sl) (t:=t) h.2
theorem Pp {E E':Env} {s n m:Nat} (hE:Jz E E' (fun t=>t=s)) (hb:Vs E E' s n m) (hv:US s n m sl=true) (h1:JA E sl a):JA E' sl a:=
 fun t=>jy hE hb (Po hv) (h1 t)
theorem jz {t:Ty} {vs:List V}:UG t (.tup vs)=.tup vs:=by cases t <;> rfl
theorem Pq (HT:JY P A.ty) (hc:J7 w bl G w0 F0) (hs:JA (Ja w bl G []) sl a) {sl':List V} (hs':JA (Ja w bl G []) sl' a) {t:TypeId} {x y:Operand} {co:List Jm} {b:BL} (h:o.op=.store t x y)
  (hv:CP (A.ty t) sl' bl (opd sl x) (opd sl y)=some (co,b)) (hk:∀ k ∈ co,k.ok):Jr P w0 F0 sl' a w o .void b:=by
 have hx:=JZ hs x
 unfold CP at hv
 split at hv
 ·rename_i s p hxe
  split at hv
  ·rename_i c1 yv b1 hin
   split at hv
   ·rename_i hchk
    rw [Je,Je,Je,Je] at hchk
    obtain ⟨⟨hyo,hyf⟩,⟨hpl,hpos⟩,hns⟩:=hchk
    have hns':=C4 (C3 hns)
    have hpos':(A.ty t).size ≠ 0:=by
     intro h0
     have:=C3 hpos
     rw [h0] at this
     cases this
    split at hv
    ·rename_i c hl
     split at hv
     ·rename_i c2 z hg
      split at hv
      ·rename_i hz
       simp only [oj,pj] at hv
       obtain ⟨rfl,rfl⟩:=hv
       rw [Je,Cc,Je,Je,Cc] at hz
       obtain ⟨hz,hpath⟩:=hz
       obtain ⟨hk1,hk2⟩:=Q2 hk
       have hyt:∀ xs,opd sl y ≠ .tup xs:=by
        intro xs hxs
        rw [hxs,jz] at hin
        cases hq:inl 9 bl (.tup xs) with
        | none=>rw [hq] at hin; cases hin
        | some r=>
         simp only [inl] at hin
         split at hin
         ·simp only [oj,pj] at hin
          rw [← hin.2.1] at hyf
          cases hA:A.ty t <;> rw [hA] at hyf <;> simp [Js] at hyf
         ·cases hin
       obtain ⟨csy,y1,y2⟩:=Wb hyt (JZ hs y)
       obtain ⟨Fy,G1,q1,q2,q3⟩:=(Ot 9).1 (F:=[]) (X:=[]) hc.x (V0 (A.ty t) y1) hin hk1
       simp only [List.append_nil] at q1 q2 q3
       have hT:=HT t (Cw hyf)
       have hx':Val (Ja w b1 G1 Fy) (.ptr s p) (a.eval x) []:=by rw [← hxe]; exact JZ (hs.go0 q3) x
       obtain ⟨rc,F,F1,g1,g2,g3,g4,g5⟩:=q1.ok.root s c hl
       obtain ⟨Lx,i4⟩:=HD (Ja w b1 G1 Fy) p c rc F1 (.reg rc) c2 z g2 ⟨[],by simp⟩ hg hk2
       obtain ⟨csx,Fx,Fr,m1,m2,m3,m4,m5⟩:=q1.modifyN hl g1 i4
       obtain ⟨ad,rfl,hpx⟩:=Oo hx' hl g1 i4
       have hunf:=CA (Ja w b1 G1 Fy) p c rc F1 (.reg rc) z ad g2 ⟨[],by simp⟩ (fun b hb=>by cases hb) i4
       have hzs:vsz z=(A.ty t).size:=by
        rcases hz with ⟨_,hzf⟩ | ⟨_,hzu⟩
        ·exact (Qw hzf).1
        ·unfold KV at hzu
         split at hzu
         ·rename_i hty; rw [hty]; rfl
         ·cases hzu
       have q4:csy.length=(A.ty t).size:=by rw [Qp _ q2,(Qw hyf).1]
       have q5:∀ u ∈ csy,u.oneCell'=true:=VX hyf q2
       have hcells:(a.eval y).cells=csy.toArray:=by
        unfold Qi at y2
        split at y2
        ·rw [y2]; rfl
        ·subst y2; exact VY (q5 _ (by simp))
       rw [hzs,← q4] at hunf
       have hunf':QP w ad csy.length:=hunf
       have hrun:=YE (w:=w) hT hunf' q4 hcells q5 (by rw [q4]; exact hpos')
       obtain ⟨e1,e2,e3⟩:=Vc ad.block csy ad.off w
       have hadF:ad.block ∈ F:=by
        rcases m4 with ⟨a',ha',hin'⟩ | ⟨ds,hds⟩
        ·cases ha'; exact (m3.mem_iff).2 (by simp [hin'])
        ·cases hds
       have hadY:ad.block ∉ Fy:=(g5 _ hadF).2
       have hmem:∀ b,b<w.heap.size→b ∉ Fx→(∀ a,Jj.mem ad=.mem a→b ≠ a.block)→(w.setCells ad.block ad.off csy).heap[b]?=w.heap[b]?:=
        fun b hb hbF hba=>HX _ _ (fun e=>hba ad rfl e) _ _ _
       have hyin:∀ E':Env,E'.w=w.setCells ad.block ad.off csy→InV E' yv csy Fy:=by
        intro E' hE'
        have h1:InV ⟨w.setCells ad.block ad.off csy,(Ja w b1 G1 Fy).S,Kept.K,[],fun _=>none⟩ yv csy Fy:=by
         refine U8 (E:=Ja w b1 G1 Fy) (E':=⟨w.setCells ad.block ad.off csy,(Ja w b1 G1 Fy).S,Kept.K,[],fun _=>none⟩) ⟨fun b hb=>⟨hb,?_⟩,by show _≤(World.setCells _ _ _ _).heap.size; rw [Cz]; exact Nat.le_refl _,fun _ _ h=>h⟩ _ (fun s' hs'=>by rw [XD _ hyo] at hs'; cases hs') (fun b hb=>?_) q2
         ·refine HX _ _ (fun e=>hb.2 ?_) _ _ _
          subst e
          exact .inr ⟨s,c,rc,F,hl,g1,hadF⟩
         ·exact HX _ _ (fun (e:_=ad.block)=>hadY (by rw [← e]; exact hb)) _ _ _
        exact Ow (by rw [hE']) yv hyo h1
       obtain ⟨p1,p2,p3⟩:=m5 (w.setCells ad.block ad.off csy) yv csy Fy [] (fun u=>u=s) (fun _ h=>h)
        (fun _ t' ct hct hm=>hns' (Cu hct hm))
        (by rw [hzs,(Qw hyf).1])
        (by
         intro hout t' ht'
         obtain ⟨hzo,hzf⟩:JT z=true∧Js (A.ty t) z=true:=by
          rcases hz with ⟨hzo,hzf⟩ | ⟨ho,_⟩
          ·exact ⟨hzo.elim id (fun h=>by rw [h] at hout; cases hout),hzf⟩
          ·rw [ho] at hout; cases hout
         have s1:=V8 hpl hzf hzo
         have s2:=V8 hpl hyf hyo
         rw [← YD s1 ht']
         exact s2)
        (by rw [Cz]; exact Nat.le_refl _)
        (fun b hb hbF _ hba=>hmem b hb hbF hba)
        (fun _ _=>.inr (.inr trivial))
        (by rw [hzs,← q4]; exact V6 (Hq hunf') hunf' rfl)
        (V7 (Hq hunf') hunf')
        (by rintro ⟨ds,hd⟩; cases hd)
        (by rw [List.append_nil]; exact q1.ok.xnd)
        (by
         intro b hb
         rw [List.append_nil] at hb
         exact ⟨by rw [Cz]; exact q1.ok.xlt b hb,.inr (.inl hb)⟩)
        (fun h=>absurd rfl h) e1 e2 e3 hmem
        (fun _=>hyin _ rfl) (fun _=>hyin _ rfl)
       refine ⟨undef,_,_,.inr ⟨?_,rfl⟩,p1.c,Pp p2 ?_ hpath (hs'.go0 q3),VP.2 ⟨rfl,rfl⟩⟩
       ·simp only [execOp,h,hpx,Sem.run_bind,hrun,Result.andThen_ok,Sem.run_pure]
       ·intro c' rc' F' hl' hg'
        simp only [Ja,JU,if_true,oj,pj] at hl' hg'
        obtain ⟨rfl,_⟩:=hg'
        subst hl'
        refine ⟨c,F,hl,g1,?_,?_⟩
        ·refine (p3 false 1 ?_).mono (by rw [OB]; omega)
         intro q hq x' L' hlq
         have:q=[]:=List.eq_nil_of_length_eq_zero (by omega)
         subst this
         simp only [Jg,oj,pj] at hlq
         obtain ⟨rfl,rfl⟩:=hlq
         exact ⟨z,rfl,fun h=>by cases h⟩
        ·refine (p3 true 0 (fun q hq=>by omega)).mono (by rw [OB]; omega)
      ·simp at hv
     ·simp at hv
    ·simp at hv
   ·simp at hv
  ·simp at hv
 ·simp at hv
theorem Pr (HT:JY P A.ty) {t:TypeId} {x y:Operand} {co:List Jm} (h:o.op=.store t x y)
  (hv:CP (A.ty t) sl b (opd sl x) (opd sl y)=some (co,b1)) (hk:∀ k ∈ co,k.ok):UM P o sl b .void b1:=by
 intro Pn w0 F0 a w hdst hr K Q hK
 obtain ⟨⟨G,hc,hs⟩,hl,hd,hpin⟩:=hr
 obtain ⟨vv,w',G',hrun,k1,k2,k3⟩:=Pq (o:=o) HT hc hs hs h hv hk
 have hrel:=Rel.put (d:=o.dst) k1 k2 hl hd hpin hdst k3
 unfold Oper.wp
 rcases hrun with hrun | ⟨hrun,hvv⟩
 ·rw [hrun]; exact hK _ _ hrel
 ·rw [hrun]; subst hvv; exact hK _ _ hrel
theorem Ps (s n m:Nat):∀ (sl:List V),(Hz s n m sl).length=sl.length
 | []=>rfl
 | v :: sl=>by simp only [Hz,List.length_cons,Ps s n m sl]
theorem Pt (s n m:Nat):∀ (sl:List V) (t:Nat),Jy (Hz s n m sl) t=Jy sl t ∨ Jy (Hz s n m sl) t=.undef
 | [],t=>.inl rfl
 | v :: sl,0=>by
  simp only [Hz,Jy]
  split
  ·exact .inl rfl
  ·exact .inr rfl
 | v :: sl,t + 1=>by simpa only [Hz,Jy] using Pt s n m sl t
theorem jA {E:Env} (s n m:Nat) (h:JA E sl a):JA E (Hz s n m sl) a:=fun t=>by
 rcases Pt s n m sl t with e | e
 ·rw [e]; exact h t
 ·rw [e]; exact rfl
theorem jB {b b':BL} {vs:List V} {v':V} {c:List Jm} (h:inl 9 b (.agg vs)=some (c,v',b')):isA v'=true:=by
 simp only [inl] at h
 split at h
 ·simp only [oj,pj] at h
  obtain ⟨_,rfl,_⟩:=h
  rfl
 ·cases h
def OD (P:Program) (o:Oper) (sl:List V) (b:BL) (sl1:List V) (v:V) (b1:BL):Prop:=
 ∀ {Pn:Nat→Option Value} {w0:World} {F0:List Nat} {a:Act} {w:World},(∀ t,o.dst=some t→Pn t=none)→Rel Pn w0 F0 ⟨sl,b⟩ a w→∀ {K:Act→World→Prop} {Q:Exit→Act→World→Prop},
  (∀ a' w',Rel Pn w0 F0 ⟨Qx sl1 o.dst v,b1⟩ a' w'→K a' w')→o.wp P a w K Q
theorem jC (HT:JY P A.ty) {t:TypeId} {x y:Operand} {co:List Jm} {s n m:Nat} (h:o.op=.store t x y)
  (hv:CP (A.ty t) (Hz s n m sl) b (opd sl x) (opd sl y)=some (co,b1)) (hk:∀ k ∈ co,k.ok):OD P o sl b (Hz s n m sl) .void b1:=by
 intro Pn w0 F0 a w hdst hr K Q hK
 obtain ⟨⟨G,hc,hs⟩,hl,hd,hpin⟩:=hr
 obtain ⟨vv,w',G',hrun,k1,k2,k3⟩:=Pq (o:=o) HT hc hs (jA s n m hs) h hv hk
 have hrel:=Rel.put (d:=o.dst) k1 k2 (by rw [Ps]; exact hl) hd hpin hdst k3
 unfold Oper.wp
 rcases hrun with hrun | ⟨hrun,hvv⟩
 ·rw [hrun]; exact hK _ _ hrel
 ·rw [hrun]; subst hvv; exact hK _ _ hrel
theorem jD (HT:JY P A.ty) (hc:J7 w bl G w0 F0) (hs:JA (Ja w bl G []) sl a) {t:TypeId} {x y:Operand} {co:List Jm} {b:BL} (h:o.op=.store t x y)
  (hv:VK (A.ty t) bl (opd sl x) (opd sl y)=some (co,b)) (hk:∀ k ∈ co,k.ok):Jr P w0 F0 sl a w o .void b:=by
 have hx:=JZ hs x
 unfold VK at hv
 split at hv
 ·rename_i s p hxe
  split at hv
  ·rename_i c hl
   split at hv
   ·rename_i cs hg
    split at hv
    ·rename_i hchk
     simp only [oj,pj] at hv
     obtain ⟨rfl,rfl⟩:=hv
     rw [Je,Je,Je] at hchk
     obtain ⟨⟨hsl,hfit⟩,hsy,hout⟩:=hchk
     obtain ⟨e,hty⟩:∃ e,A.ty t=.slice e:=by cases hq:A.ty t <;> simp [hq,Uz] at hsl; exact ⟨_,rfl⟩
     have hT:=HT t (Cw hfit)
     have hsize:(A.ty t).size=1:=by rw [hty]; rfl
     rw [hxe] at hx
     obtain ⟨c0,rc,F,i1,i2,i3,Lx,csx,Fx,i4,i5,i6,i7,i8,i9⟩:=Ut hc (bl:=bl) (p:=p) (s:=s) (c:=cs) (x:=.undef) (by unfold J1; rw [hl]; exact hg) hk
     rw [hl] at i1; simp only [oj] at i1; subst i1
     obtain ⟨ad,rfl,hpx⟩:=Oo hx (E:=Ja w bl G []) hl i2 i4
     obtain ⟨rc',F',F1,g1,g2,g3,g4,g5⟩:=hc.ok.root s c hl
     rw [i2] at g1; simp only [oj,pj] at g1; obtain ⟨rfl,rfl⟩:=g1
     have hunf:=CA (Ja w bl G []) p c rc F1 (.reg rc) .undef ad g2 ⟨[],by simp⟩ (fun b hb=>by cases hb) i4
     obtain ⟨csy,q1,q2,q3,q4,q5⟩:=VZ hfit (JZ hs y)
     have hzs:vsz .undef=(A.ty t).size:=by rw [hsize]; rfl
     rw [hzs] at hunf
     rw [← q4] at hunf
     have hunf':QP w ad csy.length:=hunf
     have hrun:=YE (w:=w) hT hunf' q4 q3 q5 (by rw [q4,hsize]; decide)
     obtain ⟨csx2,Fx2,Fr,m1,m2,m3,m4,m5⟩:=hc.x.modify hl i2 i4
     obtain ⟨e1,e2,e3⟩:=Vc ad.block csy ad.off w
     have hmem:∀ b,b<w.heap.size→b ∉ Fx2→(∀ a,Jj.mem ad=.mem a→b ≠ a.block)→(w.setCells ad.block ad.off csy).heap[b]?=w.heap[b]?:=
      fun b hb hbF hba=>HX _ _ (fun e=>hba ad rfl e) _ _ _
     have hnol:∀ q x' L' (w':World),Jg w' (opd sl y) (.mem ad) q=some (x',L')→q=[]∧x'=opd sl y∧L'=.mem ad:=by
      intro q x' L' w' hq
      cases q with
      | nil=>simp only [Jg,oj,pj] at hq; exact ⟨rfl,hq.1.symm,hq.2.symm⟩
      | cons j q=>
       exfalso
       rw [hty] at hfit
       cases hy:opd sl y <;> rw [hy] at hfit hsy hq <;> simp [Js,UQ,Jg] at hfit hsy hq
     have hnown:QE (opd sl y)=false:=by
      rw [hty] at hfit
      cases hy:opd sl y <;> rw [hy] at hfit hsy <;> simp [Js,UQ,QE] at hfit hsy ⊢
     obtain ⟨p1,p2⟩:=m5 (w.setCells ad.block ad.off csy) (opd sl y) csy [] [] (by rw [hzs,(Qw hfit).1])
      (by intro ho; rw [hout] at ho; cases ho)
      (by rw [Cz]; exact Nat.le_refl _)
      (fun b hb hbF _ hba=>hmem b hb hbF hba)
      (fun _ _=>.inr (.inr trivial))
      (by rw [hzs,← q4]; exact V6 (Hq hunf') hunf' rfl)
      (V7 (Hq hunf') hunf')
      (by rintro ⟨ds,hd⟩; cases hd)
      (by simp) (by intro b hb; simp at hb)
      (by
       intro q x' L' hq
       obtain ⟨rfl,rfl,rfl⟩:=hnol q x' L' _ hq
       exact ⟨.undef,rfl,fun ho=>by rw [hnown] at ho; cases ho⟩) e1 e2 e3 hmem
      (fun hle=>U8 hle _ (fun s' _ c' rc' F' hlk=>by simp [Jb] at hlk) (fun b hb=>by cases hb) q1)
      (fun hgo=>hgo.inV (fun _ _=>id) (fun b hb=>by cases hb) q1)
     refine ⟨undef,_,_,.inr ⟨?_,rfl⟩,p1.c,hs.go0 p2,VP.2 ⟨rfl,rfl⟩⟩
     simp only [execOp,h,hpx,Sem.run_bind,hrun,Result.andThen_ok,Sem.run_pure]
    ·simp at hv
   ·simp at hv
  ·simp at hv
 ·simp at hv
theorem jE (HT:JY P A.ty) {t:TypeId} {x y:Operand} {co:List Jm} (h:o.op=.store t x y)
  (hv:VK (A.ty t) b (opd sl x) (opd sl y)=some (co,b1)) (hk:∀ k ∈ co,k.ok):UM P o sl b .void b1:=by
 intro Pn w0 F0 a w hdst hr K Q hK
 obtain ⟨⟨G,hc,hs⟩,hl,hd,hpin⟩:=hr
 obtain ⟨vv,w',G',hrun,k1,k2,k3⟩:=jD (o:=o) HT hc hs h hv hk
 have hrel:=Rel.put (d:=o.dst) k1 k2 hl hd hpin hdst k3
 unfold Oper.wp
 rcases hrun with hrun | ⟨hrun,hvv⟩
 ·rw [hrun]; exact hK _ _ hrel
 ·rw [hrun]; subst hvv; exact hK _ _ hrel
theorem jF (HT:JY P A.ty) {t:TypeId} {x:Operand} {co:List Jm} {u:Nat} {z:V} (h:o.op=.box t x) (hv:X8 A sl b o.dst t x=some (co,(v,b1),u,z)) (hk:∀ k ∈ co,k.ok):OD P o sl b (JF sl u z) v b1:=by
 intro Pn w0 F0 a w hdst hr K Q hK
 obtain ⟨⟨G,hc,hs⟩,hl,hd,hpin⟩:=hr
 unfold X8 at hv
 split at hv
 ·rename_i u0
  split at hv
  ·rename_i vs hslot
   split at hv
   ·cases hv
   ·split at hv
    ·rename_i hchk
     rw [Je] at hchk
     split at hv
     ·rename_i c y b2 hin
      split at hv
      ·rename_i e hde
       split at hv
       ·rename_i hun
        simp only [oj,pj] at hv
        obtain ⟨rfl,⟨rfl,rfl⟩,rfl,rfl⟩:=hv
        have hx:=JZ hs (.tmp u0)
        rw [show opd sl (.tmp u0)=.agg vs from hslot] at hx
        obtain ⟨cs,q1,q2,q3,q4,q5⟩:=VZ hchk.2 hx
        obtain ⟨F',G1,p1,p2,p3⟩:=(Ot 9).1 (X:=[]) (F:=[]) hc.x q1 hin hk
        have hs1:=hs.go0 p3
        obtain ⟨k1,k2⟩:=p1.alloc (.cells cs.toArray t)
        have hsame:QL w (w.alloc (.cells cs.toArray t)) F':=fun z hz=>Go.RowKit.Below.heap_alloc w _ z (p1.ok.xlt z (by simp [hz]))
        have hy:=TY (t:=A.ty t) (k2.inV (fun _ _=>id) hsame p2)
        have hca:QO (w.alloc (.cells cs.toArray t)) ⟨w.heap.size,0,none⟩ cs:=by
         have:=VV (w:=w) (cs:=cs) (t:=t) (r:=[])
         rwa [List.append_nil] at this
        have hob:InV (Ja (w.alloc (.cells cs.toArray t)) b2 G1 (w.heap.size :: (F' ++ []))) (.obox (Um (A.ty t) y)) [.pointer (some ⟨w.heap.size,0,none⟩)] (w.heap.size :: F'):=by
         unfold InV
         exact ⟨_,cs,F',rfl,hy,hca,rfl,by simp [Ja],O9⟩
        obtain ⟨u1,u2,u3,u4⟩:=CS hun
        obtain ⟨g1,g2⟩:=JW.add (F:=w.heap.size :: F') (X:=[]) k1 u1 u3 hob u4
        have hs2:=(hs1.go0 k2).goes g2 (fun s hs' hst=>u2 (hst ▸ hs'))
        have hb:Jb (Jx b2 e (.obox (Um (A.ty t) y))) e=some (.obox (Um (A.ty t) y)):=by rw [JU]; simp
        have hg:(fun q=>if q=e then some ([Value.pointer (some ⟨w.heap.size,0,none⟩)],w.heap.size :: F') else G1 q) e=some ([Value.pointer (some ⟨w.heap.size,0,none⟩)],w.heap.size :: F'):=by simp
        have hv1:Val (Ja (w.alloc (.cells cs.toArray t)) (Jx b2 e (.obox (Um (A.ty t) y))) (fun q=>if q=e then some ([Value.pointer (some ⟨w.heap.size,0,none⟩)],w.heap.size :: F') else G1 q) []) (.ptr e [0]) (.pointer (some ⟨w.heap.size,0,none⟩)) []:=by
         have:=O6 (E:=Ja (w.alloc (.cells cs.toArray t)) (Jx b2 e (.obox (Um (A.ty t) y))) (fun q=>if q=e then some ([Value.pointer (some ⟨w.heap.size,0,none⟩)],w.heap.size :: F') else G1 q) []) (s:=e) hb hg (p:=[]) (v:=.obox (Um (A.ty t) y)) (L:=.reg [Value.pointer (some ⟨w.heap.size,0,none⟩)]) (u:=.pointer (some ⟨w.heap.size,0,none⟩)) (by simp [Jg]) ⟨[],by simp⟩ (g2.inV (fun s hs' hst=>u4 (hst ▸ hs')) (fun b _=>rfl) hob) rfl
         exact this
        have hisA:isA (Um (A.ty t) y)=true:=by
         have h1:=jB hin
         cases y <;> simp [isA] at h1 ⊢ <;> (cases hA:A.ty t <;> simp [Um,UG,isA])
        have hv2:Val (Ja (w.alloc (.cells cs.toArray t)) (Jx b2 e (.obox (Um (A.ty t) y))) (fun q=>if q=e then some ([Value.pointer (some ⟨w.heap.size,0,none⟩)],w.heap.size :: F') else G1 q) []) (Qh e [0] (Um (A.ty t) y)) (a.tmps.getD u0 undef) []:=by
         refine O6 (E:=Ja (w.alloc (.cells cs.toArray t)) (Jx b2 e (.obox (Um (A.ty t) y))) (fun q=>if q=e then some ([Value.pointer (some ⟨w.heap.size,0,none⟩)],w.heap.size :: F') else G1 q) []) (s:=e) hb hg (p:=[0]) (v:=Um (A.ty t) y) (cs:=cs) (L:=.mem ⟨w.heap.size,0,none⟩) (by simp [Jg,Jj.head]) hca (g2.inV (fun s hs' hst=>u4 (hst ▸ by simpa [Jf] using hs')) (fun b _=>rfl) hy) ?_
         unfold Qi at q2 ⊢
         rw [hisA]
         simpa [isA,Act.eval] using q2
        have hs3:JA (Ja (w.alloc (.cells cs.toArray t)) (Jx b2 e (.obox (Um (A.ty t) y))) (fun q=>if q=e then some ([Value.pointer (some ⟨w.heap.size,0,none⟩)],w.heap.size :: F') else G1 q) []) (JF sl u0 (Qh e [0] (Um (A.ty t) y))) a:=by
         intro t'
         rw [Ov]
         split
         ·rename_i ht; rw [ht.1]; exact hv2
         ·exact hs2 t'
        have hrel:=Rel.put (d:=o.dst) g1.c hs3 (by rw [Vh]; exact hl) hd hpin hdst hv1
        have hrun:(execOp a.eval o).run P w=.ok (.value (.pointer (some ⟨w.heap.size,0,none⟩))) (w.alloc (.cells cs.toArray t)):=by
         simp [execOp,h,Instr.box,newVar,newRow,q3]
        unfold Oper.wp
        rw [hrun]
        exact hK _ _ hrel
       ·cases hv
      ·cases hv
     ·cases hv
    ·cases hv
  ·cases hv
 ·cases hv
mutual
theorem Wv:∀ (x y:V),QA x y=true→vsz y=vsz x∧isA y=isA x∧(QE y=true→QE x=true)∧∀ t,shp t x=true→shp t y=true
 | .int k _,y,h=>by
  cases y <;> simp [QA] at h
  exact ⟨rfl,rfl,id,fun t ht=>by cases t <;> simp [shp] at ht ⊢; rw [UT ht,UT h]; exact WR _⟩
 | .bool _,y,h=>by
  cases y <;> simp [QA] at h
  exact ⟨rfl,rfl,id,fun t ht=>by cases t <;> simp [shp] at ht ⊢⟩
 | .str _,y,h=>by
  cases y <;> simp [QA] at h
  exact ⟨rfl,rfl,id,fun t ht=>by cases t <;> simp [shp] at ht ⊢⟩
 | .own e _,y,h=>by
  cases y <;> simp [QA] at h
  rw [Ty.beq_eq _ _ h]
  exact ⟨rfl,rfl,id,fun t ht=>Tx ht⟩
 | .arr n e _,y,h=>by
  cases y <;> simp [QA,Je] at h
  rw [← h.1,← Ty.beq_eq _ _ h.2]
  exact ⟨rfl,rfl,id,fun t ht=>Tz ht⟩
 | .agg vs,y,h=>by
  cases y with
  | agg xs=>
   unfold QA at h
   obtain ⟨h1,h2⟩:=Pu vs xs h
   refine ⟨h1,rfl,id,fun t ht=>?_⟩
   cases t <;> simp only [shp] at ht ⊢ <;> first | exact h2 _ ht | cases ht
  | _=>simp [QA] at h
 | .undef,y,h=>by simp [QA] at h
 | .void,y,h=>by simp [QA] at h
 | .rd _ _,y,h=>by simp [QA] at h
 | .lst _ _,y,h=>by simp [QA] at h
 | .nilsl,y,h=>by simp [QA] at h
 | .emp _,y,h=>by simp [QA] at h
 | .obox _,y,h=>by simp [QA] at h
 | .rp _,y,h=>by simp [QA] at h
 | .full _ _ _,y,h=>by simp [QA] at h
 | .sub _ _ _ _ _,y,h=>by simp [QA] at h
 | .ptr _ _,y,h=>by simp [QA] at h
 | .fn _ _,y,h=>by simp [QA] at h
 | .nilfn,y,h=>by simp [QA] at h
 | .nilptr,y,h=>by simp [QA] at h
 | .tup _,y,h=>by simp [QA] at h
theorem Pu:∀ (xs ys:List V),Ca xs ys=true→Jt ys=Jt xs∧∀ ts,Qu ts xs=true→Qu ts ys=true
 | [],ys,h=>by
  cases ys with
  | nil=>exact ⟨rfl,fun _ h=>h⟩
  | cons _ _=>simp [Ca] at h
 | x :: xs,ys,h=>by
  cases ys with
  | nil=>simp [Ca] at h
  | cons y ys=>
   unfold Ca at h
   rw [Je] at h
   obtain ⟨h1,_,_,h2⟩:=Wv x y h.1
   obtain ⟨h3,h4⟩:=Pu xs ys h.2
   refine ⟨by simp [Jt,h1,h3],fun ts ht=>?_⟩
   cases ts with
   | nil=>simp [Qu] at ht
   | cons t ts=>
    unfold Qu at ht ⊢
    rw [Je] at ht ⊢
    exact ⟨h2 t ht.1,h4 ts ht.2⟩
end
theorem Pv:∀ {p q:List Nat} {c:List Jm},eqP p q=some c→(∀ k ∈ c,k.ok)→p=q
 | [],[],c,h,hk=>rfl
 | [],_ :: _,c,h,hk=>by simp [eqP] at h
 | _ :: _,[],c,h,hk=>by simp [eqP] at h
 | a :: p,b :: q,c,h,hk=>by
  simp only [eqP] at h
  split at h
  ·rename_i c' hc
   simp only [oj] at h
   subst h
   have h1:a≤b:=hk (.le a b) (by simp)
   have h2:b≤a:=hk (.le b a) (by simp)
   rw [Pv hc (fun k hk'=>hk k (by simp [hk'])),Nat.le_antisymm h1 h2]
  ·cases h
mutual
theorem Pw {E:Env} {s:Nat} {c0:V} {rc:List Value} {F:List Nat} (hl:Jb E.bl s=some c0) (hg:E.G s=some (rc,F)):∀ (v x:V) {p:List Nat} {cs cx:List Value} {Fx:List Nat} {L:Jj} {c:List Jm},
  alC s p v x=some c→(∀ k ∈ c,k.ok)→Jg E.w c0 (.reg rc) p=some (x,L)→L.holds E.w cx→InV E x cx Fx→InV E v cs []→cs=cx∧isA v=isA x
 | .full t q e,x,p,cs,cx,Fx,L,c,h,hk,h1,h2,h3,h4=>by
  cases x <;> simp only [alC] at h <;> try (cases h; done)
  split at h
  ·rename_i hts
   have:=Nat.eq_of_beq_eq_true hts
   subst this
   have:=Pv h hk
   subst this
   unfold InV at h4
   obtain ⟨_,_,h5⟩:=h4
   obtain ⟨u,g1,g2⟩:=h5 c0 rc F hl hg _ L h1 rfl
   unfold InV at h3
   obtain ⟨_,Ad,cap,hcs,_⟩:=h3
   rw [hcs] at h2
   rw [J0 h2] at g1
   simp only [oj] at g1
   rw [g2,hcs,g1]
   exact ⟨rfl,rfl⟩
  ·cases h
 | .int k n,x,p,cs,cx,Fx,L,c,h,hk,h1,h2,h3,h4=>by
  cases x <;> simp only [alC] at h <;> try (cases h; done)
  split at h
  ·rename_i hkk
   simp only [oj] at h
   subst h
   have he:n=_:=hk _ (List.mem_singleton.2 rfl)
   unfold InV at h3 h4
   rw [h3.1,h4.1,he,UT hkk]
   exact ⟨rfl,rfl⟩
  ·cases h
 | .bool n,x,p,cs,cx,Fx,L,c,h,hk,h1,h2,h3,h4=>by
  cases x <;> simp only [alC] at h <;> try (cases h; done)
  simp only [oj] at h
  subst h
  have he:n=_:=hk _ (List.mem_singleton.2 rfl)
  unfold InV at h3 h4
  rw [h3.1,h4.1,he]
  exact ⟨rfl,rfl⟩
 | .agg vs,x,p,cs,cx,Fx,L,c,h,hk,h1,h2,h3,h4=>by
  cases x <;> simp only [alC] at h <;> try (cases h; done)
  rename_i xs
  unfold InV at h3 h4
  refine ⟨Px hl hg vs xs (L:=L) (j:=0) h hk (fun i x hi=>?_) h2 h3 h4,rfl⟩
  rw [Hc,h1]
  simp [Jg,hi]
 | .undef,x,p,cs,cx,Fx,L,c,h,hk,h1,h2,h3,h4=>by simp [alC] at h
 | .void,x,p,cs,cx,Fx,L,c,h,hk,h1,h2,h3,h4=>by simp [alC] at h
 | .str _,x,p,cs,cx,Fx,L,c,h,hk,h1,h2,h3,h4=>by simp [alC] at h
 | .arr _ _ _,x,p,cs,cx,Fx,L,c,h,hk,h1,h2,h3,h4=>by simp [alC] at h
 | .own _ _,x,p,cs,cx,Fx,L,c,h,hk,h1,h2,h3,h4=>by simp [alC] at h
 | .rd _ _,x,p,cs,cx,Fx,L,c,h,hk,h1,h2,h3,h4=>by simp [alC] at h
 | .lst _ _,x,p,cs,cx,Fx,L,c,h,hk,h1,h2,h3,h4=>by simp [alC] at h
 | .nilsl,x,p,cs,cx,Fx,L,c,h,hk,h1,h2,h3,h4=>by simp [alC] at h
 | .emp _,x,p,cs,cx,Fx,L,c,h,hk,h1,h2,h3,h4=>by simp [alC] at h
 | .obox _,x,p,cs,cx,Fx,L,c,h,hk,h1,h2,h3,h4=>by simp [alC] at h
 | .rp _,x,p,cs,cx,Fx,L,c,h,hk,h1,h2,h3,h4=>by simp [alC] at h
 | .sub _ _ _ _ _,x,p,cs,cx,Fx,L,c,h,hk,h1,h2,h3,h4=>by simp [alC] at h
 | .ptr _ _,x,p,cs,cx,Fx,L,c,h,hk,h1,h2,h3,h4=>by simp [alC] at h
 | .fn _ _,x,p,cs,cx,Fx,L,c,h,hk,h1,h2,h3,h4=>by simp [alC] at h
 | .nilfn,x,p,cs,cx,Fx,L,c,h,hk,h1,h2,h3,h4=>by simp [alC] at h
 | .nilptr,x,p,cs,cx,Fx,L,c,h,hk,h1,h2,h3,h4=>by simp [alC] at h
 | .tup _,x,p,cs,cx,Fx,L,c,h,hk,h1,h2,h3,h4=>by simp [alC] at h
theorem Px {E:Env} {s:Nat} {c0:V} {rc:List Value} {F:List Nat} (hl:Jb E.bl s=some c0) (hg:E.G s=some (rc,F)):∀ (vs xs:List V) {p:List Nat} {j:Nat} {cs cx:List Value} {Fx:List Nat} {L:Jj} {c:List Jm},
  OT s p j vs xs=some c→(∀ k ∈ c,k.ok)→(∀ i x,nth xs i=some x→Jg E.w c0 (.reg rc) (p ++ [j + i])=some (x,L.shift (Jt (xs.take i))))→L.holds E.w cx→Ji E xs cx Fx→Ji E vs cs []→cs=cx
 | [],xs,p,j,cs,cx,Fx,L,c,h,hk,h1,h2,h3,h4=>by
  cases xs with
  | nil=>unfold Ji at h3 h4; rw [h3.1,h4.1]
  | cons _ _=>simp [OT] at h
 | v :: vs,xs,p,j,cs,cx,Fx,L,c,h,hk,h1,h2,h3,h4=>by
  cases xs with
  | nil=>simp [OT] at h
  | cons x xs=>
   simp only [OT] at h
   split at h
   ·rename_i c1 e1
    split at h
    ·rename_i c2 e2
     simp only [oj] at h
     subst h
     obtain ⟨hk1,hk2⟩:=Q2 hk
     unfold Ji at h3 h4
     obtain ⟨a1,a2,F1,F2,e3,e4,i1,i2⟩:=h3
     obtain ⟨b1,b2,K1,K2,e5,e6,j1,j2⟩:=h4
     obtain ⟨rfl,rfl⟩:=List.append_eq_nil_iff.1 e6.symm
     subst e3; subst e5
     have g0:=h1 0 x rfl
     have hsh0:L.shift 0=L:=by cases L <;> simp [Jj.shift,Addr.add]
     simp only [Nat.add_zero,List.take_zero,Jt,hsh0] at g0
     have r1:=(Pw hl hg v x e1 hk1 (by rw [J8]; exact g0) (WW h2) i1 j1).1
     have r2:=Px hl hg vs xs (L:=L.shift a1.length) e2 hk2 (fun i y hi=>by
      have:=h1 (i + 1) y (by simpa [nth] using hi)
      rw [CR,Qp x i1]
      simp only [List.take_succ_cons,Jt] at this
      rw [show j + 1 + i=j + (i + 1) by omega]
      exact this) (WX h2) i2 j2
     rw [r1,r2]
    ·cases h
   ·cases h
end
theorem jG {E:Env} {s:Nat} {c0:V} {rc:List Value} {F:List Nat} (hl:Jb E.bl s=some c0) (hg:E.G s=some (rc,F)) {v x:V} {p:List Nat} {cs cx:List Value} {Fx:List Nat} {L:Jj} {c:List Jm} (hv:VH v=some (s,p))
  (h:WQ s p v x=some c) (hk:∀ k ∈ c,k.ok) (h1:Jg E.w c0 (.reg rc) p=some (x,L)) (h2:L.holds E.w cx) (h3:InV E x cx Fx) (h4:InV E v cs []):cs=cx∧isA v=isA x:=by
 unfold WQ at h
 split at h
 ·rename_i t q e
  simp only [VH,oj,pj] at hv
  obtain ⟨rfl,rfl⟩:=hv
  split at h
  ·unfold InV at h4
   obtain ⟨_,_,h5⟩:=h4
   obtain ⟨u,g1,g2⟩:=h5 c0 rc F hl hg _ L h1 rfl
   unfold InV at h3
   obtain ⟨_,Ad,cap,hcs,_⟩:=h3
   rw [hcs] at h2
   rw [J0 h2] at g1
   simp only [oj] at g1
   rw [g2,hcs,g1]
   exact ⟨rfl,rfl⟩
  ·cases h
 ·exact Pw hl hg v x h hk h1 h2 h3 h4
theorem Py {f:FuncId} {E E':Env} (hg:Jz E E' (fun _=>False)) {x v:V} {Fx:List Nat}:∀ {vs:List V} {i:Nat} {us:List Value},Un A f i vs=some v→Tup E vs us []→(∀ u,One E v u []→One E' x u Fx)→UC E' (fun j=>Hd (A.mode f j)) i (H9 A f x i vs) us Fx
 | [],i,us,h,_,_=>by simp [Un] at h
 | y :: vs,i,us,h,⟨u,r,F1,F2,e1,e2,h1,h2⟩,hx=>by
  obtain ⟨rfl,rfl⟩:=List.append_eq_nil_iff.1 e2.symm
  subst e1
  have up:One E y u []→One E' y u []:=fun ⟨cs,i1,i2⟩=>⟨cs,hg.inV (fun _ _=>id) (fun b hb=>by cases hb) i1,i2⟩
  have other:Hd (A.mode f i)=false→Un A f (i + 1) vs=some v→H9 A f x i (y :: vs)=y :: H9 A f x (i + 1) vs→UC E' (fun j=>Hd (A.mode f j)) i (H9 A f x i (y :: vs)) (u :: r) Fx:=by
   intro hm ho hp
   rw [hp]
   exact ⟨u,r,[],Fx,rfl,rfl,up h1,fun _=>rfl,Py hg ho h2 hx⟩
  cases hm:A.mode f i with
  | io=>
   simp only [Un,hm] at h
   simp only [H9,hm]
   split at h
   ·cases h
   ·rename_i hany
    simp only [oj] at h
    subst h
    have rest:∀ {vs:List V} {j:Nat} {us:List Value},UA A f j vs=false→Tup E vs us []→UC E' (fun j=>Hd (A.mode f j)) j vs us []:=by
     intro vs
     induction vs with
     | nil=>intro j us _ h; exact h
     | cons z vs ih=>
      rintro j us ha ⟨u',r',K1,K2,k1,k2,k3,k4⟩
      obtain ⟨rfl,rfl⟩:=List.append_eq_nil_iff.1 k2.symm
      obtain ⟨cs,i1,i2⟩:=k3
      refine ⟨u',r',[],[],k1,rfl,⟨cs,hg.inV (fun _ _=>id) (fun b hb=>by cases hb) i1,i2⟩,fun _=>rfl,ih ?_ k4⟩
      simp only [UA] at ha
      split at ha
      ·cases ha
      ·cases ha
      ·exact ha
    exact ⟨u,r,Fx,[],rfl,by simp,hx u h1,fun hf=>(by have hf':Hd (A.mode f i)=false:=hf; rw [hm] at hf'; cases hf'),rest hany h2⟩
  | take=>simp only [Un,hm] at h; cases h
  | lend=>exact other (by rw [hm]; rfl) (by simpa only [Un,hm] using h) (by simp only [H9,hm])
  | keep=>exact other (by rw [hm]; rfl) (by simpa only [Un,hm] using h) (by simp only [H9,hm])
theorem Pz {f:FuncId} {E E':Env} {v y:V} {Fo:List Nat}:∀ {vs outs:List V} {i:Nat} {us:List Value},Un A f i vs=some v→Cp A f i vs outs=some y→Tup E vs us []→CD E' (fun j=>J9 (A.mode f j)) i outs us Fo→∃ u,One E v u []∧One E' y u Fo
 | [],outs,i,us,h,_,_,_=>by simp [Un] at h
 | z :: vs,[],i,us,h,h',_,_=>by simp [Cp] at h'
 | z :: vs,o :: outs,i,us,h,h',⟨u,r,F1,F2,e1,e2,h1,h2⟩,⟨u',r',K1,K2,k1,k2,k3,k4,k5⟩=>by
  obtain ⟨rfl,rfl⟩:=List.append_eq_nil_iff.1 e2.symm
  rw [e1] at k1
  simp only [List.cons.injEq] at k1
  obtain ⟨rfl,rfl⟩:=k1
  have other:J9 (A.mode f i)=false→Un A f (i + 1) vs=some v→Cp A f (i + 1) vs outs=some y→∃ u,One E v u []∧One E' y u Fo:=by
   intro hm ho hp
   have:=k4 hm
   subst this
   subst k2
   exact Pz ho hp h2 k5
  cases hm:A.mode f i with
  | io=>
   simp only [Un,hm] at h
   simp only [Cp,hm,oj] at h'
   subst h'
   split at h
   ·cases h
   ·rename_i hany
    simp only [oj] at h
    subst h
    have rest:∀ {vs outs:List V} {j:Nat} {us:List Value} {K:List Nat},UA A f j vs=false→Tup E vs us []→CD E' (fun j=>J9 (A.mode f j)) j outs us K→K=[]:=by
     intro vs
     induction vs with
     | nil=>
      rintro outs j us K _ ⟨rfl,_⟩ ho
      cases outs with
      | nil=>exact ho.2
      | cons o outs=>obtain ⟨_,_,_,_,q,_⟩:=ho; cases q
     | cons z vs ih=>
      rintro outs j us K ha ⟨u',r',L1,L2,l1,l2,l3,l4⟩ ho
      obtain ⟨rfl,rfl⟩:=List.append_eq_nil_iff.1 l2.symm
      simp only [UA] at ha
      split at ha
      ·cases ha
      ·cases ha
      ·rename_i hm' hm''
       cases outs with
       | nil=>exact ho.2
       | cons o outs=>
        obtain ⟨u2,r2,M1,M2,n1,n2,n3,n4,n5⟩:=ho
        rw [l1] at n1
        simp only [List.cons.injEq] at n1
        obtain ⟨rfl,rfl⟩:=n1
        have hf:J9 (A.mode f j)=false:=by
         cases hq:A.mode f j with
         | io=>exact absurd hq hm'
         | take=>rfl
         | lend=>rfl
         | keep=>rfl
        rw [n2,n4 hf,ih ha l4 n5]; rfl
    have:=rest hany h2 k5
    subst this
    rw [List.append_nil] at k2
    subst k2
    exact ⟨u,h1,k3 (by show J9 (A.mode f i)=true; rw [hm]; rfl)⟩
  | take=>simp only [Un,hm] at h; cases h
  | lend=>exact other (by rw [hm]; rfl) (by simpa only [Un,hm] using h) (by simpa only [Cp,hm] using h')
  | keep=>exact other (by rw [hm]; rfl) (by simpa only [Un,hm] using h) (by simpa only [Cp,hm] using h')
theorem jH {f:FuncId}:∀ {vs:List V} {i:Nat} {v:V} {E:Env} {us:List Value},Un A f i vs=some v→Tup E vs us []→∃ u,One E v u []
 | [],i,v,E,us,h,_=>by simp [Un] at h
 | z :: vs,i,v,E,us,h,⟨u,r,F1,F2,e1,e2,h1,h2⟩=>by
  obtain ⟨rfl,rfl⟩:=List.append_eq_nil_iff.1 e2.symm
  simp only [Un] at h
  split at h
  ·split at h
   ·cases h
   ·simp only [oj] at h
    subst h
    exact ⟨u,h1⟩
  ·cases h
  ·exact jH h h2
theorem PA (a b:Nat):Od a b≤a∧Od a b≤b:=by
 unfold Od
 cases h:Nat.ble a b with
 | true=>exact ⟨Nat.le_refl _,Nat.le_of_ble_eq_true h⟩
 | false=>
  have:¬ a≤b:=fun hn=>by rw [Nat.ble_eq_true_of_le hn] at h; cases h
  exact ⟨by show b≤a; omega,Nat.le_refl _⟩
theorem jI (a b k:Nat):Od (k + a) (k + b)=k + Od a b:=by
 unfold Od
 cases h:Nat.ble a b with
 | true=>rw [Nat.ble_eq_true_of_le (show k + a≤k + b by have:=Nat.le_of_ble_eq_true h; omega)]
 | false=>
  have h1:¬ a≤b:=fun hn=>by rw [Nat.ble_eq_true_of_le hn] at h; cases h
  cases h2:Nat.ble (k + a) (k + b) with
  | true=>exact absurd (Nat.le_of_ble_eq_true h2) (by omega)
  | false=>rfl
mutual
theorem Kk (k:Nat):∀ (v:V),Qr k v=k + Qr 0 v
 | .agg vs=>by simp only [Qr]; rw [PB k vs]; rfl
 | .int _ _=>by simp [Qr]
 | .bool _=>by simp [Qr]
 | .str _=>by simp [Qr]
 | .undef=>by simp [Qr]
 | .void=>by simp [Qr]
 | .arr _ _ _=>by simp [Qr]
 | .own _ _=>by simp [Qr]
 | .rd _ _=>by simp [Qr]
 | .lst _ _=>by simp [Qr]
 | .nilsl=>by simp [Qr]
 | .emp _=>by simp [Qr]
 | .obox _=>by simp [Qr]
 | .rp _=>by simp [Qr]
 | .full _ _ _=>by simp [Qr]
 | .sub _ _ _ _ _=>by simp [Qr]
 | .ptr _ _=>by simp [Qr]
 | .fn _ _=>by simp [Qr]
 | .nilfn=>by simp [Qr]
 | .nilptr=>by simp [Qr]
 | .tup _=>by simp [Qr]
theorem PB (k:Nat):∀ (vs:List V),Oe k vs=k + Oe 0 vs
 | []=>by simp [Oe]
 | v :: vs=>by simp only [Oe]; rw [Kk k v,PB k vs,jI]
end
theorem PC:∀ {vs:List V} {j:Nat} {x:V},nth vs j=some x→Oe 0 vs≤Qr 0 x
 | [],j,x,h=>by simp [nth] at h
 | v :: vs,0,x,h=>by
  simp only [nth,oj] at h
  subst h
  exact (PA _ _).1
 | v :: vs,j + 1,x,h=>by
  simp only [nth] at h
  exact Nat.le_trans (PA _ _).2 (PC h)
theorem PD:∀ {xs ys:List V} {j:Nat} {y:V},Ca xs ys=true→nth ys j=some y→∃ x,nth xs j=some x∧QA x y=true∧Jt (ys.take j)=Jt (xs.take j)
 | [],ys,j,y,h,hj=>by
  cases ys with
  | nil=>simp [nth] at hj
  | cons _ _=>simp [Ca] at h
 | x :: xs,[],j,y,h,hj=>by simp [nth] at hj
 | x :: xs,y0 :: ys,0,y,h,hj=>by
  unfold Ca at h
  rw [Je] at h
  simp only [nth,oj] at hj
  subst hj
  exact ⟨x,rfl,h.1,rfl⟩
 | x :: xs,y0 :: ys,j + 1,y,h,hj=>by
  unfold Ca at h
  rw [Je] at h
  simp only [nth] at hj
  obtain ⟨x',h1,h2,h3⟩:=PD h.2 hj
  exact ⟨x',h1,h2,by simp only [List.take_succ_cons,Jt,h3,(Wv x y0 h.1).1]⟩
theorem jJ {w w2:World}:∀ (x y:V),QA x y=true→∀ {cs:List Value} {L:Jj},cs.length=vsz x→L.holds w cs→L.holds w2 cs→∀ (q:List Nat),q.length<Qr 0 x→∀ x' L',Jg w2 y L q=some (x',L') →
  ∃ x0,Jg w x L q=some (x0,L')∧(QE x'=true→QE x0=true∧L'.head w2=L'.head w):=by
 intro x y hlike cs L hlen h1 h2 q
 induction q generalizing x y cs L with
 | nil=>
  intro _ x' L' hl
  simp only [Jg,oj,pj] at hl
  obtain ⟨rfl,rfl⟩:=hl
  refine ⟨x,rfl,fun ho=>⟨(Wv x y hlike).2.2.1 ho,?_⟩⟩
  have hs:vsz x=1:=by
   have:=(Wv x y hlike).1
   rw [← this]
   cases y <;> first | rfl | (simp [QE] at ho)
  rw [hs] at hlen
  obtain ⟨v,rfl⟩:=List.length_eq_one_iff.1 hlen
  rw [J0 h1,J0 h2]
 | cons j q ih=>
  intro hq x' L' hl
  cases y with
  | agg ys=>
   cases x with
   | agg xs=>
    simp only [QA] at hlike
    simp only [Jg] at hl ⊢
    cases hj:nth ys j with
    | none=>rw [hj] at hl; cases hl
    | some y1=>
     rw [hj] at hl
     simp only at hl
     obtain ⟨x1,k1,k2,k3⟩:=PD hlike hj
     rw [k3] at hl
     rw [k1]
     simp only
     have hsz:=O0 k1
     simp only [vsz] at hlen
     refine ih x1 y1 k2 (cs:=(cs.drop (Jt (xs.take j))).take (vsz x1)) (by rw [List.length_take,List.length_drop]; omega) ?_ ?_ ?_ x' L' hl
     ·exact O1 h1 (by rw [List.length_take,List.length_drop]; omega) (fun k hk=>by
       rw [List.length_take,List.length_drop] at hk
       rw [List.getElem?_take_of_lt (by omega),List.getElem?_drop])
     ·exact O1 h2 (by rw [List.length_take,List.length_drop]; omega) (fun k hk=>by
       rw [List.length_take,List.length_drop] at hk
       rw [List.getElem?_take_of_lt (by omega),List.getElem?_drop])
     ·simp only [Qr,List.length_cons] at hq
      have:=PC k1
      omega
   | _=>simp [QA] at hlike
  | int k n=>simp [Jg] at hl
  | bool b=>simp [Jg] at hl
  | str b=>simp [Jg] at hl
  | own e l=>cases x <;> simp [QA] at hlike; simp [Qr] at hq
  | arr n e l=>cases x <;> simp [QA] at hlike; simp [Qr] at hq
  | _=>cases x <;> simp [QA] at hlike
theorem jK {cl:Call} {fo:Operand} {g:FuncId} {caps:List V} (ho:o.op=.call cl) (hcal:cl.callee=.value fo) (hf:opd sl fo=.fn g caps)
  {ts:List Ty} (hnt:QV (Jo sl cl.args.toList)=true) (hna:Hy caps=true)
  {s:Nat} {p:List Nat} {vio c0 x y:V} (hone:Un A g 0 (cat (Jo sl cl.args.toList) caps)=some vio) (hloc:VH vio=some (s,p)) (hl0:Jb b s=some c0) (hc0:JT c0=true) (hxo:JT x=true)
  {c1 c2 c3:List Jm} (hget:c0.get p=some (c1,x)) (hns:J3 (Ju b) s=false) (hpath:US s (Qr (Ul p) x) (Qr (Ul p) x) sl=true) (hal:WQ s p vio x=some c2)
  {ws:List V} {res:V} {outs:List V} (hp:Q4 A g (Qb b s) 0 ts (H9 A g x 0 (cat (Jo sl cl.args.toList) caps))=some (c3,ws)) (hk:∀ x ∈ cat c1 (cat c2 c3),x.ok)
  (hco:HF P (fun i=>J9 (A.mode g i)) g ws res outs) (hout:Cp A g 0 (cat (Jo sl cl.args.toList) caps) outs=some y) (how:Qa res=true) (hoy:JT y=true) (hlike:QA x y=true)
  (hpl:Q7 sl (Jx b s (c0.set p y)) o.dst res=some (v,b1)):UM P o sl b v b1:=by
 intro Pn w0 F0 a w hdst hr K Q hK
 obtain ⟨⟨G,hc,hs⟩,hl,hd,hpin⟩:=hr
 obtain ⟨k1,k3⟩:=hco
 obtain ⟨fn,j1,j2,j3⟩:=k1
 obtain ⟨hk1,hk23⟩:=Q2 hk
 obtain ⟨hk2,hk3⟩:=Q2 hk23
 have hfv:=JZ hs fo
 rw [hf] at hfv
 have hfv':=(JV rfl (by simp) (by simp)).1 hfv
 unfold InV at hfv'
 obtain ⟨vals,hfe,hcaps,_⟩:=hfv'
 simp only [List.cons.injEq,and_true] at hfe
 rw [J8] at hp hone hout
 have hargs:Tup (Ja w b G []) (Jo sl cl.args.toList ++ caps) (cl.args.toList.map a.eval ++ vals.toList) []:=by
  have:=Xk (Xi (io:=fun j=>Hd (A.mode g j)) (i:=0) hs hnt) (Xj (i:=0 + (Jo sl cl.args.toList).length) hna hcaps)
  exact Kh (by simpa using this)
 obtain ⟨rc,F,F1,g1,g2,g3,g4,g5⟩:=hc.ok.root s c0 hl0
 obtain ⟨Lx,i4⟩:=HD (Ja w b G []) p c0 rc F1 (.reg rc) c1 x g2 ⟨[],by simp⟩ hget hk1
 obtain ⟨csx,Fx,Fr,m1,m2,m3,m4,m5⟩:=hc.x.modifyN hl0 g1 i4
 have hnd:=(List.nodup_append.1 ((m3.nodup_iff).1 g4))
 have hFxF:∀ q ∈ Fx,q ∈ F:=fun q hq=>(m3.mem_iff).2 (by simp [hq])
 have arg:∀ u,One (Ja w b G []) vio u []→Qi x csx u:=by
  rintro u ⟨cs,r1,r2⟩
  obtain ⟨r3,r4⟩:=jG (E:=Ja w b G []) hl0 g1 hloc hal hk2 i4 m2 m1 r1
  rw [← r3]
  unfold Qi at r2 ⊢
  rw [← r4]
  exact r2
 obtain ⟨rc',F',Fc,d1,d2,d3,d4,d5⟩:=hc.x.drop hl0
 rw [g1] at d1
 simp only [oj,pj] at d1
 obtain ⟨rfl,rfl⟩:=d1
 have hargs2:=Py (A:=A) (f:=g) (x:=x) (Fx:=Fx) d5 hone hargs (fun u hu=>⟨csx,Ow (by rfl) x hxo m1,arg u hu⟩)
 have htup:=(YO (Y:=Fx) d4.ok (fun q hm=>by simp [(d2.mem_iff).2 (hFxF q hm)]) hargs2 hp hk3).1
 have hcalls:=k3 (fun _=>True) w (cl.args.toList.map a.eval ++ vals.toList) Fx htup hnd.2.1 (fun q hq=>(g5 q (hFxF q hq)).1)
 have hrun:(execOp a.eval o).run P w=.ok (.enter g (cl.args.toList.map a.eval ++ vals.toList).toArray) w:=by
  have hcf:=YQ (P:=P) (w:=w) (args:=(cl.args.toList.map a.eval ++ vals.toList).toArray) j1 j2 j3
  have he:(cl.args.toList.map a.eval ++ vals.toList).toArray=cl.args.map a.eval ++ vals:=by apply Array.ext'; simp
  rw [he] at hcf ⊢
  simp [execOp,ho,resolve,hcal,hfe,Deferred.ofValue,invoke,hcf]
 unfold Oper.wp
 rw [hrun,Oper.upon_enter]
 refine Calls.mono hcalls ?_
 rintro e w2 ⟨v2,Fr2,Fo,rfl,q1,q2,q3,q4,q5,q6,q7,q8,q9⟩
 obtain ⟨u,hu,cs',o1,o2⟩:=Pz hone hout hargs q2
 obtain ⟨l1,l2,l3,l4⟩:=Wv x y hlike
 have hcsy:cs'=csx:=by
  refine Pe o2 ?_
  have:=arg u hu
  unfold Qi at this ⊢
  rw [l2]
  exact this
 subst hcsy
 have hLb:∀ ad,Lx=.mem ad→w2.heap[ad.block]?=w.heap[ad.block]?:=by
  intro ad had
  rcases m4 with ⟨a',ha',hin⟩ | ⟨ds,hds⟩
  ·rw [had] at ha'; cases ha'
   have hmF:ad.block ∈ F:=(m3.mem_iff).2 (by simp [hin])
   exact q5 _ (g5 _ hmF).1 (fun hx=>hnd.2.2 _ hin _ hx rfl)
  ·rw [had] at hds; cases hds
 have hmem:∀ q,q<w.heap.size→q ∉ Fx→(∀ a,Lx=.mem a→q ≠ a.block)→w2.heap[q]?=w.heap[q]?:=fun q hq hx _=>q5 q hq hx
 have hhead:Lx.head w2=Lx.head w:=by
  cases Lx with
  | reg ds=>rfl
  | mem ad=>exact Og (hLb ad rfl)
 obtain ⟨t1,t2,t3⟩:=m5 w2 y cs' Fo Fr2 (fun t=>t=s) (fun _ h=>h) (fun _ t ct hct hm=>C4 hns (Cu hct hm))
  l1 (fun _=>l4) q6 (fun q hq hx _ hne=>hmem q hq hx hne) (fun _ _=>.inr (.inr trivial))
  (by
   cases Lx with
   | reg ds=>trivial
   | mem ad=>
    intro bb hbb hsp
    have hblk:=hLb ad rfl
    rw [← hbb] at hblk
    exact ⟨fun _=>Og hblk,Ya hblk,fun ⟨z,hz⟩=>⟨z,by rw [Og hblk]; exact hz⟩⟩)
  (Cd m2 hLb) (fun _=>rfl)
  ((List.perm_append_comm.nodup_iff).1 q3)
  (by
   intro q hq
   have:=q4 q (by
    rcases List.mem_append.1 hq with h | h
    ·exact List.mem_append.2 (.inr h)
    ·exact List.mem_append.2 (.inl h))
   exact ⟨this.1,this.2.elim .inl (fun h=>.inr (.inr h))⟩)
  (fun h=>absurd rfl h) q7 q8 q9 hmem
  (fun _=>Ow (by rfl) y hoy o1) (fun _=>Ow (by rfl) y hoy o1)
 have hs2:=Pp (m:=Qr (Ul p) x) (n:=Qr (Ul p) x) t2 (by
  intro c' rc2 F2 hl' hg'
  simp only [Ja,JU,if_true,oj,pj] at hl' hg'
  obtain ⟨rfl,_⟩:=hg'
  subst hl'
  have base:∀ al,Q1 al (Qr 0 x) w w2 x y Lx:=by
   intro al q hq x' L' hlq
   obtain ⟨x1,z1,z2⟩:=jJ x y hlike (Qp _ m1) m2 (Cd m2 hLb) q hq x' L' hlq
   exact ⟨x1,z1,fun _=>z2⟩
  exact ⟨c0,F,hl0,g1,(t3 false _ (base _)).mono (by rw [Kk,OB]; omega),(t3 true _ (base _)).mono (by rw [Kk,OB]; omega)⟩) hpath hs
 obtain ⟨G',s1,s2,s3⟩:=YP (E:=QW (fun _=>True) w2 (Fr2 ++ Fo)) t1 hs2 rfl q1 how hpl
 exact hK _ _ (Rel.put s1 s2 hl hd hpin hdst s3)
end
end Go.Rai
namespace Go.Rai
variable [Inhabited Qe]
theorem jL (b b':BL) (s:Nat):Jb (b ++ b') s=match Jb b s with | some x=>some x | none=>Jb b' s:=by
 induction b with
 | nil=>simp [Jb]
 | cons x r ih=>
  obtain ⟨k,u⟩:=x
  simp only [List.cons_append,Jb]
  split
  ·rfl
  ·exact ih
theorem PE:∀ {K:List Nat} {b:BL} {s:Nat},Jb (Wi b K) s=if s ∈ K then none else Jb b s
 | [],b,s=>by simp [Wi]
 | t :: K,b,s=>by
  simp only [Wi,PE (K:=K),Uo]
  by_cases h:s=t
  ·subst h; simp
  ·simp [h]
theorem XG {b b':BL} {K:List Nat} (h:∀ s,s ∉ K→Jb b' s=none) (s:Nat):Jb (CF b K b') s=if s ∈ K then Jb b' s else Jb b s:=by
 unfold CF
 rw [J8,jL,PE]
 by_cases hs:s ∈ K
 ·simp [hs]
 ·simp only [hs,if_false,h s hs]
  cases Jb b s <;> rfl
theorem PF {b:BL} {s:Nat} (h:s ∉ QC b):Jb b s=none:=by
 cases hl:Jb b s with
 | none=>rfl
 | some c=>exact absurd (Y9 hl) h
structure AgK (K:List Nat) (b b':BL):Prop where
 on:∀ s,s ∈ K→Jb b' s=Jb b s
 off:∀ s,s ∉ K→Jb b s=none
structure StK (K:List Nat) (b b1:BL):Prop where
 look:∀ s,s ∉ K→Jb b1 s=Jb b s
 names:∀ s,s ∈ Ju b1→s ∈ Ju b
theorem StK.refl {K:List Nat} {b:BL}:StK K b b:=⟨fun _ _=>rfl,fun _ h=>h⟩
theorem StK.trans {K:List Nat} {b b1 b2:BL} (h:StK K b b1) (h':StK K b1 b2):StK K b b2:=
 ⟨fun s hs=>(h'.look s hs).trans (h.look s hs),fun s hs=>h.names s (h'.names s hs)⟩
theorem AgK.get {K:List Nat} {b b':BL} (h:AgK K b b') {s:Nat} {c:V} (hl:Jb b s=some c):s ∈ K∧Jb b' s=some c:=by
 by_cases hs:s ∈ K
 ·exact ⟨hs,by rw [h.on s hs]; exact hl⟩
 ·rw [h.off s hs] at hl; cases hl
theorem AgK.drop {K:List Nat} {b b':BL} (h:AgK K b b') {s:Nat} (hs:s ∈ K):AgK K (Qb b s) (Qb b' s)∧StK K b' (Qb b' s):=by
 refine ⟨⟨fun t ht=>?_,fun t ht=>?_⟩,fun t ht=>?_,fun t ht=>S3 ht⟩
 ·rw [Uo,Uo,h.on t ht]
 ·rw [Uo,h.off t ht]; split <;> rfl
 ·rw [Uo,if_neg]; rintro rfl; exact ht hs
theorem AgK.set {K:List Nat} {b b':BL} (h:AgK K b b') {s:Nat} (hs:s ∈ K) {x:V} (hx:∀ t,t ∈ Jf x→t ∈ Ju b'):AgK K (Jx b s x) (Jx b' s x)∧StK K b' (Jx b' s x):=by
 refine ⟨⟨fun t ht=>?_,fun t ht=>?_⟩,fun t ht=>?_,fun t ht=>?_⟩
 ·rw [JU,JU,h.on t ht]
 ·rw [JU,if_neg (by rintro rfl; exact ht hs),h.off t ht]
 ·rw [JU,if_neg]; rintro rfl; exact ht hs
 ·exact (S4 ht).elim id (hx t)
theorem XH {K:List Nat} {b b' b1:BL} {s:Nat} {p:List Nat} {x:V} (h:QT b s p=some (x,b1)) (hK:AgK K b b'):∃ b1',QT b' s p=some (x,b1')∧AgK K b1 b1'∧StK K b' b1':=by
 unfold QT at h ⊢
 split at h
 ·rename_i c hc
  obtain ⟨hs,hc'⟩:=hK.get hc
  rw [hc']
  simp only
  split at h
  ·simp only [oj,pj] at h
   obtain ⟨rfl,rfl⟩:=h
   exact ⟨_,rfl,(hK.drop hs).1,(hK.drop hs).2⟩
  ·split at h
   ·rename_i y hg
    split at h
    ·rename_i hb
     simp only [oj,pj] at h
     obtain ⟨rfl,rfl⟩:=h
     have hx:∀ t,t ∈ Jf (c.set p .undef)→t ∈ Ju b':=by
      intro t ht
      rcases Y7 ht with ht | ht
      ·exact Cu hc' ht
      ·simp [Jf] at ht
     exact ⟨_,rfl,(hK.set hs hx).1,(hK.set hs hx).2⟩
    ·cases h
   ·cases h
 ·cases h
theorem jM {K:List Nat} {b b':BL} {s:Nat} {p:List Nat} {c0:V} (hc:Jb b s=some c0) (h:QT b s p=none) (hK:AgK K b b'):QT b' s p=none:=by
 obtain ⟨_,hc'⟩:=hK.get hc
 unfold QT at h ⊢
 rw [hc] at h
 rw [hc']
 simp only at h ⊢
 split at h
 ·cases h
 ·split at h
  ·split at h
   ·cases h
   ·rename_i hb
    simp only [hb]
  ·rfl
theorem Kl {K:List Nat}:∀ (n:Nat),(∀ {b b' b1:BL} {v w:V} {c:List Jm},inl n b v=some (c,w,b1)→AgK K b b'→∃ b1',inl n b' v=some (c,w,b1')∧AgK K b1 b1'∧StK K b' b1') ∧
  (∀ {b b' b1:BL} {vs ws:List V} {c:List Jm},Q3 n b vs=some (c,ws,b1)→AgK K b b'→∃ b1',Q3 n b' vs=some (c,ws,b1')∧AgK K b1 b1'∧StK K b' b1')
 | 0=>⟨fun h=>by simp [inl] at h,fun h=>by simp [Q3] at h⟩
 | n + 1=>by
  obtain ⟨ih1,ih2⟩:=Kl (K:=K) n
  constructor
  ·intro b b' b1 v w c h hK
   have rest:some (([]:List Jm),v,b)=some (c,w,b1)→∃ b1',some (([]:List Jm),v,b')=some (c,w,b1')∧AgK K b1 b1'∧StK K b' b1':=by
    intro h
    simp only [oj,pj] at h
    obtain ⟨rfl,rfl,rfl⟩:=h
    exact ⟨b',rfl,hK,StK.refl⟩
   cases v with
   | full s p e=>
    simp only [inl] at h ⊢
    split at h
    ·rename_i e1 l b2 ht
     simp only [oj,pj] at h
     obtain ⟨rfl,rfl,rfl⟩:=h
     obtain ⟨b1',k1,k2,k3⟩:=XH ht hK
     exact ⟨b1',by rw [k1],k2,k3⟩
    ·rename_i e1 vs b2 ht
     obtain ⟨b2',k1,k2,k3⟩:=XH ht hK
     split at h
     ·rename_i c1 ws b3 hi
      obtain ⟨b3',m1,m2,m3⟩:=ih2 hi k2
      split at h
      ·rename_i hb
       simp only [oj,pj] at h
       obtain ⟨rfl,rfl,rfl⟩:=h
       exact ⟨b3',by rw [k1]; simp only [m1,hb],m2,k3.trans m3⟩
      ·cases h
     ·cases h
    ·cases h
    ·rename_i hn
     split at h
     ·rename_i c1 e1 l hg
      simp only [oj,pj] at h
      obtain ⟨rfl,rfl,rfl⟩:=h
      have hg0:=hg
      unfold J1 at hg0
      split at hg0
      ·rename_i c0 hc
       obtain ⟨hs,hc'⟩:=hK.get hc
       refine ⟨Qb b' s,?_,(hK.drop hs).1,(hK.drop hs).2⟩
       rw [jM hc hn hK]
       simp only [J1,hc',hg0]
      ·cases hg0
     ·cases h
   | sub s p o l e=>
    simp only [inl] at h ⊢
    split at h
    ·rename_i e1 l1 b2 ht
     obtain ⟨b1',k1,k2,k3⟩:=XH ht hK
     split at h
     ·rename_i hb
      simp only [oj,pj] at h
      obtain ⟨rfl,rfl,rfl⟩:=h
      exact ⟨b1',by rw [k1]; simp only [hb],k2,k3⟩
     ·cases h
    ·cases h
   | ptr s p=>
    simp only [inl] at h ⊢
    split at h
    ·split at h
     ·rename_i x b2 ht
      obtain ⟨b2',k1,k2,k3⟩:=XH ht hK
      split at h
      ·rename_i c1 y b3 hi
       simp only [oj,pj] at h
       obtain ⟨rfl,rfl,rfl⟩:=h
       obtain ⟨b3',m1,m2,m3⟩:=ih1 hi k2
       exact ⟨b3',by rw [k1]; simp only [m1],m2,k3.trans m3⟩
      ·cases h
     ·cases h
    ·cases h
   | agg vs=>
    simp only [inl] at h ⊢
    split at h
    ·rename_i c1 ws b3 hi
     simp only [oj,pj] at h
     obtain ⟨rfl,rfl,rfl⟩:=h
     obtain ⟨b3',m1,m2,m3⟩:=ih2 hi hK
     exact ⟨b3',by rw [m1],m2,m3⟩
    ·cases h
   | tup vs=>
    simp only [inl] at h ⊢
    split at h
    ·rename_i c1 ws b3 hi
     simp only [oj,pj] at h
     obtain ⟨rfl,rfl,rfl⟩:=h
     obtain ⟨b3',m1,m2,m3⟩:=ih2 hi hK
     exact ⟨b3',by rw [m1],m2,m3⟩
    ·cases h
   | fn f vs=>
    simp only [inl] at h ⊢
    split at h
    ·rename_i c1 ws b3 hi
     simp only [oj,pj] at h
     obtain ⟨rfl,rfl,rfl⟩:=h
     obtain ⟨b3',m1,m2,m3⟩:=ih2 hi hK
     exact ⟨b3',by rw [m1],m2,m3⟩
    ·cases h
   | obox x=>
    simp only [inl] at h ⊢
    split at h
    ·rename_i c1 ws b3 hi
     simp only [oj,pj] at h
     obtain ⟨rfl,rfl,rfl⟩:=h
     obtain ⟨b3',m1,m2,m3⟩:=ih1 hi hK
     exact ⟨b3',by rw [m1],m2,m3⟩
    ·cases h
   | lst e vs=>simp only [inl] at h; cases h
   | undef=>simp only [inl] at h; cases h
   | void=>simp only [inl] at h; cases h
   | _=>simp only [inl] at h ⊢; exact rest h
  ·intro b b' b1 vs ws c h hK
   cases vs with
   | nil=>
    simp only [Q3,oj,pj] at h ⊢
    obtain ⟨rfl,rfl,rfl⟩:=h
    exact ⟨b',⟨rfl,rfl,rfl⟩,hK,StK.refl⟩
   | cons v vs=>
    simp only [Q3] at h ⊢
    split at h
    ·rename_i c1 w b2 h1
     obtain ⟨b2',k1,k2,k3⟩:=ih1 h1 hK
     split at h
     ·rename_i c2 ws2 b3 h2
      simp only [oj,pj] at h
      obtain ⟨rfl,rfl,rfl⟩:=h
      obtain ⟨b3',m1,m2,m3⟩:=ih2 h2 k2
      exact ⟨b3',by simp only [k1,m1],m2,k3.trans m3⟩
     ·cases h
    ·cases h
theorem Km {A:Ann} {f:FuncId} {K:List Nat}:∀ {vs ws:List V} {i:Nat} {b b' b1:BL} {c:List Jm},Hi A f i b vs=some (c,ws,b1)→AgK K b b'→∃ b1',Hi A f i b' vs=some (c,ws,b1')∧AgK K b1 b1'∧StK K b' b1'
 | [],ws,i,b,b',b1,c,h,hK=>by
  simp only [Hi,oj,pj] at h ⊢
  obtain ⟨rfl,rfl,rfl⟩:=h
  exact ⟨b',⟨rfl,rfl,rfl⟩,hK,StK.refl⟩
 | v :: vs,ws,i,b,b',b1,c,h,hK=>by
  have go:∀ (x:BL→G (V × BL)),(∀ {c w b1},x b=some (c,w,b1)→∃ b1',x b'=some (c,w,b1')∧AgK K b1 b1'∧StK K b' b1') →
    (match x b with
    | some (c,w,b')=>match Hi A f (i + 1) b' vs with
     | some (c',ws,b'')=>some ((cat c c'),w :: ws,b'')
     | none=>none
    | none=>none)=some (c,ws,b1)→∃ b1',(match x b' with
    | some (c,w,b')=>match Hi A f (i + 1) b' vs with
     | some (c',ws,b'')=>some ((cat c c'),w :: ws,b'')
     | none=>none
    | none=>none)=some (c,ws,b1')∧AgK K b1 b1'∧StK K b' b1':=by
   intro x hx h
   split at h
   ·rename_i c1 w b2 h1
    obtain ⟨b2',k1,k2,k3⟩:=hx h1
    split at h
    ·rename_i c2 ws2 b3 h2
     simp only [oj,pj] at h
     obtain ⟨rfl,rfl,rfl⟩:=h
     obtain ⟨b3',m1,m2,m3⟩:=Km h2 k2
     exact ⟨b3',by simp only [k1,m1],m2,k3.trans m3⟩
    ·cases h
   ·cases h
  have still:∀ {c w b1},(some (([]:List Jm),v,b):G (V × BL))=some (c,w,b1)→∃ b1',(some (([]:List Jm),v,b'):G (V × BL))=some (c,w,b1')∧AgK K b1 b1'∧StK K b' b1':=by
   intro c w b1 h
   simp only [oj,pj] at h
   obtain ⟨rfl,rfl,rfl⟩:=h
   exact ⟨b',rfl,hK,StK.refl⟩
  simp only [Hi] at h ⊢
  cases hm:A.mode f i with
  | lend=>simp only [hm] at h ⊢; exact go (fun b=>some ([],v,b)) still h
  | keep=>simp only [hm] at h ⊢; exact go (fun b=>some ([],v,b)) still h
  | io=>simp only [hm] at h ⊢; exact go (fun b=>inl 9 b v) (fun h=>(Kl 9).1 h hK) h
  | take=>simp only [hm] at h ⊢; exact go (fun b=>inl 9 b v) (fun h=>(Kl 9).1 h hK) h
theorem jN {K:List Nat} {b b':BL} (hK:AgK K b b') {v:V} (h:OS b v=true):OS b' v=true∧(∀ s p e,v=.full s p e→s ∈ K)∧(∀ s p,v=.ptr s p→s ∈ K):=by
 unfold OS at h ⊢
 split at h
 ·rename_i s p e
  split at h
  ·split at h
   ·rename_i hl
    obtain ⟨h1,h2⟩:=hK.get hl
    exact ⟨by rw [h2],(fun s' p' e' he=>by cases he; exact h1),(fun s' p' he=>by cases he)⟩
   ·rename_i hl
    obtain ⟨h1,h2⟩:=hK.get hl
    exact ⟨by rw [h2],(fun s' p' e' he=>by cases he; exact h1),(fun s' p' he=>by cases he)⟩
   ·cases h
  ·cases h
 ·rename_i s p
  split at h
  ·split at h
   ·rename_i hl
    obtain ⟨h1,h2⟩:=hK.get hl
    exact ⟨by rw [h2],(fun s' p' e' he=>by cases he),(fun s' p' he=>by cases he; exact h1)⟩
   ·cases h
  ·cases h
 ·cases h
theorem Vt {A:Ann} {f:FuncId} {K:List Nat} {b b':BL} (hK:AgK K b b'):∀ {vs:List V} {i:Nat},U6 A f b i vs=true→U6 A f b' i vs=true∧(∀ s,s ∈ ioF A f i vs→s ∈ K)∧(∀ s,s ∈ ioP A f i vs→s ∈ K)
 | [],i,h=>⟨rfl,fun s hs=>(by simp [ioF] at hs),fun s hs=>(by simp [ioP] at hs)⟩
 | v :: vs,i,h=>by
  simp only [U6,ioF,ioP] at h ⊢
  cases hm:A.mode f i with
  | io=>
   simp only [hm] at h ⊢
   rw [Je] at h
   obtain ⟨k1,k2,k3⟩:=jN hK h.1
   obtain ⟨m1,m2,m3⟩:=Vt hK h.2
   refine ⟨by rw [k1,m1]; rfl,fun s hs=>?_,fun s hs=>?_⟩
   ·split at hs
    ·rcases List.mem_cons.1 hs with rfl | hs
     ·exact k2 _ _ _ rfl
     ·exact m2 s hs
    ·exact m2 s hs
   ·split at hs
    ·rcases List.mem_cons.1 hs with rfl | hs
     ·exact k3 _ _ rfl
     ·exact m3 s hs
    ·exact m3 s hs
  | lend=>simp only [hm] at h ⊢; exact Vt hK h
  | take=>simp only [hm] at h ⊢; exact Vt hK h
  | keep=>simp only [hm] at h ⊢; exact Vt hK h
theorem PG {K:List Nat} {b b':BL} (hK:AgK K b b') {s:Nat} (hs:s ∈ K) (hn:s ∉ Ju b') (h:bor (J3 (Ju b) s) (match Jb b s with | some _=>true | none=>false)=false) :
  bor (J3 (Ju b') s) (match Jb b' s with | some _=>true | none=>false)=false:=by
 rw [Ox] at h ⊢
 refine ⟨?_,?_⟩
 ·cases hi:J3 (Ju b') s with
  | false=>rfl
  | true=>exact absurd (UB.1 hi) hn
 ·rw [hK.on s hs]; exact h.2
theorem jO {K:List Nat} {b b' b1:BL} {v x:V} (h:Oc b v x=some b1) (hK:AgK K b b') (hx:Jf x=[]) (hf:∀ s p e,v=.full s p e→s ∈ K∧s ∉ Ju b') (hp:∀ s p,v=.ptr s p→s ∈ K∧s ∉ Ju b') :
  ∃ b1',Oc b' v x=some b1'∧AgK K b1 b1'∧StK K b' b1':=by
 unfold Oc at h ⊢
 split at h
 ·rename_i s p e
  obtain ⟨hs,hn⟩:=hf _ _ _ rfl
  split at h
  ·split at h
   ·rename_i e1 l
    split at h
    ·rename_i hb
     simp only [oj] at h
     subst h
     have hx':∀ t,t ∈ Jf (V.own e1 l)→t ∈ Ju b':=fun t ht=>by simp [Jf] at ht
     split
     ·exact ⟨_,rfl,(hK.set hs hx').1,(hK.set hs hx').2⟩
     ·rename_i ht
      exact absurd (ht.symm.trans (PG hK hs hn hb)) (by simp)
    ·cases h
   ·cases h
  ·cases h
 ·rename_i s p
  obtain ⟨hs,hn⟩:=hp _ _ rfl
  split at h
  ·split at h
   ·rename_i y
    split at h
    ·rename_i hb
     simp only [oj] at h
     subst h
     have hx':∀ t,t ∈ Jf (V.obox y)→t ∈ Ju b':=fun t ht=>by rw [hx] at ht; cases ht
     split
     ·exact ⟨_,rfl,(hK.set hs hx').1,(hK.set hs hx').2⟩
     ·rename_i ht
      exact absurd (ht.symm.trans (PG hK hs hn hb)) (by simp)
    ·cases h
   ·cases h
  ·cases h
 ·cases h
theorem Ww {A:Ann} {f:FuncId} {kp:Bool} {K:List Nat}:∀ {vs xs:List V} {i:Nat} {b b' b1:BL},Q5 A kp f i b vs xs=some b1→AgK K b b'→(∀ s,s ∈ ioF A f i vs→s ∈ K∧s ∉ Ju b')→(∀ s,s ∈ ioP A f i vs→s ∈ K∧s ∉ Ju b') →
  ∃ b1',Q5 A kp f i b' vs xs=some b1'∧AgK K b1 b1'∧StK K b' b1'
 | [],[],i,b,b',b1,h,hK,_,_=>by
  simp only [Q5,oj] at h ⊢
  subst h
  exact ⟨b',rfl,hK,StK.refl⟩
 | v :: vs,[],i,b,b',b1,h,_,_,_=>by simp [Q5] at h
 | [],x :: xs,i,b,b',b1,h,_,_,_=>by simp [Q5] at h
 | v :: vs,x :: xs,i,b,b',b1,h,hK,hf,hp=>by
  simp only [Q5,ioF,ioP] at h hf hp ⊢
  cases hm:A.mode f i with
  | io=>
   simp only [hm] at h hf hp ⊢
   split at h
   ·rename_i hb
    have hx:Jf x=[]:=by
     rw [Cc,Je] at hb
     rcases hb with hb | hb
     ·exact XD x hb
     ·exact Xe hb.2
    split at h
    ·rename_i b2 hr
     obtain ⟨b2',k1,k2,k3⟩:=jO hr hK hx (fun s p e he=>by subst he; exact hf s (by simp)) (fun s p he=>by subst he; exact hp s (by simp))
     have up:∀ {s:Nat},s ∈ K∧s ∉ Ju b'→s ∈ K∧s ∉ Ju b2':=fun q=>⟨q.1,fun hm=>q.2 (k3.names _ hm)⟩
     obtain ⟨b3',m1,m2,m3⟩:=Ww h k2 (fun s hs=>up (hf s (by split <;> simp [hs]))) (fun s hs=>up (hp s (by split <;> simp [hs])))
     exact ⟨b3',by simp only [hb,k1,m1],m2,k3.trans m3⟩
    ·cases h
   ·cases h
  | lend=>simp only [hm] at h hf hp ⊢; exact Ww h hK hf hp
  | take=>simp only [hm] at h hf hp ⊢; exact Ww h hK hf hp
  | keep=>simp only [hm] at h hf hp ⊢; exact Ww h hK hf hp
section
variable {P:Program} {A:Ann} {w w' w0:World} {F0:List Nat} {sl sl':List V} {a:Act} {b b' b1 bl:BL} {G:GT} {o:Oper} {v:V} {c:List Jm}
def XI (P:Program) (o:Oper) (sl:List V) (b:BL) (v:V) (b1:BL) (rd T W N L qf qp:List Nat):Prop:=
 (∀ s,s ∉ W→Jb b1 s=Jb b s) ∧
 ∀ sl' b',(∀ t ∈ rd,Jy sl' t=Jy sl t)→QS b b' T→XA b b' L→(∀ s ∈ N,s ∉ Jn sl'∧s ∉ Ju b')→Q6 qf qp sl'=true→(∀ s,s ∈ qf ∨ s ∈ qp→s ∉ Ju b') →
  ∃ b1',UM P o sl' b' v b1'∧(∀ s ∈ W,Jb b1' s=Jb b1 s)∧(∀ s,s ∉ W→Jb b1' s=Jb b' s)
theorem OA.q {rd T W N L qf qp:List Nat} (h:OA P o sl b v b1 rd T W N L):XI P o sl b v b1 rd T W N L qf qp:=
 ⟨h.1,fun sl' b' h1 h2 h3 h4 _ _=>h.2 sl' b' h1 h2 h3 h4⟩
theorem jP {g:FuncId} {bR bW b2 b1':BL} {K:List Nat} {ts:List Ty} {vs:List V} {r:List Jm × List V} (hR:∀ s,s ∉ K→∀ c,Jb bR s=some c→Jb b1' s=some c) (hK:AgK K b2 b1')
  (h:Q4 A g (CF bR K b2) 0 ts vs=some r):Q4 A g b1' 0 ts vs=some r:=by
 refine Y8 (fun s c hc=>?_) h
 rw [XG hK.off] at hc
 split at hc
 ·rename_i hs; rw [hK.on s hs]; exact hc
 ·rename_i hs; exact hR s hs c hc
theorem jQ {cl:Call} {fo:Operand} {g:FuncId} {caps:List V} (ho:o.op=.call cl) (hcal:cl.callee=.value fo) (hf:opd sl fo=.fn g caps)
  {ts:List Ty} (hnt:QV (Jo sl cl.args.toList)=true) (hna:Hy caps=true) {bW bR b2 b3:BL} (hW:CH bW b) (hR:CH bR b)
  (hroots:U6 A g bW 0 (cat (Jo sl cl.args.toList) caps)=true) {ws us:List V} {c c':List Jm} {res:V} {outs:List V}
  (hp:Hi A g 0 bW (cat (Jo sl cl.args.toList) caps)=some (c,ws,b2)) (hp2:Q4 A g (CF bR (QC bW) b2) 0 ts ws=some (c',us)) (hk:∀ x ∈ cat c c',x.ok)
  (hco:HF P (fun i=>J9 (A.mode g i)) g us res outs) (how:Qa res=true)
  (hre:Q5 A (UH A g 0 us) g 0 b2 (cat (Jo sl cl.args.toList) caps) outs=some b3) (hpl:Q7 sl (CF b (QC bW) b3) o.dst res=some (v,b1)) {gs:List Nat} :
  XI P o sl b v b1 (cat gs (Ue (Jp o.op))) (cat (cat (QC bR) (QC bW)) (Uf o.dst res)) (cat (QC bW) (Uf o.dst res)) (Uf o.dst res) []
   (ioF A g 0 (cat (Jo sl cl.args.toList) caps)) (ioP A g 0 (cat (Jo sl cl.args.toList) caps)):=by
 have hops:Jp o.op=fo :: cl.args.toList:=by rw [ho]; simp [Jp,hcal]
 have key:∀ b',QS b b' (cat (cat (QC bR) (QC bW)) (Uf o.dst res))→(∀ s,s ∈ ioF A g 0 (cat (Jo sl cl.args.toList) caps) ∨ s ∈ ioP A g 0 (cat (Jo sl cl.args.toList) caps)→s ∉ Ju b') →
   ∃ b2' b3',OR A g b' ts (cat (Jo sl cl.args.toList) caps)=some (cat c c',us,b2')∧Q5 A (UH A g 0 us) g 0 b2' (cat (Jo sl cl.args.toList) caps) outs=some b3'∧AgK (QC bW) b3 b3'∧StK (QC bW) b' b3' ∧
    U6 A g b' 0 (cat (Jo sl cl.args.toList) caps)=true:=by
  intro b' h2 hq
  have hK:AgK (QC bW) bW b':=by
   refine ⟨fun s hs=>?_,fun s hs=>PF hs⟩
   cases hl:Jb bW s with
   | none=>
    exfalso
    have:∀ {b:BL} {s:Nat},s ∈ QC b→Jb b s ≠ none:=by
     intro b
     induction b with
     | nil=>intro s h; simp [QC] at h
     | cons x r ih=>
      obtain ⟨k,u⟩:=x
      intro s h
      simp only [QC,List.mem_cons] at h
      simp only [Jb]
      split
      ·simp
      ·rename_i hb
       rcases h with rfl | h
       ·rw [Nat.beq_refl] at hb; cases hb
       ·exact ih h
    exact this hs hl
   | some x=>rw [h2 s (by simp only [Jv]; exact .inl (.inr hs))]; exact hW s x hl
  obtain ⟨r1,r2,r3⟩:=Vt hK hroots
  obtain ⟨b2',k1,k2,k3⟩:=Km hp hK
  have hl:=jP (b1':=b2') (bR:=bR) (bW:=bW) (fun s hs x hx=>by
   rw [k3.look s hs,h2 s (by simp only [Jv]; exact .inl (.inl (Y9 hx)))]
   exact hR s x hx) k2 hp2
  obtain ⟨b3',m1,m2,m3⟩:=Ww hre k2 (fun s hs=>⟨r2 s hs,fun hm=>hq s (.inl hs) (k3.names s hm)⟩) (fun s hs=>⟨r3 s hs,fun hm=>hq s (.inr hs) (k3.names s hm)⟩)
  exact ⟨b2',b3',by unfold OR; simp only [k1,hl],m1,m2,k3.trans m3,r1⟩
 have off3:∀ s,s ∉ QC bW→Jb b3 s=none:=by
  have hK:AgK (QC bW) bW bW:=⟨fun _ _=>rfl,fun s hs=>PF hs⟩
  obtain ⟨b2',k1,k2,k3⟩:=Km hp hK
  have hre':∀ {vs xs:List V} {i:Nat} {b b1:BL} {kp:Bool},Q5 A kp g i b vs xs=some b1→(∀ s,s ∉ QC bW→Jb b s=none)→(∀ s,s ∈ ioF A g i vs→s ∈ QC bW)→(∀ s,s ∈ ioP A g i vs→s ∈ QC bW)→∀ s,s ∉ QC bW→Jb b1 s=none:=by
   intro vs
   induction vs with
   | nil=>
    intro xs i b b1 kp h h0 _ _
    cases xs with
    | nil=>simp only [Q5,oj] at h; subst h; exact h0
    | cons x xs=>simp [Q5] at h
   | cons v vs ih=>
    intro xs i b b1 kp h h0 hf hp
    cases xs with
    | nil=>simp [Q5] at h
    | cons x xs=>
     simp only [Q5,ioF,ioP] at h hf hp
     cases hm:A.mode g i with
     | io=>
      simp only [hm] at h hf hp
      split at h
      ·split at h
       ·rename_i b2 hr
        refine ih h ?_ (fun s hs=>hf s (by split <;> simp [hs])) (fun s hs=>hp s (by split <;> simp [hs]))
        intro s hs
        unfold Oc at hr
        split at hr
        ·split at hr
         ·split at hr
          ·split at hr
           ·simp only [oj] at hr
            subst hr
            rw [JU,if_neg (by rintro rfl; exact hs (hf _ (by simp))),h0 s hs]
           ·cases hr
          ·cases hr
         ·cases hr
        ·split at hr
         ·split at hr
          ·split at hr
           ·simp only [oj] at hr
            subst hr
            rw [JU,if_neg (by rintro rfl; exact hs (hp _ (by simp))),h0 s hs]
           ·cases hr
          ·cases hr
         ·cases hr
        ·cases hr
       ·cases h
      ·cases h
     | lend=>simp only [hm] at h hf hp; exact ih h h0 hf hp
     | take=>simp only [hm] at h hf hp; exact ih h h0 hf hp
     | keep=>simp only [hm] at h hf hp; exact ih h h0 hf hp
  obtain ⟨_,r2,r3⟩:=Vt hK hroots
  exact hre' hre k2.off r2 r3
 have base:∀ t,t ∉ Uf o.dst res→Jb b1 t=Jb (CF b (QC bW) b3) t:=by
  cases hd:o.dst with
  | none=>
   rw [hd] at hpl
   simp only [Q7,oj,pj] at hpl
   intro t _; rw [hpl.2]
  | some s=>
   intro t ht
   rw [hd] at hpl
   exact Pb hpl t ht
 refine ⟨fun s hs=>?_,fun sl' b' h1 h2 _ h3 h4 h5=>?_⟩
 ·simp only [Jv,not_or] at hs
  rw [base s hs.2,XG off3,if_neg hs.1]
 ·have hag:Ql sl sl' (Jp o.op):=Hs (fun t ht=>h1 t (by rw [J8]; simp [ht]))
  rw [hops] at hag
  have e1:opd sl' fo=.fn g caps:=by rw [hag fo (by simp),hf]
  have e2:Jo sl' cl.args.toList=Jo sl cl.args.toList:=Ql.map (fun x hx=>hag x (by simp [hx]))
  obtain ⟨b2',b3',k1,k2,k3,k4,k5⟩:=key b' h2 h5
  obtain ⟨b1',p1,p2,p3⟩:=S8 (sl':=sl') (b':=b3') hpl (fun t ht=>⟨(h3 t ht).1,fun hm=>(h3 t ht).2 (k4.names t hm)⟩) (fun t ht=>by
   rw [XG off3]
   split
   ·rename_i hs; exact k3.on t hs
   ·rename_i hs; rw [k4.look t hs]; exact h2 t (by simp only [Jv]; exact .inr ht))
  refine ⟨b1',Pj ho hcal e1 (by rw [e2]; exact hnt) hna (by rw [e2]; exact k5) (by rw [e2]; exact h4) (by rw [e2]; exact k1) hk hco how (by rw [e2]; exact k2) p1,fun s hs=>?_,fun s hs=>?_⟩
  ·by_cases hr:s ∈ Uf o.dst res
   ·exact p2 s hr
   ·simp only [Jv,hr,or_false] at hs
    rw [(p3 s hr).1,(p3 s hr).2,XG off3,if_pos hs]
    exact k3.on s hs
  ·simp only [Jv,not_or] at hs
   rw [(p3 s hs.2).1,k4.look s hs.1]
end
end Go.Rai
namespace Go.Rai
variable [Inhabited Qe]
def Vu (P:Program) (ops:Array Oper) (o:Oper) (sl:List V) (b:BL) (v:V) (b1:BL):Prop:=
 ∀ (Pn:Nat→Option Value) (w0:World) (F0:List Nat) (a:Act) (w:World),(∀ t,o.dst=some t→Pn t=none)→Rel Pn w0 F0 ⟨sl,b⟩ a w→∀ (K:Act→World→Prop) (Q:Exit→Act→World→Prop),
  (∀ a' w',Rel Pn w0 F0 ⟨Qx sl o.dst v,b1⟩ a' w'→K a' w')→(if Region.wanted o (yielded ops a.tmps) then o.wp P a w K Q ∨ (o.asks P a w∧LetsOut Q) else K (a.put o.dst undef) w)
def PH (P:Program) (ops:Array Oper) (o:Oper) (sl:List V) (b:BL) (v:V) (b1:BL) (rd T W N L qf qp:List Nat):Prop:=
 (∀ s,s ∉ W→Jb b1 s=Jb b s) ∧
 ∀ sl' b',(∀ t ∈ rd,Jy sl' t=Jy sl t)→QS b b' T→XA b b' L→(∀ s ∈ N,s ∉ Jn sl'∧s ∉ Ju b')→Q6 qf qp sl'=true→(∀ s,s ∈ qf ∨ s ∈ qp→s ∉ Ju b') →
  ∃ b1',Vu P ops o sl' b' v b1'∧(∀ s ∈ W,Jb b1' s=Jb b1 s)∧(∀ s,s ∉ W→Jb b1' s=Jb b' s)
structure C5 (P:Program) (ops:Array Oper) (o:Oper) (σ:St) (r:Rec) (σ':St):Prop where
 sl:σ'.sl=Qx σ.sl o.dst r.v
 dst:r.dst=o.dst
 bar:r.bar=true→Vu P ops o σ.sl σ.bl r.v σ'.bl∧∀ s,(s ∈ Jf r.v ∨ s ∈ Ju σ'.bl)→s ∈ r.nm
 loc:r.bar=false→PH P ops o σ.sl σ.bl r.v σ'.bl r.rd r.T r.W r.N r.L r.qf r.qp∧(∀ s ∈ r.W,s ∈ r.T)∧(∀ s ∈ r.N,s ∈ r.W)∧(∀ s,(s ∈ Jf r.v ∨ ∃ t ∈ r.W,∃ c,Jb σ'.bl t=some c∧s ∈ Jf c)→s ∈ r.nm)∧(∀ s ∈ r.L,s ∉ r.W)∧(r.sm=true→∀ s ∈ r.W,UN (Jb σ.bl s) (Jb σ'.bl s))
 nb:r.bar=true→r.N=[]
 qb:r.bar=true→r.qf=[]∧r.qp=[]
 bn:∀ s,(r.bar=true∧s ∈ Ju σ'.bl ∨ ∃ t ∈ r.W,∃ c,Jb σ'.bl t=some c∧s ∈ Jf c)→s ∈ r.bn
section
variable {P:Program} {A:Ann} {w w' w0:World} {F0:List Nat} {sl sl':List V} {a:Act} {b b' b1 bl:BL} {G:GT} {o:Oper} {v:V} {c:List Jm} {ops:Array Oper}
theorem Wx {b:BL}:∀ {W:List Nat} {s t:Nat} {c:V},t ∈ W→Jb b t=some c→s ∈ Jf c→s ∈ Vi b W
 | [],s,t,c,ht,_,_=>by cases ht
 | u :: W,s,t,c,ht,hl,hs=>by
  unfold Vi
  rcases List.mem_cons.1 ht with rfl | ht
  ·rw [hl]; simp only [Jv]; exact .inl hs
  ·have:=Wx ht hl hs
   split
   ·simp only [Jv]; exact .inr this
   ·exact this
theorem XJ {R:Type} {all:List Oper} {σ:St} {bar:Bool} {T W N L:List Nat} {sm:Bool} {κ:Rec→St→Option R}:Hr all σ o bar v b T W N L sm κ =
  κ ⟨v,cat (HZ all o) (Ue (Jp o.op)),o.dst,bar,T,W,N,H0 bar v b W,L,sm,Wj bar b W,[],[]⟩ ⟨Qx σ.sl o.dst v,b⟩:=by
 unfold Hr
 rw [CC,UJ]
 simp only [Ou]
 cases sm <;> rfl
theorem jR {R:Type} {all:List Oper} {σ:St} {T W N qf qp:List Nat} {κ:Rec→St→Option R}:YW all σ o v b T W N qf qp κ =
  κ ⟨v,cat (HZ all o) (Ue (Jp o.op)),o.dst,false,T,W,N,H0 false v b W,[],false,Wj false b W,qf,qp⟩ ⟨Qx σ.sl o.dst v,b⟩:=by
 unfold YW
 rw [CC,UJ]
 simp only [Ou]
theorem XK {b:BL} {bar:Bool} {W:List Nat} {s:Nat} (h:bar=true∧s ∈ Ju b ∨ ∃ t ∈ W,∃ c,Jb b t=some c∧s ∈ Jf c) (hb:bar=false):s ∈ Wj bar b W:=by
 subst hb
 rcases h with ⟨h,_⟩ | ⟨t,ht,c,hc,hs⟩
 ·cases h
 ·exact Wx ht hc hs
def Uk (all:List Oper) (sl:List V) (o:Oper):Prop:=
 match o.guard with
 | none=>True
 | some (j,want)=>∃ t,Hk all j=some t∧Jy sl t=.bool want
theorem Kn {E:Env} (hs:JA E sl a) (h:Uk ops.toList sl o):Region.wanted o (yielded ops a.tmps)=true:=by
 unfold Uk at h
 cases hg:o.guard with
 | none=>simp [Region.wanted,hg]
 | some jw=>
  obtain ⟨j,want⟩:=jw
  rw [hg] at h
  obtain ⟨t,h1,h2⟩:=h
  simp [Region.wanted,hg,SD hs h1 h2]
theorem jS (h:Uk ops.toList sl o) (ha:∀ t ∈ HZ ops.toList o,Jy sl' t=Jy sl t):Uk ops.toList sl' o:=by
 unfold Uk at h ⊢
 cases hg:o.guard with
 | none=>trivial
 | some jw=>
  obtain ⟨j,want⟩:=jw
  rw [hg] at h
  obtain ⟨t,h1,h2⟩:=h
  exact ⟨t,h1,by rw [ha t (by simp [HZ,hg,h1])]; exact h2⟩
def OE (all:List Oper) (sl:List V) (o:Oper):Prop:=
 ∃ j want t,o.guard=some (j,want)∧Hk all j=some t∧(Jy sl t=.void ∨ Jy sl t=.bool (!want))
theorem jT {E:Env} (hs:JA E sl a) (h:OE ops.toList sl o):Region.wanted o (yielded ops a.tmps)=false:=by
 obtain ⟨j,want,t,hg,h1,h2⟩:=h
 rcases h2 with h2 | h2
 ·simp [Region.wanted,hg,M4 hs h1 h2]
 ·cases want <;> simp [Region.wanted,hg,SD hs h1 h2]
theorem jU (h:OE ops.toList sl o) (ha:∀ t ∈ HZ ops.toList o,Jy sl' t=Jy sl t):OE ops.toList sl' o:=by
 obtain ⟨j,want,t,hg,h1,h2⟩:=h
 exact ⟨j,want,t,hg,h1,by rw [ha t (by simp [HZ,hg,h1])]; exact h2⟩
theorem UM.g (h:UM P o sl b v b1) (hw:Uk ops.toList sl o):Vu P ops o sl b v b1:=by
 intro Pn w0 F0 a w hdst hr K Q hK
 obtain ⟨⟨G,hc,hs⟩,hl,hd,hpin⟩:=hr
 rw [Kn hs hw]
 simp only [if_true]
 exact .inl (h hdst ⟨⟨G,hc,hs⟩,hl,hd,hpin⟩ hK)
theorem Ko (h:OE ops.toList sl o):Vu P ops o sl b .void b:=by
 intro Pn w0 F0 a w hdst hr K Q hK
 obtain ⟨⟨G,hc,hs⟩,hl,hd,hpin⟩:=hr
 rw [jT hs h]
 simp only [Bool.false_eq_true,if_false]
 exact hK _ _ (Rel.put hc hs hl hd hpin hdst (VP.2 ⟨rfl,rfl⟩))
theorem XI.g {gs rd T W N L qf qp:List Nat} (h:XI P o sl b v b1 (cat gs rd) T W N L qf qp) (hg:gs=HZ ops.toList o) (hw:Uk ops.toList sl o):PH P ops o sl b v b1 (cat gs rd) T W N L qf qp:=by
 refine ⟨h.1,fun sl' b' h1 h2 hL h3 h4 h5=>?_⟩
 obtain ⟨b1',k1,k2⟩:=h.2 sl' b' h1 h2 hL h3 h4 h5
 exact ⟨b1',UM.g k1 (jS hw (fun t ht=>h1 t (by rw [J8,hg]; simp [ht]))),k2⟩
theorem Kp (HT:JY P A.ty) {R:Type} {oc:OC R} (hoc:HG P A oc) {σ:St} {κ:St→Option R} {r:R} (h:Cq oc A σ o κ=some r):∃ sl1 v b1,κ ⟨Qx sl1 o.dst v,b1⟩=some r∧OD P o σ.sl σ.bl sl1 v b1∧((∀ t x,o.op ≠ .box t x)→sl1=σ.sl):=by
 suffices hs:(∃ v b1,κ ⟨Qx σ.sl o.dst v,b1⟩=some r∧UM P o σ.sl σ.bl v b1) ∨ (∃ t x sl1 v b1,o.op=.box t x∧κ ⟨Qx sl1 o.dst v,b1⟩=some r∧OD P o σ.sl σ.bl sl1 v b1) by
  rcases hs with ⟨v,b1,h1,h2⟩ | ⟨t,x,sl1,v,b1,h0,h1,h2⟩
  ·exact ⟨σ.sl,v,b1,h1,fun x1 x2 _ _ x3=>h2 x1 x2 x3,fun _=>rfl⟩
  ·exact ⟨sl1,v,b1,h1,h2,fun hn=>absurd h0 (hn t x)⟩
 have prim:VJ A σ o κ=some r→∃ v b1,κ ⟨Qx σ.sl o.dst v,b1⟩=some r∧UM P o σ.sl σ.bl v b1:=by
  intro h
  unfold VJ at h
  split at h
  ·rename_i c v b hp
   obtain ⟨h1,h2⟩:=UK h
   rw [UJ] at h2
   exact ⟨v,b,h2,HL HT hp h1⟩
  ·cases h
 unfold Cq at h
 split at h
 ·rename_i cl ho
  split at h
  ·rename_i fo hcal
   split at h
   ·rename_i g caps hf
    unfold K0 at h
    split at h
    ·rename_i hb
     rw [Je] at hb
     obtain ⟨hnt,hna⟩:=hb
     split at h
     ·rename_i hio
      split at h
      ·rename_i c1 ws hp
       obtain ⟨h1,h2⟩:=UK h
       rw [UZ] at h2
       obtain ⟨res,outs,k1,hco⟩:=hoc _ _ _ _ h2
       split at k1
       ·rename_i how
        split at k1
        ·rename_i v b2 hpl
         rw [UJ] at k1
         exact .inl ⟨v,b2,k1,Pc (io:=fun _=>false) ho hcal hf hio hnt hna hp h1 hco how hpl⟩
        ·cases k1
       ·cases k1
      ·cases h
     ·split at h
      ·rename_i s p vio c0 hone
       unfold X6 at hone
       split at hone
       ·rename_i v0 h1o
        split at hone
        ·rename_i s0 p0 hloc
         split at hone
         ·rename_i c00 hl0
          split at hone
          ·rename_i hc0
           simp only [oj,pj] at hone
           obtain ⟨rfl,rfl,rfl,rfl⟩:=hone
           unfold KY at h
           split at h
           ·rename_i c1 x hget
            split at h
            ·rename_i hchk
             rw [Je,Je] at hchk
             split at h
             ·rename_i c2 hal
              split at h
              ·rename_i c3 ws hp
               obtain ⟨h1,h2⟩:=UK h
               rw [UZ] at h2
               obtain ⟨res,outs,k1,hco⟩:=hoc _ _ _ _ h2
               split at k1
               ·rename_i y hout
                split at k1
                ·rename_i hb3
                 rw [Je,Je] at hb3
                 rw [HY] at k1
                 split at k1
                 ·rename_i r0 b3 hpl
                  rw [UJ] at k1
                  exact .inl ⟨r0,b3,k1,jK ho hcal hf hnt hna h1o hloc hl0 hc0 hchk.1.1 hget (C3 hchk.1.2) hchk.2 hal hp h1 hco hout hb3.1 hb3.2.1 hb3.2.2 hpl⟩
                 ·cases k1
                ·cases k1
               ·cases k1
              ·cases h
             ·cases h
            ·cases h
           ·cases h
          ·cases hone
         ·cases hone
        ·cases hone
       ·cases hone
      ·unfold KZ at h
       split at h
       ·rename_i hroot
        rw [Je] at hroot
        split at h
        ·rename_i c1 ws b1 hp
         obtain ⟨h1,h2⟩:=UK h
         rw [UZ,HY] at h2
         obtain ⟨res,outs,k1,hco⟩:=hoc _ _ _ _ h2
         split at k1
         ·rename_i how
          split at k1
          ·rename_i b2 hre
           split at k1
           ·rename_i v b3 hpl
            rw [UJ] at k1
            exact .inl ⟨v,b3,k1,Pj ho hcal hf hnt hna hroot.1 hroot.2 hp h1 hco how hre hpl⟩
           ·cases k1
          ·cases k1
         ·cases k1
        ·cases h
       ·cases h
    ·cases h
   ·cases h
  ·exact .inl (prim h)
 ·rename_i t a x ho
  split at h
  ·rename_i c b hp
   obtain ⟨h1,h2⟩:=UK h
   rw [UJ] at h2
   have hp':CP (A.ty t) σ.sl σ.bl (opd σ.sl a) (opd σ.sl x)=some (c,b):=by
    unfold X9 at hp
    split at hp
    ·split at hp
     ·split at hp
      ·cases hp
      ·split at hp
       ·exact hp
       ·cases hp
     ·cases hp
    ·cases hp
   exact .inl ⟨.void,b,h2,Pr HT ho hp' h1⟩
  ·split at h
   ·rename_i c v b hp
    obtain ⟨h1,h2⟩:=UK h
    rw [UJ] at h2
    exact .inl ⟨v,b,h2,HL HT hp h1⟩
   ·split at h
    ·rename_i c b hp
     obtain ⟨h1,h2⟩:=UK h
     rw [UJ] at h2
     exact .inl ⟨.void,b,h2,jE HT ho hp h1⟩
    ·split at h
     ·rename_i c b hp
      obtain ⟨h1,h2⟩:=UK h
      rw [UJ] at h2
      exact .inl ⟨.void,b,h2,Pr HT ho hp h1⟩
     ·cases h
 ·rename_i t x ho
  split at h
  ·rename_i c v b u y hp
   obtain ⟨h1,h2⟩:=UK h
   rw [CC,HE,UJ] at h2
   exact .inr ⟨t,x,_,v,b,ho,h2,jF HT ho hp h1⟩
  ·exact .inl (prim h)
 ·exact .inl (prim h)
theorem jV (sl:List V) (d:Option Nat) (v:V):Qx sl d (CX d (Qx sl d v))=Qx sl d v:=by
 cases d with
 | none=>rfl
 | some t=>
  simp only [Qx,CX,Ov]
  by_cases h:t<sl.length
  ·simp [h]
  ·have:∀ (l:List V) (t:Nat) (x y:V),¬ t<l.length→JF l t x=JF l t y:=by
    intro l
    induction l with
    | nil=>intro t x y _; rfl
    | cons a l ih=>
     intro t x y ht
     cases t with
     | zero=>simp at ht
     | succ t=>simp only [JF]; rw [ih t x y (by simpa using ht)]
   exact this sl t _ _ h
theorem jW {σ:St} (hp:JI A σ.sl σ.bl o.dst o.op=some (c,v,b1)) (hsm:YX σ o.op=true):∀ s ∈ CY σ o.op,UN (Jb σ.bl s) (Jb b1 s):=by
 intro s hs
 unfold YX at hsm
 split at hsm
 ·rename_i t a x hop
  rw [hop] at hp hs
  split at hsm
  ·rename_i s0 p ha
   simp only [CY,ha,Jf,List.mem_singleton] at hs
   subst hs
   split at hsm
   ·rename_i c0 hc0
    rw [show (J2 (c0.outer p)=true)=(c0.outer p=false) by cases c0.outer p <;> simp [J2]] at hsm
    simp only [JI] at hp
    split at hp
    ·cases hp
    ·simp only [ha,OQ,hc0] at hp
     split at hp
     ·rename_i cs y hg
      split at hp
      ·split at hp
       ·simp only [oj,pj] at hp
        obtain ⟨_,_,rfl⟩:=hp
        rw [hc0,JU,if_pos rfl]
        exact .inr ⟨c0,_,rfl,rfl,SV p c0 _ ⟨_,hg⟩ hsm⟩
       ·cases hp
      ·cases hp
     ·cases hp
   ·cases hsm
  ·cases hsm
 ·cases hsm
theorem Kq (HT:JY P A.ty) {R:Type} {oc:OC R} (hoc:HG P A oc) {σ:St} {κ:Rec→St→Option R} {r:R} (hw:Uk ops.toList σ.sl o) (h:Wl oc A ops.toList σ o κ=some r) :
  ∃ rc σ',κ rc σ'=some r∧C5 P ops o σ rc σ':=by
 have prim:∀ {T W N L:List Nat} {sm:Bool},(∀ s ∈ W,s ∈ T)→(∀ s ∈ N,s ∈ W)→(∀ s ∈ L,s ∉ W)→(∀ c v b1,JI A σ.sl σ.bl o.dst o.op=some (c,v,b1)→(∀ x ∈ c,x.ok)→OA P o σ.sl σ.bl v b1 (cat (HZ ops.toList o) (Ue (Jp o.op))) T W N L∧(sm=true→∀ s ∈ W,UN (Jb σ.bl s) (Jb b1 s))) →
   Vl A ops.toList σ o false T W N L sm κ=some r→∃ rc σ',κ rc σ'=some r∧C5 P ops o σ rc σ':=by
  intro T W N L sm hWT hNW hLW hloc h
  unfold Vl at h
  split at h
  ·rename_i c v b hp
   obtain ⟨h1,h2⟩:=UK h
   rw [XJ] at h2
   refine ⟨_,_,h2,rfl,rfl,fun hb=>(by cases hb),fun _=>⟨(hloc c v b hp h1).1.q.g rfl hw,hWT,hNW,?_,hLW,(hloc c v b hp h1).2⟩,fun hb=>(by cases hb),fun hb=>(by cases hb),fun s hs=>XK hs rfl⟩
   rintro s (hs | ⟨t,ht,c',hc',hs⟩)
   ·simp only [H0,Jv]; exact .inl hs
   ·simp only [H0,Jv]; exact .inr (Wx ht hc' hs)
  ·cases h
 have barr:(∀ t x,o.op ≠ .box t x)→Cq oc A σ o (fun σ'=>Hr ops.toList σ o true (CX o.dst σ'.sl) σ'.bl [] [] [] [] false κ)=some r→∃ rc σ',κ rc σ'=some r∧C5 P ops o σ rc σ':=by
  intro hbx h
  obtain ⟨sl1,v,b1,h1,h2,h3⟩:=Kp HT hoc h
  obtain rfl:=h3 hbx
  rw [XJ] at h1
  have hput:=jV σ.sl o.dst v
  have h2':UM P o σ.sl σ.bl (CX o.dst (Qx σ.sl o.dst v)) b1:=by
   intro Pn w0 F0 a w hdst hr K Q hK
   refine h2 hdst hr (fun a' w' hr'=>hK a' w' ?_)
   rw [hput]
   exact hr'
  refine ⟨_,_,h1,rfl,rfl,fun _=>⟨UM.g h2' hw,?_⟩,fun hb=>(by cases hb),fun _=>rfl,fun _=>⟨rfl,rfl⟩,fun s hs=>hs.elim (fun hs=>hs.2) (fun ⟨t,ht,_⟩=>by cases ht)⟩
  intro s hs
  simp only [H0,Jv]
  exact hs
 unfold Wl at h
 split at h
 ·rename_i hcl
  exact prim (fun s hs=>by cases hs) (fun s hs=>by cases hs) (fun s _ hs=>by cases hs) (fun c v b1 hp hk=>⟨jj HT (by rw [hcl]) hp hk,fun hb=>by cases hb⟩) h
 ·rename_i hcl
  exact prim (fun s hs=>hs) (fun s hs=>hs) (fun s hs=>by cases hs) (fun c v b1 hp hk=>⟨(jl HT (by rw [hcl]) hp hk).l,fun hb=>by cases hb⟩) h
 ·rename_i hcl
  split at h
  ·exact prim (fun s hs=>hs) (fun s hs=>by cases hs) (fun s hs=>by cases hs) (fun c v b1 hp hk=>⟨(jm HT (by rw [hcl]) hp hk).l,fun hsm=>jW hp hsm⟩) h
  ·exact barr (by intro t x hb; simp_all [cls]) h
 ·split at h
  ·rename_i cl hop
   split at h
   ·rename_i fo hcal
    split at h
    ·rename_i g caps hf
     split at h
     ·rename_i hio
      unfold SK at h
      split at h
      ·rename_i hb
       rw [Je] at hb
       rw [HY] at h
       split at h
       ·rename_i c1 ws hp
        obtain ⟨h1,h2⟩:=UK h
        rw [UZ] at h2
        obtain ⟨res,outs,k1,hco⟩:=hoc _ _ _ _ h2
        split at k1
        ·rename_i how
         split at k1
         ·rename_i v b2 hpl
          simp only [XJ] at k1
          refine ⟨_,_,k1,rfl,rfl,fun hb=>(by cases hb),fun _=>⟨(ju hop hcal hf hio hb.1 hb.2 Wu hp h1 hco how hpl).l.q.g rfl hw,fun s hs=>(by simp only [Jv]; exact .inr hs),fun s hs=>hs,?_,fun s hs=>(by cases hs),fun hb=>(by cases hb)⟩,fun hb=>(by cases hb),fun hb=>(by cases hb),fun s hs=>XK hs rfl⟩
          rintro s (hs | ⟨t,ht,c',hc',hs⟩)
          ·simp only [H0,Jv]; exact .inl hs
          ·simp only [H0,Jv]; exact .inr (Wx ht hc' hs)
         ·cases k1
        ·cases k1
       ·cases h
      ·cases h
     ·split at h
      ·exact barr (by intro t x hb; simp_all [cls]) h
      ·unfold SL at h
       split at h
       ·rename_i hb
        rw [Je] at hb
        rw [HY,HY] at h
        split at h
        ·rename_i hroots
         split at h
         ·rename_i c1 ws b2 hp
          split at h
          ·rename_i c2 us hp2
           obtain ⟨h1,h2⟩:=UK h
           rw [UZ,HY] at h2
           obtain ⟨res,outs,k1,hco⟩:=hoc _ _ _ _ h2
           split at k1
           ·rename_i how
            split at k1
            ·rename_i b3 hre
             split at k1
             ·rename_i v b4 hpl
              simp only [jR] at k1
              refine ⟨_,_,k1,rfl,rfl,fun hb=>(by cases hb),fun _=>⟨(jQ hop hcal hf hb.1 hb.2 Wu Wu hroots hp hp2 h1 hco how hre hpl).g rfl hw,fun s hs=>(by simp only [Jv] at hs ⊢; rcases hs with hs | hs; exact .inl (.inr hs); exact .inr hs),fun s hs=>(by simp only [Jv]; exact .inr hs),?_,fun s hs=>(by cases hs),fun hb=>(by cases hb)⟩,fun hb=>(by cases hb),fun hb=>(by cases hb),fun s hs=>XK hs rfl⟩
              rintro s (hs | ⟨t,ht,c',hc',hs⟩)
              ·simp only [H0,Jv]; exact .inl hs
              ·simp only [H0,Jv]; exact .inr (Wx ht hc' hs)
             ·cases k1
            ·cases k1
           ·cases k1
          ·cases h
         ·cases h
        ·cases h
       ·cases h
    ·cases h
   ·cases h
  ·cases h
 ·rename_i hcl
  split at h
  ·rename_i hok
   exact prim (fun s hs=>by
    simp only [Oy,CZ,Jv] at hs ⊢
    split at hs
    ·rename_i c hop
     split at hs
     ·rename_i s0 r hm
      simp only [Jv] at hs
      rcases hs with hs | hs
      ·refine .inl ?_
       have hops:Jp (Op.call c)=c.args.toList:=by
        simp only [hop,cls] at hcl
        simp only [Jp]
        split at hcl <;> simp_all
       rw [hop,hops,hm]
       simp only [Jn,Jv]
       exact .inl hs
      ·exact .inr hs
     ·exact .inr hs
    ·exact .inr hs) (fun s hs=>by
    simp only [CZ]
    split
    ·rename_i c hop
     split
     ·simp only [Jv]; exact .inr hs
     ·exact hs
    ·exact hs) (fun s hs=>by cases hs) (fun c v b1 hp hk=>⟨(jq HT (by rw [hcl]) hok hp hk).l,fun hb=>by cases hb⟩) h
  ·exact barr (by intro t x hb; simp_all [cls]) h
 ·exact barr (by intro t x hb; simp_all [cls]) h
theorem Kr {R:Type} {σ:St} {κ:Rec→St→Option R} {r:R} (hw:OE ops.toList σ.sl o) (h:Hr ops.toList σ o false .void σ.bl [] [] [] [] false κ=some r) :
  ∃ rc σ',κ rc σ'=some r∧C5 P ops o σ rc σ':=by
 rw [XJ] at h
 refine ⟨_,_,h,rfl,rfl,fun hb=>(by cases hb),fun _=>⟨⟨fun _ _=>rfl,fun sl' b' h1 h2 hL h3 _ _=>⟨b',Ko (jU hw (fun t ht=>h1 t (by rw [J8]; simp [ht]))),fun s hs=>(by cases hs),fun _ _=>rfl⟩⟩,fun s hs=>hs,fun s hs=>hs,?_,fun s hs=>(by cases hs),fun hb=>(by cases hb)⟩,fun hb=>(by cases hb),fun hb=>(by cases hb),fun s hs=>XK hs rfl⟩
 rintro s (hs | ⟨t,ht,_⟩)
 ·simp [Jf] at hs
 ·cases ht
theorem PI (HT:JY P A.ty) {R:Type} {oc:OC R} (hoc:HG P A oc) {r:R}:∀ {l:List Oper} {σ:St} {κ:List Rec→St→Option R},Ci oc A ops.toList l σ κ=some r →
  ∃ (rc:Nat→Rec) (st:Nat→St),st 0=σ∧(∀ j o,l[j]?=some o→C5 P ops o (st j) (rc j) (st (j + 1)))∧κ ((List.range l.length).map rc) (st l.length)=some r
 | [],σ,κ,h=>⟨fun _=>default,fun _=>σ,rfl,fun j o hj=>(by simp at hj),h⟩
 | o :: l,σ,κ,h=>by
  have next:(∃ rc σ',Ci oc A ops.toList l σ' (fun rs=>κ (rc :: rs))=some r∧C5 P ops o σ rc σ')→∃ (rc:Nat→Rec) (st:Nat→St),st 0=σ∧(∀ j o',(o :: l)[j]?=some o'→C5 P ops o' (st j) (rc j) (st (j + 1)))∧κ ((List.range (o :: l).length).map rc) (st (o :: l).length)=some r:=by
   rintro ⟨rc0,σ',h1,h2⟩
   obtain ⟨rc,st,k1,k2,k3⟩:=PI HT hoc h1
   refine ⟨fun j=>match j with | 0=>rc0 | j + 1=>rc j,fun j=>match j with | 0=>σ | j + 1=>st j,rfl,?_,?_⟩
   ·intro j o' hj
    cases j with
    | zero=>
     simp only [List.getElem?_cons_zero,oj] at hj
     subst hj
     simp only [k1]
     exact h2
    | succ j=>
     simp only [List.getElem?_cons_succ] at hj
     exact k2 j o' hj
   ·rw [List.length_cons,List.range_succ_eq_map,List.map_cons,List.map_map]
    exact k3
  apply next
  unfold Ci at h
  split at h
  ·rename_i hg
   exact Kq HT hoc (by simp [Uk,hg]) h
  ·rename_i j want hg
   split at h
   ·rename_i t hd
    split at h
    ·rename_i hv
     exact Kr ⟨j,want,t,hg,hd,.inl hv⟩ h
    ·rename_i bb hv
     have hsame:JF σ.sl t (.bool bb)=σ.sl:=Wc hv (by simp)
     have hσ:(⟨σ.sl,σ.bl⟩:St)=σ:=rfl
     cases bb with
     | true=>
      simp only [cond_true,HE] at h
      rw [hsame,hσ] at h
      cases want with
      | true=>exact Kq HT hoc (by simp only [Uk,hg]; exact ⟨t,hd,hv⟩) h
      | false=>exact Kr ⟨j,false,t,hg,hd,.inr hv⟩ h
     | false=>
      simp only [cond_false,HE] at h
      rw [hsame,hσ] at h
      cases want with
      | true=>exact Kr ⟨j,true,t,hg,hd,.inr hv⟩ h
      | false=>exact Kq HT hoc (by simp only [Uk,hg]; exact ⟨t,hd,hv⟩) h
    ·cases h
   ·cases h
theorem Ks (HT:JY P A.ty) {R:Type} {oc:OC R} (hoc:HG P A oc) {σ:St} {κ:St→Option R} {r:R} (h:HA oc A σ o κ=some r):∃ sl1 v b1,κ ⟨Qx sl1 o.dst v,b1⟩=some r∧OD P o σ.sl σ.bl sl1 v b1:=by
 unfold HA at h
 split at h
 ·rename_i t x y ho
  split at h
  ·rename_i c sl b hp
   obtain ⟨h1,h2⟩:=UK h
   rw [UZ,UJ] at h2
   unfold K3 at hp
   split at hp
   ·split at hp
    ·cases hp
    ·split at hp
     ·cases hp
     ·split at hp
      ·cases hp
      ·split at hp
       ·cases hp
       ·split at hp
        ·rename_i hq
         simp only [oj,pj] at hp
         obtain ⟨rfl,rfl,rfl⟩:=hp
         exact ⟨_,_,_,h2,jC HT ho hq h1⟩
        ·cases hp
   ·cases hp
  ·obtain ⟨sl1,v,b1,h1,h2,_⟩:=Kp HT hoc h
   exact ⟨sl1,v,b1,h1,h2⟩
 ·obtain ⟨sl1,v,b1,h1,h2,_⟩:=Kp HT hoc h
  exact ⟨sl1,v,b1,h1,h2⟩
theorem Kt (HT:JY P A.ty) {R:Type} {oc:OC R} (hoc:HG P A oc) {Pn:Nat→Option Value} {r:R} {Q:Exit→Act→World→Prop}:∀ {l:List Oper} {σ:St} {a:Act} {w:World} {κ:St→Option R},(∀ o ∈ l,∀ t,o.dst=some t→Pn t=none)→Rel Pn w0 F0 σ a w→Hl oc A ops.toList l σ κ=some r →
  (∀ σ' a' w',κ σ'=some r→Rel Pn w0 F0 σ' a' w'→Q .normal a' w')→wpList P ops Q l a w
 | [],σ,a,w,κ,_,hr,h,hK=>hK _ _ _ h hr
 | o :: l,σ,a,w,κ,hd,hr,h,hK=>by
  have hr0:Rel Pn w0 F0 ⟨σ.sl,σ.bl⟩ a w:=hr
  have useb:∀ {sl1:List V} {v:V} {b1:BL},Uk ops.toList σ.sl o→OD P o σ.sl σ.bl sl1 v b1→Hl oc A ops.toList l ⟨Qx sl1 o.dst v,b1⟩ κ=some r→wpList P ops Q (o :: l) a w:=by
   intro sl1 v b1 hw hsem hrest
   obtain ⟨G,hc,hs⟩:=hr0.core
   unfold wpList
   rw [Kn hs hw]
   simp only [if_true]
   exact .inl (hsem (hd o (by simp)) hr0 (fun a' w' hr'=>Kt HT hoc (fun o' ho'=>hd o' (by simp [ho'])) hr' hrest hK))
  have use:∀ {v:V} {b1:BL},Vu P ops o σ.sl σ.bl v b1→Hl oc A ops.toList l ⟨Qx σ.sl o.dst v,b1⟩ κ=some r→wpList P ops Q (o :: l) a w:=by
   intro v b1 hsem hrest
   have:=hsem Pn w0 F0 a w (hd o (by simp)) hr0 (wpList P ops Q l) Q (fun a' w' hr'=>Kt HT hoc (fun o' ho'=>hd o' (by simp [ho'])) hr' hrest hK)
   unfold wpList
   exact this
  have go:Uk ops.toList σ.sl o→HA oc A σ o (fun σ'=>Hl oc A ops.toList l σ' κ)=some r→wpList P ops Q (o :: l) a w:=by
   intro hw hp
   obtain ⟨sl1,v,b1,h1,h2⟩:=Ks HT hoc hp
   exact useb hw h2 h1
  have skip:OE ops.toList σ.sl o→QU σ o.dst .void σ.bl (fun σ'=>Hl oc A ops.toList l σ' κ)=some r→wpList P ops Q (o :: l) a w:=by
   intro hw hp
   rw [UJ] at hp
   exact use (Ko hw) hp
  unfold Hl at h
  split at h
  ·rename_i hg
   exact go (by simp [Uk,hg]) h
  ·rename_i j want hg
   split at h
   ·rename_i t hdt
    split at h
    ·rename_i hv
     exact skip ⟨j,want,t,hg,hdt,.inl hv⟩ h
    ·rename_i bb hv
     have hsame:JF σ.sl t (.bool bb)=σ.sl:=Wc hv (by simp)
     have hσ:(⟨σ.sl,σ.bl⟩:St)=σ:=rfl
     cases bb with
     | true=>
      simp only [cond_true,HE] at h
      rw [hsame,hσ] at h
      cases want with
      | true=>exact go (by simp only [Uk,hg]; exact ⟨t,hdt,hv⟩) h
      | false=>exact skip ⟨j,false,t,hg,hdt,.inr hv⟩ h
     | false=>
      simp only [cond_false,HE] at h
      rw [hsame,hσ] at h
      cases want with
      | true=>exact skip ⟨j,true,t,hg,hdt,.inr hv⟩ h
      | false=>exact go (by simp only [Uk,hg]; exact ⟨t,hdt,hv⟩) h
    ·cases h
   ·cases h
theorem jX {v:V} {Pn:Nat→Option Value} {K:Act→World→Prop} {Q:Exit→Act→World→Prop} (hprim:Jr P w0 F0 sl a w o v b1) (hdst:∀ t,o.dst=some t→Pn t=none) (hl:a.tmps.size=sl.length) (hd:a.defers=[]) (hpin:∀ t v,Pn t=some v→a.tmps.getD t undef=v)
  (hK:∀ a' w',Rel Pn w0 F0 ⟨Qx sl o.dst v,b1⟩ a' w'→K a' w'):o.wp P a w K Q:=by
 obtain ⟨vv,w',G',hrun,k1,k2,k3⟩:=hprim
 have hrel:=Rel.put (d:=o.dst) k1 k2 hl hd hpin hdst k3
 unfold Oper.wp
 rcases hrun with hrun | ⟨hrun,hvv⟩
 ·rw [hrun]; exact hK _ _ hrel
 ·rw [hrun]; subst hvv; exact hK _ _ hrel
theorem PJ {R:Type} {x y:Option R} {r:R} (h:C0 x y=some r):x=some r∧y=some r:=by
 unfold C0 at h
 split at h
 ·rename_i he
  exact ⟨h,by rw [← he]; exact h⟩
 ·cases h
theorem jY (HT:JY P A.ty) {Pn:Nat→Option Value} {σ:St} {c:List Jm} {l:List D} {ng:Bool} (h:Y1 A σ o=some (c,l,ng)) (hk:∀ k ∈ c,k.ok) (hdst:∀ t,o.dst=some t→Pn t=none) (hr:Rel Pn w0 F0 ⟨σ.sl,σ.bl⟩ a w) :
  o.guard=none∧∃ r:Bool,(r=ng ∨ (r=J2 ng∧¬ 1≤l.length))∧∀ (K:Act→World→Prop) (Q:Exit→Act→World→Prop),(∀ a' w',Rel Pn w0 F0 ⟨Qx σ.sl o.dst (.bool r),σ.bl⟩ a' w'→K a' w')→o.wp P a w K Q:=by
 unfold Y1 at h
 split at h
 ·cases h
 ·rename_i hg
  refine ⟨hg,?_⟩
  split at h
  ·rename_i op t x y ty hop
   split at h
   ·rename_i ht
    split at h
    ·rename_i hye
     split at h
     ·cases h
     ·rename_i v hv hxe
      split at h
      ·rename_i c0 e0 l0 hel
       obtain ⟨⟨G,hc,hs⟩,hl,hd,hpin⟩:=hr
       have hop2:(op=.eql ∨ op=.neq)∧c0=c∧l0=l∧ng=(match op with | .eql=>false | _=>true):=by
        cases op <;> simp at h <;> obtain ⟨rfl,rfl,rfl⟩:=h <;> simp
       obtain ⟨hop3,rfl,rfl,hng⟩:=hop2
       have hx:=JZ hs x
       have hy:=JZ hs y
       rw [hye] at hy
       obtain ⟨hy,_⟩:=Oq.1 hy
       obtain ⟨te,hdd⟩:=VU HT ht
       obtain ⟨Ad,cap,F,h1,h2,_⟩:=VS hc hx hel hk
       have hprim:Jr P w0 F0 σ.sl a w o (.bool (HU op Ad.isNone)) σ.bl:=by
        refine Jr.pure hc hs (Yu hop hop3 (fun p hp'=>by rw [h1] at hp'; cases hp') (by rw [h1]; rfl) ?_) (QI.2 ⟨rfl,rfl⟩)
        rw [hy,h1,Op.equalIn]
        cases Ad <;> simp [QQ hdd]
       refine ⟨HU op Ad.isNone,?_,fun K Q hK=>jX hprim hdst hl hd hpin hK⟩
       rcases h2 with ⟨g,_⟩ | ⟨ad,_,_,g,_⟩
       ·subst g
        cases Ad with
        | none=>right; refine ⟨?_,by simp⟩; rcases hop3 with rfl | rfl <;> simp [hng,HU,J2]
        | some _=>left; rcases hop3 with rfl | rfl <;> simp [hng,HU]
       ·left; subst g; rcases hop3 with rfl | rfl <;> simp [hng,HU]
      ·cases h
    ·cases h
   ·cases h
  ·cases h
theorem XL (HT:JY P A.ty) {R:Type} {oc:OC R} (hoc:HG P A oc) {Pn:Nat→Option Value} {r:R} {Q:Exit→Act→World→Prop}:∀ {l:List Oper} {σ:St} {a:Act} {w:World} {κ:St→Option R},(∀ o ∈ l,∀ t,o.dst=some t→Pn t=none)→Rel Pn w0 F0 σ a w→UD oc A ops.toList l σ κ=some r →
  (∀ σ' a' w',κ σ'=some r→Rel Pn w0 F0 σ' a' w'→Q .normal a' w')→wpList P ops Q l a w
 | [],σ,a,w,κ,_,hr,h,hK=>hK _ _ _ h hr
 | o :: l,σ,a,w,κ,hd,hr,h,hK=>by
  have hr0:Rel Pn w0 F0 ⟨σ.sl,σ.bl⟩ a w:=hr
  have useb:∀ {sl1:List V} {v:V} {b1:BL},Uk ops.toList σ.sl o→OD P o σ.sl σ.bl sl1 v b1→UD oc A ops.toList l ⟨Qx sl1 o.dst v,b1⟩ κ=some r→wpList P ops Q (o :: l) a w:=by
   intro sl1 v b1 hw hsem hrest
   obtain ⟨G,hc,hs⟩:=hr0.core
   unfold wpList
   rw [Kn hs hw]
   simp only [if_true]
   exact .inl (hsem (hd o (by simp)) hr0 (fun a' w' hr'=>XL HT hoc (fun o' ho'=>hd o' (by simp [ho'])) hr' hrest hK))
  have use:∀ {v:V} {b1:BL},Vu P ops o σ.sl σ.bl v b1→UD oc A ops.toList l ⟨Qx σ.sl o.dst v,b1⟩ κ=some r→wpList P ops Q (o :: l) a w:=by
   intro v b1 hsem hrest
   have:=hsem Pn w0 F0 a w (hd o (by simp)) hr0 (wpList P ops Q l) Q (fun a' w' hr'=>XL HT hoc (fun o' ho'=>hd o' (by simp [ho'])) hr' hrest hK)
   unfold wpList
   exact this
  have go:Uk ops.toList σ.sl o→HA oc A σ o (fun σ'=>UD oc A ops.toList l σ' κ)=some r→wpList P ops Q (o :: l) a w:=by
   intro hw hp
   obtain ⟨sl1,v,b1,h1,h2⟩:=Ks HT hoc hp
   exact useb hw h2 h1
  have skip:OE ops.toList σ.sl o→QU σ o.dst .void σ.bl (fun σ'=>UD oc A ops.toList l σ' κ)=some r→wpList P ops Q (o :: l) a w:=by
   intro hw hp
   rw [UJ] at hp
   exact use (Ko hw) hp
  unfold UD at h
  split at h
  ·rename_i c ls ng hn
   obtain ⟨hk,h⟩:=UK h
   obtain ⟨hg,r0,hr1,hwp⟩:=jY HT hn hk (hd o (by simp)) hr0
   have hrest:UD oc A ops.toList l ⟨Qx σ.sl o.dst (.bool r0),σ.bl⟩ κ=some r:=by
    split at h
    ·rename_i hl1
     rw [UJ] at h
     rcases hr1 with rfl | ⟨_,hl2⟩
     ·exact h
     ·exact absurd hl1 hl2
    ·obtain ⟨h1,h2⟩:=PJ h
     rw [UJ] at h1 h2
     rcases hr1 with rfl | ⟨rfl,_⟩
     ·exact h1
     ·exact h2
   have hwd:Region.wanted o (yielded ops a.tmps)=true:=by simp [Region.wanted,hg]
   unfold wpList
   rw [hwd]
   simp only [if_true]
   exact .inl (hwp _ _ (fun a' w' hr'=>XL HT hoc (fun o' ho'=>hd o' (by simp [ho'])) hr' hrest hK))
  ·split at h
   ·rename_i hg
    exact go (by simp [Uk,hg]) h
   ·rename_i j want hg
    split at h
    ·rename_i t hdt
     split at h
     ·rename_i hv
      exact skip ⟨j,want,t,hg,hdt,.inl hv⟩ h
     ·rename_i bb hv
      have hsame:JF σ.sl t (.bool bb)=σ.sl:=Wc hv (by simp)
      have hσ:(⟨σ.sl,σ.bl⟩:St)=σ:=rfl
      cases bb with
      | true=>
       simp only [cond_true,HE] at h
       rw [hsame,hσ] at h
       cases want with
       | true=>exact go (by simp only [Uk,hg]; exact ⟨t,hdt,hv⟩) h
       | false=>exact skip ⟨j,false,t,hg,hdt,.inr hv⟩ h
      | false=>
       simp only [cond_false,HE] at h
       rw [hsame,hσ] at h
       cases want with
       | true=>exact skip ⟨j,true,t,hg,hdt,.inr hv⟩ h
       | false=>exact go (by simp only [Uk,hg]; exact ⟨t,hdt,hv⟩) h
     ·cases h
    ·cases h
end
end Go.Rai
