/- An evaluator of the model's programs over plain values, proved sound, part 4 of 6. It is used by the claim's law; it has no condition of its own. -/
import Derived.Test.YtdoaceeakjbgfaaRaiU3
set_option linter.unusedVariables false
set_option linter.unusedSectionVars false
set_option linter.unusedSimpArgs false
namespace Go.Rai
variable [Inhabited Kset]
def Semo (P:Program) (o:Oper) (sl:List V) (b:BL) (v:V) (b1:BL):Prop:=
 ∀ {Pn:Nat→Option Value} {w0:World} {F0:List Nat} {a:Act} {w:World},(∀ t,o.dst=some t→Pn t=none)→Rel Pn w0 F0 ⟨sl,b⟩ a w→∀ {K:Act→World→Prop} {Q:Exit→Act→World→Prop},
  (∀ a' w',Rel Pn w0 F0 ⟨putSl sl o.dst v,b1⟩ a' w'→K a' w')→o.wp P a w K Q
def Loc (P:Program) (o:Oper) (sl:List V) (b:BL) (v:V) (b1:BL) (rd T W N:List Nat):Prop:=
 (∀ s,s ∉ W→lookB b1 s=lookB b s) ∧
 ∀ sl' b',(∀ t ∈ rd,slotL sl' t=slotL sl t)→AgreeB b b' T→(∀ s ∈ N,s ∉ sitess sl'∧s ∉ sitesB b') →
  ∃ b1',Semo P o sl' b' v b1'∧(∀ s ∈ W,lookB b1' s=lookB b1 s)∧(∀ s,s ∉ W→lookB b1' s=lookB b' s)
section
variable {P:Program} {A:Ann} {w w' w0:World} {F0:List Nat} {sl sl':List V} {a:Act} {b b' b1:BL} {G:GT} {o:Oper} {v:V} {c:List Cond}
theorem prim_sem (HT:TysOK P A.ty) (hp:stepPrim A sl b o.dst o.op=some (c,v,b1)) (hk:∀ x ∈ c,x.ok):Semo P o sl b v b1:=by
 intro Pn w0 F0 a w hdst hr K Q hK
 obtain ⟨⟨G,hc,hs⟩,hl,hd,hpin⟩:=hr
 obtain ⟨vv,w',G',hrun,k1,k2,k3⟩:=stepPrim_ok (o:=o) HT hc hs rfl hp hk
 have hrel:=Rel.put (d:=o.dst) k1 k2 hl hd hpin hdst k3
 unfold Oper.wp
 rcases hrun with hrun | ⟨hrun,hvv⟩
 ·rw [hrun]; exact hK _ _ hrel
 ·rw [hrun]; subst hvv; exact hK _ _ hrel
theorem read_loc (HT:TysOK P A.ty) (hcl:(match cls o.op with | .read=>true | _=>false)=true) (hp:stepPrim A sl b o.dst o.op=some (c,v,b1)) (hk:∀ x ∈ c,x.ok) {g:List Nat} :
  Loc P o sl b v b1 (cat g (tmpsOf (opsOf o.op))) (sitess (mapOpd sl (opsOf o.op))) [] []:=by
 have h0:=(read_agree (A:=A) (sl:=sl) (sl':=sl) (b:=b) (b':=b) (d:=o.dst) hcl (fun _ _=>rfl) (fun _ _=>rfl) c v b1 hp).1
 subst h0
 refine ⟨fun _ _=>rfl,fun sl' b' h1 h2 h3=>?_⟩
 have ho:AgreeO sl sl' (opsOf o.op):=agreeO_of (fun t ht=>h1 t (by rw [cat_eq]; simp [ht]))
 exact ⟨b',prim_sem HT (read_agree hcl ho h2 c v b1 hp).2 hk,fun s hs=>(by cases hs),fun _ _=>rfl⟩
def ownAt (c:V) (p:List Nat) (e:Ty) (n:Nat):Prop:=c.outer p=true∧∃ l,c.get p=some ([],.own e l)∧l.length=n
def sim (c c':V):Prop:=∀ p e n,ownAt c p e n ↔ ownAt c' p e n
def simO (x y:Option V):Prop:=(x=none∧y=none) ∨ ∃ c c',x=some c∧y=some c'∧sim c c'
theorem sim_refl (c:V):sim c c:=fun _ _ _=>Iff.rfl
theorem simO_refl (x:Option V):simO x x:=by
 cases x with
 | none=>exact .inl ⟨rfl,rfl⟩
 | some c=>exact .inr ⟨c,c,rfl,rfl,sim_refl c⟩
theorem simO_symm {x y:Option V} (h:simO x y):simO y x:=by
 rcases h with ⟨h1,h2⟩ | ⟨c,c',h1,h2,h3⟩
 ·exact .inl ⟨h2,h1⟩
 ·exact .inr ⟨c',c,h2,h1,fun p e n=>(h3 p e n).symm⟩
theorem simO_trans {x y z:Option V} (h:simO x y) (h':simO y z):simO x z:=by
 rcases h with ⟨h1,h2⟩ | ⟨c,c',h1,h2,h3⟩
 ·rcases h' with ⟨k1,k2⟩ | ⟨d,d',k1,k2,k3⟩
  ·exact .inl ⟨h1,k2⟩
  ·rw [h2] at k1; cases k1
 ·rcases h' with ⟨k1,k2⟩ | ⟨d,d',k1,k2,k3⟩
  ·rw [h2] at k1; cases k1
  ·rw [h2] at k1
   simp only [oj] at k1
   subst k1
   exact .inr ⟨c,d',h1,k2,fun p e n=>(h3 p e n).trans (k3 p e n)⟩
theorem nth_setNth {α:Type}:∀ (l:List α) (j i:Nat) (x:α),nth (setNth l j x) i=if i=j then (match nth l j with | some _=>some x | none=>none) else nth l i
 | [],j,i,x=>by
  simp only [setNth,nth]
  split <;> rfl
 | a :: l,0,i,x=>by
  cases i with
  | zero=>simp [setNth,nth]
  | succ i=>simp [setNth,nth]
 | a :: l,j + 1,i,x=>by
  cases i with
  | zero=>simp [setNth,nth]
  | succ i=>
   simp only [setNth,nth,nth_setNth l j i x]
   by_cases h:i=j
   ·simp [h]
   ·simp [h]
theorem ownAt_nil {c:V} {e:Ty} {n:Nat} (h:∀ e' l,c ≠ .own e' l):¬ ownAt c [] e n:=by
 rintro ⟨_,l,h1,_⟩
 simp only [V.get,oj,pj,true_and] at h1
 exact h _ _ h1
theorem ownAt_cons {c y:V} {j:Nat} {p:List Nat} {e:Ty} {n:Nat} (h1:∀ e' l,c ≠ .own e' l) (h2:∀ m e' l,c ≠ .arr m e' l) (hs:c.step j=some ([],y)):ownAt c (j :: p) e n ↔ ownAt y p e n:=by
 have ho:c.outer (j :: p)=y.outer p:=by
  cases c <;> first | exact absurd rfl (h1 _ _) | exact absurd rfl (h2 _ _ _) | (simp only [V.outer,hs])
 have hg:c.get (j :: p)=(match y.get p with | some (c',z)=>some (c',z) | none=>none):=by
  simp only [V.get,hs,cat]
  cases y.get p <;> rfl
 unfold ownAt
 rw [ho,hg]
 cases hy:y.get p with
 | none=>rfl
 | some q=>rfl
theorem ownAt_none {c:V} {j:Nat} {p:List Nat} {e:Ty} {n:Nat} (hs:c.step j=none):¬ ownAt c (j :: p) e n:=by
 rintro ⟨_,l,h1,_⟩
 simp only [V.get,hs] at h1
 cases h1
theorem sim_set:∀ (q:List Nat) (c x:V),(∃ r,c.get q=some r)→c.outer q=false→sim c (c.set q x)
 | [],c,x,_,h=>by simp [V.outer] at h
 | j :: q,c,x,hg,h=>by
  have go:∀ (y:V),c.step j=some ([],y)→(∀ e' l,c ≠ .own e' l)→(∀ m e' l,c ≠ .arr m e' l)→sim y (y.set q x):=by
   intro y hs h1 h2
   refine sim_set q y x ?_ ?_
   ·obtain ⟨r,hr⟩:=hg
    simp only [V.get,hs] at hr
    cases hy:y.get q with
    | none=>rw [hy] at hr; cases hr
    | some z=>exact ⟨z,rfl⟩
   ·cases c <;> first | exact absurd rfl (h1 _ _) | exact absurd rfl (h2 _ _ _) | (simp only [V.outer,hs] at h; exact h)
  obtain ⟨r,hr⟩:=hg
  cases c with
  | own e0 l=>
   intro p e n
   cases p with
   | nil=>
    simp only [V.set,V.step,V.put]
    constructor
    ·rintro ⟨_,l',h1,h2⟩
     simp only [V.get,oj,pj,true_and,V.own.injEq] at h1
     obtain ⟨rfl,rfl⟩:=h1
     exact ⟨rfl,_,rfl,by simpa using h2⟩
    ·rintro ⟨_,l',h1,h2⟩
     simp only [V.get,oj,pj,true_and,V.own.injEq] at h1
     obtain ⟨rfl,rfl⟩:=h1
     exact ⟨rfl,_,rfl,by simpa using h2⟩
   | cons i p=>
    simp only [V.set,V.step,V.put]
    constructor <;> (rintro ⟨h1,_⟩; simp [V.outer] at h1)
  | arr m e0 l=>
   intro p e n
   cases p with
   | nil=>
    simp only [V.set,V.step,V.put]
    constructor <;> (rintro ⟨_,l',h1,h2⟩; simp [V.get] at h1)
   | cons i p=>
    simp only [V.set,V.step,V.put]
    constructor <;> (rintro ⟨h1,_⟩; simp [V.outer] at h1)
  | agg vs=>
   cases hn:nth vs j with
   | none=>simp [V.get,V.step,hn] at hr
   | some y=>
    have hy:=go y (by simp [V.step,hn]) (by intro _ _ h; cases h) (by intro _ _ _ h; cases h)
    intro p e n
    simp only [V.set,V.step,hn,V.put]
    cases p with
    | nil=>exact ⟨fun h=>absurd h (ownAt_nil (by intro _ _ h; cases h)),fun h=>absurd h (ownAt_nil (by intro _ _ h; cases h))⟩
    | cons i p=>
     by_cases hij:i=j
     ·subst hij
      rw [ownAt_cons (y:=y) (by intro _ _ h; cases h) (by intro _ _ _ h; cases h) (by simp [V.step,hn]),ownAt_cons (y:=y.set q x) (by intro _ _ h; cases h) (by intro _ _ _ h; cases h) (by simp [V.step,nth_setNth,hn])]
      exact hy p e n
     ·cases hi:nth vs i with
      | none=>exact ⟨fun h=>absurd h (ownAt_none (by simp [V.step,hi])),fun h=>absurd h (ownAt_none (by simp [V.step,nth_setNth,hij,hi]))⟩
      | some z=>rw [ownAt_cons (y:=z) (by intro _ _ h; cases h) (by intro _ _ _ h; cases h) (by simp [V.step,hi]),ownAt_cons (y:=z) (by intro _ _ h; cases h) (by intro _ _ _ h; cases h) (by simp [V.step,nth_setNth,hij,hi])]
  | lst e0 vs=>
   cases hn:nth vs j with
   | none=>simp [V.get,V.step,hn] at hr
   | some y=>
    have hy:=go y (by simp [V.step,hn]) (by intro _ _ h; cases h) (by intro _ _ _ h; cases h)
    intro p e n
    simp only [V.set,V.step,hn,V.put]
    cases p with
    | nil=>exact ⟨fun h=>absurd h (ownAt_nil (by intro _ _ h; cases h)),fun h=>absurd h (ownAt_nil (by intro _ _ h; cases h))⟩
    | cons i p=>
     by_cases hij:i=j
     ·subst hij
      rw [ownAt_cons (y:=y) (by intro _ _ h; cases h) (by intro _ _ _ h; cases h) (by simp [V.step,hn]),ownAt_cons (y:=y.set q x) (by intro _ _ h; cases h) (by intro _ _ _ h; cases h) (by simp [V.step,nth_setNth,hn])]
      exact hy p e n
     ·cases hi:nth vs i with
      | none=>exact ⟨fun h=>absurd h (ownAt_none (by simp [V.step,hi])),fun h=>absurd h (ownAt_none (by simp [V.step,nth_setNth,hij,hi]))⟩
      | some z=>rw [ownAt_cons (y:=z) (by intro _ _ h; cases h) (by intro _ _ _ h; cases h) (by simp [V.step,hi]),ownAt_cons (y:=z) (by intro _ _ h; cases h) (by intro _ _ _ h; cases h) (by simp [V.step,nth_setNth,hij,hi])]
  | fn f vs=>
   cases hn:nth vs j with
   | none=>simp [V.get,V.step,hn] at hr
   | some y=>
    have hy:=go y (by simp [V.step,hn]) (by intro _ _ h; cases h) (by intro _ _ _ h; cases h)
    intro p e n
    simp only [V.set,V.step,hn,V.put]
    cases p with
    | nil=>exact ⟨fun h=>absurd h (ownAt_nil (by intro _ _ h; cases h)),fun h=>absurd h (ownAt_nil (by intro _ _ h; cases h))⟩
    | cons i p=>
     by_cases hij:i=j
     ·subst hij
      rw [ownAt_cons (y:=y) (by intro _ _ h; cases h) (by intro _ _ _ h; cases h) (by simp [V.step,hn]),ownAt_cons (y:=y.set q x) (by intro _ _ h; cases h) (by intro _ _ _ h; cases h) (by simp [V.step,nth_setNth,hn])]
      exact hy p e n
     ·cases hi:nth vs i with
      | none=>exact ⟨fun h=>absurd h (ownAt_none (by simp [V.step,hi])),fun h=>absurd h (ownAt_none (by simp [V.step,nth_setNth,hij,hi]))⟩
      | some z=>rw [ownAt_cons (y:=z) (by intro _ _ h; cases h) (by intro _ _ _ h; cases h) (by simp [V.step,hi]),ownAt_cons (y:=z) (by intro _ _ h; cases h) (by intro _ _ _ h; cases h) (by simp [V.step,nth_setNth,hij,hi])]
  | obox y=>
   have hy:=go y (by simp [V.step]) (by intro _ _ h; cases h) (by intro _ _ _ h; cases h)
   intro p e n
   simp only [V.set,V.step,V.put]
   cases p with
   | nil=>exact ⟨fun h=>absurd h (ownAt_nil (by intro _ _ h; cases h)),fun h=>absurd h (ownAt_nil (by intro _ _ h; cases h))⟩
   | cons i p=>
    rw [ownAt_cons (y:=y) (by intro _ _ h; cases h) (by intro _ _ _ h; cases h) (by simp [V.step]),ownAt_cons (y:=y.set q x) (by intro _ _ h; cases h) (by intro _ _ _ h; cases h) (by simp [V.step])]
    exact hy p e n
  | _=>simp [V.get,V.step] at hr
theorem outer_get:∀ (p:List Nat) (c:V) {cs:List Cond} {x:V},c.outer p=true→c.get p=some (cs,x)→cs=[]
 | [],c,cs,x,_,h=>by simp only [V.get,oj,pj] at h; exact h.1.symm
 | j :: p,c,cs,x,ho,h=>by
  have go:∀ y,c.step j=some ([],y)→y.outer p=true→cs=[]:=by
   intro y hs hy
   simp only [V.get,hs,cat] at h
   cases hz:y.get p with
   | none=>rw [hz] at h; cases h
   | some q=>
    obtain ⟨c',z⟩:=q
    rw [hz] at h
    simp only [oj,pj] at h
    rw [← h.1]
    exact outer_get p y hy hz
  cases c with
  | own e l=>simp [V.outer] at ho
  | arr n e l=>simp [V.outer] at ho
  | agg vs=>
   cases hn:nth vs j with
   | none=>simp [V.outer,V.step,hn] at ho
   | some y=>exact go y (by simp [V.step,hn]) (by simpa [V.outer,V.step,hn] using ho)
  | lst e vs=>
   cases hn:nth vs j with
   | none=>simp [V.outer,V.step,hn] at ho
   | some y=>exact go y (by simp [V.step,hn]) (by simpa [V.outer,V.step,hn] using ho)
  | fn f vs=>
   cases hn:nth vs j with
   | none=>simp [V.outer,V.step,hn] at ho
   | some y=>exact go y (by simp [V.step,hn]) (by simpa [V.outer,V.step,hn] using ho)
  | obox y=>exact go y (by simp [V.step]) (by simpa [V.outer,V.step] using ho)
  | _=>simp [V.outer,V.step] at ho
def SimB (b b':BL) (L:List Nat):Prop:=∀ s ∈ L,simO (lookB b s) (lookB b' s)
theorem len_at {b b':BL} {s:Nat} {p:List Nat} {cs:List Cond} {e:Ty} {l:List D} {c0:V} (h0:lookB b s=some c0) (ho:c0.outer p=true) (h:simO (lookB b s) (lookB b' s)) (hg:getAt b s p=some (cs,.own e l)) :
  cs=[]∧∃ l',getAt b' s p=some ([],.own e l')∧l'.length=l.length:=by
 unfold getAt at hg
 rw [h0] at hg
 simp only at hg
 have hcs:=outer_get p c0 ho hg
 subst hcs
 refine ⟨rfl,?_⟩
 rcases h with ⟨h1,_⟩ | ⟨c,c',h1,h2,h3⟩
 ·rw [h0] at h1; cases h1
 ·rw [h0] at h1
  simp only [oj] at h1
  subst h1
  obtain ⟨_,l',k1,k2⟩:=(h3 p e l.length).1 ⟨ho,l,hg,rfl⟩
  exact ⟨l',by unfold getAt; rw [h2]; exact k1,k2⟩
theorem len_look {x:V} {s:Nat} (h:lenSite b x=some s):(∃ p e c0,x=.full s p e∧lookB b s=some c0∧c0.outer p=true) ∨ (∃ p o n e c0,x=.sub s p o n e∧lookB b s=some c0∧c0.outer p=true):=by
 unfold lenSite at h
 split at h
 ·split at h
  ·rename_i c0 hc
   split at h
   ·rename_i ho
    simp only [oj] at h
    subst h
    exact .inl ⟨_,_,c0,rfl,hc,ho⟩
   ·cases h
  ·cases h
 ·split at h
  ·rename_i c0 hc
   split at h
   ·rename_i ho
    simp only [oj] at h
    subst h
    exact .inr ⟨_,_,_,_,c0,rfl,hc,ho⟩
   ·cases h
  ·cases h
 ·cases h
theorem indexV_len {t:Ty} {x i:V} {s:Nat} (hL:lenSite b x=some s) (h:simO (lookB b s) (lookB b' s)) (hp:indexV t b x i=some (c,v,b1)) (hk:∀ k ∈ c,k.ok):∃ c',indexV t b' x i=some (c',v,b')∧(∀ k ∈ c',k.ok)∧b1=b:=by
 unfold indexV at hp ⊢
 rcases len_look hL with ⟨p,e,c0,rfl,h0,ho⟩ | ⟨p,off,n,e,c0,rfl,h0,ho⟩
 ·split at hp
  ·rename_i i' hi
   simp only [hi]
   cases t with
   | slice e1=>
    simp only at hp ⊢
    split at hp
    ·rename_i cs e' l hg
     obtain ⟨rfl,l',k1,k2⟩:=len_at h0 ho h hg
     split at hp
     ·rename_i hb
      simp only [oj,pj] at hp
      obtain ⟨rfl,rfl,rfl⟩:=hp
      refine ⟨cat [] [.ix i' l'.length],by simp only [k1,hb],?_,rfl⟩
      intro k hk'
      simp only [cat,List.mem_singleton] at hk'
      subst hk'
      have:=hk (.ix i' l.length) (by simp [cat])
      simp only [Cond.ok,k2] at this ⊢
      exact this
     ·cases hp
    ·cases hp
   | arr m e1=>
    simp only at hp
    cases hp
   | _=>simp only at hp; cases hp
  ·cases hp
 ·split at hp
  ·rename_i i' hi
   simp only [hi]
   cases t with
   | slice e1=>
    simp only at hp ⊢
    split at hp
    ·rename_i cs e' l hg
     obtain ⟨rfl,l',k1,k2⟩:=len_at h0 ho h hg
     split at hp
     ·rename_i hb
      simp only [oj,pj] at hp
      obtain ⟨rfl,rfl,rfl⟩:=hp
      refine ⟨cat [] [.ix i' n,.le (off + n) l'.length],by simp only [k1,hb],?_,rfl⟩
      intro k hk'
      have e1:=hk (.ix i' n) (by simp [cat])
      have e2:=hk (.le (off + n) l.length) (by simp [cat])
      simp only [cat,List.mem_cons,List.not_mem_nil,or_false] at hk'
      rcases hk' with rfl | rfl
      ·exact e1
      ·simp only [Cond.ok,k2] at e2 ⊢
       exact e2
     ·cases hp
    ·cases hp
   | arr m e1=>
    simp only at hp
    cases hp
   | _=>simp only at hp; cases hp
  ·cases hp
def LocL (P:Program) (o:Oper) (sl:List V) (b:BL) (v:V) (b1:BL) (rd T W N L:List Nat):Prop:=
 (∀ s,s ∉ W→lookB b1 s=lookB b s) ∧
 ∀ sl' b',(∀ t ∈ rd,slotL sl' t=slotL sl t)→AgreeB b b' T→SimB b b' L→(∀ s ∈ N,s ∉ sitess sl'∧s ∉ sitesB b') →
  ∃ b1',Semo P o sl' b' v b1'∧(∀ s ∈ W,lookB b1' s=lookB b1 s)∧(∀ s,s ∉ W→lookB b1' s=lookB b' s)
theorem Loc.l {rd T W N L:List Nat} (h:Loc P o sl b v b1 rd T W N):LocL P o sl b v b1 rd T W N L:=
 ⟨h.1,fun sl' b' h1 h2 _ h3=>h.2 sl' b' h1 h2 h3⟩
theorem read_locL (HT:TysOK P A.ty) (hcl:(match cls o.op with | .read=>true | _=>false)=true) (hp:stepPrim A sl b o.dst o.op=some (c,v,b1)) (hk:∀ x ∈ c,x.ok) {g:List Nat} :
  LocL P o sl b v b1 (cat g (tmpsOf (opsOf o.op))) (readT ⟨sl,b⟩ o.op) [] [] (readL ⟨sl,b⟩ o.op):=by
 have old:(sitess (mapOpd sl (opsOf o.op))=readT ⟨sl,b⟩ o.op)→LocL P o sl b v b1 (cat g (tmpsOf (opsOf o.op))) (readT ⟨sl,b⟩ o.op) [] [] (readL ⟨sl,b⟩ o.op):=by
  intro he
  rw [← he]
  exact (read_loc HT hcl hp hk).l
 have h0:=(read_agree (A:=A) (sl:=sl) (sl':=sl) (b:=b) (b':=b) (d:=o.dst) hcl (fun _ _=>rfl) (fun _ _=>rfl) c v b1 hp).1
 subst h0
 have new:(∀ sl' b',AgreeO sl sl' (opsOf o.op)→Moved b1 b' (stepPrim A sl b1 o.dst o.op) (stepPrim A sl' b' o.dst o.op))→LocL P o sl b1 v b1 (cat g (tmpsOf (opsOf o.op))) (readT ⟨sl,b1⟩ o.op) [] [] (readL ⟨sl,b1⟩ o.op):=by
  intro hm
  refine ⟨fun _ _=>rfl,fun sl' b' h1 _ _ _=>?_⟩
  have ho:AgreeO sl sl' (opsOf o.op):=agreeO_of (fun t ht=>h1 t (by rw [cat_eq]; simp [ht]))
  exact ⟨b',prim_sem HT (hm sl' b' ho c v b1 hp).2 hk,fun s hs=>(by cases hs),fun _ _=>rfl⟩
 cases hop:o.op with
 | move x=>rw [← hop]; refine new (fun sl' b' ho=>?_); rw [hop] at ho ⊢; simp only [stepPrim]; rw [ho x (by simp [opsOf])]; exact moved_some
 | assign x=>rw [← hop]; refine new (fun sl' b' ho=>?_); rw [hop] at ho ⊢; simp only [stepPrim]; rw [ho x (by simp [opsOf])]; exact moved_some
 | pick q x y=>
  rw [← hop]; refine new (fun sl' b' ho=>?_); rw [hop] at ho ⊢
  simp only [stepPrim]; rw [ho q (by simp [opsOf]),ho x (by simp [opsOf]),ho y (by simp [opsOf])]
  split
  ·exact moved_some
  ·exact moved_none
 | unOp u t x=>
  rw [← hop]; refine new (fun sl' b' ho=>?_); rw [hop] at ho ⊢
  simp only [stepPrim]; rw [ho x (by simp [opsOf])]
  split
  ·exact moved_some
  ·exact moved_none
 | field t x f=>
  rw [← hop]; refine new (fun sl' b' ho=>?_); rw [hop] at ho ⊢
  simp only [stepPrim]; rw [ho x (by simp [opsOf])]
  split
  ·exact moved_some
  ·exact moved_none
 | extract x i=>
  rw [← hop]; refine new (fun sl' b' ho=>?_); rw [hop] at ho ⊢
  simp only [stepPrim]; rw [ho x (by simp [opsOf])]
  split
  ·split
   ·exact moved_some
   ·exact moved_none
  ·exact moved_none
 | indexAddr t x i=>
  rw [← hop]
  cases hL:lenSite b1 (opd sl x) with
  | none=>exact old (by rw [hop]; simp only [readT,hL,opsOf])
  | some s=>
   refine ⟨fun _ _=>rfl,fun sl' b' h1 _ h2 _=>?_⟩
   have ho:AgreeO sl sl' (opsOf o.op):=agreeO_of (fun t ht=>h1 t (by rw [cat_eq]; simp [ht]))
   rw [hop] at hp ho
   simp only [stepPrim] at hp
   obtain ⟨c',k1,k2,_⟩:=indexV_len hL (h2 s (by rw [hop]; simp [readL,hL])) hp hk
   refine ⟨b',prim_sem HT (c:=c') (b1:=b') ?_ k2,fun s hs=>(by cases hs),fun _ _=>rfl⟩
   rw [hop]
   simp only [stepPrim]
   rw [ho x (by simp [opsOf]),ho i (by simp [opsOf])]
   exact k1
 | _=>rw [← hop]; exact old (by rw [hop]; rfl)
theorem unused_mk {x:V} {t:Nat} (h1:lookB b t=none) (h2:t ∉ sitess sl) (h3:t ∉ sitesB b) (h4:t ∉ sites x):unused sl b x t=true:=by
 unfold unused
 rw [h1]
 have e1:isIn (sitess sl) t=false:=by cases h:isIn (sitess sl) t with | false=>rfl | true=>exact absurd (isIn_mem.1 h) h2
 have e2:isIn (sitesB b) t=false:=by cases h:isIn (sitesB b) t with | false=>rfl | true=>exact absurd (isIn_mem.1 h) h3
 have e3:isIn (sites x) t=false:=by cases h:isIn (sites x) t with | false=>rfl | true=>exact absurd (isIn_mem.1 h) h4
 simp [e1,e2,e3,bor,bneg]
theorem unused_x {x:V} {t:Nat} (h:unused sl b x t=true):t ∉ sites x:=(unused_iff h).2.2.2
def Fr (A:Ann) (op:Op) (sl:List V) (b:BL) (d:Option Nat) (c:List Cond) (v:V) (b1:BL):Prop:=
 ∃ t x,d=some t∧b1=setB b t x∧lookB b t=none∧t ∉ sites x ∧
  ∀ sl' b',AgreeO sl sl' (opsOf op)→unused sl' b' x t=true→stepPrim A sl' b' d op=some (c,v,setB b' t x)
theorem fresh_inv {d:Option Nat} {x:V} {cs:List Cond} (h:withC cs (fresh sl b d x)=some (c,v,b1)):∃ t,d=some t∧c=cs∧v=alias t [] x∧b1=setB b t x∧lookB b t=none∧t ∉ sites x ∧
  ∀ sl' b',unused sl' b' x t=true→withC cs (fresh sl' b' d x)=some (c,v,setB b' t x):=by
 cases d with
 | none=>simp [fresh,withC] at h
 | some t=>
  simp only [fresh] at h
  cases hu:unused sl b x t with
  | false=>rw [hu] at h; simp [withC] at h
  | true=>
   rw [hu] at h
   simp only [withC,oj,pj] at h
   obtain ⟨rfl,rfl,rfl⟩:=h
   refine ⟨t,rfl,rfl,rfl,rfl,(unused_iff hu).1,unused_x hu,fun sl' b' hu'=>?_⟩
   simp only [fresh,hu',withC]
theorem fresh_loc' {d:Option Nat} {op:Op} (hcl:(match cls op with | .fresh=>true | _=>false)=true) (hp:stepPrim A sl b d op=some (c,v,b1)):Fr A op sl b d c v b1:=by
 cases op with
 | alloc t=>
  simp only [stepPrim] at hp
  split at hp
  ·rename_i hz
   obtain ⟨t',h1,h2,h3,h4,h5,h6,h7⟩:=fresh_inv hp
   exact ⟨t',_,h1,h4,h5,h6,fun sl' b' _ hu=>by simp only [stepPrim,hz]; exact h7 sl' b' hu⟩
  ·cases hp
 | box t x=>
  simp only [stepPrim] at hp
  split at hp
  ·rename_i hz
   obtain ⟨t',h1,h2,h3,h4,h5,h6,h7⟩:=fresh_inv hp
   exact ⟨t',_,h1,h4,h5,h6,fun sl' b' ho hu=>by simp only [stepPrim,ho x (by simp [opsOf]),hz]; exact h7 sl' b' hu⟩
  ·cases hp
 | makeSlice t l cn=>
  simp only [stepPrim] at hp
  split at hp
  ·rename_i e hty
   split at hp
   ·rename_i hpl
    split at hp
    ·rename_i l' c' hl hc
     obtain ⟨t',h1,h2,h3,h4,h5,h6,h7⟩:=fresh_inv hp
     exact ⟨t',_,h1,h4,h5,h6,fun sl' b' ho hu=>by
      simp only [stepPrim,ho l (by simp [opsOf]),ho cn (by simp [opsOf]),hty,hpl,hl,hc]; exact h7 sl' b' hu⟩
    ·cases hp
   ·cases hp
  ·cases hp
 | buildSlice t n ps=>
  simp only [stepPrim] at hp
  split at hp
  ·rename_i e hty
   split at hp
   ·rename_i hz
    split at hp
    ·rename_i vs hf
     have go:∀ sl' b':_,AgreeO sl sl' (opsOf (.buildSlice t n ps))→stepPrim A sl' b' d (.buildSlice t n ps)=buildSliceV e sl' b' d n vs:=by
      intro sl' b' ho
      simp only [stepPrim,hty,hz]
      rw [AgreeO.opds (sl:=sl) (sl':=sl') (ps:=ps.toList) (by simpa [opsOf] using ho),hf]
     unfold buildSliceV at hp go
     split at hp
     ·rename_i hfl
      obtain ⟨t',h1,h2,h3,h4,h5,h6,h7⟩:=fresh_inv hp
      exact ⟨t',_,h1,h4,h5,h6,fun sl' b' ho hu=>by rw [go sl' b' ho]; simp only [hfl]; exact h7 sl' b' hu⟩
     ·rename_i hfl
      split at hp
      ·split at hp
       ·rename_i hpl
        obtain ⟨t',h1,h2,h3,h4,h5,h6,h7⟩:=fresh_inv hp
        exact ⟨t',_,h1,h4,h5,h6,fun sl' b' ho hu=>by rw [go sl' b' ho]; simp only [hfl,hpl]; exact h7 sl' b' hu⟩
       ·cases hp
      ·rename_i hn0
       obtain ⟨t',h1,h2,h3,h4,h5,h6,h7⟩:=fresh_inv hp
       exact ⟨t',_,h1,h4,h5,h6,fun sl' b' ho hu=>by
        rw [go sl' b' ho]
        simp only [hfl]
        cases n with
        | zero=>exact absurd rfl hn0
        | succ m=>exact h7 sl' b' hu⟩
    ·cases hp
   ·cases hp
  ·cases hp
 | call cl=>simp only [cls] at hcl; split at hcl <;> first | (cases hcl; done) | (rename_i h; split at h <;> cases h)
 | _=>simp [cls] at hcl
theorem fresh_loc (HT:TysOK P A.ty) (hcl:(match cls o.op with | .fresh=>true | _=>false)=true) (hp:stepPrim A sl b o.dst o.op=some (c,v,b1)) (hk:∀ x ∈ c,x.ok) {g:List Nat} :
  Loc P o sl b v b1 (cat g (tmpsOf (opsOf o.op))) (dstL o.dst) (dstL o.dst) (dstL o.dst):=by
 obtain ⟨t,x,e1,e2,e3,e4,e5⟩:=fresh_loc' hcl hp
 rw [e1]
 refine ⟨fun s hs=>?_,fun sl' b' h1 h2 h3=>?_⟩
 ·rw [e2,lookB_set,if_neg]
  intro h; subst h; exact hs (by simp [dstL])
 ·have ho:AgreeO sl sl' (opsOf o.op):=agreeO_of (fun t ht=>h1 t (by rw [cat_eq]; simp [ht]))
  obtain ⟨n1,n2⟩:=h3 t (by simp [dstL])
  have hu:unused sl' b' x t=true:=unused_mk (by rw [h2 t (by simp [dstL])]; exact e3) n1 n2 e4
  have:=e5 sl' b' ho hu
  refine ⟨_,prim_sem HT this hk,fun s hs=>?_,fun s hs=>?_⟩
  ·simp only [dstL,List.mem_singleton] at hs
   subst hs
   rw [e2,lookB_set,lookB_set]; simp
  ·rw [lookB_set,if_neg]
   intro h; subst h; exact hs (by simp [dstL])
theorem store_loc (HT:TysOK P A.ty) (hcl:(match cls o.op with | .store=>true | _=>false)=true) (hp:stepPrim A sl b o.dst o.op=some (c,v,b1)) (hk:∀ x ∈ c,x.ok) {g:List Nat} :
  Loc P o sl b v b1 (cat g (tmpsOf (opsOf o.op))) (storeSites ⟨sl,b⟩ o.op) (storeSites ⟨sl,b⟩ o.op) []:=by
 cases hop:o.op with
 | store t ad x=>
  rw [hop] at hp
  simp only [stepPrim] at hp
  split at hp
  ·cases hp
  ·rename_i hsz
   unfold storeV at hp
   split at hp
   ·rename_i s p had
    split at hp
    ·rename_i c0 hl
     split at hp
     ·rename_i cs y hg
      split at hp
      ·rename_i hf
       split at hp
       ·rename_i hsim
        simp only [oj,pj] at hp
        obtain ⟨rfl,rfl,rfl⟩:=hp
        have hss:storeSites ⟨sl,b⟩ (.store t ad x)=[s]:=by simp [storeSites,had,sites]
        rw [hss]
        refine ⟨fun s' hs=>?_,fun sl' b' h1 h2 h3=>?_⟩
        ·rw [lookB_set,if_neg]
         intro h; subst h; exact hs (by simp)
        ·have ho:AgreeO sl sl' (opsOf (.store t ad x)):=agreeO_of (fun t ht=>h1 t (by rw [cat_eq]; simp [ht]))
         have hl':lookB b' s=some c0:=by rw [h2 s (by simp),hl]
         have hstep:stepPrim A sl' b' o.dst o.op=some (cs,.void,setB b' s (c0.set p (opd sl x))):=by
          rw [hop]
          simp only [stepPrim,hsz,storeV,ho ad (by simp [opsOf]),ho x (by simp [opsOf]),had,hl',hg,hf,hsim]
         refine ⟨_,prim_sem HT hstep hk,fun s' hs=>?_,fun s' hs=>?_⟩
         ·simp only [List.mem_singleton] at hs
          subst hs
          rw [lookB_set,lookB_set]; simp
         ·rw [lookB_set,if_neg]
          intro h; subst h; exact hs (by simp)
       ·cases hp
      ·cases hp
     ·cases hp
    ·cases hp
   ·cases hp
 | call cl=>rw [hop] at hcl; simp only [cls] at hcl; split at hcl <;> first | (cases hcl; done) | (rename_i h; split at h <;> cases h)
 | _=>rw [hop] at hcl; simp [cls] at hcl
theorem source_loc {e:Ty} {x:V} {xs:List D} (hf:e.flat=true) (hs:stillS b x=true) (ha:AgreeB b b' (sites x)) (h:source e b x=some (c,xs,b1)):b1=b∧source e b' x=some (c,xs,b'):=by
 have other:∀ y:V,AgreeB b b' (sites y)→(∀ bb,source e bb y=(match elems bb y with | some (c,e',l)=>(match e.beq e' with | true=>some (c,l,bb) | false=>none) | none=>none))→source e b y=some (c,xs,b1) →
   b1=b∧source e b' y=some (c,xs,b'):=by
  intro y hy hu h
  rw [hu] at h ⊢
  rw [elems_agree hy]
  split at h
  ·split at h
   ·rename_i hb
    simp only [oj,pj] at h
    obtain ⟨rfl,rfl,rfl⟩:=h
    exact ⟨rfl,by simp only [hb]⟩
   ·cases h
  ·cases h
 cases x with
 | nilsl=>
  simp only [source,oj,pj] at h
  obtain ⟨rfl,rfl,rfl⟩:=h
  exact ⟨rfl,by simp only [source]⟩
 | emp e'=>
  simp only [source,oj,pj] at h
  obtain ⟨rfl,rfl,rfl⟩:=h
  exact ⟨rfl,by simp only [source]⟩
 | full s p e0=>
  simp only [source] at h ⊢
  rw [getAt_agree (ha s (by simp [sites]))]
  simp only [stillS] at hs
  cases hg:getAt b s p with
  | none=>rw [hg] at hs; cases hs
  | some q=>
   obtain ⟨c0,y⟩:=q
   rw [hg] at hs h
   cases y with
   | own e' l=>
    simp only at h ⊢
    split at h
    ·rename_i hb
     rw [hf] at h ⊢
     simp only [oj,pj] at h
     obtain ⟨rfl,rfl,rfl⟩:=h
     exact ⟨rfl,by simp only [hb]⟩
    ·cases h
   | _=>simp at hs
 | _=>exact other _ ha (fun bb=>by first | (simp only [source,hf]; done) | (simp only [source,hf]; rfl)) h
theorem sitesB_drop0 {t s:Nat} (h:s ∉ sitesB b):s ∉ sitesB (dropB b t):=by
 induction b with
 | nil=>exact h
 | cons a r ih=>
  obtain ⟨k,v⟩:=a
  simp only [sitesB,mem_cat,not_or] at h
  unfold dropB
  split
  ·exact ih h.2
  ·simp only [sitesB,mem_cat,not_or]
   exact ⟨h.1,ih h.2⟩
theorem sitess_setNth:∀ {vs:List V} {j:Nat} {x:V} {s:Nat},s ∈ sitess (setNth vs j x)→s ∈ sitess vs ∨ s ∈ sites x
 | [],j,x,s,h=>by simp [setNth,sitess] at h
 | v :: vs,0,x,s,h=>by
  simp only [setNth,sitess,mem_cat] at h ⊢
  rcases h with h | h
  ·exact .inr h
  ·exact .inl (.inr h)
 | v :: vs,j + 1,x,s,h=>by
  simp only [setNth,sitess,mem_cat] at h ⊢
  rcases h with h | h
  ·exact .inl (.inl h)
  ·rcases sitess_setNth h with h | h
   ·exact .inl (.inr h)
   ·exact .inr h
theorem sites_put {v:V} {j:Nat} {x:V} {s:Nat} (h:s ∈ sites (v.put j x)):s ∈ sites v ∨ s ∈ sites x:=by
 cases v <;> simp only [V.put,sites] at h ⊢ <;> first | exact sitess_setNth h | exact .inr h | exact .inl h | cases h
theorem sites_step {v y:V} {j:Nat} {c:List Cond} {s:Nat} (h:v.step j=some (c,y)) (hs:s ∈ sites y):s ∈ sites v:=by
 have part:∀ {vs:List V},(match nth vs j with | some v=>some (([]:List Cond),v) | none=>none)=some (c,y)→s ∈ sitess vs:=by
  intro vs h
  split at h
  ·rename_i hn
   simp only [oj,pj] at h
   obtain ⟨_,rfl⟩:=h
   exact sites_nth hn hs
  ·cases h
 have data:∀ {c':List Cond} {t:Ty} {d:D},some (c',dec true t d)=some (c,y)→s ∈ sites v:=by
  intro c' t d h
  simp only [oj,pj] at h
  obtain ⟨_,rfl⟩:=h
  rw [sites_dec] at hs
  cases hs
 cases v with
 | agg vs=>simp only [sites]; exact part h
 | lst e vs=>simp only [sites]; exact part h
 | fn f vs=>simp only [sites]; exact part h
 | own e l=>exact data h
 | arr n e l=>exact data h
 | obox x=>
  simp only [V.step,oj,pj] at h
  obtain ⟨_,rfl⟩:=h
  simp only [sites]
  exact hs
 | _=>simp only [V.step] at h; cases h
theorem sites_set:∀ {p:List Nat} {v x:V} {s:Nat},s ∈ sites (v.set p x)→s ∈ sites v ∨ s ∈ sites x
 | [],v,x,s,h=>.inr h
 | j :: p,v,x,s,h=>by
  unfold V.set at h
  split at h
  ·rename_i c y hst
   rcases sites_put h with h | h
   ·exact .inl h
   ·rcases sites_set h with h | h
    ·exact .inl (sites_step hst h)
    ·exact .inr h
  ·exact .inl h
theorem sitesB_app:∀ {b r:BL} {t:Nat},t ∈ sitesB (b ++ r)→t ∈ sitesB b ∨ t ∈ sitesB r
 | [],r,t,h=>.inr h
 | (k,v) :: b,r,t,h=>by
  simp only [List.cons_append,sitesB,mem_cat] at h ⊢
  rcases h with h | h
  ·exact .inl (.inl h)
  ·exact (sitesB_app h).elim (fun h=>.inl (.inr h)) .inr
theorem sitesB_setN {b:BL} {s t:Nat} {x:V} (h1:t ∉ sitesB b) (h2:t ∉ sites x):t ∉ sitesB (setB b s x):=by
 unfold setB
 rw [cat_eq]
 intro h
 rcases sitesB_app h with h | h
 ·exact sitesB_drop0 h1 h
 ·simp [sitesB,mem_cat] at h
  exact h2 h
theorem app_loc (HT:TysOK P A.ty) (hcl:(match cls o.op with | .app=>true | _=>false)=true) (hok:appOk A ⟨sl,b⟩ o.op=true) (hp:stepPrim A sl b o.dst o.op=some (c,v,b1)) (hk:∀ x ∈ c,x.ok) {g:List Nat} :
  Loc P o sl b v b1 (cat g (tmpsOf (opsOf o.op))) (appT ⟨sl,b⟩ o.dst o.op) (appW ⟨sl,b⟩ o.dst o.op) (appN o.dst o.op):=by
 cases hop:o.op with
 | call cl=>
  rw [hop] at hcl hok hp
  cases hcal:cl.callee with
  | builtin f=>
   cases f with
   | append=>
    have hops:opsOf (.call cl)=cl.args.toList:=by simp [opsOf,hcal]
    simp only [stepPrim,hcal] at hp
    simp only [appOk] at hok
    split at hok
    ·rename_i t ts hts
     split at hok
     ·rename_i e hty
      split at hok
      ·rename_i hflat0
       rw [band_true] at hflat0
       obtain ⟨hflat,hnit0⟩:=hflat0
       split at hok
       ·rename_i s x hargs
        rw [hcal] at hok
        simp only at hok
        rw [band_true] at hok
        obtain ⟨hroot,hstill⟩:=hok
        have hN:appN o.dst (.call cl)=dstL o.dst:=by simp only [appN,hcal]
        have hT:appT ⟨sl,b⟩ o.dst (.call cl)=cat (cat (sites s) (cat (sites x) [])) (dstL o.dst):=by simp only [appT,hops,hargs,sitess,hN]
        have hW:appW ⟨sl,b⟩ o.dst (.call cl)=cat (sites s) (dstL o.dst):=by simp only [appW,hargs,hN]
        rw [hT,hW,hN]
        rw [hargs,hts] at hp
        have run:∀ (sl':List V) (b':BL),AgreeO sl sl' (opsOf (.call cl))→stepPrim A sl' b' o.dst o.op=builtinV A sl' b' o.dst .append (t :: ts) [s,x]:=by
         intro sl' b' ho
         rw [hop]
         simp only [stepPrim,hcal]
         rw [AgreeO.map (by rw [hops] at ho; exact ho),hargs,hts]
        cases ts with
        | nil=>simp [builtinV] at hp
        | cons tx ts=>
         cases ts with
         | cons _ _=>simp [builtinV] at hp
         | nil=>
          have hnit:isIntT (A.ty tx)=false:=by
           cases hq:isIntT (A.ty tx) with
           | false=>rfl
           | true=>simp only [List.headD_cons,hq,bneg] at hnit0; cases hnit0
          simp only [builtinV,hty,hnit] at hp
          cases htx:isSliceT (A.ty tx) with
          | false=>rw [htx] at hp; simp [whenG] at hp
          | true=>
           rw [htx] at hp
           simp only [whenG,appendV] at hp
           have run2:∀ (sl':List V) (b':BL),AgreeO sl sl' (opsOf (.call cl))→stepPrim A sl' b' o.dst o.op=appendV e sl' b' o.dst s x:=by
            intro sl' b' ho
            rw [run sl' b' ho]
            simp only [builtinV,hty,hnit,htx,whenG]
           cases hpl:band e.plain (bneg (Nat.beq e.size 0)) with
           | false=>rw [hpl] at hp; simp at hp
           | true=>
            rw [hpl] at hp
            simp only at hp
            cases hsrc:source e b x with
            | none=>rw [hsrc] at hp; cases hp
            | some q=>
             obtain ⟨c0,xs,b0⟩:=q
             rw [hsrc] at hp
             simp only at hp
             have hb0:=(source_loc (b':=b) hflat hstill (fun _ _=>rfl) hsrc).1
             subst hb0
             have src:∀ b':BL,AgreeB b0 b' (cat (cat (sites s) (cat (sites x) [])) (dstL o.dst))→source e b' x=some (c0,xs,b'):=fun b' ha=>
              (source_loc (b':=b') hflat hstill (ha.sub (fun u hu=>by simp only [mem_cat]; exact .inl (.inr (.inl hu)))) hsrc).2
             have bare:∀ {cs:List Cond},(sites s=[])→withC cs (fresh sl b0 o.dst (.own e xs))=some (c,v,b1) →
               (∀ (sl':List V) (b':BL),source e b' x=some (c0,xs,b')→appendV e sl' b' o.dst s x=withC cs (fresh sl' b' o.dst (.own e xs))) →
               Loc P o sl b0 v b1 (cat g (tmpsOf (opsOf (.call cl)))) (cat (cat (sites s) (cat (sites x) [])) (dstL o.dst)) (cat (sites s) (dstL o.dst)) (dstL o.dst):=by
              intro cs hs0 hfr happ
              obtain ⟨d,h1,h2,h3,h4,h5,h6,h7⟩:=fresh_inv hfr
              subst h2 h3 h4
              rw [hs0,h1]
              refine ⟨fun s' hs'=>?_,fun sl' b' k1 k2 k3=>?_⟩
              ·rw [lookB_set,if_neg]
               intro he; subst he; exact hs' (by simp [cat,dstL])
              ·have ho:AgreeO sl sl' (opsOf (.call cl)):=agreeO_of (fun u hu=>k1 u (by rw [cat_eq]; simp [hu]))
               have k3':=k3 d (by simp [dstL])
               have hun:unused sl' b' (.own e xs) d=true:=unused_mk (by rw [k2 d (by simp only [mem_cat]; exact .inr (by simp [dstL]))]; exact h5) k3'.1 k3'.2 (by simp [sites])
               have hst:stepPrim A sl' b' o.dst o.op=some (c,alias d [] (.own e xs),setB b' d (.own e xs)):=by
                rw [run2 sl' b' ho,happ sl' b' (src b' (by rw [hs0,h1]; exact k2))]
                exact h7 sl' b' hun
               refine ⟨_,prim_sem HT hst hk,fun s' hs'=>?_,fun s' hs'=>?_⟩
               ·simp only [cat,dstL,List.mem_singleton] at hs'
                subst hs'
                rw [lookB_set,lookB_set]; simp
               ·rw [lookB_set,if_neg]
                intro he; subst he; exact hs' (by simp [cat,dstL])
             cases s with
             | nilsl=>exact bare (cs:=cat c0 [.sz 0 xs.length]) rfl hp (fun sl' b' hs'=>by simp only [appendV,hpl,whenG,hs'])
             | emp e'=>
              simp only at hp
              cases hee:e.beq e' with
              | false=>rw [hee] at hp; cases hp
              | true=>
               rw [hee] at hp
               exact bare (cs:=cat c0 [.sz 0 xs.length]) rfl hp (fun sl' b' hs'=>by simp only [appendV,hpl,whenG,hs',hee])
             | full u p e'=>
              cases p with
              | cons p0 ps=>
               simp only at hp
               cases hee:e.beq e' with
               | false=>rw [hee] at hp; cases hp
               | true=>
                rw [hee] at hp
                cases hu:lookB b0 u with
                | none=>simp [takeAt,hu] at hp
                | some cu=>
                 cases hg:cu.get (p0 :: ps) with
                 | none=>simp [takeAt,hu,hg] at hp
                 | some q=>
                  obtain ⟨cg,z⟩:=q
                  cases cg with
                  | cons _ _=>simp [takeAt,hu,hg] at hp
                  | nil=>
                   cases hbd:band (isOwn z) (cu.outer (p0 :: ps)) with
                   | false=>simp [takeAt,hu,hg,hbd] at hp
                   | true=>
                    simp only [takeAt,hu,hg,hbd] at hp
                    cases z with
                    | own e2 l=>
                     simp only at hp
                     cases he2:e.beq e2 with
                     | false=>rw [he2] at hp; simp [whenG] at hp
                     | true=>
                      rw [he2] at hp
                      simp only [whenG] at hp
                      obtain ⟨d,h1,h2,h3,h4,h5,h6,h7⟩:=fresh_inv hp
                      subst h2 h3 h4
                      rw [h1]
                      have hs0:sites (V.full u (p0 :: ps) e')=[u]:=rfl
                      rw [hs0]
                      refine ⟨fun s' hs'=>?_,fun sl' b' k1 k2 k3=>?_⟩
                      ·rw [lookB_set,lookB_set,if_neg,if_neg]
                       ·intro he; subst he; exact hs' (by simp [cat,dstL])
                       ·intro he; subst he; exact hs' (by simp [cat,dstL])
                      ·have ho:AgreeO sl sl' (opsOf (.call cl)):=agreeO_of (fun u hu=>k1 u (by rw [cat_eq]; simp [hu]))
                       have k3':=k3 d (by simp [dstL])
                       have hu':lookB b' u=some cu:=by rw [k2 u (by simp [cat]),hu]
                       have hd':lookB (setB b' u (cu.set (p0 :: ps) .undef)) d=none:=by
                        rw [lookB_set] at h5 ⊢
                        by_cases hdu:d=u
                        ·rw [if_pos hdu] at h5; cases h5
                        ·rw [if_neg hdu] at h5 ⊢
                         rw [k2 d (by simp only [mem_cat]; exact .inr (by simp [dstL]))]; exact h5
                       have hun:unused sl' (setB b' u (cu.set (p0 :: ps) .undef)) (.own e (l ++ xs)) d=true:=unused_mk hd' k3'.1 (sitesB_setN k3'.2 (fun h=>(sites_set h).elim (fun h=>k3'.2 (mem_sitesB hu' h)) (fun h=>by simp [sites] at h))) (by simp [sites])
                       have hst:stepPrim A sl' b' o.dst o.op=some (cat c0 [.sz l.length xs.length],alias d [] (.own e (l ++ xs)),setB (setB b' u (cu.set (p0 :: ps) .undef)) d (.own e (l ++ xs))):=by
                        rw [run2 sl' b' ho]
                        simp only [appendV,hpl,whenG,src b' (by rw [hs0,h1]; exact k2),hee,takeAt,hu',hg,hbd,he2]
                        exact h7 sl' _ hun
                       refine ⟨_,prim_sem HT hst hk,fun s' hs'=>?_,fun s' hs'=>?_⟩
                       ·simp only [cat,dstL,List.mem_cons,List.not_mem_nil,or_false] at hs'
                        rw [lookB_set,lookB_set,lookB_set,lookB_set]
                        rcases hs' with rfl | rfl
                        ·by_cases hdu:s'=d <;> simp [hdu]
                        ·simp
                       ·rw [lookB_set,lookB_set,if_neg,if_neg]
                        ·intro he; subst he; exact hs' (by simp [cat,dstL])
                        ·intro he; subst he; exact hs' (by simp [cat,dstL])
                    | _=>simp at hp
              | nil=>
               simp only at hp
               cases hee:e.beq e' with
               | false=>rw [hee] at hp; cases hp
               | true=>
                rw [hee] at hp
                cases hu:lookB b0 u with
                | none=>simp [takeAt,hu] at hp
                | some cu=>
                 simp only [takeAt,hu] at hp
                 cases cu with
                 | own e2 l=>
                  simp only at hp
                  cases he2:e.beq e2 with
                  | false=>rw [he2] at hp; simp [whenG] at hp
                  | true=>
                   rw [he2] at hp
                   simp only [whenG] at hp
                   obtain ⟨d,h1,h2,h3,h4,h5,h6,h7⟩:=fresh_inv hp
                   subst h2 h3 h4
                   rw [h1]
                   have hs0:sites (V.full u [] e')=[u]:=rfl
                   rw [hs0]
                   refine ⟨fun s' hs'=>?_,fun sl' b' k1 k2 k3=>?_⟩
                   ·rw [lookB_set,lookB_drop,if_neg,if_neg]
                    ·intro he; subst he; exact hs' (by simp [cat,dstL])
                    ·intro he; subst he; exact hs' (by simp [cat,dstL])
                   ·have ho:AgreeO sl sl' (opsOf (.call cl)):=agreeO_of (fun u hu=>k1 u (by rw [cat_eq]; simp [hu]))
                    have k3':=k3 d (by simp [dstL])
                    have hu':lookB b' u=some (.own e2 l):=by rw [k2 u (by simp [cat]),hu]
                    have hd':lookB (dropB b' u) d=none:=by
                     rw [lookB_drop]
                     rw [lookB_drop] at h5
                     by_cases hdu:d=u
                     ·rw [if_pos hdu]
                     ·rw [if_neg hdu] at h5 ⊢
                      rw [k2 d (by simp only [mem_cat]; exact .inr (by simp [dstL]))]; exact h5
                    have hun:unused sl' (dropB b' u) (.own e (l ++ xs)) d=true:=unused_mk hd' k3'.1 (sitesB_drop0 k3'.2) (by simp [sites])
                    have hst:stepPrim A sl' b' o.dst o.op=some (cat c0 [.sz l.length xs.length],alias d [] (.own e (l ++ xs)),setB (dropB b' u) d (.own e (l ++ xs))):=by
                     rw [run2 sl' b' ho]
                     simp only [appendV,hpl,whenG,src b' (by rw [hs0,h1]; exact k2),hee,takeAt,hu',he2]
                     exact h7 sl' _ hun
                    refine ⟨_,prim_sem HT hst hk,fun s' hs'=>?_,fun s' hs'=>?_⟩
                    ·simp only [cat,dstL,List.mem_cons,List.not_mem_nil,or_false] at hs'
                     rw [lookB_set,lookB_set,lookB_drop,lookB_drop]
                     rcases hs' with rfl | rfl
                     ·by_cases hdu:s'=d <;> simp [hdu]
                     ·simp
                    ·rw [lookB_set,lookB_drop,if_neg,if_neg]
                     ·intro he; subst he; exact hs' (by simp [cat,dstL])
                     ·intro he; subst he; exact hs' (by simp [cat,dstL])
                 | _=>simp at hp
             | sub u p off len e'=>
              simp only [hflat] at hp
              cases hee:e.beq e' with
              | false=>rw [hee] at hp; simp [band] at hp
              | true=>
               rw [hee] at hp
               simp only [band] at hp
               cases hu:lookB b0 u with
               | none=>simp [getAt,hu] at hp
               | some cu=>
                cases hg:cu.get p with
                | none=>simp [getAt,hu,hg] at hp
                | some q=>
                 obtain ⟨cg,z⟩:=q
                 cases z with
                 | own e2 l=>
                  simp only [getAt,setAt,hu,hg] at hp
                  cases he2:e.beq e2 with
                  | false=>rw [he2] at hp; simp [whenG] at hp
                  | true=>
                   rw [he2] at hp
                   simp only [whenG,oj,pj] at hp
                   obtain ⟨rfl,rfl,rfl⟩:=hp
                   have hs0:sites (V.sub u p off len e')=[u]:=rfl
                   rw [hs0]
                   refine ⟨fun s' hs'=>?_,fun sl' b' k1 k2 k3=>?_⟩
                   ·rw [lookB_set,if_neg]
                    intro he; subst he; exact hs' (by simp [cat])
                   ·have ho:AgreeO sl sl' (opsOf (.call cl)):=agreeO_of (fun u hu=>k1 u (by rw [cat_eq]; simp [hu]))
                    have hu':lookB b' u=some cu:=by rw [k2 u (by simp [cat]),hu]
                    have hst:stepPrim A sl' b' o.dst o.op=some (cat (cat c0 cg) [.le (off + len + xs.length) l.length],.sub u p off (len + xs.length) e,setB b' u (cu.set p (.own e (l.take (off + len) ++ xs ++ l.drop (off + len + xs.length))))):=by
                     rw [run2 sl' b' ho]
                     have hb2:band (e.beq e') e.flat=true:=by rw [hee,hflat]; rfl
                     simp only [appendV,hpl,whenG,src b' (by rw [hs0]; exact k2),hb2,getAt,setAt,hu',hg,he2]
                    refine ⟨_,prim_sem HT hst hk,fun s' hs'=>?_,fun s' hs'=>?_⟩
                    ·rw [lookB_set,lookB_set]
                     by_cases he:s'=u
                     ·simp [he]
                     ·simp only [he,if_false]
                      exact k2 s' (by simp only [mem_cat] at hs' ⊢; exact hs'.elim (fun h=>.inl (.inl h)) .inr)
                    ·rw [lookB_set,if_neg]
                     intro he; subst he; exact hs' (by simp [cat])
                 | _=>simp [getAt,hu,hg] at hp
             | _=>simp [rootS,isSub,bor] at hroot
       ·cases hok
      ·cases hok
     ·cases hok
    ·cases hok
   | copy=>
    have hops:opsOf (.call cl)=cl.args.toList:=by simp [opsOf,hcal]
    simp only [stepPrim,hcal] at hp
    simp only [appOk] at hok
    split at hok
    ·rename_i t ts hts
     split at hok
     ·rename_i e hty
      split at hok
      ·rename_i hflat0
       rw [band_true] at hflat0
       obtain ⟨hflat,_⟩:=hflat0
       split at hok
       ·rename_i s x hargs
        rw [hcal] at hok
        simp only at hok
        rw [band_true] at hok
        obtain ⟨hmine,hstill⟩:=hok
        have hN:appN o.dst (.call cl)=[]:=by simp only [appN,hcal]
        have hT:appT ⟨sl,b⟩ o.dst (.call cl)=cat (cat (sites s) (cat (sites x) [])) []:=by simp only [appT,hops,hargs,sitess,hN]
        have hW:appW ⟨sl,b⟩ o.dst (.call cl)=cat (sites s) []:=by simp only [appW,hargs,hN]
        rw [hT,hW,hN]
        rw [hargs,hts] at hp
        cases ts with
        | nil=>simp [builtinV] at hp
        | cons tx ts=>
         cases ts with
         | cons _ _=>simp [builtinV] at hp
         | nil=>
          simp only [builtinV,hty] at hp
          cases htx:isSliceT (A.ty tx) with
          | false=>rw [htx] at hp; simp [whenG] at hp
          | true=>
           rw [htx] at hp
           simp only [whenG,copyV] at hp
           have run2:∀ (sl':List V) (b':BL),AgreeO sl sl' (opsOf (.call cl))→stepPrim A sl' b' o.dst o.op=copyV e b' s x:=by
            intro sl' b' ho
            rw [hop]
            simp only [stepPrim,hcal]
            rw [AgreeO.map (by rw [hops] at ho; exact ho),hargs,hts]
            simp only [builtinV,hty,htx,whenG]
           cases hpl:band e.plain (bneg (Nat.beq e.size 0)) with
           | false=>rw [hpl] at hp; simp at hp
           | true=>
            rw [hpl] at hp
            simp only at hp
            cases hsrc:source e b x with
            | none=>rw [hsrc] at hp; cases hp
            | some q=>
             obtain ⟨c0,xs,b0⟩:=q
             rw [hsrc] at hp
             simp only [hflat] at hp
             have hb0:=(source_loc (b':=b) hflat hstill (fun _ _=>rfl) hsrc).1
             subst hb0
             have src:∀ b':BL,AgreeB b0 b' (cat (cat (sites s) (cat (sites x) [])) [])→source e b' x=some (c0,xs,b'):=fun b' ha=>
              (source_loc (b':=b') hflat hstill (ha.sub (fun u hu=>by simp only [mem_cat]; exact .inl (.inr (.inl hu)))) hsrc).2
             have fin:∀ {u:Nat} {p:List Nat} {cu y:V},sites s=[u]→lookB b0 u=some cu→b1=setB b0 u (cu.set p y) →
               (∀ (sl':List V) (b':BL),AgreeO sl sl' (opsOf (.call cl))→AgreeB b0 b' (cat (cat (sites s) (cat (sites x) [])) [])→lookB b' u=some cu→stepPrim A sl' b' o.dst o.op=some (c,v,setB b' u (cu.set p y))) →
               Loc P o sl b0 v b1 (cat g (tmpsOf (opsOf (.call cl)))) (cat (cat (sites s) (cat (sites x) [])) []) (cat (sites s) []) []:=by
              intro u p cu y hs hu hb1 hstep
              subst hb1
              rw [hs]
              refine ⟨fun s' hs'=>?_,fun sl' b' k1 k2 k3=>?_⟩
              ·rw [lookB_set,if_neg]
               intro he; subst he; exact hs' (by simp [cat])
              ·have ho:AgreeO sl sl' (opsOf (.call cl)):=agreeO_of (fun u hu=>k1 u (by rw [cat_eq]; simp [hu]))
               have hu':lookB b' u=some cu:=by rw [k2 u (by simp [cat]),hu]
               refine ⟨_,prim_sem HT (hstep sl' b' ho (by rw [hs]; exact k2) hu') hk,fun s' hs'=>?_,fun s' hs'=>?_⟩
               ·simp only [cat,List.mem_singleton] at hs'
                subst hs'
                rw [lookB_set,lookB_set]; simp
               ·rw [lookB_set,if_neg]
                intro he; subst he; exact hs' (by simp [cat])
             cases s with
             | full u p e'=>
              simp only at hp
              cases hee:e.beq e' with
              | false=>rw [hee] at hp; cases hp
              | true=>
               rw [hee] at hp
               simp only at hp
               cases hu:lookB b0 u with
               | none=>simp [getAt,hu] at hp
               | some cu=>
                cases hg:cu.get p with
                | none=>simp [getAt,hu,hg] at hp
                | some q=>
                 obtain ⟨cg,z⟩:=q
                 cases z with
                 | own e2 l=>
                  simp only [getAt,setAt,hu,hg] at hp
                  cases he2:e.beq e2 with
                  | false=>rw [he2] at hp; simp [whenG] at hp
                  | true=>
                   rw [he2] at hp
                   simp only [whenG,oj,pj] at hp
                   obtain ⟨rfl,rfl,rfl⟩:=hp
                   exact fin rfl hu rfl (fun sl' b' ho ha hu'=>by rw [run2 sl' b' ho]; simp only [copyV,hpl,whenG,src b' ha,hflat,hee,getAt,setAt,hu',hg,he2])
                 | _=>simp [getAt,hu,hg] at hp
             | sub u p off len e'=>
              simp only at hp
              cases hee:e.beq e' with
              | false=>rw [hee] at hp; cases hp
              | true=>
               rw [hee] at hp
               simp only at hp
               cases hu:lookB b0 u with
               | none=>simp [getAt,hu] at hp
               | some cu=>
                cases hg:cu.get p with
                | none=>simp [getAt,hu,hg] at hp
                | some q=>
                 obtain ⟨cg,z⟩:=q
                 cases z with
                 | own e2 l=>
                  simp only [getAt,setAt,hu,hg] at hp
                  cases he2:e.beq e2 with
                  | false=>rw [he2] at hp; simp [whenG] at hp
                  | true=>
                   rw [he2] at hp
                   simp only [whenG,oj,pj] at hp
                   obtain ⟨rfl,rfl,rfl⟩:=hp
                   exact fin rfl hu rfl (fun sl' b' ho ha hu'=>by rw [run2 sl' b' ho]; simp only [copyV,hpl,whenG,src b' ha,hflat,hee,getAt,setAt,hu',hg,he2])
                 | _=>simp [getAt,hu,hg] at hp
             | _=>simp [mineS] at hmine
       ·cases hok
      ·cases hok
     ·cases hok
    ·cases hok
   | _=>simp [cls,hcal] at hcl
  | _=>simp [cls,hcal] at hcl
 | _=>rw [hop] at hcl; simp [cls] at hcl
end
end Go.Rai
namespace Go.Rai
variable [Inhabited Kset]
def SubB (b b':BL):Prop:=∀ s c,lookB b s=some c→lookB b' s=some c
theorem getAt_sub {b b':BL} (h:SubB b b') {s:Nat} {p:List Nat} {r:List Cond × V} (hg:getAt b s p=some r):getAt b' s p=some r:=by
 unfold getAt at hg ⊢
 split at hg
 ·rename_i c hc
  rw [h s c hc]
  exact hg
 ·cases hg
theorem lend_sub {b b':BL} (h:SubB b b'):∀ (n:Nat),(∀ v r,lend b n v=some r→lend b' n v=some r)∧(∀ vs r,lends b n vs=some r→lends b' n vs=some r)
 | 0=>⟨fun v r hv=>by simp [lend] at hv,fun vs r hv=>by simp [lends] at hv⟩
 | n + 1=>by
  have ih:=lend_sub h n
  constructor
  ·intro v r hv
   cases v with
   | full s p e=>
    simp only [lend] at hv ⊢
    split at hv
    ·rename_i hg
     rw [getAt_sub h hg]
     exact hv
    ·rename_i c e' vs hg
     rw [getAt_sub h hg]
     simp only
     split at hv
     ·rename_i c' ws hl
      rw [ih.2 _ _ hl]
      exact hv
     ·cases hv
    ·cases hv
   | sub s p o l e=>
    simp only [lend] at hv ⊢
    split at hv
    ·rename_i hg
     rw [getAt_sub h hg]
     exact hv
    ·cases hv
   | ptr s p=>
    simp only [lend] at hv ⊢
    split at hv
    ·rename_i hg
     rw [getAt_sub h hg]
     simp only
     split at hv
     ·rename_i hl
      rw [ih.1 _ _ hl]
      exact hv
     ·cases hv
    ·cases hv
   | obox x=>
    simp only [lend] at hv ⊢
    split at hv
    ·rename_i hl
     rw [ih.1 _ _ hl]
     exact hv
    ·cases hv
   | agg vs=>
    simp only [lend] at hv ⊢
    split at hv
    ·rename_i hl
     rw [ih.2 _ _ hl]
     exact hv
    ·cases hv
   | fn f caps=>
    simp only [lend] at hv ⊢
    split at hv
    ·rename_i hl
     rw [ih.2 _ _ hl]
     exact hv
    ·cases hv
   | _=>simpa only [lend] using hv
  ·intro vs r hv
   cases vs with
   | nil=>simpa only [lends] using hv
   | cons v vs=>
    simp only [lends] at hv ⊢
    split at hv
    ·rename_i hl
     rw [ih.1 _ _ hl]
     simp only
     split at hv
     ·rename_i hl2
      rw [ih.2 _ _ hl2]
      exact hv
     ·cases hv
    ·cases hv
theorem prepLend_sub {A:Ann} {f:FuncId} {b b':BL} (h:SubB b b'):∀ {vs:List V} {i:Nat} {ts:List Ty} {r:List Cond × List V},prepLend A f b i ts vs=some r→prepLend A f b' i ts vs=some r
 | [],i,ts,r,hv=>by simpa only [prepLend] using hv
 | v :: vs,i,ts,r,hv=>by
  have go:∀ (x x':G V),(∀ q,x=some q→x'=some q)→(match x with
    | some (c,w)=>match prepLend A f b (i + 1) ts.tail vs with
     | some (c',ws)=>some ((cat c c'),w :: ws)
     | none=>none
    | none=>none)=some r→(match x' with
    | some (c,w)=>match prepLend A f b' (i + 1) ts.tail vs with
     | some (c',ws)=>some ((cat c c'),w :: ws)
     | none=>none
    | none=>none)=some r:=by
   intro x x' hx hq
   split at hq
   ·rename_i h1
    rw [hx _ rfl]
    simp only
    split at hq
    ·rename_i h2
     rw [prepLend_sub h h2]
     exact hq
    ·cases hq
   ·cases hq
  simp only [prepLend] at hv ⊢
  cases hm:A.mode f i with
  | lend=>simp only [hm] at hv ⊢; exact go _ _ (fun q hq=>(lend_sub h 9).1 _ _ hq) hv
  | io=>simp only [hm] at hv ⊢; exact go (some ([],v)) (some ([],v)) (fun q hq=>hq) hv
  | take=>simp only [hm] at hv ⊢; exact go (some ([],v)) (some ([],v)) (fun q hq=>hq) hv
  | keep=>simp only [hm] at hv ⊢; exact go _ _ (fun q hq=>hq) hv
theorem restr_sub {b:BL}:∀ {L:List Nat},SubB (restr b L) b
 | []=>fun s c h=>by simp [restr,lookB] at h
 | t :: L=>by
  intro s c h
  unfold restr at h
  split at h
  ·rename_i c0 hc
   simp only [lookB] at h
   split at h
   ·rename_i hb
    have:=Nat.eq_of_beq_eq_true hb
    subst this
    simp only [oj] at h
    subst h
    exact hc
   ·exact restr_sub s c h
  ·exact restr_sub s c h
theorem look_keys {b:BL} {s:Nat} {c:V} (h:lookB b s=some c):s ∈ keys b:=by
 induction b with
 | nil=>simp [lookB] at h
 | cons x r ih=>
  obtain ⟨k,u⟩:=x
  simp only [lookB] at h
  simp only [keys,List.mem_cons]
  split at h
  ·rename_i hb; exact .inl (Nat.eq_of_beq_eq_true hb).symm
  ·exact .inr (ih h)
theorem sub_of_agree {b bR b':BL} (h:SubB bR b) (ha:AgreeB b b' (keys bR)):SubB bR b':=fun s c hc=>by rw [ha s (look_keys hc)]; exact h s c hc
theorem sitesB_drop {b:BL} {s t:Nat} (h:t ∈ sitesB (dropB b s)):t ∈ sitesB b:=by
 induction b with
 | nil=>simpa [dropB] using h
 | cons x r ih=>
  obtain ⟨k,u⟩:=x
  unfold dropB at h
  simp only [sitesB,mem_cat]
  split at h
  ·exact .inr (ih h)
  ·simp only [sitesB,mem_cat] at h
   exact h.imp id ih
theorem sitesB_append {b b':BL} {t:Nat}:t ∈ sitesB (b ++ b') ↔ t ∈ sitesB b ∨ t ∈ sitesB b':=by
 induction b with
 | nil=>simp [sitesB]
 | cons x r ih=>
  obtain ⟨k,u⟩:=x
  simp only [List.cons_append,sitesB,mem_cat,ih,or_assoc]
theorem sitesB_set {b:BL} {s t:Nat} {x:V} (h:t ∈ sitesB (setB b s x)):t ∈ sitesB b ∨ t ∈ sites x:=by
 unfold setB at h
 rw [cat_eq,sitesB_append] at h
 rcases h with h | h
 ·exact .inl (sitesB_drop h)
 ·right
  simpa [sitesB,mem_cat] using h
theorem drop_none:∀ {b:BL} {s:Nat},lookB b s=none→dropB b s=b
 | [],s,_=>rfl
 | (k,u) :: r,s,h=>by
  simp only [lookB] at h
  unfold dropB
  split at h
  ·cases h
  ·rw [drop_none h]
theorem sitesB_set' {b:BL} {s t:Nat} {x:V} (h:t ∈ sites x):t ∈ sitesB (setB b s x):=by
 unfold setB
 rw [cat_eq,sitesB_append]
 right
 simpa [sitesB,mem_cat] using h
section
variable {P:Program} {A:Ann} {w w' w0:World} {F0:List Nat} {sl sl':List V} {a:Act} {b b' b1 bl:BL} {G:GT} {o:Oper} {v:V} {c:List Cond}
theorem place_loc {s:Nat} {x v:V} (h:place sl b s x=some (v,b1)) {bad:Nat→Prop} (h1:∀ t ∈ sitess sl',bad t ∨ t ∈ sitess sl) (h2:∀ t ∈ sitesB b',bad t ∨ t ∈ sitesB b) (h3:¬ bad s) (h4:lookB b' s=lookB b s) :
  ∃ b1',place sl' b' s x=some (v,b1')∧lookB b1' s=lookB b1 s∧(∀ t,t ≠ s→lookB b1' t=lookB b' t∧lookB b1 t=lookB b t)∧(∀ t ∈ sitesB b1',bad t ∨ t ∈ sitesB b1):=by
 unfold place at h ⊢
 split at h
 ·split at h
  ·rename_i hun
   simp only [oj,pj] at h
   obtain ⟨rfl,rfl⟩:=h
   have hx:=unused_x hun
   have hn:s ∉ sitess sl∧s ∉ sitesB b:=by
    unfold unused at hun
    split at hun
    ·have h1:bor (isIn (sitess sl) s) (bor (isIn (sitesB b) s) (isIn (sites x) s))=false:=by
      cases hb:bor (isIn (sitess sl) s) (bor (isIn (sitesB b) s) (isIn (sites x) s)) with
      | false=>rfl
      | true=>rw [hb] at hun; simp [bneg] at hun
     rw [bor_false,bor_false] at h1
     exact ⟨fun hm=>(by rw [isIn_mem.2 hm] at h1; cases h1.1),fun hm=>(by rw [isIn_mem.2 hm] at h1; cases h1.2.1)⟩
    ·cases hun
   have hu':unused sl' b' x s=true:=unused_mk (by rw [h4]; exact (unused_iff hun).1) (fun hm=>(h1 s hm).elim h3 hn.1) (fun hm=>(h2 s hm).elim h3 hn.2) hx
   rw [hu']
   refine ⟨_,rfl,by rw [lookB_set,lookB_set]; simp,fun t ht=>⟨by rw [lookB_set,if_neg ht],by rw [lookB_set,if_neg ht]⟩,fun t ht=>?_⟩
   rcases sitesB_set ht with ht | ht
   ·rcases h2 t ht with ht | ht
    ·exact .inl ht
    ·right
     unfold setB
     rw [drop_none (unused_iff hun).1,cat_eq,sitesB_append]
     exact .inl ht
   ·exact .inr (sitesB_set' ht)
  ·cases h
 ·simp only [oj,pj] at h
  obtain ⟨rfl,rfl⟩:=h
  exact ⟨b',rfl,h4,fun t ht=>⟨rfl,rfl⟩,h2⟩
theorem places_loc {s:Nat} {bad:Nat→Prop}:∀ {vs:List V} {j:Nat} {sl sl':List V} {b b' b1:BL} {xs:List V},places s sl b j vs=some (xs,b1)→(∀ t ∈ sitess sl',bad t ∨ t ∈ sitess sl)→(∀ t ∈ sitesB b',bad t ∨ t ∈ sitesB b) →
  (∀ t ∈ newSites s j vs,¬ bad t)→(∀ t ∈ newSites s j vs,lookB b' t=lookB b t) →
  ∃ b1',places s sl' b' j vs=some (xs,b1')∧(∀ t ∈ newSites s j vs,lookB b1' t=lookB b1 t)∧(∀ t,t ∉ newSites s j vs→lookB b1' t=lookB b' t∧lookB b1 t=lookB b t)
 | [],j,sl,sl',b,b',b1,xs,h,h1,h2,h3,h4=>by
  simp only [places,oj,pj] at h
  obtain ⟨rfl,rfl⟩:=h
  exact ⟨b',rfl,fun t ht=>(by cases ht),fun t _=>⟨rfl,rfl⟩⟩
 | v :: vs,j,sl,sl',b,b',b1,xs,h,h1,h2,h3,h4=>by
  simp only [places] at h
  split at h
  ·rename_i x b2 hp
   split at h
   ·rename_i ys b3 hq
    simp only [oj,pj] at h
    obtain ⟨rfl,rfl⟩:=h
    obtain ⟨b2',p1,p2,p3,p4⟩:=place_loc hp h1 h2 (h3 _ (by simp [newSites])) (h4 _ (by simp [newSites]))
    have agree:∀ t ∈ newSites s (j + 1) vs,lookB b2' t=lookB b2 t:=by
     intro t ht
     by_cases he:t=10000 + 16 * s + j
     ·subst he; exact p2
     ·rw [(p3 t he).1,(p3 t he).2]; exact h4 t (by simp [newSites,ht])
    obtain ⟨b3',q1,q2,q3⟩:=places_loc (sl:=x :: sl) (sl':=x :: sl') hq
     (fun t ht=>by
      simp only [sitess,mem_cat] at ht ⊢
      rcases ht with ht | ht
      ·exact .inr (.inl ht)
      ·exact (h1 t ht).imp id .inr) p4 (fun t ht=>h3 t (by simp [newSites,ht])) agree
    refine ⟨b3',by simp only [places,p1,q1],fun t ht=>?_,fun t ht=>?_⟩
    ·by_cases hm:t ∈ newSites s (j + 1) vs
     ·exact q2 t hm
     ·have he:t=10000 + 16 * s + j:=by simpa [newSites,hm] using ht
      rw [(q3 t hm).1,(q3 t hm).2,he]; exact p2
    ·simp only [newSites,List.mem_cons,not_or] at ht
     rw [(q3 t ht.2).1,(q3 t ht.2).2]
     exact p3 t ht.1
   ·cases h
  ·cases h
theorem placeRes_one {s:Nat} {x:V} (h:∀ vs,x ≠ .tup vs):placeRes sl b (some s) x=place sl b s x:=by
 cases x <;> first | exact absurd rfl (h _) | rfl
theorem resSites_one {s:Nat} {x:V} (h:∀ vs,x ≠ .tup vs):resSites (some s) x=[s]:=by
 cases x <;> first | exact absurd rfl (h _) | rfl
theorem placeRes_loc {d:Option Nat} {x v:V} (h:placeRes sl b d x=some (v,b1)) (h1:∀ t ∈ resSites d x,t ∉ sitess sl'∧t ∉ sitesB b') (h4:∀ t ∈ resSites d x,lookB b' t=lookB b t) :
  ∃ b1',placeRes sl' b' d x=some (v,b1')∧(∀ t ∈ resSites d x,lookB b1' t=lookB b1 t)∧(∀ t,t ∉ resSites d x→lookB b1' t=lookB b' t∧lookB b1 t=lookB b t):=by
 cases d with
 | none=>
  simp only [placeRes,oj,pj] at h
  obtain ⟨rfl,rfl⟩:=h
  exact ⟨b',rfl,fun t ht=>(by simp [resSites] at ht),fun t _=>⟨rfl,rfl⟩⟩
 | some s=>
  let bad:Nat→Prop:=fun t=>t ∈ sitess sl' ∨ t ∈ sitesB b'
  have one:(∀ vs,x ≠ .tup vs)→∃ b1',placeRes sl' b' (some s) x=some (v,b1')∧(∀ t ∈ resSites (some s) x,lookB b1' t=lookB b1 t)∧(∀ t,t ∉ resSites (some s) x→lookB b1' t=lookB b' t∧lookB b1 t=lookB b t):=by
   intro e0
   rw [placeRes_one e0] at h
   rw [resSites_one e0] at h1 h4 ⊢
   rw [placeRes_one e0]
   obtain ⟨b2',p1,p2,p3,p4⟩:=place_loc (sl':=sl') (b':=b') (bad:=bad) h (fun t ht=>.inl (.inl ht)) (fun t ht=>.inl (.inr ht)) (fun hb=>hb.elim (h1 s (by simp)).1 (h1 s (by simp)).2) (h4 s (by simp))
   exact ⟨b2',p1,fun t ht=>(by simp only [List.mem_singleton] at ht; subst ht; exact p2),fun t ht=>p3 t (by simpa using ht)⟩
  cases x with
  | tup vs=>
   simp only [placeRes] at h
   split at h
   ·rename_i xs b2 hp
    simp only [oj,pj] at h
    obtain ⟨rfl,rfl⟩:=h
    obtain ⟨b1',p1,p2,p3⟩:=places_loc (sl':=sl') (b':=b') (bad:=bad) hp (fun t ht=>.inl (.inl ht)) (fun t ht=>.inl (.inr ht)) (fun t ht hb=>hb.elim (h1 t ht).1 (h1 t ht).2) h4
    exact ⟨b1',by simp only [placeRes,p1],p2,p3⟩
   ·cases h
  | _=>exact one (by simp)
theorem place_frame {s:Nat} {x v:V} (h:place sl b s x=some (v,b1)):∀ t,t ≠ s→lookB b1 t=lookB b t:=by
 unfold place at h
 split at h
 ·split at h
  ·simp only [oj,pj] at h
   obtain ⟨rfl,rfl⟩:=h
   intro t ht
   rw [lookB_set,if_neg ht]
  ·cases h
 ·simp only [oj,pj] at h
  obtain ⟨rfl,rfl⟩:=h
  intro t _; rfl
theorem places_frame {s:Nat}:∀ {vs:List V} {j:Nat} {sl:List V} {b b1:BL} {xs:List V},places s sl b j vs=some (xs,b1)→∀ t,t ∉ newSites s j vs→lookB b1 t=lookB b t
 | [],j,sl,b,b1,xs,h=>by
  simp only [places,oj,pj] at h
  obtain ⟨rfl,rfl⟩:=h
  intro t _; rfl
 | v :: vs,j,sl,b,b1,xs,h=>by
  simp only [places] at h
  split at h
  ·rename_i x b2 hp
   split at h
   ·rename_i ys b3 hq
    simp only [oj,pj] at h
    obtain ⟨rfl,rfl⟩:=h
    intro t ht
    simp only [newSites,List.mem_cons,not_or] at ht
    rw [places_frame hq t ht.2,place_frame hp t ht.1]
   ·cases h
  ·cases h
theorem placeRes_frame {s:Nat} {x v:V} (h:placeRes sl b (some s) x=some (v,b1)):∀ t,t ∉ resSites (some s) x→lookB b1 t=lookB b t:=by
 cases x with
 | tup vs=>
  simp only [placeRes] at h
  split at h
  ·rename_i xs b2 hp
   simp only [oj,pj] at h
   obtain ⟨rfl,rfl⟩:=h
   exact places_frame hp
  ·cases h
 | _=>
  intro t ht
  rw [placeRes_one (by simp)] at h
  exact place_frame h t (by simpa [resSites] using ht)
theorem call_sem {io:Nat→Bool} {cl:Call} {fo:Operand} {g:FuncId} {caps:List V} (ho:o.op=.call cl) (hcal:cl.callee=.value fo) (hf:opd sl fo=.fn g caps)
  {ts:List Ty} (hio:anyIo A g 0 (cat (mapOpd sl cl.args.toList) caps)=false) (hnt:noTups (mapOpd sl cl.args.toList)=true) (hna:noAggs caps=true) {ws:List V} {res:V} {outs:List V}
  (hp:prepLend A g b 0 ts (cat (mapOpd sl cl.args.toList) caps)=some (c,ws)) (hk:∀ x ∈ c,x.ok) (hco:CallsOK P (fun i=>isIo (A.mode g i)) g ws res outs) (how:resOwn res=true) (hpl:placeRes sl b o.dst res=some (v,b1)) :
  Semo P o sl b v b1:=by
 intro Pn w0 F0 a w hdst hr K Q hK
 let κ:St→Option St:=fun σ=>some σ
 let oc:OC St:=fun f args k=>bif Nat.beq f g then (match k res outs with | some r=>some r | none=>none) else none
 obtain ⟨⟨G,hc,hs⟩,hl,hd,hpin⟩:=hr
 obtain ⟨k1,k3⟩:=hco
 obtain ⟨fn,j1,j2,j3⟩:=k1
 have hfv:=opd_val hs fo
 rw [hf] at hfv
 have hfv':=(val_one rfl (by simp) (by simp)).1 hfv
 unfold InV at hfv'
 obtain ⟨vals,hfe,hcaps,_⟩:=hfv'
 simp only [List.cons.injEq,and_true] at hfe
 rw [cat_eq] at hp hio
 have hargs:Args (envOf w b G []) (fun j=>movesIn (A.mode g j)) 0 (mapOpd sl cl.args.toList ++ caps) (cl.args.toList.map a.eval ++ vals.toList) []:=by
  have:=Args_append (opds_args (io:=fun j=>movesIn (A.mode g j)) (i:=0) hs hnt) (caps_args (i:=0 + (mapOpd sl cl.args.toList).length) hna hcaps)
  simpa using this
 have htup:=(lent_ok (Y:=[]) hc.ok (fun _ h=>h) hargs hp hk).1
 have hcalls:=k3 (fun _=>True) w (cl.args.toList.map a.eval ++ vals.toList) [] htup (by simp) (by simp)
 have hrun:(execOp a.eval o).run P w=.ok (.enter g (cl.args.toList.map a.eval ++ vals.toList).toArray) w:=by
  have hcf:=callFunc_run (P:=P) (w:=w) (args:=(cl.args.toList.map a.eval ++ vals.toList).toArray) j1 j2 j3
  have he:(cl.args.toList.map a.eval ++ vals.toList).toArray=cl.args.map a.eval ++ vals:=by apply Array.ext'; simp
  rw [he] at hcf ⊢
  simp [execOp,ho,resolve,hcal,hfe,Deferred.ofValue,invoke,hcf]
 unfold Oper.wp
 rw [hrun,Oper.upon_enter]
 refine Calls.mono hcalls ?_
 rintro e w2 ⟨v2,Fr,Fo,rfl,q1,q2,q3,q4,q5,q6,q7,q8,q9⟩
 have hFo:Fo=[]:=outs_nil hio (Args_len hargs) q2
 subst hFo
 simp only [List.append_nil] at q1 q3 q4
 obtain ⟨t1,t2⟩:=hc.x.world (w':=w2) (X':=Fr) q6 (fun b hb _=>q5 b hb (by simp)) q3 (fun b hb=>⟨(q4 b hb).1,(q4 b hb).2.elim (fun h=>by cases h) .inr⟩) q7 q8 q9
 obtain ⟨G',s1,s2,s3⟩:=placeRes_ok (E:=calleeEnv (fun _=>True) w2 Fr) t1 (hs.go0 t2) rfl q1 how hpl
 exact hK _ _ (Rel.put s1 s2 hl hd hpin hdst s3)
theorem call_loc {cl:Call} {fo:Operand} {g:FuncId} {caps:List V} (ho:o.op=.call cl) (hcal:cl.callee=.value fo) (hf:opd sl fo=.fn g caps)
  {ts:List Ty} (hio:anyIo A g 0 (cat (mapOpd sl cl.args.toList) caps)=false) (hnt:noTups (mapOpd sl cl.args.toList)=true) (hna:noAggs caps=true) {ws:List V} {res:V} {outs:List V} {bR:BL} (hR:SubB bR b)
  (hp:prepLend A g bR 0 ts (cat (mapOpd sl cl.args.toList) caps)=some (c,ws)) (hk:∀ x ∈ c,x.ok) (hco:CallsOK P (fun i=>isIo (A.mode g i)) g ws res outs) (how:resOwn res=true) (hpl:placeRes sl b o.dst res=some (v,b1)) {gs:List Nat} :
  Loc P o sl b v b1 (cat gs (tmpsOf (opsOf o.op))) (cat (keys bR) (resSites o.dst res)) (resSites o.dst res) (resSites o.dst res):=by
 have hops:opsOf o.op=fo :: cl.args.toList:=by rw [ho]; simp [opsOf,hcal]
 have base:∀ t,t ∉ resSites o.dst res→lookB b1 t=lookB b t:=by
  cases hd:o.dst with
  | none=>
   rw [hd] at hpl
   simp only [placeRes,oj,pj] at hpl
   intro t _; rw [hpl.2]
  | some s=>
   intro t ht
   rw [hd] at hpl
   exact placeRes_frame hpl t ht
 refine ⟨base,fun sl' b' h1 h2 h3=>?_⟩
 have hag:AgreeO sl sl' (opsOf o.op):=agreeO_of (fun t ht=>h1 t (by rw [cat_eq]; simp [ht]))
 rw [hops] at hag
 have e1:opd sl' fo=.fn g caps:=by rw [hag fo (by simp),hf]
 have e2:mapOpd sl' cl.args.toList=mapOpd sl cl.args.toList:=AgreeO.map (fun x hx=>hag x (by simp [hx]))
 have e3:prepLend A g b' 0 ts (cat (mapOpd sl' cl.args.toList) caps)=some (c,ws):=by
  rw [e2]
  exact prepLend_sub (sub_of_agree hR (h2.sub (fun s hs=>by rw [cat_eq]; simp [hs]))) hp
 obtain ⟨b1',p1,p2,p3⟩:=placeRes_loc (sl':=sl') (b':=b') hpl h3 (fun t ht=>h2 t (by rw [cat_eq]; simp [ht]))
 exact ⟨b1',call_sem (io:=fun _=>false) ho hcal e1 (by rw [e2]; exact hio) (by rw [e2]; exact hnt) hna e3 hk hco how p1,p2,fun s hs=>(p3 s hs).1⟩
end
end Go.Rai
namespace Go.Rai
variable [Inhabited Kset]
theorem apart_not {l m:List Nat} (h:apartL l m=true):∀ s ∈ l,s ∉ m:=by
 induction l with
 | nil=>intro s hs; cases hs
 | cons a l ih=>
  unfold apartL at h
  rw [band_true] at h
  intro s hs
  rcases List.mem_cons.1 hs with rfl | hs
  ·intro hm
   rw [isIn_mem.2 hm] at h
   simp [bneg] at h
  ·exact ih h.2 s hs
theorem bneg_t {b:Bool} (h:bneg b=true):b=false:=by cases b <;> simp [bneg] at h ⊢
theorem not_isIn {l:List Nat} {s:Nat} (h:isIn l s=false):s ∉ l:=fun hm=>by rw [isIn_mem.2 hm] at h; cases h
mutual
theorem own_sites:∀ (v:V),allOwn v=true→sites v=[]
 | .int _ _,_=>rfl
 | .bool _,_=>rfl
 | .str _,_=>rfl
 | .own _ _,_=>rfl
 | .arr _ _ _,_=>rfl
 | .agg vs,h=>by unfold allOwn at h; unfold sites; exact own_sitess vs h
 | .obox v,h=>by unfold allOwn at h; unfold sites; exact own_sites v h
 | .tup vs,h=>by unfold allOwn at h; unfold sites; exact own_sitess vs h
 | .undef,ho=>by simp [allOwn] at ho
 | .void,ho=>by simp [allOwn] at ho
 | .rd _ _,ho=>by simp [allOwn] at ho
 | .lst _ _,ho=>by simp [allOwn] at ho
 | .nilsl,ho=>by simp [allOwn] at ho
 | .emp _,ho=>by simp [allOwn] at ho
 | .rp _,ho=>by simp [allOwn] at ho
 | .full _ _ _,ho=>by simp [allOwn] at ho
 | .sub _ _ _ _ _,ho=>by simp [allOwn] at ho
 | .ptr _ _,ho=>by simp [allOwn] at ho
 | .fn _ _,ho=>by simp [allOwn] at ho
 | .nilfn,ho=>by simp [allOwn] at ho
 | .nilptr,_=>rfl
theorem own_sitess:∀ (vs:List V),allOwns vs=true→sitess vs=[]
 | [],_=>rfl
 | v :: vs,h=>by
  unfold allOwns at h; rw [band_true] at h
  unfold sitess; rw [own_sites v h.1,own_sitess vs h.2]; rfl
end
section
variable {P:Program} {A:Ann} {w w' w0:World} {F0:List Nat} {sl:List V} {a:Act} {bl b b' b1:BL} {G:GT} {o:Oper} {X:List Nat} {v:V} {c:List Cond}
structure Back (E0 E':Env) (Lf Lp:List Nat) (s:Nat):Prop where
 on:s ∈ Lf ∨ s ∈ Lp
 f:s ∈ Lf→∀ e cs,InV E0 (.full s [] e) cs []→InV E' (.full s [] e) cs []
 p:s ∈ Lp→∀ cs,InV E0 (.ptr s [0]) cs []→InV E' (.ptr s [0]) cs []
mutual
theorem ioV_back {E0 E E':Env} {s:Nat} {Lf Lp:List Nat} (hE:Goes E E' (fun t=>t=s)) (hb:Back E0 E' Lf Lp s):∀ (v:V) {cs:List Value},ioV Lf Lp v=true→InV E0 v cs []→InV E v cs []→InV E' v cs []
 | .full t p e,cs,hv,h0,h1=>by
  by_cases hts:t=s
  ·subst hts
   unfold ioV at hv
   rw [band_true] at hv
   have hLp:=not_isIn (bneg_t hv.1)
   have hLf:=hb.on.resolve_right hLp
   have h2:=hv.2
   rw [isIn_mem.2 hLf] at h2
   match p,h0,h1,h2 with
   | [],h0,h1,_=>exact hb.f hLf e cs h0
  ·exact hE.inV (by intro t' ht' e; simp [sites] at ht'; exact hts (ht' ▸ e)) (fun _ hb=>by cases hb) h1
 | .ptr t p,cs,hv,h0,h1=>by
  by_cases hts:t=s
  ·subst hts
   unfold ioV at hv
   rw [band_true] at hv
   have hLf:=not_isIn (bneg_t hv.1)
   have hLp:=hb.on.resolve_left hLf
   have h2:=hv.2
   rw [isIn_mem.2 hLp] at h2
   match p,h0,h1,h2 with
   | [0],h0,h1,_=>exact hb.p hLp cs h0
   | [],_,_,h2=>simp at h2
   | (n + 1) :: q,_,_,h2=>simp at h2
   | 0 :: m :: q,_,_,h2=>simp at h2
  ·exact hE.inV (by intro t' ht' e; simp [sites] at ht'; exact hts (ht' ▸ e)) (fun _ hb=>by cases hb) h1
 | .agg vs,cs,hv,h0,h1=>by
  unfold ioV at hv
  unfold InV at h0 h1 ⊢
  exact ioVs_back hE hb vs hv h0 h1
 | .fn f vs,cs,hv,h0,h1=>by
  unfold ioV at hv
  unfold InV at h0 h1 ⊢
  obtain ⟨vals,rfl,i1,i2⟩:=h1
  obtain ⟨vals',e1,j1,_⟩:=h0
  simp only [List.cons.injEq,Value.func.injEq,true_and,and_true] at e1
  subst e1
  exact ⟨vals,rfl,ioVs_back hE hb vs hv j1 i1,i2⟩
 | .tup vs,cs,hv,h0,h1=>by unfold InV at h0; exact h0.elim
 | .sub t p o l e,cs,hv,h0,h1=>by
  simp only [ioV,band_true] at hv
  exact hE.inV (fun t ht e=>by subst e; exact hb.on.elim (apart_not hv.1 _ ht) (apart_not hv.2 _ ht)) (fun _ hb=>by cases hb) h1
 | .lst e vs,cs,hv,h0,h1=>by
  simp only [ioV,band_true] at hv
  exact hE.inV (fun t ht e=>by subst e; exact hb.on.elim (apart_not hv.1 _ ht) (apart_not hv.2 _ ht)) (fun _ hb=>by cases hb) h1
 | .obox x,cs,hv,h0,h1=>by
  simp only [ioV,band_true] at hv
  exact hE.inV (fun t ht e=>by subst e; exact hb.on.elim (apart_not hv.1 _ ht) (apart_not hv.2 _ ht)) (fun _ hb=>by cases hb) h1
 | .rp x,cs,hv,h0,h1=>by
  simp only [ioV,band_true] at hv
  exact hE.inV (fun t ht e=>by subst e; exact hb.on.elim (apart_not hv.1 _ ht) (apart_not hv.2 _ ht)) (fun _ hb=>by cases hb) h1
 | .int _ _,cs,hv,h0,h1=>hE.inV (fun t ht=>by cases ht) (fun _ hb=>by cases hb) h1
 | .bool _,cs,hv,h0,h1=>hE.inV (fun t ht=>by cases ht) (fun _ hb=>by cases hb) h1
 | .str _,cs,hv,h0,h1=>hE.inV (fun t ht=>by cases ht) (fun _ hb=>by cases hb) h1
 | .own _ _,cs,hv,h0,h1=>hE.inV (fun t ht=>by cases ht) (fun _ hb=>by cases hb) h1
 | .rd _ _,cs,hv,h0,h1=>hE.inV (fun t ht=>by cases ht) (fun _ hb=>by cases hb) h1
 | .arr _ _ _,cs,hv,h0,h1=>hE.inV (fun t ht=>by cases ht) (fun _ hb=>by cases hb) h1
 | .undef,cs,hv,h0,h1=>hE.inV (fun t ht=>by cases ht) (fun _ hb=>by cases hb) h1
 | .void,cs,hv,h0,h1=>hE.inV (fun t ht=>by cases ht) (fun _ hb=>by cases hb) h1
 | .nilsl,cs,hv,h0,h1=>hE.inV (fun t ht=>by cases ht) (fun _ hb=>by cases hb) h1
 | .emp _,cs,hv,h0,h1=>hE.inV (fun t ht=>by cases ht) (fun _ hb=>by cases hb) h1
 | .nilfn,cs,hv,h0,h1=>hE.inV (fun t ht=>by cases ht) (fun _ hb=>by cases hb) h1
 | .nilptr,cs,hv,h0,h1=>hE.inV (fun t ht=>by cases ht) (fun _ hb=>by cases hb) h1
theorem ioVs_back {E0 E E':Env} {s:Nat} {Lf Lp:List Nat} (hE:Goes E E' (fun t=>t=s)) (hb:Back E0 E' Lf Lp s):∀ (vs:List V) {cs:List Value},ioVs Lf Lp vs=true→InVs E0 vs cs []→InVs E vs cs []→InVs E' vs cs []
 | [],cs,hv,h0,h1=>by unfold InVs at h1 ⊢; exact h1
 | v :: vs,cs,hv,h0,h1=>by
  unfold ioVs at hv
  rw [band_true] at hv
  unfold InVs at h0 h1 ⊢
  obtain ⟨c1,c2,F1,F2,e1,e2,i1,i2⟩:=h0
  obtain ⟨d1,d2,G1,G2,k1,k2,j1,j2⟩:=h1
  obtain ⟨rfl,rfl⟩:=List.append_eq_nil_iff.1 e2.symm
  obtain ⟨rfl,rfl⟩:=List.append_eq_nil_iff.1 k2.symm
  subst k1
  obtain ⟨rfl,rfl⟩:=List.append_inj e1 (by rw [InV_len v i1,InV_len v j1])
  exact ⟨d1,d2,[],[],rfl,rfl,ioV_back hE hb v hv.1 i1 j1,ioVs_back hE hb vs hv.2 i2 j2⟩
end
theorem asVal_det {x:V} {cs cs':List Value} {u:Value} (h:asVal x cs u) (h':asVal x cs' u):cs=cs':=by
 unfold asVal at h h'
 cases hx:isA x with
 | true=>
  rw [hx] at h h'
  simp only at h h'
  rw [h] at h'
  simpa using h'
 | false=>
  rw [hx] at h h'
  simp only at h h'
  rw [h,h']
theorem one_back {E0 E E':Env} {s:Nat} {Lf Lp:List Nat} (hE:Goes E E' (fun t=>t=s)) (hb:Back E0 E' Lf Lp s) {x:V} {u:Value} (hv:ioV Lf Lp x=true) (h0:One E0 x u []) (h1:One E x u []):One E' x u []:=by
 obtain ⟨cs,i1,i2⟩:=h0
 obtain ⟨cs',j1,j2⟩:=h1
 have:=asVal_det i2 j2
 subst this
 exact ⟨cs,ioV_back hE hb x hv i1 j1,j2⟩
theorem tup_back {E0 E E':Env} {s:Nat} {Lf Lp:List Nat} (hE:Goes E E' (fun t=>t=s)) (hb:Back E0 E' Lf Lp s):∀ {xs:List V} {us:List Value},ioVs Lf Lp xs=true→Tup E0 xs us []→Tup E xs us []→Tup E' xs us []
 | [],us,hv,h0,h1=>h1
 | x :: xs,us,hv,⟨u,r,F1,F2,e1,e2,i1,i2⟩,⟨u',r',G1,G2,k1,k2,j1,j2⟩=>by
  unfold ioVs at hv
  rw [band_true] at hv
  obtain ⟨rfl,rfl⟩:=List.append_eq_nil_iff.1 e2.symm
  obtain ⟨rfl,rfl⟩:=List.append_eq_nil_iff.1 k2.symm
  subst e1
  simp only [List.cons.injEq] at k1
  obtain ⟨rfl,rfl⟩:=k1
  exact ⟨u,r,[],[],rfl,rfl,one_back hE hb hv.1 i1 j1,tup_back hE hb hv.2 i2 j2⟩
theorem val_back {E0 E E':Env} {s:Nat} {Lf Lp:List Nat} (hE:Goes E E' (fun t=>t=s)) (hb:Back E0 E' Lf Lp s) {x:V} {u:Value} (hv:ioV Lf Lp x=true) (h0:Val E0 x u []) (h1:Val E x u []):Val E' x u []:=by
 cases x with
 | tup xs=>
  obtain ⟨us,rfl,i1⟩:=h0
  obtain ⟨us',e1,j1⟩:=h1
  simp only [Value.tuple.injEq] at e1
  subst e1
  unfold ioV at hv
  exact ⟨us,rfl,tup_back hE hb hv i1 j1⟩
 | undef=>exact h1
 | _=>exact one_back hE hb hv h0 h1
theorem ioVs_slot {Lf Lp:List Nat}:∀ {sl:List V} {t:Nat},ioVs Lf Lp sl=true→ioV Lf Lp (slotL sl t)=true
 | [],t,h=>by cases t <;> rfl
 | v :: sl,t,h=>by
  unfold ioVs at h
  rw [band_true] at h
  cases t with
  | zero=>exact h.1
  | succ t=>exact ioVs_slot (sl:=sl) (t:=t) h.2
theorem slots_back {E0 E E':Env} {s:Nat} {Lf Lp:List Nat} (hE:Goes E E' (fun t=>t=s)) (hb:Back E0 E' Lf Lp s) (hv:ioVs Lf Lp sl=true) (h0:Slots E0 sl a) (h1:Slots E sl a):Slots E' sl a:=
 fun t=>val_back hE hb (ioVs_slot hv) (h0 t) (h1 t)
theorem ioF_root {f:FuncId}:∀ {vs:List V} {i:Nat},ioRoots A f b i vs=true→∀ s ∈ ioF A f i vs,∃ x,lookB b s=some x∧ownish x=true
 | [],i,_,s,hs=>by simp [ioF] at hs
 | v :: vs,i,h,s,hs=>by
  unfold ioRoots at h
  unfold ioF at hs
  split at h
  ·rename_i hm
   rw [hm] at hs
   rw [band_true] at h
   simp only at hs
   split at hs
   ·rename_i s' p e
    rcases List.mem_cons.1 hs with rfl | hs
    ·have h1:=h.1
     simp only [ioRoot] at h1
     split at h1
     ·split at h1
      ·rename_i hl; exact ⟨_,hl,rfl⟩
      ·rename_i hl; exact ⟨_,hl,rfl⟩
      ·simp at h1
     ·simp at h1
    ·exact ioF_root h.2 s hs
   ·exact ioF_root h.2 s hs
  ·rename_i hm
   have:s ∈ ioF A f (i + 1) vs:=by
    split at hs
    ·rename_i hm'; exact absurd hm' hm
    ·exact hs
   exact ioF_root h s this
theorem ioP_root {f:FuncId}:∀ {vs:List V} {i:Nat},ioRoots A f b i vs=true→∀ s ∈ ioP A f i vs,∃ x,lookB b s=some (.obox x)
 | [],i,_,s,hs=>by simp [ioP] at hs
 | v :: vs,i,h,s,hs=>by
  unfold ioRoots at h
  unfold ioP at hs
  split at h
  ·rename_i hm
   rw [hm] at hs
   rw [band_true] at h
   simp only at hs
   split at hs
   ·rename_i s' p
    rcases List.mem_cons.1 hs with rfl | hs
    ·have h1:=h.1
     simp only [ioRoot] at h1
     split at h1
     ·split at h1
      ·rename_i hl; exact ⟨_,hl⟩
      ·simp at h1
     ·simp at h1
    ·exact ioP_root h.2 s hs
   ·exact ioP_root h.2 s hs
  ·rename_i hm
   have:s ∈ ioP A f (i + 1) vs:=by
    split at hs
    ·rename_i hm'; exact absurd hm' hm
    ·exact hs
   exact ioP_root h s this
theorem free_iff {s:Nat} (h:bor (isIn (sitesB b) s) (match lookB b s with | some _=>true | none=>false)=false):lookB b s=none∧∀ t c,lookB b t=some c→s ∉ sites c:=by
 rw [bor_false] at h
 refine ⟨?_,fun t c hc hm=>not_isIn h.1 (mem_sitesB hc hm)⟩
 cases hl:lookB b s with
 | none=>rfl
 | some c=>rw [hl] at h; simp at h
def Roots (E:Env):Prop:=∀ s c,lookB E.bl s=some c→∃ rc F F',E.G s=some (rc,F)∧InV E c rc F'
theorem reput_ok {E0:Env} (h0:Slots E0 sl a) (hr0:Roots E0) {Lf Lp:List Nat} (hf0:∀ s ∈ Lf,∃ x,lookB E0.bl s=some x∧ownish x=true) (hp0:∀ s ∈ Lp,∃ x,lookB E0.bl s=some (.obox x)) (hsl:ioVs Lf Lp sl=true)
  {F:List Nat} {v x:V} {u:Value} (hc:CoreX w bl G (F ++ X) w0 F0) (hs:Slots (envOf w bl G (F ++ X)) sl a) (hx:One (envOf w bl G (F ++ X)) x u F) (hv:One E0 v u []) (ho:allKept x=true)
  (hfull:∀ s p e,v=.full s p e→s ∈ Lf) (hptr:∀ s p,v=.ptr s p→s ∈ Lp) (h:reput bl v x=some b') :
  ∃ G',CoreX w b' G' X w0 F0∧Slots (envOf w b' G' X) sl a∧Le (envOf w bl G (F ++ X)) (envOf w b' G' X):=by
 unfold reput at h
 split at h
 ·rename_i s p e
  split at h
  ·split at h
   ·rename_i e' l
    split at h
    ·rename_i hfree
     simp only [oj] at h
     subst h
     obtain ⟨f1,f2⟩:=free_iff hfree
     obtain ⟨cs,i1,i2⟩:=hx
     obtain ⟨cs0,j1,j2⟩:=hv
     unfold asVal at i2 j2
     simp only [isA] at i2 j2
     subst i2; subst j2
     have hin:InV (envOf w bl G (F ++ X)) (.own e' l) [u] F:=i1
     obtain ⟨g1,g2⟩:=hc.add f1 f2 hin (by simp [sites])
     have hLf:s ∈ Lf:=hfull _ _ _ rfl
     obtain ⟨x0,k1,k2⟩:=hf0 s hLf
     obtain ⟨rc0,Fr0,_,k3,_⟩:=hr0 s x0 k1
     refine ⟨_,g1,slots_back g2 ⟨.inl hLf,?_,?_⟩ hsl h0 hs,g2.le⟩
     ·intro _ e2 cs hcs
      unfold InV at hcs j1 ⊢
      obtain ⟨_,⟨A1,n1,c1,e1⟩,q1⟩:=hcs
      obtain ⟨_,_,q2⟩:=j1
      obtain ⟨v1,r1,r2⟩:=q1 x0 rc0 Fr0 k1 k3 x0 _ rfl k2
      obtain ⟨v2,r3,r4⟩:=q2 x0 rc0 Fr0 k1 k3 x0 _ rfl k2
      rw [r1] at r3
      simp only [oj,List.cons.injEq,and_true] at r3 r4
      refine ⟨rfl,⟨A1,n1,c1,e1⟩,?_⟩
      intro c rc F1 hl hg x L hloc _
      simp only [envOf,lookB_set,if_true,oj,pj] at hl hg
      obtain ⟨rfl,rfl⟩:=hg
      subst hl
      simp only [locF,oj,pj] at hloc
      obtain ⟨rfl,rfl⟩:=hloc
      exact ⟨u,rfl,by rw [r2,r3,← r4]⟩
     ·intro hLp
      obtain ⟨y0,hy0⟩:=hp0 s hLp
      rw [k1] at hy0
      simp only [oj] at hy0
      subst hy0
      simp [ownish] at k2
    ·cases h
   ·cases h
  ·cases h
 ·rename_i s p
  split at h
  ·split at h
   ·rename_i y
    split at h
    ·rename_i hfree
     simp only [oj] at h
     subst h
     obtain ⟨f1,f2⟩:=free_iff hfree
     obtain ⟨cs,i1,i2⟩:=hx
     obtain ⟨cs0,j1,j2⟩:=hv
     unfold asVal at i2 j2
     simp only [isA] at i2 j2
     subst i2; subst j2
     have hin:InV (envOf w bl G (F ++ X)) (.obox y) [u] F:=i1
     obtain ⟨g1,g2⟩:=hc.add f1 f2 hin (by rw [kept_site ho]; simp)
     have hLp:s ∈ Lp:=hptr _ _ rfl
     obtain ⟨y0,k1⟩:=hp0 s hLp
     obtain ⟨rc0,Fr0,Fr1,k3,k4⟩:=hr0 s _ k1
     unfold InV at k4
     obtain ⟨a0,cs0,_,rfl,_⟩:=k4
     refine ⟨_,g1,slots_back g2 ⟨.inr hLp,?_,?_⟩ hsl h0 hs,g2.le⟩
     ·intro hLf
      obtain ⟨x0,hx0,hx1⟩:=hf0 s hLf
      rw [k1] at hx0
      simp only [oj] at hx0
      subst hx0
      simp [ownish] at hx1
     ·intro _ cs hcs
      unfold InV at hcs j1 ⊢
      obtain ⟨_,⟨a1,e1⟩,q1⟩:=hcs
      obtain ⟨_,_,q2⟩:=j1
      have hloc:locF E0.w (.obox y0) (.reg [.pointer (some a0)]) [0]=some (y0,.mem a0):=by simp [locF,Where.head]
      obtain ⟨a2,r1,r2⟩:=q1 _ _ _ k1 k3 _ _ hloc
      obtain ⟨a3,r3,r4⟩:=q2 _ _ _ k1 k3 _ _ hloc
      simp only [Where.mem.injEq] at r1 r3
      subst r1; subst r3
      simp only [List.cons.injEq,and_true] at r4
      refine ⟨rfl,⟨a0,r2⟩,?_⟩
      intro c rc F1 hl hg x L hloc
      simp only [envOf,lookB_set,if_true,oj,pj] at hl hg
      obtain ⟨rfl,rfl⟩:=hg
      subst hl
      rw [r4] at hloc
      simp only [locF,Where.head,List.getElem?_cons_zero,oj,pj] at hloc
      obtain ⟨rfl,rfl⟩:=hloc
      exact ⟨a0,rfl,r2⟩
    ·cases h
   ·cases h
  ·cases h
 ·cases h
theorem le_trans' {E1 E2 E3:Env} (h:Le E1 E2) (k:Le E2 E3):Le E1 E3:=
 ⟨fun b hb=>⟨(k.stab b (h.stab b hb).1).1,(k.stab b (h.stab b hb).1).2.trans (h.stab b hb).2⟩,Nat.le_trans h.size k.size,fun b h1 h2=>k.kept b (h.stab b h1).1 (h.kept b h1 h2)⟩
theorem reputAll_ok {kp:Bool} {f:FuncId} {E0:Env} (h0:Slots E0 sl a) (hr0:Roots E0) {Lf Lp:List Nat} (hf0:∀ s ∈ Lf,∃ x,lookB E0.bl s=some x∧ownish x=true) (hp0:∀ s ∈ Lp,∃ x,lookB E0.bl s=some (.obox x)) (hsl:ioVs Lf Lp sl=true) :
  ∀ {vs xs:List V} {i:Nat} {us:List Value} {Fo:List Nat} {bl b':BL} {G:GT} {E:Env},CoreX w bl G (Fo ++ X) w0 F0→Slots (envOf w bl G (Fo ++ X)) sl a→E.w=w→(kp=true→Kle E (envOf w bl G (Fo ++ X)))→Outs E (fun j=>isIo (A.mode f j)) i xs us Fo→Tup E0 vs us [] →
   (∀ s ∈ ioF A f i vs,s ∈ Lf)→(∀ s ∈ ioP A f i vs,s ∈ Lp)→reputAll A kp f i bl vs xs=some b'→∃ G',CoreX w b' G' X w0 F0∧Slots (envOf w b' G' X) sl a
 | [],[],i,us,Fo,bl,b',G,E,hc,hs,hE,hle,ho,hv,hlf,hlp,h=>by
  simp only [reputAll,oj] at h
  subst h
  obtain ⟨_,rfl⟩:=ho
  exact ⟨G,hc,hs⟩
 | [],x :: xs,i,us,Fo,bl,b',G,E,hc,hs,hE,hle,ho,hv,hlf,hlp,h=>by simp [reputAll] at h
 | v :: vs,[],i,us,Fo,bl,b',G,E,hc,hs,hE,hle,ho,hv,hlf,hlp,h=>by simp [reputAll] at h
 | v :: vs,x :: xs,i,us,Fo,bl,b',G,E,hc,hs,hE,hle,ho,hv,hlf,hlp,h=>by
  obtain ⟨u,r,F1,F2,e1,rfl,h1,h2,h3⟩:=ho
  obtain ⟨u',r',K1,K2,k1,k2,j1,j2⟩:=hv
  obtain ⟨rfl,rfl⟩:=List.append_eq_nil_iff.1 k2.symm
  rw [e1] at k1
  simp only [List.cons.injEq] at k1
  obtain ⟨rfl,rfl⟩:=k1
  simp only [reputAll] at h
  split at h
  ·rename_i hm
   have hlf':∀ s p e,v=.full s p e→s ∈ Lf:=fun s p e hv=>hlf s (by rw [hv]; simp [ioF,hm])
   have hlp':∀ s p,v=.ptr s p→s ∈ Lp:=fun s p hv=>hlp s (by rw [hv]; simp [ioP,hm])
   have hlf2:∀ s ∈ ioF A f (i + 1) vs,s ∈ Lf:=fun s hs=>hlf s (by
    simp only [ioF,hm]
    split
    ·simp [hs]
    ·exact hs)
   have hlp2:∀ s ∈ ioP A f (i + 1) vs,s ∈ Lp:=fun s hs=>hlp s (by
    simp only [ioP,hm]
    split
    ·simp [hs]
    ·exact hs)
   split at h
   ·rename_i hx
    split at h
    ·rename_i b2 hp
     obtain ⟨t1,t2⟩:=hc.perm (show ((F1 ++ F2) ++ X).Perm (F1 ++ (F2 ++ X)) by rw [List.append_assoc])
     have hxk:allKept x=true:=by
      rw [bor_true,band_true] at hx
      rcases hx with hx | hx
      ·exact own_kept hx
      ·exact hx.2
     obtain ⟨cs,m1,m2⟩:=h1 (by show isIo (A.mode f i)=true; rw [hm]; rfl)
     have hone:One (envOf w bl G (F1 ++ (F2 ++ X))) x u F1:=by
      rw [bor_true,band_true] at hx
      rcases hx with hx | hx
      ·exact ⟨cs,own_env (E:=E) (by rw [hE]; rfl) _ hx m1,m2⟩
      ·exact ⟨cs,kept_env (E:=E) (by have:=hle hx.1; rw [List.append_assoc] at this; exact this) (by rw [hE]; rfl) hx.2 m1,m2⟩
     obtain ⟨G1,q1,q2,q3⟩:=reput_ok h0 hr0 hf0 hp0 hsl t1 (hs.go0 t2) hone j1 hxk hlf' hlp' hp
     exact reputAll_ok h0 hr0 hf0 hp0 hsl q1 q2 hE (fun hk=>by have:=hle hk; rw [List.append_assoc] at this; exact fun b h1 h2=>⟨(q3.stab b (this b h1 h2).1).1,q3.kept b (this b h1 h2).1 (this b h1 h2).2⟩) h3 j2 hlf2 hlp2 h
    ·cases h
   ·cases h
  ·rename_i hm
   have hf:isIo (A.mode f i)=false:=by
    cases hq:A.mode f i with
    | io=>exact absurd hq hm
    | take=>rfl
    | lend=>rfl
    | keep=>rfl
   have:=h2 hf
   subst this
   refine reputAll_ok h0 hr0 hf0 hp0 hsl (Fo:=F2) hc hs hE hle h3 j2 (fun s hs=>hlf s ?_) (fun s hs=>hlp s ?_) h
   ·unfold ioF
    split
    ·rename_i hm'; exact absurd hm' hm
    ·exact hs
   ·unfold ioP
    split
    ·rename_i hm'; exact absurd hm' hm
    ·exact hs
theorem args_tup {E:Env} {io:Nat→Bool}:∀ {xs:List V} {i:Nat} {vs:List Value} {F:List Nat},Args E io i xs vs F→Tup E xs vs F
 | [],i,vs,F,h=>h
 | x :: xs,i,vs,F,⟨v,r,F1,F2,e1,e2,h1,h2,h3⟩=>⟨v,r,F1,F2,e1,e2,h1,args_tup h3⟩
theorem callIo_sem {cl:Call} {fo:Operand} {g:FuncId} {caps:List V} {b2:BL} (ho:o.op=.call cl) (hcal:cl.callee=.value fo) (hf:opd sl fo=.fn g caps)
  {ts:List Ty} (hnt:noTups (mapOpd sl cl.args.toList)=true) (hna:noAggs caps=true)
  (hroots:ioRoots A g b 0 (cat (mapOpd sl cl.args.toList) caps)=true)
  (hsl:ioVs (ioF A g 0 (cat (mapOpd sl cl.args.toList) caps)) (ioP A g 0 (cat (mapOpd sl cl.args.toList) caps)) sl=true)
  {ws:List V} {res:V} {outs:List V}
  (hp:prep A g b ts (cat (mapOpd sl cl.args.toList) caps)=some (c,ws,bl)) (hk:∀ x ∈ c,x.ok) (hco:CallsOK P (fun i=>isIo (A.mode g i)) g ws res outs) (how:resOwn res=true)
  (hre:reputAll A (scalL A g 0 ws) g 0 bl (cat (mapOpd sl cl.args.toList) caps) outs=some b2) (hpl:placeRes sl b2 o.dst res=some (v,b1)) :
  Semo P o sl b v b1:=by
 intro Pn w0 F0 a w hdst hr K Q hK
 obtain ⟨⟨G,hc,hs⟩,hl,hd,hpin⟩:=hr
 obtain ⟨k1,k3⟩:=hco
 obtain ⟨fn,j1,j2,j3⟩:=k1
 have hfv:=opd_val hs fo
 rw [hf] at hfv
 have hfv':=(val_one rfl (by simp) (by simp)).1 hfv
 unfold InV at hfv'
 obtain ⟨vals,hfe,hcaps,_⟩:=hfv'
 simp only [List.cons.injEq,and_true] at hfe
 rw [cat_eq] at hp hroots hsl hre
 have hargs:Tup (envOf w b G []) (mapOpd sl cl.args.toList ++ caps) (cl.args.toList.map a.eval ++ vals.toList) []:=by
  have:=Args_append (opds_args (io:=fun j=>movesIn (A.mode g j)) (i:=0) hs hnt) (caps_args (i:=0 + (mapOpd sl cl.args.toList).length) hna hcaps)
  exact args_tup (by simpa using this)
 have hroot0:Roots (envOf w b G []):=fun s c hc'=>by
  obtain ⟨rc,F,F1,h1,h2,_⟩:=hc.ok.root s c hc'
  exact ⟨rc,F,F1,h1,h2⟩
 obtain ⟨F,G1,p1,p2',p3,p4⟩:=prep_kept hc hargs hp hk
 obtain ⟨Kx,p2,hKx⟩:∃ Kx,Tup (calleeEnv Kx w F) ws (cl.args.toList.map a.eval ++ vals.toList) F∧(scalL A g 0 ws=true→Kx=lastsK w bl G1 F):=by
  cases hq:scalL A g 0 ws with
  | false=>exact ⟨_,p2',fun h=>by cases h⟩
  | true=>exact ⟨_,p4 hq,fun _=>rfl⟩
 have hcalls:=k3 Kx w (cl.args.toList.map a.eval ++ vals.toList) F p2 p1.ok.xnd p1.ok.xlt
 have hrun:(execOp a.eval o).run P w=.ok (.enter g (cl.args.toList.map a.eval ++ vals.toList).toArray) w:=by
  have hcf:=callFunc_run (P:=P) (w:=w) (args:=(cl.args.toList.map a.eval ++ vals.toList).toArray) j1 j2 j3
  have he:(cl.args.toList.map a.eval ++ vals.toList).toArray=cl.args.map a.eval ++ vals:=by apply Array.ext'; simp
  rw [he] at hcf ⊢
  simp [execOp,ho,resolve,hcal,hfe,Deferred.ofValue,invoke,hcf]
 unfold Oper.wp
 rw [hrun,Oper.upon_enter]
 refine Calls.mono hcalls ?_
 rintro e w2 ⟨v2,Fr,Fo,rfl,q1,q2,q3,q4,q5,q6,q7,q8,q9⟩
 obtain ⟨t1,t2⟩:=p1.world (w':=w2) (X':=Fr ++ Fo) q6 (fun b hb hx=>q5 b hb hx) q3 q4 q7 q8 q9
 have hs2:Slots (envOf w2 bl G1 (Fr ++ Fo)) sl a:=(hs.go0 p3).go0 t2
 obtain ⟨t3,t4⟩:=t1.perm (List.perm_append_comm (l₁:=Fr) (l₂:=Fo))
 have hleK:scalL A g 0 ws=true→Kle (calleeEnv Kx w2 (Fr ++ Fo)) (envOf w2 bl G1 (Fo ++ Fr)):=fun hq=>by
  have:=hKx hq
  subst this
  intro b h1 h2
  refine ⟨⟨h1.1,fun ho=>?_⟩,h2.2⟩
  rcases ho with ho | ho
  ·exact h1.2 (by rcases List.mem_append.1 ho with h | h <;> simp [h])
  ·exact h2.1.2 (.inr ho)
 obtain ⟨G2,r1,r2⟩:=reputAll_ok (X:=Fr) (E:=calleeEnv Kx w2 (Fr ++ Fo)) hs hroot0 (ioF_root hroots) (ioP_root hroots) hsl t3 (hs2.go0 t4) rfl hleK q2 hargs (fun s h=>h) (fun s h=>h) hre
 obtain ⟨G',s1,s2,s3⟩:=placeRes_ok (E:=calleeEnv Kx w2 (Fr ++ Fo)) r1 r2 rfl q1 how hpl
 exact hK _ _ (Rel.put s1 s2 hl hd hpin hdst s3)
end
end Go.Rai
namespace Go.Rai
variable [Inhabited Kset]
def Short (E E':Env) (s n m:Nat):Prop:=
 ∀ c' rc F',lookB E'.bl s=some c'→E'.G s=some (rc,F')→∃ c F0,lookB E.bl s=some c∧E.G s=some (rc,F0) ∧
  LocN false n E.w E'.w c c' (.reg rc)∧LocN true m E.w E'.w c c' (.reg rc)
theorem llen_eq {α:Type}:∀ (l:List α),llen l=l.length
 | []=>rfl
 | _ :: l=>by simp [llen,llen_eq l]
theorem shortP_iff {s n:Nat} {p:List Nat} (h:shortP s n s p=true):p.length<n:=by
 unfold shortP at h
 rw [Nat.beq_refl] at h
 have:=Nat.le_of_ble_eq_true h
 rw [llen_eq] at this
 exact this
mutual
theorem pathV_ok {E E':Env} {s n m:Nat} (hE:Goes E E' (fun t=>t=s)) (hb:Short E E' s n m):∀ (v:V) {cs:List Value},pathV s n m v=true→InV E v cs []→InV E' v cs []
 | .full t p e,cs,hv,h1=>by
  by_cases hts:t=s
  ·subst hts
   unfold pathV at hv
   have hlen:=shortP_iff hv
   unfold InV at h1 ⊢
   obtain ⟨h0,h2,h3⟩:=h1
   refine ⟨h0,h2,fun c' rc F' hc hg x' L hl ho=>?_⟩
   obtain ⟨c,F0,hc0,hg0,_,hal⟩:=hb c' rc F' hc hg
   obtain ⟨x,hx,hown⟩:=hal p hlen x' L hl
   obtain ⟨ho',hh⟩:=hown rfl ho
   obtain ⟨v,hv,hcs⟩:=h3 c rc F0 hc0 hg0 x L hx ho'
   exact ⟨v,by rw [hh]; exact hv,hcs⟩
  ·exact hE.inV (by intro t' ht' e; simp [sites] at ht'; exact hts (ht' ▸ e)) (fun _ hb=>by cases hb) h1
 | .sub t p off len e,cs,hv,h1=>by
  by_cases hts:t=s
  ·subst hts
   unfold pathV at hv
   have hlen:=shortP_iff hv
   unfold InV at h1 ⊢
   obtain ⟨h0,h2,h3⟩:=h1
   refine ⟨h0,h2,fun c' rc F' hc hg x' L hl ho=>?_⟩
   obtain ⟨c,F0,hc0,hg0,_,hal⟩:=hb c' rc F' hc hg
   obtain ⟨x,hx,hown⟩:=hal p hlen x' L hl
   obtain ⟨ho',hh⟩:=hown rfl ho
   obtain ⟨A,n,k,A',hv,hcs⟩:=h3 c rc F0 hc0 hg0 x L hx ho'
   exact ⟨A,n,k,A',by rw [hh]; exact hv,hcs⟩
  ·exact hE.inV (by intro t' ht' e; simp [sites] at ht'; exact hts (ht' ▸ e)) (fun _ hb=>by cases hb) h1
 | .ptr t p,cs,hv,h1=>by
  by_cases hts:t=s
  ·subst hts
   unfold pathV at hv
   have hlen:=shortP_iff hv
   unfold InV at h1 ⊢
   obtain ⟨h0,h2,h3⟩:=h1
   refine ⟨h0,h2,fun c' rc F' hc hg x' L hl=>?_⟩
   obtain ⟨c,F0,hc0,hg0,hal,_⟩:=hb c' rc F' hc hg
   obtain ⟨x,hx,_⟩:=hal p hlen x' L hl
   exact h3 c rc F0 hc0 hg0 x L hx
  ·exact hE.inV (by intro t' ht' e; simp [sites] at ht'; exact hts (ht' ▸ e)) (fun _ hb=>by cases hb) h1
 | .agg vs,cs,hv,h1=>by
  unfold pathV at hv
  unfold InV at h1 ⊢
  exact pathVs_ok hE hb vs hv h1
 | .fn f vs,cs,hv,h1=>by
  unfold pathV at hv
  unfold InV at h1 ⊢
  obtain ⟨vals,rfl,i1,i2⟩:=h1
  exact ⟨vals,rfl,pathVs_ok hE hb vs hv i1,i2⟩
 | .tup vs,cs,hv,h1=>by unfold InV at h1; exact h1.elim
 | .lst e vs,cs,hv,h1=>by
  simp only [pathV] at hv
  exact hE.inV (fun t ht e=>by subst e; exact not_isIn (bneg_t hv) ht) (fun _ hb=>by cases hb) h1
 | .obox x,cs,hv,h1=>by
  simp only [pathV] at hv
  exact hE.inV (fun t ht e=>by subst e; exact not_isIn (bneg_t hv) ht) (fun _ hb=>by cases hb) h1
 | .rp x,cs,hv,h1=>by
  simp only [pathV] at hv
  exact hE.inV (fun t ht e=>by subst e; exact not_isIn (bneg_t hv) ht) (fun _ hb=>by cases hb) h1
 | .int _ _,cs,hv,h1=>hE.inV (fun t ht=>by cases ht) (fun _ hb=>by cases hb) h1
 | .bool _,cs,hv,h1=>hE.inV (fun t ht=>by cases ht) (fun _ hb=>by cases hb) h1
 | .str _,cs,hv,h1=>hE.inV (fun t ht=>by cases ht) (fun _ hb=>by cases hb) h1
 | .own _ _,cs,hv,h1=>hE.inV (fun t ht=>by cases ht) (fun _ hb=>by cases hb) h1
 | .rd _ _,cs,hv,h1=>hE.inV (fun t ht=>by cases ht) (fun _ hb=>by cases hb) h1
 | .arr _ _ _,cs,hv,h1=>hE.inV (fun t ht=>by cases ht) (fun _ hb=>by cases hb) h1
 | .undef,cs,hv,h1=>hE.inV (fun t ht=>by cases ht) (fun _ hb=>by cases hb) h1
 | .void,cs,hv,h1=>hE.inV (fun t ht=>by cases ht) (fun _ hb=>by cases hb) h1
 | .nilsl,cs,hv,h1=>hE.inV (fun t ht=>by cases ht) (fun _ hb=>by cases hb) h1
 | .emp _,cs,hv,h1=>hE.inV (fun t ht=>by cases ht) (fun _ hb=>by cases hb) h1
 | .nilfn,cs,hv,h1=>hE.inV (fun t ht=>by cases ht) (fun _ hb=>by cases hb) h1
 | .nilptr,cs,hv,h1=>hE.inV (fun t ht=>by cases ht) (fun _ hb=>by cases hb) h1
theorem pathVs_ok {E E':Env} {s n m:Nat} (hE:Goes E E' (fun t=>t=s)) (hb:Short E E' s n m):∀ (vs:List V) {cs:List Value},pathVs s n m vs=true→InVs E vs cs []→InVs E' vs cs []
 | [],cs,hv,h1=>by unfold InVs at h1 ⊢; exact h1
 | v :: vs,cs,hv,h1=>by
  unfold pathVs at hv
  rw [band_true] at hv
  unfold InVs at h1 ⊢
  obtain ⟨d1,d2,G1,G2,k1,k2,j1,j2⟩:=h1
  obtain ⟨rfl,rfl⟩:=List.append_eq_nil_iff.1 k2.symm
  exact ⟨d1,d2,[],[],k1,rfl,pathV_ok hE hb v hv.1 j1,pathVs_ok hE hb vs hv.2 j2⟩
end
section
variable {P:Program} {A:Ann} {w w' w0:World} {F0:List Nat} {sl:List V} {a:Act} {bl b b' b1:BL} {G:GT} {o:Oper} {X:List Nat} {v:V} {c:List Cond}
theorem one_short {E E':Env} {s n m:Nat} (hE:Goes E E' (fun t=>t=s)) (hb:Short E E' s n m) {x:V} {u:Value} (hv:pathV s n m x=true) (h1:One E x u []):One E' x u []:=by
 obtain ⟨cs',j1,j2⟩:=h1
 exact ⟨cs',pathV_ok hE hb x hv j1,j2⟩
theorem tup_short {E E':Env} {s n m:Nat} (hE:Goes E E' (fun t=>t=s)) (hb:Short E E' s n m):∀ {xs:List V} {us:List Value},pathVs s n m xs=true→Tup E xs us []→Tup E' xs us []
 | [],us,hv,h1=>h1
 | x :: xs,us,hv,⟨u',r',G1,G2,k1,k2,j1,j2⟩=>by
  unfold pathVs at hv
  rw [band_true] at hv
  obtain ⟨rfl,rfl⟩:=List.append_eq_nil_iff.1 k2.symm
  exact ⟨u',r',[],[],k1,rfl,one_short hE hb hv.1 j1,tup_short hE hb hv.2 j2⟩
theorem val_short {E E':Env} {s n m:Nat} (hE:Goes E E' (fun t=>t=s)) (hb:Short E E' s n m) {x:V} {u:Value} (hv:pathV s n m x=true) (h1:Val E x u []):Val E' x u []:=by
 cases x with
 | tup xs=>
  obtain ⟨us',e1,j1⟩:=h1
  unfold pathV at hv
  exact ⟨us',e1,tup_short hE hb hv j1⟩
 | undef=>exact h1
 | _=>exact one_short hE hb hv h1
theorem pathVs_slot {s n m:Nat}:∀ {sl:List V} {t:Nat},pathVs s n m sl=true→pathV s n m (slotL sl t)=true
 | [],t,h=>by cases t <;> rfl
 | v :: sl,t,h=>by
  unfold pathVs at h
  rw [band_true] at h
  cases t with
  | zero=>exact h.1
  | succ t=>exact pathVs_slot (sl:=sl) (t:=t) h.2
theorem slots_short {E E':Env} {s n m:Nat} (hE:Goes E E' (fun t=>t=s)) (hb:Short E E' s n m) (hv:pathVs s n m sl=true) (h1:Slots E sl a):Slots E' sl a:=
 fun t=>val_short hE hb (pathVs_slot hv) (h1 t)
theorem ownNil_tupl {t:Ty} {vs:List V}:ownNil t (.tup vs)=.tup vs:=by cases t <;> rfl
theorem storeIn_ok (HT:TysOK P A.ty) (hc:Core w bl G w0 F0) (hs:Slots (envOf w bl G []) sl a) {sl':List V} (hs':Slots (envOf w bl G []) sl' a) {t:TypeId} {x y:Operand} {co:List Cond} {b:BL} (h:o.op=.store t x y)
  (hv:storeIn (A.ty t) sl' bl (opd sl x) (opd sl y)=some (co,b)) (hk:∀ k ∈ co,k.ok):Prim P w0 F0 sl' a w o .void b:=by
 have hx:=opd_val hs x
 unfold storeIn at hv
 split at hv
 ·rename_i s p hxe
  split at hv
  ·rename_i c1 yv b1 hin
   split at hv
   ·rename_i hchk
    rw [band_true,band_true,band_true,band_true] at hchk
    obtain ⟨⟨hyo,hyf⟩,⟨hpl,hpos⟩,hns⟩:=hchk
    have hns':=not_isIn (bneg_t hns)
    have hpos':(A.ty t).size ≠ 0:=by
     intro h0
     have:=bneg_t hpos
     rw [h0] at this
     cases this
    split at hv
    ·rename_i c hl
     split at hv
     ·rename_i c2 z hg
      split at hv
      ·rename_i hz
       simp only [oj,pj] at hv
       obtain ⟨rfl,rfl⟩:=hv
       rw [band_true,bor_true,band_true,band_true,bor_true] at hz
       obtain ⟨hz,hpath⟩:=hz
       obtain ⟨hk1,hk2⟩:=conds_cat hk
       have hyt:∀ xs,opd sl y ≠ .tup xs:=by
        intro xs hxs
        rw [hxs,ownNil_tupl] at hin
        cases hq:inl 9 bl (.tup xs) with
        | none=>rw [hq] at hin; cases hin
        | some r=>
         simp only [inl] at hin
         split at hin
         ·simp only [oj,pj] at hin
          rw [← hin.2.1] at hyf
          cases hA:A.ty t <;> rw [hA] at hyf <;> simp [fits] at hyf
         ·cases hin
       obtain ⟨csy,y1,y2⟩:=val_one_nt hyt (opd_val hs y)
       obtain ⟨Fy,G1,q1,q2,q3⟩:=(inl_ok 9).1 (F:=[]) (X:=[]) hc.x (ownNil_in (A.ty t) y1) hin hk1
       simp only [List.append_nil] at q1 q2 q3
       have hT:=HT t (fits_other hyf)
       have hx':Val (envOf w b1 G1 Fy) (.ptr s p) (a.eval x) []:=by rw [← hxe]; exact opd_val (hs.go0 q3) x
       obtain ⟨rc,F,F1,g1,g2,g3,g4,g5⟩:=q1.ok.root s c hl
       obtain ⟨Lx,i4⟩:=get_loc (envOf w b1 G1 Fy) p c rc F1 (.reg rc) c2 z g2 ⟨[],by simp⟩ hg hk2
       obtain ⟨csx,Fx,Fr,m1,m2,m3,m4,m5⟩:=q1.modifyN hl g1 i4
       obtain ⟨ad,rfl,hpx⟩:=ptr_at hx' hl g1 i4
       have hunf:=loc_unfz (envOf w b1 G1 Fy) p c rc F1 (.reg rc) z ad g2 ⟨[],by simp⟩ (fun b hb=>by cases hb) i4
       have hzs:vsz z=(A.ty t).size:=by
        rcases hz with ⟨_,hzf⟩ | ⟨_,hzu⟩
        ·exact (fits_size hzf).1
        ·unfold sliceU at hzu
         split at hzu
         ·rename_i hty; rw [hty]; rfl
         ·cases hzu
       have q4:csy.length=(A.ty t).size:=by rw [InV_len _ q2,(fits_size hyf).1]
       have q5:∀ u ∈ csy,u.oneCell'=true:=InV_one hyf q2
       have hcells:(a.eval y).cells=csy.toArray:=by
        unfold asVal at y2
        split at y2
        ·rw [y2]; rfl
        ·subst y2; exact cells_one (q5 _ (by simp))
       rw [hzs,← q4] at hunf
       have hunf':unfz w ad csy.length:=hunf
       have hrun:=store_run (w:=w) hT hunf' q4 hcells q5 (by rw [q4]; exact hpos')
       obtain ⟨e1,e2,e3⟩:=setCells_streams ad.block csy ad.off w
       have hadF:ad.block ∈ F:=by
        rcases m4 with ⟨a',ha',hin'⟩ | ⟨ds,hds⟩
        ·cases ha'; exact (m3.mem_iff).2 (by simp [hin'])
        ·cases hds
       have hadY:ad.block ∉ Fy:=(g5 _ hadF).2
       have hmem:∀ b,b<w.heap.size→b ∉ Fx→(∀ a,Where.mem ad=.mem a→b ≠ a.block)→(w.setCells ad.block ad.off csy).heap[b]?=w.heap[b]?:=
        fun b hb hbF hba=>setCells_heap _ _ (fun e=>hba ad rfl e) _ _ _
       have hyin:∀ E':Env,E'.w=w.setCells ad.block ad.off csy→InV E' yv csy Fy:=by
        intro E' hE'
        have h1:InV ⟨w.setCells ad.block ad.off csy,(envOf w b1 G1 Fy).S,Kept.K,[],fun _=>none⟩ yv csy Fy:=by
         refine InV_frame (E:=envOf w b1 G1 Fy) (E':=⟨w.setCells ad.block ad.off csy,(envOf w b1 G1 Fy).S,Kept.K,[],fun _=>none⟩) ⟨fun b hb=>⟨hb,?_⟩,by show _≤(World.setCells _ _ _ _).heap.size; rw [setCells_size]; exact Nat.le_refl _,fun _ _ h=>h⟩ _ (fun s' hs'=>by rw [own_sites _ hyo] at hs'; cases hs') (fun b hb=>?_) q2
         ·refine setCells_heap _ _ (fun e=>hb.2 ?_) _ _ _
          subst e
          exact .inr ⟨s,c,rc,F,hl,g1,hadF⟩
         ·exact setCells_heap _ _ (fun (e:_=ad.block)=>hadY (by rw [← e]; exact hb)) _ _ _
        exact own_env (by rw [hE']) yv hyo h1
       obtain ⟨p1,p2,p3⟩:=m5 (w.setCells ad.block ad.off csy) yv csy Fy [] (fun u=>u=s) (fun _ h=>h)
        (fun _ t' ct hct hm=>hns' (mem_sitesB hct hm))
        (by rw [hzs,(fits_size hyf).1])
        (by
         intro hout t' ht'
         obtain ⟨hzo,hzf⟩:allOwn z=true∧fits (A.ty t) z=true:=by
          rcases hz with ⟨hzo,hzf⟩ | ⟨ho,_⟩
          ·exact ⟨hzo.elim id (fun h=>by rw [h] at hout; cases hout),hzf⟩
          ·rw [ho] at hout; cases hout
         have s1:=fits_shp_own hpl hzf hzo
         have s2:=fits_shp_own hpl hyf hyo
         rw [← shp_det s1 ht']
         exact s2)
        (by rw [setCells_size]; exact Nat.le_refl _)
        (fun b hb hbF _ hba=>hmem b hb hbF hba)
        (fun _ _=>.inr (.inr trivial))
        (by rw [hzs,← q4]; exact setCells_part (spot_of_unfz hunf') hunf' rfl)
        (setCells_at (spot_of_unfz hunf') hunf')
        (by rintro ⟨ds,hd⟩; cases hd)
        (by rw [List.append_nil]; exact q1.ok.xnd)
        (by
         intro b hb
         rw [List.append_nil] at hb
         exact ⟨by rw [setCells_size]; exact q1.ok.xlt b hb,.inr (.inl hb)⟩)
        (fun h=>absurd rfl h) e1 e2 e3 hmem
        (fun _=>hyin _ rfl) (fun _=>hyin _ rfl)
       refine ⟨undef,_,_,.inr ⟨?_,rfl⟩,p1.c,slots_short p2 ?_ hpath (hs'.go0 q3),val_void.2 ⟨rfl,rfl⟩⟩
       ·simp only [execOp,h,hpx,Sem.run_bind,hrun,Result.andThen_ok,Sem.run_pure]
       ·intro c' rc' F' hl' hg'
        simp only [envOf,lookB_set,if_true,oj,pj] at hl' hg'
        obtain ⟨rfl,_⟩:=hg'
        subst hl'
        refine ⟨c,F,hl,g1,?_,?_⟩
        ·refine (p3 false 1 ?_).mono (by rw [llen_eq]; omega)
         intro q hq x' L' hlq
         have:q=[]:=List.eq_nil_of_length_eq_zero (by omega)
         subst this
         simp only [locF,oj,pj] at hlq
         obtain ⟨rfl,rfl⟩:=hlq
         exact ⟨z,rfl,fun h=>by cases h⟩
        ·refine (p3 true 0 (fun q hq=>by omega)).mono (by rw [llen_eq]; omega)
      ·simp at hv
     ·simp at hv
    ·simp at hv
   ·simp at hv
  ·simp at hv
 ·simp at hv
theorem storeIn_sem (HT:TysOK P A.ty) {t:TypeId} {x y:Operand} {co:List Cond} (h:o.op=.store t x y)
  (hv:storeIn (A.ty t) sl b (opd sl x) (opd sl y)=some (co,b1)) (hk:∀ k ∈ co,k.ok):Semo P o sl b .void b1:=by
 intro Pn w0 F0 a w hdst hr K Q hK
 obtain ⟨⟨G,hc,hs⟩,hl,hd,hpin⟩:=hr
 obtain ⟨vv,w',G',hrun,k1,k2,k3⟩:=storeIn_ok (o:=o) HT hc hs hs h hv hk
 have hrel:=Rel.put (d:=o.dst) k1 k2 hl hd hpin hdst k3
 unfold Oper.wp
 rcases hrun with hrun | ⟨hrun,hvv⟩
 ·rw [hrun]; exact hK _ _ hrel
 ·rw [hrun]; subst hvv; exact hK _ _ hrel
theorem killS_len (s n m:Nat):∀ (sl:List V),(killS s n m sl).length=sl.length
 | []=>rfl
 | v :: sl=>by simp only [killS,List.length_cons,killS_len s n m sl]
theorem killS_slot (s n m:Nat):∀ (sl:List V) (t:Nat),slotL (killS s n m sl) t=slotL sl t ∨ slotL (killS s n m sl) t=.undef
 | [],t=>.inl rfl
 | v :: sl,0=>by
  simp only [killS,slotL]
  split
  ·exact .inl rfl
  ·exact .inr rfl
 | v :: sl,t + 1=>by simpa only [killS,slotL] using killS_slot s n m sl t
theorem killS_slots {E:Env} (s n m:Nat) (h:Slots E sl a):Slots E (killS s n m sl) a:=fun t=>by
 rcases killS_slot s n m sl t with e | e
 ·rw [e]; exact h t
 ·rw [e]; exact rfl
theorem inl_isA' {b b':BL} {vs:List V} {v':V} {c:List Cond} (h:inl 9 b (.agg vs)=some (c,v',b')):isA v'=true:=by
 simp only [inl] at h
 split at h
 ·simp only [oj,pj] at h
  obtain ⟨_,rfl,_⟩:=h
  rfl
 ·cases h
def Semb (P:Program) (o:Oper) (sl:List V) (b:BL) (sl1:List V) (v:V) (b1:BL):Prop:=
 ∀ {Pn:Nat→Option Value} {w0:World} {F0:List Nat} {a:Act} {w:World},(∀ t,o.dst=some t→Pn t=none)→Rel Pn w0 F0 ⟨sl,b⟩ a w→∀ {K:Act→World→Prop} {Q:Exit→Act→World→Prop},
  (∀ a' w',Rel Pn w0 F0 ⟨putSl sl1 o.dst v,b1⟩ a' w'→K a' w')→o.wp P a w K Q
theorem storeK_sem (HT:TysOK P A.ty) {t:TypeId} {x y:Operand} {co:List Cond} {s n m:Nat} (h:o.op=.store t x y)
  (hv:storeIn (A.ty t) (killS s n m sl) b (opd sl x) (opd sl y)=some (co,b1)) (hk:∀ k ∈ co,k.ok):Semb P o sl b (killS s n m sl) .void b1:=by
 intro Pn w0 F0 a w hdst hr K Q hK
 obtain ⟨⟨G,hc,hs⟩,hl,hd,hpin⟩:=hr
 obtain ⟨vv,w',G',hrun,k1,k2,k3⟩:=storeIn_ok (o:=o) HT hc hs (killS_slots s n m hs) h hv hk
 have hrel:=Rel.put (d:=o.dst) k1 k2 (by rw [killS_len]; exact hl) hd hpin hdst k3
 unfold Oper.wp
 rcases hrun with hrun | ⟨hrun,hvv⟩
 ·rw [hrun]; exact hK _ _ hrel
 ·rw [hrun]; subst hvv; exact hK _ _ hrel
theorem storeU_ok (HT:TysOK P A.ty) (hc:Core w bl G w0 F0) (hs:Slots (envOf w bl G []) sl a) {t:TypeId} {x y:Operand} {co:List Cond} {b:BL} (h:o.op=.store t x y)
  (hv:storeU (A.ty t) bl (opd sl x) (opd sl y)=some (co,b)) (hk:∀ k ∈ co,k.ok):Prim P w0 F0 sl a w o .void b:=by
 have hx:=opd_val hs x
 unfold storeU at hv
 split at hv
 ·rename_i s p hxe
  split at hv
  ·rename_i c hl
   split at hv
   ·rename_i cs hg
    split at hv
    ·rename_i hchk
     simp only [oj,pj] at hv
     obtain ⟨rfl,rfl⟩:=hv
     rw [band_true,band_true,band_true] at hchk
     obtain ⟨⟨hsl,hfit⟩,hsy,hout⟩:=hchk
     obtain ⟨e,hty⟩:∃ e,A.ty t=.slice e:=by cases hq:A.ty t <;> simp [hq,isSliceT] at hsl; exact ⟨_,rfl⟩
     have hT:=HT t (fits_other hfit)
     have hsize:(A.ty t).size=1:=by rw [hty]; rfl
     rw [hxe] at hx
     obtain ⟨c0,rc,F,i1,i2,i3,Lx,csx,Fx,i4,i5,i6,i7,i8,i9⟩:=place_of hc (bl:=bl) (p:=p) (s:=s) (c:=cs) (x:=.undef) (by unfold getAt; rw [hl]; exact hg) hk
     rw [hl] at i1; simp only [oj] at i1; subst i1
     obtain ⟨ad,rfl,hpx⟩:=ptr_at hx (E:=envOf w bl G []) hl i2 i4
     obtain ⟨rc',F',F1,g1,g2,g3,g4,g5⟩:=hc.ok.root s c hl
     rw [i2] at g1; simp only [oj,pj] at g1; obtain ⟨rfl,rfl⟩:=g1
     have hunf:=loc_unfz (envOf w bl G []) p c rc F1 (.reg rc) .undef ad g2 ⟨[],by simp⟩ (fun b hb=>by cases hb) i4
     obtain ⟨csy,q1,q2,q3,q4,q5⟩:=val_cells hfit (opd_val hs y)
     have hzs:vsz .undef=(A.ty t).size:=by rw [hsize]; rfl
     rw [hzs] at hunf
     rw [← q4] at hunf
     have hunf':unfz w ad csy.length:=hunf
     have hrun:=store_run (w:=w) hT hunf' q4 q3 q5 (by rw [q4,hsize]; decide)
     obtain ⟨csx2,Fx2,Fr,m1,m2,m3,m4,m5⟩:=hc.x.modify hl i2 i4
     obtain ⟨e1,e2,e3⟩:=setCells_streams ad.block csy ad.off w
     have hmem:∀ b,b<w.heap.size→b ∉ Fx2→(∀ a,Where.mem ad=.mem a→b ≠ a.block)→(w.setCells ad.block ad.off csy).heap[b]?=w.heap[b]?:=
      fun b hb hbF hba=>setCells_heap _ _ (fun e=>hba ad rfl e) _ _ _
     have hnol:∀ q x' L' (w':World),locF w' (opd sl y) (.mem ad) q=some (x',L')→q=[]∧x'=opd sl y∧L'=.mem ad:=by
      intro q x' L' w' hq
      cases q with
      | nil=>simp only [locF,oj,pj] at hq; exact ⟨rfl,hq.1.symm,hq.2.symm⟩
      | cons j q=>
       exfalso
       rw [hty] at hfit
       cases hy:opd sl y <;> rw [hy] at hfit hsy hq <;> simp [fits,simple,locF] at hfit hsy hq
     have hnown:ownish (opd sl y)=false:=by
      rw [hty] at hfit
      cases hy:opd sl y <;> rw [hy] at hfit hsy <;> simp [fits,simple,ownish] at hfit hsy ⊢
     obtain ⟨p1,p2⟩:=m5 (w.setCells ad.block ad.off csy) (opd sl y) csy [] [] (by rw [hzs,(fits_size hfit).1])
      (by intro ho; rw [hout] at ho; cases ho)
      (by rw [setCells_size]; exact Nat.le_refl _)
      (fun b hb hbF _ hba=>hmem b hb hbF hba)
      (fun _ _=>.inr (.inr trivial))
      (by rw [hzs,← q4]; exact setCells_part (spot_of_unfz hunf') hunf' rfl)
      (setCells_at (spot_of_unfz hunf') hunf')
      (by rintro ⟨ds,hd⟩; cases hd)
      (by simp) (by intro b hb; simp at hb)
      (by
       intro q x' L' hq
       obtain ⟨rfl,rfl,rfl⟩:=hnol q x' L' _ hq
       exact ⟨.undef,rfl,fun ho=>by rw [hnown] at ho; cases ho⟩) e1 e2 e3 hmem
      (fun hle=>InV_frame hle _ (fun s' _ c' rc' F' hlk=>by simp [lookB] at hlk) (fun b hb=>by cases hb) q1)
      (fun hgo=>hgo.inV (fun _ _=>id) (fun b hb=>by cases hb) q1)
     refine ⟨undef,_,_,.inr ⟨?_,rfl⟩,p1.c,hs.go0 p2,val_void.2 ⟨rfl,rfl⟩⟩
     simp only [execOp,h,hpx,Sem.run_bind,hrun,Result.andThen_ok,Sem.run_pure]
    ·simp at hv
   ·simp at hv
  ·simp at hv
 ·simp at hv
theorem storeU_sem (HT:TysOK P A.ty) {t:TypeId} {x y:Operand} {co:List Cond} (h:o.op=.store t x y)
  (hv:storeU (A.ty t) b (opd sl x) (opd sl y)=some (co,b1)) (hk:∀ k ∈ co,k.ok):Semo P o sl b .void b1:=by
 intro Pn w0 F0 a w hdst hr K Q hK
 obtain ⟨⟨G,hc,hs⟩,hl,hd,hpin⟩:=hr
 obtain ⟨vv,w',G',hrun,k1,k2,k3⟩:=storeU_ok (o:=o) HT hc hs h hv hk
 have hrel:=Rel.put (d:=o.dst) k1 k2 hl hd hpin hdst k3
 unfold Oper.wp
 rcases hrun with hrun | ⟨hrun,hvv⟩
 ·rw [hrun]; exact hK _ _ hrel
 ·rw [hrun]; subst hvv; exact hK _ _ hrel
theorem boxIn_sem (HT:TysOK P A.ty) {t:TypeId} {x:Operand} {co:List Cond} {u:Nat} {z:V} (h:o.op=.box t x) (hv:boxIn A sl b o.dst t x=some (co,(v,b1),u,z)) (hk:∀ k ∈ co,k.ok):Semb P o sl b (setNth sl u z) v b1:=by
 intro Pn w0 F0 a w hdst hr K Q hK
 obtain ⟨⟨G,hc,hs⟩,hl,hd,hpin⟩:=hr
 unfold boxIn at hv
 split at hv
 ·rename_i u0
  split at hv
  ·rename_i vs hslot
   split at hv
   ·cases hv
   ·split at hv
    ·rename_i hchk
     rw [band_true] at hchk
     split at hv
     ·rename_i c y b2 hin
      split at hv
      ·rename_i e hde
       split at hv
       ·rename_i hun
        simp only [oj,pj] at hv
        obtain ⟨rfl,⟨rfl,rfl⟩,rfl,rfl⟩:=hv
        have hx:=opd_val hs (.tmp u0)
        rw [show opd sl (.tmp u0)=.agg vs from hslot] at hx
        obtain ⟨cs,q1,q2,q3,q4,q5⟩:=val_cells hchk.2 hx
        obtain ⟨F',G1,p1,p2,p3⟩:=(inl_ok 9).1 (X:=[]) (F:=[]) hc.x q1 hin hk
        have hs1:=hs.go0 p3
        obtain ⟨k1,k2⟩:=p1.alloc (.cells cs.toArray t)
        have hsame:Same w (w.alloc (.cells cs.toArray t)) F':=fun z hz=>Go.RowKit.Below.heap_alloc w _ z (p1.ok.xlt z (by simp [hz]))
        have hy:=boxV_in (t:=A.ty t) (k2.inV (fun _ _=>id) hsame p2)
        have hca:cellsAt (w.alloc (.cells cs.toArray t)) ⟨w.heap.size,0,none⟩ cs:=by
         have:=cells_new (w:=w) (cs:=cs) (t:=t) (r:=[])
         rwa [List.append_nil] at this
        have hob:InV (envOf (w.alloc (.cells cs.toArray t)) b2 G1 (w.heap.size :: (F' ++ []))) (.obox (boxV (A.ty t) y)) [.pointer (some ⟨w.heap.size,0,none⟩)] (w.heap.size :: F'):=by
         unfold InV
         exact ⟨_,cs,F',rfl,hy,hca,rfl,by simp [envOf],unfz_new⟩
        obtain ⟨u1,u2,u3,u4⟩:=unused_iff hun
        obtain ⟨g1,g2⟩:=CoreX.add (F:=w.heap.size :: F') (X:=[]) k1 u1 u3 hob u4
        have hs2:=(hs1.go0 k2).goes g2 (fun s hs' hst=>u2 (hst ▸ hs'))
        have hb:lookB (setB b2 e (.obox (boxV (A.ty t) y))) e=some (.obox (boxV (A.ty t) y)):=by rw [lookB_set]; simp
        have hg:(fun q=>if q=e then some ([Value.pointer (some ⟨w.heap.size,0,none⟩)],w.heap.size :: F') else G1 q) e=some ([Value.pointer (some ⟨w.heap.size,0,none⟩)],w.heap.size :: F'):=by simp
        have hv1:Val (envOf (w.alloc (.cells cs.toArray t)) (setB b2 e (.obox (boxV (A.ty t) y))) (fun q=>if q=e then some ([Value.pointer (some ⟨w.heap.size,0,none⟩)],w.heap.size :: F') else G1 q) []) (.ptr e [0]) (.pointer (some ⟨w.heap.size,0,none⟩)) []:=by
         have:=alias_val (E:=envOf (w.alloc (.cells cs.toArray t)) (setB b2 e (.obox (boxV (A.ty t) y))) (fun q=>if q=e then some ([Value.pointer (some ⟨w.heap.size,0,none⟩)],w.heap.size :: F') else G1 q) []) (s:=e) hb hg (p:=[]) (v:=.obox (boxV (A.ty t) y)) (L:=.reg [Value.pointer (some ⟨w.heap.size,0,none⟩)]) (u:=.pointer (some ⟨w.heap.size,0,none⟩)) (by simp [locF]) ⟨[],by simp⟩ (g2.inV (fun s hs' hst=>u4 (hst ▸ hs')) (fun b _=>rfl) hob) rfl
         exact this
        have hisA:isA (boxV (A.ty t) y)=true:=by
         have h1:=inl_isA' hin
         cases y <;> simp [isA] at h1 ⊢ <;> (cases hA:A.ty t <;> simp [boxV,ownNil,isA])
        have hv2:Val (envOf (w.alloc (.cells cs.toArray t)) (setB b2 e (.obox (boxV (A.ty t) y))) (fun q=>if q=e then some ([Value.pointer (some ⟨w.heap.size,0,none⟩)],w.heap.size :: F') else G1 q) []) (alias e [0] (boxV (A.ty t) y)) (a.tmps.getD u0 undef) []:=by
         refine alias_val (E:=envOf (w.alloc (.cells cs.toArray t)) (setB b2 e (.obox (boxV (A.ty t) y))) (fun q=>if q=e then some ([Value.pointer (some ⟨w.heap.size,0,none⟩)],w.heap.size :: F') else G1 q) []) (s:=e) hb hg (p:=[0]) (v:=boxV (A.ty t) y) (cs:=cs) (L:=.mem ⟨w.heap.size,0,none⟩) (by simp [locF,Where.head]) hca (g2.inV (fun s hs' hst=>u4 (hst ▸ by simpa [sites] using hs')) (fun b _=>rfl) hy) ?_
         unfold asVal at q2 ⊢
         rw [hisA]
         simpa [isA,Act.eval] using q2
        have hs3:Slots (envOf (w.alloc (.cells cs.toArray t)) (setB b2 e (.obox (boxV (A.ty t) y))) (fun q=>if q=e then some ([Value.pointer (some ⟨w.heap.size,0,none⟩)],w.heap.size :: F') else G1 q) []) (setNth sl u0 (alias e [0] (boxV (A.ty t) y))) a:=by
         intro t'
         rw [slotL_set]
         split
         ·rename_i ht; rw [ht.1]; exact hv2
         ·exact hs2 t'
        have hrel:=Rel.put (d:=o.dst) g1.c hs3 (by rw [setNth_len']; exact hl) hd hpin hdst hv1
        have hrun:(execOp a.eval o).run P w=.ok (.value (.pointer (some ⟨w.heap.size,0,none⟩))) (w.alloc (.cells cs.toArray t)):=by
         simp [execOp,h,Instr.box,newVar,newRow,q3]
        unfold Oper.wp
        rw [hrun]
        exact hK _ _ hrel
       ·cases hv
      ·cases hv
     ·cases hv
    ·cases hv
  ·cases hv
 ·cases hv
mutual
theorem like_ok:∀ (x y:V),likeV x y=true→vsz y=vsz x∧isA y=isA x∧(ownish y=true→ownish x=true)∧∀ t,shp t x=true→shp t y=true
 | .int k _,y,h=>by
  cases y <;> simp [likeV] at h
  exact ⟨rfl,rfl,id,fun t ht=>by cases t <;> simp [shp] at ht ⊢; rw [keq_eq ht,keq_eq h]; exact keq_refl _⟩
 | .bool _,y,h=>by
  cases y <;> simp [likeV] at h
  exact ⟨rfl,rfl,id,fun t ht=>by cases t <;> simp [shp] at ht ⊢⟩
 | .str _,y,h=>by
  cases y <;> simp [likeV] at h
  exact ⟨rfl,rfl,id,fun t ht=>by cases t <;> simp [shp] at ht ⊢⟩
 | .own e _,y,h=>by
  cases y <;> simp [likeV] at h
  rw [Ty.beq_eq _ _ h]
  exact ⟨rfl,rfl,id,fun t ht=>shp_own_any ht⟩
 | .arr n e _,y,h=>by
  cases y <;> simp [likeV,band_true] at h
  rw [← h.1,← Ty.beq_eq _ _ h.2]
  exact ⟨rfl,rfl,id,fun t ht=>shp_arr_any ht⟩
 | .agg vs,y,h=>by
  cases y with
  | agg xs=>
   unfold likeV at h
   obtain ⟨h1,h2⟩:=likes_ok vs xs h
   refine ⟨h1,rfl,id,fun t ht=>?_⟩
   cases t <;> simp only [shp] at ht ⊢ <;> first | exact h2 _ ht | cases ht
  | _=>simp [likeV] at h
 | .undef,y,h=>by simp [likeV] at h
 | .void,y,h=>by simp [likeV] at h
 | .rd _ _,y,h=>by simp [likeV] at h
 | .lst _ _,y,h=>by simp [likeV] at h
 | .nilsl,y,h=>by simp [likeV] at h
 | .emp _,y,h=>by simp [likeV] at h
 | .obox _,y,h=>by simp [likeV] at h
 | .rp _,y,h=>by simp [likeV] at h
 | .full _ _ _,y,h=>by simp [likeV] at h
 | .sub _ _ _ _ _,y,h=>by simp [likeV] at h
 | .ptr _ _,y,h=>by simp [likeV] at h
 | .fn _ _,y,h=>by simp [likeV] at h
 | .nilfn,y,h=>by simp [likeV] at h
 | .nilptr,y,h=>by simp [likeV] at h
 | .tup _,y,h=>by simp [likeV] at h
theorem likes_ok:∀ (xs ys:List V),likeVs xs ys=true→vszs ys=vszs xs∧∀ ts,shps ts xs=true→shps ts ys=true
 | [],ys,h=>by
  cases ys with
  | nil=>exact ⟨rfl,fun _ h=>h⟩
  | cons _ _=>simp [likeVs] at h
 | x :: xs,ys,h=>by
  cases ys with
  | nil=>simp [likeVs] at h
  | cons y ys=>
   unfold likeVs at h
   rw [band_true] at h
   obtain ⟨h1,_,_,h2⟩:=like_ok x y h.1
   obtain ⟨h3,h4⟩:=likes_ok xs ys h.2
   refine ⟨by simp [vszs,h1,h3],fun ts ht=>?_⟩
   cases ts with
   | nil=>simp [shps] at ht
   | cons t ts=>
    unfold shps at ht ⊢
    rw [band_true] at ht ⊢
    exact ⟨h2 t ht.1,h4 ts ht.2⟩
end
theorem eqP_ok:∀ {p q:List Nat} {c:List Cond},eqP p q=some c→(∀ k ∈ c,k.ok)→p=q
 | [],[],c,h,hk=>rfl
 | [],_ :: _,c,h,hk=>by simp [eqP] at h
 | _ :: _,[],c,h,hk=>by simp [eqP] at h
 | a :: p,b :: q,c,h,hk=>by
  simp only [eqP] at h
  split at h
  ·rename_i c' hc
   simp only [oj] at h
   subst h
   have h1:a≤b:=hk (.le a b) (by simp)
   have h2:b≤a:=hk (.le b a) (by simp)
   rw [eqP_ok hc (fun k hk'=>hk k (by simp [hk'])),Nat.le_antisymm h1 h2]
  ·cases h
mutual
theorem alC_ok {E:Env} {s:Nat} {c0:V} {rc:List Value} {F:List Nat} (hl:lookB E.bl s=some c0) (hg:E.G s=some (rc,F)):∀ (v x:V) {p:List Nat} {cs cx:List Value} {Fx:List Nat} {L:Where} {c:List Cond},
  alC s p v x=some c→(∀ k ∈ c,k.ok)→locF E.w c0 (.reg rc) p=some (x,L)→L.holds E.w cx→InV E x cx Fx→InV E v cs []→cs=cx∧isA v=isA x
 | .full t q e,x,p,cs,cx,Fx,L,c,h,hk,h1,h2,h3,h4=>by
  cases x <;> simp only [alC] at h <;> try (cases h; done)
  split at h
  ·rename_i hts
   have:=Nat.eq_of_beq_eq_true hts
   subst this
   have:=eqP_ok h hk
   subst this
   unfold InV at h4
   obtain ⟨_,_,h5⟩:=h4
   obtain ⟨u,g1,g2⟩:=h5 c0 rc F hl hg _ L h1 rfl
   unfold InV at h3
   obtain ⟨_,Ad,cap,hcs,_⟩:=h3
   rw [hcs] at h2
   rw [head_of h2] at g1
   simp only [oj] at g1
   rw [g2,hcs,g1]
   exact ⟨rfl,rfl⟩
  ·cases h
 | .int k n,x,p,cs,cx,Fx,L,c,h,hk,h1,h2,h3,h4=>by
  cases x <;> simp only [alC] at h <;> try (cases h; done)
  split at h
  ·rename_i hkk
   simp only [oj] at h
   subst h
   have he:n=_:=hk _ (List.mem_singleton.2 rfl)
   unfold InV at h3 h4
   rw [h3.1,h4.1,he,keq_eq hkk]
   exact ⟨rfl,rfl⟩
  ·cases h
 | .bool n,x,p,cs,cx,Fx,L,c,h,hk,h1,h2,h3,h4=>by
  cases x <;> simp only [alC] at h <;> try (cases h; done)
  simp only [oj] at h
  subst h
  have he:n=_:=hk _ (List.mem_singleton.2 rfl)
  unfold InV at h3 h4
  rw [h3.1,h4.1,he]
  exact ⟨rfl,rfl⟩
 | .agg vs,x,p,cs,cx,Fx,L,c,h,hk,h1,h2,h3,h4=>by
  cases x <;> simp only [alC] at h <;> try (cases h; done)
  rename_i xs
  unfold InV at h3 h4
  refine ⟨alCs_ok hl hg vs xs (L:=L) (j:=0) h hk (fun i x hi=>?_) h2 h3 h4,rfl⟩
  rw [loc_append,h1]
  simp [locF,hi]
 | .undef,x,p,cs,cx,Fx,L,c,h,hk,h1,h2,h3,h4=>by simp [alC] at h
 | .void,x,p,cs,cx,Fx,L,c,h,hk,h1,h2,h3,h4=>by simp [alC] at h
 | .str _,x,p,cs,cx,Fx,L,c,h,hk,h1,h2,h3,h4=>by simp [alC] at h
 | .arr _ _ _,x,p,cs,cx,Fx,L,c,h,hk,h1,h2,h3,h4=>by simp [alC] at h
 | .own _ _,x,p,cs,cx,Fx,L,c,h,hk,h1,h2,h3,h4=>by simp [alC] at h
 | .rd _ _,x,p,cs,cx,Fx,L,c,h,hk,h1,h2,h3,h4=>by simp [alC] at h
 | .lst _ _,x,p,cs,cx,Fx,L,c,h,hk,h1,h2,h3,h4=>by simp [alC] at h
 | .nilsl,x,p,cs,cx,Fx,L,c,h,hk,h1,h2,h3,h4=>by simp [alC] at h
 | .emp _,x,p,cs,cx,Fx,L,c,h,hk,h1,h2,h3,h4=>by simp [alC] at h
 | .obox _,x,p,cs,cx,Fx,L,c,h,hk,h1,h2,h3,h4=>by simp [alC] at h
 | .rp _,x,p,cs,cx,Fx,L,c,h,hk,h1,h2,h3,h4=>by simp [alC] at h
 | .sub _ _ _ _ _,x,p,cs,cx,Fx,L,c,h,hk,h1,h2,h3,h4=>by simp [alC] at h
 | .ptr _ _,x,p,cs,cx,Fx,L,c,h,hk,h1,h2,h3,h4=>by simp [alC] at h
 | .fn _ _,x,p,cs,cx,Fx,L,c,h,hk,h1,h2,h3,h4=>by simp [alC] at h
 | .nilfn,x,p,cs,cx,Fx,L,c,h,hk,h1,h2,h3,h4=>by simp [alC] at h
 | .nilptr,x,p,cs,cx,Fx,L,c,h,hk,h1,h2,h3,h4=>by simp [alC] at h
 | .tup _,x,p,cs,cx,Fx,L,c,h,hk,h1,h2,h3,h4=>by simp [alC] at h
theorem alCs_ok {E:Env} {s:Nat} {c0:V} {rc:List Value} {F:List Nat} (hl:lookB E.bl s=some c0) (hg:E.G s=some (rc,F)):∀ (vs xs:List V) {p:List Nat} {j:Nat} {cs cx:List Value} {Fx:List Nat} {L:Where} {c:List Cond},
  alCs s p j vs xs=some c→(∀ k ∈ c,k.ok)→(∀ i x,nth xs i=some x→locF E.w c0 (.reg rc) (p ++ [j + i])=some (x,L.shift (vszs (xs.take i))))→L.holds E.w cx→InVs E xs cx Fx→InVs E vs cs []→cs=cx
 | [],xs,p,j,cs,cx,Fx,L,c,h,hk,h1,h2,h3,h4=>by
  cases xs with
  | nil=>unfold InVs at h3 h4; rw [h3.1,h4.1]
  | cons _ _=>simp [alCs] at h
 | v :: vs,xs,p,j,cs,cx,Fx,L,c,h,hk,h1,h2,h3,h4=>by
  cases xs with
  | nil=>simp [alCs] at h
  | cons x xs=>
   simp only [alCs] at h
   split at h
   ·rename_i c1 e1
    split at h
    ·rename_i c2 e2
     simp only [oj] at h
     subst h
     obtain ⟨hk1,hk2⟩:=conds_cat hk
     unfold InVs at h3 h4
     obtain ⟨a1,a2,F1,F2,e3,e4,i1,i2⟩:=h3
     obtain ⟨b1,b2,K1,K2,e5,e6,j1,j2⟩:=h4
     obtain ⟨rfl,rfl⟩:=List.append_eq_nil_iff.1 e6.symm
     subst e3; subst e5
     have g0:=h1 0 x rfl
     have hsh0:L.shift 0=L:=by cases L <;> simp [Where.shift,Addr.add]
     simp only [Nat.add_zero,List.take_zero,vszs,hsh0] at g0
     have r1:=(alC_ok hl hg v x e1 hk1 (by rw [cat_eq]; exact g0) (holds_left h2) i1 j1).1
     have r2:=alCs_ok hl hg vs xs (L:=L.shift a1.length) e2 hk2 (fun i y hi=>by
      have:=h1 (i + 1) y (by simpa [nth] using hi)
      rw [shift_shift,InV_len x i1]
      simp only [List.take_succ_cons,vszs] at this
      rw [show j + 1 + i=j + (i + 1) by omega]
      exact this) (holds_right h2) i2 j2
     rw [r1,r2]
    ·cases h
   ·cases h
end
theorem alTop_ok {E:Env} {s:Nat} {c0:V} {rc:List Value} {F:List Nat} (hl:lookB E.bl s=some c0) (hg:E.G s=some (rc,F)) {v x:V} {p:List Nat} {cs cx:List Value} {Fx:List Nat} {L:Where} {c:List Cond} (hv:ioLoc v=some (s,p))
  (h:alTop s p v x=some c) (hk:∀ k ∈ c,k.ok) (h1:locF E.w c0 (.reg rc) p=some (x,L)) (h2:L.holds E.w cx) (h3:InV E x cx Fx) (h4:InV E v cs []):cs=cx∧isA v=isA x:=by
 unfold alTop at h
 split at h
 ·rename_i t q e
  simp only [ioLoc,oj,pj] at hv
  obtain ⟨rfl,rfl⟩:=hv
  split at h
  ·unfold InV at h4
   obtain ⟨_,_,h5⟩:=h4
   obtain ⟨u,g1,g2⟩:=h5 c0 rc F hl hg _ L h1 rfl
   unfold InV at h3
   obtain ⟨_,Ad,cap,hcs,_⟩:=h3
   rw [hcs] at h2
   rw [head_of h2] at g1
   simp only [oj] at g1
   rw [g2,hcs,g1]
   exact ⟨rfl,rfl⟩
  ·cases h
 ·exact alC_ok hl hg v x h hk h1 h2 h3 h4
theorem putIo_args {f:FuncId} {E E':Env} (hg:Goes E E' (fun _=>False)) {x v:V} {Fx:List Nat}:∀ {vs:List V} {i:Nat} {us:List Value},oneIo A f i vs=some v→Tup E vs us []→(∀ u,One E v u []→One E' x u Fx)→Args E' (fun j=>movesIn (A.mode f j)) i (putIo A f x i vs) us Fx
 | [],i,us,h,_,_=>by simp [oneIo] at h
 | y :: vs,i,us,h,⟨u,r,F1,F2,e1,e2,h1,h2⟩,hx=>by
  obtain ⟨rfl,rfl⟩:=List.append_eq_nil_iff.1 e2.symm
  subst e1
  have up:One E y u []→One E' y u []:=fun ⟨cs,i1,i2⟩=>⟨cs,hg.inV (fun _ _=>id) (fun b hb=>by cases hb) i1,i2⟩
  have other:movesIn (A.mode f i)=false→oneIo A f (i + 1) vs=some v→putIo A f x i (y :: vs)=y :: putIo A f x (i + 1) vs→Args E' (fun j=>movesIn (A.mode f j)) i (putIo A f x i (y :: vs)) (u :: r) Fx:=by
   intro hm ho hp
   rw [hp]
   exact ⟨u,r,[],Fx,rfl,rfl,up h1,fun _=>rfl,putIo_args hg ho h2 hx⟩
  cases hm:A.mode f i with
  | io=>
   simp only [oneIo,hm] at h
   simp only [putIo,hm]
   split at h
   ·cases h
   ·rename_i hany
    simp only [oj] at h
    subst h
    have rest:∀ {vs:List V} {j:Nat} {us:List Value},anyIo A f j vs=false→Tup E vs us []→Args E' (fun j=>movesIn (A.mode f j)) j vs us []:=by
     intro vs
     induction vs with
     | nil=>intro j us _ h; exact h
     | cons z vs ih=>
      rintro j us ha ⟨u',r',K1,K2,k1,k2,k3,k4⟩
      obtain ⟨rfl,rfl⟩:=List.append_eq_nil_iff.1 k2.symm
      obtain ⟨cs,i1,i2⟩:=k3
      refine ⟨u',r',[],[],k1,rfl,⟨cs,hg.inV (fun _ _=>id) (fun b hb=>by cases hb) i1,i2⟩,fun _=>rfl,ih ?_ k4⟩
      simp only [anyIo] at ha
      split at ha
      ·cases ha
      ·cases ha
      ·exact ha
    exact ⟨u,r,Fx,[],rfl,by simp,hx u h1,fun hf=>(by have hf':movesIn (A.mode f i)=false:=hf; rw [hm] at hf'; cases hf'),rest hany h2⟩
  | take=>simp only [oneIo,hm] at h; cases h
  | lend=>exact other (by rw [hm]; rfl) (by simpa only [oneIo,hm] using h) (by simp only [putIo,hm])
  | keep=>exact other (by rw [hm]; rfl) (by simpa only [oneIo,hm] using h) (by simp only [putIo,hm])
theorem oneOut_ok {f:FuncId} {E E':Env} {v y:V} {Fo:List Nat}:∀ {vs outs:List V} {i:Nat} {us:List Value},oneIo A f i vs=some v→oneOut A f i vs outs=some y→Tup E vs us []→Outs E' (fun j=>isIo (A.mode f j)) i outs us Fo→∃ u,One E v u []∧One E' y u Fo
 | [],outs,i,us,h,_,_,_=>by simp [oneIo] at h
 | z :: vs,[],i,us,h,h',_,_=>by simp [oneOut] at h'
 | z :: vs,o :: outs,i,us,h,h',⟨u,r,F1,F2,e1,e2,h1,h2⟩,⟨u',r',K1,K2,k1,k2,k3,k4,k5⟩=>by
  obtain ⟨rfl,rfl⟩:=List.append_eq_nil_iff.1 e2.symm
  rw [e1] at k1
  simp only [List.cons.injEq] at k1
  obtain ⟨rfl,rfl⟩:=k1
  have other:isIo (A.mode f i)=false→oneIo A f (i + 1) vs=some v→oneOut A f (i + 1) vs outs=some y→∃ u,One E v u []∧One E' y u Fo:=by
   intro hm ho hp
   have:=k4 hm
   subst this
   subst k2
   exact oneOut_ok ho hp h2 k5
  cases hm:A.mode f i with
  | io=>
   simp only [oneIo,hm] at h
   simp only [oneOut,hm,oj] at h'
   subst h'
   split at h
   ·cases h
   ·rename_i hany
    simp only [oj] at h
    subst h
    have rest:∀ {vs outs:List V} {j:Nat} {us:List Value} {K:List Nat},anyIo A f j vs=false→Tup E vs us []→Outs E' (fun j=>isIo (A.mode f j)) j outs us K→K=[]:=by
     intro vs
     induction vs with
     | nil=>
      rintro outs j us K _ ⟨rfl,_⟩ ho
      cases outs with
      | nil=>exact ho.2
      | cons o outs=>obtain ⟨_,_,_,_,q,_⟩:=ho; cases q
     | cons z vs ih=>
      rintro outs j us K ha ⟨u',r',L1,L2,l1,l2,l3,l4⟩ ho
      obtain ⟨rfl,rfl⟩:=List.append_eq_nil_iff.1 l2.symm
      simp only [anyIo] at ha
      split at ha
      ·cases ha
      ·cases ha
      ·rename_i hm' hm''
       cases outs with
       | nil=>exact ho.2
       | cons o outs=>
        obtain ⟨u2,r2,M1,M2,n1,n2,n3,n4,n5⟩:=ho
        rw [l1] at n1
        simp only [List.cons.injEq] at n1
        obtain ⟨rfl,rfl⟩:=n1
        have hf:isIo (A.mode f j)=false:=by
         cases hq:A.mode f j with
         | io=>exact absurd hq hm'
         | take=>rfl
         | lend=>rfl
         | keep=>rfl
        rw [n2,n4 hf,ih ha l4 n5]; rfl
    have:=rest hany h2 k5
    subst this
    rw [List.append_nil] at k2
    subst k2
    exact ⟨u,h1,k3 (by show isIo (A.mode f i)=true; rw [hm]; rfl)⟩
  | take=>simp only [oneIo,hm] at h; cases h
  | lend=>exact other (by rw [hm]; rfl) (by simpa only [oneIo,hm] using h) (by simpa only [oneOut,hm] using h')
  | keep=>exact other (by rw [hm]; rfl) (by simpa only [oneIo,hm] using h) (by simpa only [oneOut,hm] using h')
theorem oneIo_mem {f:FuncId}:∀ {vs:List V} {i:Nat} {v:V} {E:Env} {us:List Value},oneIo A f i vs=some v→Tup E vs us []→∃ u,One E v u []
 | [],i,v,E,us,h,_=>by simp [oneIo] at h
 | z :: vs,i,v,E,us,h,⟨u,r,F1,F2,e1,e2,h1,h2⟩=>by
  obtain ⟨rfl,rfl⟩:=List.append_eq_nil_iff.1 e2.symm
  simp only [oneIo] at h
  split at h
  ·split at h
   ·cases h
   ·simp only [oj] at h
    subst h
    exact ⟨u,h1⟩
  ·cases h
  ·exact oneIo_mem h h2
theorem lmin_le (a b:Nat):lmin a b≤a∧lmin a b≤b:=by
 unfold lmin
 cases h:Nat.ble a b with
 | true=>exact ⟨Nat.le_refl _,Nat.le_of_ble_eq_true h⟩
 | false=>
  have:¬ a≤b:=fun hn=>by rw [Nat.ble_eq_true_of_le hn] at h; cases h
  exact ⟨by show b≤a; omega,Nat.le_refl _⟩
theorem lmin_add (a b k:Nat):lmin (k + a) (k + b)=k + lmin a b:=by
 unfold lmin
 cases h:Nat.ble a b with
 | true=>rw [Nat.ble_eq_true_of_le (show k + a≤k + b by have:=Nat.le_of_ble_eq_true h; omega)]
 | false=>
  have h1:¬ a≤b:=fun hn=>by rw [Nat.ble_eq_true_of_le hn] at h; cases h
  cases h2:Nat.ble (k + a) (k + b) with
  | true=>exact absurd (Nat.le_of_ble_eq_true h2) (by omega)
  | false=>rfl
mutual
theorem depO_add (k:Nat):∀ (v:V),depO k v=k + depO 0 v
 | .agg vs=>by simp only [depO]; rw [depOs_add k vs]; rfl
 | .int _ _=>by simp [depO]
 | .bool _=>by simp [depO]
 | .str _=>by simp [depO]
 | .undef=>by simp [depO]
 | .void=>by simp [depO]
 | .arr _ _ _=>by simp [depO]
 | .own _ _=>by simp [depO]
 | .rd _ _=>by simp [depO]
 | .lst _ _=>by simp [depO]
 | .nilsl=>by simp [depO]
 | .emp _=>by simp [depO]
 | .obox _=>by simp [depO]
 | .rp _=>by simp [depO]
 | .full _ _ _=>by simp [depO]
 | .sub _ _ _ _ _=>by simp [depO]
 | .ptr _ _=>by simp [depO]
 | .fn _ _=>by simp [depO]
 | .nilfn=>by simp [depO]
 | .nilptr=>by simp [depO]
 | .tup _=>by simp [depO]
theorem depOs_add (k:Nat):∀ (vs:List V),depOs k vs=k + depOs 0 vs
 | []=>by simp [depOs]
 | v :: vs=>by simp only [depOs]; rw [depO_add k v,depOs_add k vs,lmin_add]
end
theorem depOs_nth:∀ {vs:List V} {j:Nat} {x:V},nth vs j=some x→depOs 0 vs≤depO 0 x
 | [],j,x,h=>by simp [nth] at h
 | v :: vs,0,x,h=>by
  simp only [nth,oj] at h
  subst h
  exact (lmin_le _ _).1
 | v :: vs,j + 1,x,h=>by
  simp only [nth] at h
  exact Nat.le_trans (lmin_le _ _).2 (depOs_nth h)
theorem like_nth:∀ {xs ys:List V} {j:Nat} {y:V},likeVs xs ys=true→nth ys j=some y→∃ x,nth xs j=some x∧likeV x y=true∧vszs (ys.take j)=vszs (xs.take j)
 | [],ys,j,y,h,hj=>by
  cases ys with
  | nil=>simp [nth] at hj
  | cons _ _=>simp [likeVs] at h
 | x :: xs,[],j,y,h,hj=>by simp [nth] at hj
 | x :: xs,y0 :: ys,0,y,h,hj=>by
  unfold likeVs at h
  rw [band_true] at h
  simp only [nth,oj] at hj
  subst hj
  exact ⟨x,rfl,h.1,rfl⟩
 | x :: xs,y0 :: ys,j + 1,y,h,hj=>by
  unfold likeVs at h
  rw [band_true] at h
  simp only [nth] at hj
  obtain ⟨x',h1,h2,h3⟩:=like_nth h.2 hj
  exact ⟨x',h1,h2,by simp only [List.take_succ_cons,vszs,h3,(like_ok x y0 h.1).1]⟩
theorem dep_loc {w w2:World}:∀ (x y:V),likeV x y=true→∀ {cs:List Value} {L:Where},cs.length=vsz x→L.holds w cs→L.holds w2 cs→∀ (q:List Nat),q.length<depO 0 x→∀ x' L',locF w2 y L q=some (x',L') →
  ∃ x0,locF w x L q=some (x0,L')∧(ownish x'=true→ownish x0=true∧L'.head w2=L'.head w):=by
 intro x y hlike cs L hlen h1 h2 q
 induction q generalizing x y cs L with
 | nil=>
  intro _ x' L' hl
  simp only [locF,oj,pj] at hl
  obtain ⟨rfl,rfl⟩:=hl
  refine ⟨x,rfl,fun ho=>⟨(like_ok x y hlike).2.2.1 ho,?_⟩⟩
  have hs:vsz x=1:=by
   have:=(like_ok x y hlike).1
   rw [← this]
   cases y <;> first | rfl | (simp [ownish] at ho)
  rw [hs] at hlen
  obtain ⟨v,rfl⟩:=List.length_eq_one_iff.1 hlen
  rw [head_of h1,head_of h2]
 | cons j q ih=>
  intro hq x' L' hl
  cases y with
  | agg ys=>
   cases x with
   | agg xs=>
    simp only [likeV] at hlike
    simp only [locF] at hl ⊢
    cases hj:nth ys j with
    | none=>rw [hj] at hl; cases hl
    | some y1=>
     rw [hj] at hl
     simp only at hl
     obtain ⟨x1,k1,k2,k3⟩:=like_nth hlike hj
     rw [k3] at hl
     rw [k1]
     simp only
     have hsz:=vszs_take k1
     simp only [vsz] at hlen
     refine ih x1 y1 k2 (cs:=(cs.drop (vszs (xs.take j))).take (vsz x1)) (by rw [List.length_take,List.length_drop]; omega) ?_ ?_ ?_ x' L' hl
     ·exact holds_chunk h1 (by rw [List.length_take,List.length_drop]; omega) (fun k hk=>by
       rw [List.length_take,List.length_drop] at hk
       rw [List.getElem?_take_of_lt (by omega),List.getElem?_drop])
     ·exact holds_chunk h2 (by rw [List.length_take,List.length_drop]; omega) (fun k hk=>by
       rw [List.length_take,List.length_drop] at hk
       rw [List.getElem?_take_of_lt (by omega),List.getElem?_drop])
     ·simp only [depO,List.length_cons] at hq
      have:=depOs_nth k1
      omega
   | _=>simp [likeV] at hlike
  | int k n=>simp [locF] at hl
  | bool b=>simp [locF] at hl
  | str b=>simp [locF] at hl
  | own e l=>cases x <;> simp [likeV] at hlike; simp [depO] at hq
  | arr n e l=>cases x <;> simp [likeV] at hlike; simp [depO] at hq
  | _=>cases x <;> simp [likeV] at hlike
theorem callIo1_sem {cl:Call} {fo:Operand} {g:FuncId} {caps:List V} (ho:o.op=.call cl) (hcal:cl.callee=.value fo) (hf:opd sl fo=.fn g caps)
  {ts:List Ty} (hnt:noTups (mapOpd sl cl.args.toList)=true) (hna:noAggs caps=true)
  {s:Nat} {p:List Nat} {vio c0 x y:V} (hone:oneIo A g 0 (cat (mapOpd sl cl.args.toList) caps)=some vio) (hloc:ioLoc vio=some (s,p)) (hl0:lookB b s=some c0) (hc0:allOwn c0=true) (hxo:allOwn x=true)
  {c1 c2 c3:List Cond} (hget:c0.get p=some (c1,x)) (hns:isIn (sitesB b) s=false) (hpath:pathVs s (depO (llen p) x) (depO (llen p) x) sl=true) (hal:alTop s p vio x=some c2)
  {ws:List V} {res:V} {outs:List V} (hp:prepLend A g (dropB b s) 0 ts (putIo A g x 0 (cat (mapOpd sl cl.args.toList) caps))=some (c3,ws)) (hk:∀ x ∈ cat c1 (cat c2 c3),x.ok)
  (hco:CallsOK P (fun i=>isIo (A.mode g i)) g ws res outs) (hout:oneOut A g 0 (cat (mapOpd sl cl.args.toList) caps) outs=some y) (how:resOwn res=true) (hoy:allOwn y=true) (hlike:likeV x y=true)
  (hpl:placeRes sl (setB b s (c0.set p y)) o.dst res=some (v,b1)):Semo P o sl b v b1:=by
 intro Pn w0 F0 a w hdst hr K Q hK
 obtain ⟨⟨G,hc,hs⟩,hl,hd,hpin⟩:=hr
 obtain ⟨k1,k3⟩:=hco
 obtain ⟨fn,j1,j2,j3⟩:=k1
 obtain ⟨hk1,hk23⟩:=conds_cat hk
 obtain ⟨hk2,hk3⟩:=conds_cat hk23
 have hfv:=opd_val hs fo
 rw [hf] at hfv
 have hfv':=(val_one rfl (by simp) (by simp)).1 hfv
 unfold InV at hfv'
 obtain ⟨vals,hfe,hcaps,_⟩:=hfv'
 simp only [List.cons.injEq,and_true] at hfe
 rw [cat_eq] at hp hone hout
 have hargs:Tup (envOf w b G []) (mapOpd sl cl.args.toList ++ caps) (cl.args.toList.map a.eval ++ vals.toList) []:=by
  have:=Args_append (opds_args (io:=fun j=>movesIn (A.mode g j)) (i:=0) hs hnt) (caps_args (i:=0 + (mapOpd sl cl.args.toList).length) hna hcaps)
  exact args_tup (by simpa using this)
 obtain ⟨rc,F,F1,g1,g2,g3,g4,g5⟩:=hc.ok.root s c0 hl0
 obtain ⟨Lx,i4⟩:=get_loc (envOf w b G []) p c0 rc F1 (.reg rc) c1 x g2 ⟨[],by simp⟩ hget hk1
 obtain ⟨csx,Fx,Fr,m1,m2,m3,m4,m5⟩:=hc.x.modifyN hl0 g1 i4
 have hnd:=(List.nodup_append.1 ((m3.nodup_iff).1 g4))
 have hFxF:∀ q ∈ Fx,q ∈ F:=fun q hq=>(m3.mem_iff).2 (by simp [hq])
 have arg:∀ u,One (envOf w b G []) vio u []→asVal x csx u:=by
  rintro u ⟨cs,r1,r2⟩
  obtain ⟨r3,r4⟩:=alTop_ok (E:=envOf w b G []) hl0 g1 hloc hal hk2 i4 m2 m1 r1
  rw [← r3]
  unfold asVal at r2 ⊢
  rw [← r4]
  exact r2
 obtain ⟨rc',F',Fc,d1,d2,d3,d4,d5⟩:=hc.x.drop hl0
 rw [g1] at d1
 simp only [oj,pj] at d1
 obtain ⟨rfl,rfl⟩:=d1
 have hargs2:=putIo_args (A:=A) (f:=g) (x:=x) (Fx:=Fx) d5 hone hargs (fun u hu=>⟨csx,own_env (by rfl) x hxo m1,arg u hu⟩)
 have htup:=(lent_ok (Y:=Fx) d4.ok (fun q hm=>by simp [(d2.mem_iff).2 (hFxF q hm)]) hargs2 hp hk3).1
 have hcalls:=k3 (fun _=>True) w (cl.args.toList.map a.eval ++ vals.toList) Fx htup hnd.2.1 (fun q hq=>(g5 q (hFxF q hq)).1)
 have hrun:(execOp a.eval o).run P w=.ok (.enter g (cl.args.toList.map a.eval ++ vals.toList).toArray) w:=by
  have hcf:=callFunc_run (P:=P) (w:=w) (args:=(cl.args.toList.map a.eval ++ vals.toList).toArray) j1 j2 j3
  have he:(cl.args.toList.map a.eval ++ vals.toList).toArray=cl.args.map a.eval ++ vals:=by apply Array.ext'; simp
  rw [he] at hcf ⊢
  simp [execOp,ho,resolve,hcal,hfe,Deferred.ofValue,invoke,hcf]
 unfold Oper.wp
 rw [hrun,Oper.upon_enter]
 refine Calls.mono hcalls ?_
 rintro e w2 ⟨v2,Fr2,Fo,rfl,q1,q2,q3,q4,q5,q6,q7,q8,q9⟩
 obtain ⟨u,hu,cs',o1,o2⟩:=oneOut_ok hone hout hargs q2
 obtain ⟨l1,l2,l3,l4⟩:=like_ok x y hlike
 have hcsy:cs'=csx:=by
  refine asVal_det o2 ?_
  have:=arg u hu
  unfold asVal at this ⊢
  rw [l2]
  exact this
 subst hcsy
 have hLb:∀ ad,Lx=.mem ad→w2.heap[ad.block]?=w.heap[ad.block]?:=by
  intro ad had
  rcases m4 with ⟨a',ha',hin⟩ | ⟨ds,hds⟩
  ·rw [had] at ha'; cases ha'
   have hmF:ad.block ∈ F:=(m3.mem_iff).2 (by simp [hin])
   exact q5 _ (g5 _ hmF).1 (fun hx=>hnd.2.2 _ hin _ hx rfl)
  ·rw [had] at hds; cases hds
 have hmem:∀ q,q<w.heap.size→q ∉ Fx→(∀ a,Lx=.mem a→q ≠ a.block)→w2.heap[q]?=w.heap[q]?:=fun q hq hx _=>q5 q hq hx
 have hhead:Lx.head w2=Lx.head w:=by
  cases Lx with
  | reg ds=>rfl
  | mem ad=>exact cell_of_block (hLb ad rfl)
 obtain ⟨t1,t2,t3⟩:=m5 w2 y cs' Fo Fr2 (fun t=>t=s) (fun _ h=>h) (fun _ t ct hct hm=>not_isIn hns (mem_sitesB hct hm))
  l1 (fun _=>l4) q6 (fun q hq hx _ hne=>hmem q hq hx hne) (fun _ _=>.inr (.inr trivial))
  (by
   cases Lx with
   | reg ds=>trivial
   | mem ad=>
    intro bb hbb hsp
    have hblk:=hLb ad rfl
    rw [← hbb] at hblk
    exact ⟨fun _=>cell_of_block hblk,frozen_of_block hblk,fun ⟨z,hz⟩=>⟨z,by rw [cell_of_block hblk]; exact hz⟩⟩)
  (holds_keep m2 hLb) (fun _=>rfl)
  ((List.perm_append_comm.nodup_iff).1 q3)
  (by
   intro q hq
   have:=q4 q (by
    rcases List.mem_append.1 hq with h | h
    ·exact List.mem_append.2 (.inr h)
    ·exact List.mem_append.2 (.inl h))
   exact ⟨this.1,this.2.elim .inl (fun h=>.inr (.inr h))⟩)
  (fun h=>absurd rfl h) q7 q8 q9 hmem
  (fun _=>own_env (by rfl) y hoy o1) (fun _=>own_env (by rfl) y hoy o1)
 have hs2:=slots_short (m:=depO (llen p) x) (n:=depO (llen p) x) t2 (by
  intro c' rc2 F2 hl' hg'
  simp only [envOf,lookB_set,if_true,oj,pj] at hl' hg'
  obtain ⟨rfl,_⟩:=hg'
  subst hl'
  have base:∀ al,LocN al (depO 0 x) w w2 x y Lx:=by
   intro al q hq x' L' hlq
   obtain ⟨x1,z1,z2⟩:=dep_loc x y hlike (InV_len _ m1) m2 (holds_keep m2 hLb) q hq x' L' hlq
   exact ⟨x1,z1,fun _=>z2⟩
  exact ⟨c0,F,hl0,g1,(t3 false _ (base _)).mono (by rw [depO_add,llen_eq]; omega),(t3 true _ (base _)).mono (by rw [depO_add,llen_eq]; omega)⟩) hpath hs
 obtain ⟨G',s1,s2,s3⟩:=placeRes_ok (E:=calleeEnv (fun _=>True) w2 (Fr2 ++ Fo)) t1 hs2 rfl q1 how hpl
 exact hK _ _ (Rel.put s1 s2 hl hd hpin hdst s3)
end
end Go.Rai
namespace Go.Rai
variable [Inhabited Kset]
theorem lookB_app (b b':BL) (s:Nat):lookB (b ++ b') s=match lookB b s with | some x=>some x | none=>lookB b' s:=by
 induction b with
 | nil=>simp [lookB]
 | cons x r ih=>
  obtain ⟨k,u⟩:=x
  simp only [List.cons_append,lookB]
  split
  ·rfl
  ·exact ih
theorem look_dropAll:∀ {K:List Nat} {b:BL} {s:Nat},lookB (dropAll b K) s=if s ∈ K then none else lookB b s
 | [],b,s=>by simp [dropAll]
 | t :: K,b,s=>by
  simp only [dropAll,look_dropAll (K:=K),lookB_drop]
  by_cases h:s=t
  ·subst h; simp
  ·simp [h]
theorem look_over {b b':BL} {K:List Nat} (h:∀ s,s ∉ K→lookB b' s=none) (s:Nat):lookB (over b K b') s=if s ∈ K then lookB b' s else lookB b s:=by
 unfold over
 rw [cat_eq,lookB_app,look_dropAll]
 by_cases hs:s ∈ K
 ·simp [hs]
 ·simp only [hs,if_false,h s hs]
  cases lookB b s <;> rfl
theorem off_keys {b:BL} {s:Nat} (h:s ∉ keys b):lookB b s=none:=by
 cases hl:lookB b s with
 | none=>rfl
 | some c=>exact absurd (look_keys hl) h
structure AgK (K:List Nat) (b b':BL):Prop where
 on:∀ s,s ∈ K→lookB b' s=lookB b s
 off:∀ s,s ∉ K→lookB b s=none
structure StK (K:List Nat) (b b1:BL):Prop where
 look:∀ s,s ∉ K→lookB b1 s=lookB b s
 names:∀ s,s ∈ sitesB b1→s ∈ sitesB b
theorem StK.refl {K:List Nat} {b:BL}:StK K b b:=⟨fun _ _=>rfl,fun _ h=>h⟩
theorem StK.trans {K:List Nat} {b b1 b2:BL} (h:StK K b b1) (h':StK K b1 b2):StK K b b2:=
 ⟨fun s hs=>(h'.look s hs).trans (h.look s hs),fun s hs=>h.names s (h'.names s hs)⟩
theorem AgK.get {K:List Nat} {b b':BL} (h:AgK K b b') {s:Nat} {c:V} (hl:lookB b s=some c):s ∈ K∧lookB b' s=some c:=by
 by_cases hs:s ∈ K
 ·exact ⟨hs,by rw [h.on s hs]; exact hl⟩
 ·rw [h.off s hs] at hl; cases hl
theorem AgK.drop {K:List Nat} {b b':BL} (h:AgK K b b') {s:Nat} (hs:s ∈ K):AgK K (dropB b s) (dropB b' s)∧StK K b' (dropB b' s):=by
 refine ⟨⟨fun t ht=>?_,fun t ht=>?_⟩,fun t ht=>?_,fun t ht=>sitesB_drop ht⟩
 ·rw [lookB_drop,lookB_drop,h.on t ht]
 ·rw [lookB_drop,h.off t ht]; split <;> rfl
 ·rw [lookB_drop,if_neg]; rintro rfl; exact ht hs
theorem AgK.set {K:List Nat} {b b':BL} (h:AgK K b b') {s:Nat} (hs:s ∈ K) {x:V} (hx:∀ t,t ∈ sites x→t ∈ sitesB b'):AgK K (setB b s x) (setB b' s x)∧StK K b' (setB b' s x):=by
 refine ⟨⟨fun t ht=>?_,fun t ht=>?_⟩,fun t ht=>?_,fun t ht=>?_⟩
 ·rw [lookB_set,lookB_set,h.on t ht]
 ·rw [lookB_set,if_neg (by rintro rfl; exact ht hs),h.off t ht]
 ·rw [lookB_set,if_neg]; rintro rfl; exact ht hs
 ·exact (sitesB_set ht).elim id (hx t)
theorem takeAt_k {K:List Nat} {b b' b1:BL} {s:Nat} {p:List Nat} {x:V} (h:takeAt b s p=some (x,b1)) (hK:AgK K b b'):∃ b1',takeAt b' s p=some (x,b1')∧AgK K b1 b1'∧StK K b' b1':=by
 unfold takeAt at h ⊢
 split at h
 ·rename_i c hc
  obtain ⟨hs,hc'⟩:=hK.get hc
  rw [hc']
  simp only
  split at h
  ·simp only [oj,pj] at h
   obtain ⟨rfl,rfl⟩:=h
   exact ⟨_,rfl,(hK.drop hs).1,(hK.drop hs).2⟩
  ·split at h
   ·rename_i y hg
    split at h
    ·rename_i hb
     simp only [oj,pj] at h
     obtain ⟨rfl,rfl⟩:=h
     have hx:∀ t,t ∈ sites (c.set p .undef)→t ∈ sitesB b':=by
      intro t ht
      rcases sites_set ht with ht | ht
      ·exact mem_sitesB hc' ht
      ·simp [sites] at ht
     exact ⟨_,rfl,(hK.set hs hx).1,(hK.set hs hx).2⟩
    ·cases h
   ·cases h
 ·cases h
theorem inl_k {K:List Nat}:∀ (n:Nat),(∀ {b b' b1:BL} {v w:V} {c:List Cond},inl n b v=some (c,w,b1)→AgK K b b'→∃ b1',inl n b' v=some (c,w,b1')∧AgK K b1 b1'∧StK K b' b1') ∧
  (∀ {b b' b1:BL} {vs ws:List V} {c:List Cond},inls n b vs=some (c,ws,b1)→AgK K b b'→∃ b1',inls n b' vs=some (c,ws,b1')∧AgK K b1 b1'∧StK K b' b1')
 | 0=>⟨fun h=>by simp [inl] at h,fun h=>by simp [inls] at h⟩
 | n + 1=>by
  obtain ⟨ih1,ih2⟩:=inl_k (K:=K) n
  constructor
  ·intro b b' b1 v w c h hK
   have rest:some (([]:List Cond),v,b)=some (c,w,b1)→∃ b1',some (([]:List Cond),v,b')=some (c,w,b1')∧AgK K b1 b1'∧StK K b' b1':=by
    intro h
    simp only [oj,pj] at h
    obtain ⟨rfl,rfl,rfl⟩:=h
    exact ⟨b',rfl,hK,StK.refl⟩
   cases v with
   | full s p e=>
    simp only [inl] at h ⊢
    split at h
    ·rename_i e1 l b2 ht
     simp only [oj,pj] at h
     obtain ⟨rfl,rfl,rfl⟩:=h
     obtain ⟨b1',k1,k2,k3⟩:=takeAt_k ht hK
     exact ⟨b1',by rw [k1],k2,k3⟩
    ·rename_i e1 vs b2 ht
     obtain ⟨b2',k1,k2,k3⟩:=takeAt_k ht hK
     split at h
     ·rename_i c1 ws b3 hi
      obtain ⟨b3',m1,m2,m3⟩:=ih2 hi k2
      split at h
      ·rename_i hb
       simp only [oj,pj] at h
       obtain ⟨rfl,rfl,rfl⟩:=h
       exact ⟨b3',by rw [k1]; simp only [m1,hb],m2,k3.trans m3⟩
      ·cases h
     ·cases h
    ·cases h
   | sub s p o l e=>
    simp only [inl] at h ⊢
    split at h
    ·rename_i e1 l1 b2 ht
     obtain ⟨b1',k1,k2,k3⟩:=takeAt_k ht hK
     split at h
     ·rename_i hb
      simp only [oj,pj] at h
      obtain ⟨rfl,rfl,rfl⟩:=h
      exact ⟨b1',by rw [k1]; simp only [hb],k2,k3⟩
     ·cases h
    ·cases h
   | ptr s p=>
    simp only [inl] at h ⊢
    split at h
    ·split at h
     ·rename_i x b2 ht
      obtain ⟨b2',k1,k2,k3⟩:=takeAt_k ht hK
      split at h
      ·rename_i c1 y b3 hi
       simp only [oj,pj] at h
       obtain ⟨rfl,rfl,rfl⟩:=h
       obtain ⟨b3',m1,m2,m3⟩:=ih1 hi k2
       exact ⟨b3',by rw [k1]; simp only [m1],m2,k3.trans m3⟩
      ·cases h
     ·cases h
    ·cases h
   | agg vs=>
    simp only [inl] at h ⊢
    split at h
    ·rename_i c1 ws b3 hi
     simp only [oj,pj] at h
     obtain ⟨rfl,rfl,rfl⟩:=h
     obtain ⟨b3',m1,m2,m3⟩:=ih2 hi hK
     exact ⟨b3',by rw [m1],m2,m3⟩
    ·cases h
   | tup vs=>
    simp only [inl] at h ⊢
    split at h
    ·rename_i c1 ws b3 hi
     simp only [oj,pj] at h
     obtain ⟨rfl,rfl,rfl⟩:=h
     obtain ⟨b3',m1,m2,m3⟩:=ih2 hi hK
     exact ⟨b3',by rw [m1],m2,m3⟩
    ·cases h
   | fn f vs=>
    simp only [inl] at h ⊢
    split at h
    ·rename_i c1 ws b3 hi
     simp only [oj,pj] at h
     obtain ⟨rfl,rfl,rfl⟩:=h
     obtain ⟨b3',m1,m2,m3⟩:=ih2 hi hK
     exact ⟨b3',by rw [m1],m2,m3⟩
    ·cases h
   | obox x=>
    simp only [inl] at h ⊢
    split at h
    ·rename_i c1 ws b3 hi
     simp only [oj,pj] at h
     obtain ⟨rfl,rfl,rfl⟩:=h
     obtain ⟨b3',m1,m2,m3⟩:=ih1 hi hK
     exact ⟨b3',by rw [m1],m2,m3⟩
    ·cases h
   | lst e vs=>simp only [inl] at h; cases h
   | undef=>simp only [inl] at h; cases h
   | void=>simp only [inl] at h; cases h
   | _=>simp only [inl] at h ⊢; exact rest h
  ·intro b b' b1 vs ws c h hK
   cases vs with
   | nil=>
    simp only [inls,oj,pj] at h ⊢
    obtain ⟨rfl,rfl,rfl⟩:=h
    exact ⟨b',⟨rfl,rfl,rfl⟩,hK,StK.refl⟩
   | cons v vs=>
    simp only [inls] at h ⊢
    split at h
    ·rename_i c1 w b2 h1
     obtain ⟨b2',k1,k2,k3⟩:=ih1 h1 hK
     split at h
     ·rename_i c2 ws2 b3 h2
      simp only [oj,pj] at h
      obtain ⟨rfl,rfl,rfl⟩:=h
      obtain ⟨b3',m1,m2,m3⟩:=ih2 h2 k2
      exact ⟨b3',by simp only [k1,m1],m2,k3.trans m3⟩
     ·cases h
    ·cases h
theorem prepIo_k {A:Ann} {f:FuncId} {K:List Nat}:∀ {vs ws:List V} {i:Nat} {b b' b1:BL} {c:List Cond},prepIo A f i b vs=some (c,ws,b1)→AgK K b b'→∃ b1',prepIo A f i b' vs=some (c,ws,b1')∧AgK K b1 b1'∧StK K b' b1'
 | [],ws,i,b,b',b1,c,h,hK=>by
  simp only [prepIo,oj,pj] at h ⊢
  obtain ⟨rfl,rfl,rfl⟩:=h
  exact ⟨b',⟨rfl,rfl,rfl⟩,hK,StK.refl⟩
 | v :: vs,ws,i,b,b',b1,c,h,hK=>by
  have go:∀ (x:BL→G (V × BL)),(∀ {c w b1},x b=some (c,w,b1)→∃ b1',x b'=some (c,w,b1')∧AgK K b1 b1'∧StK K b' b1') →
    (match x b with
    | some (c,w,b')=>match prepIo A f (i + 1) b' vs with
     | some (c',ws,b'')=>some ((cat c c'),w :: ws,b'')
     | none=>none
    | none=>none)=some (c,ws,b1)→∃ b1',(match x b' with
    | some (c,w,b')=>match prepIo A f (i + 1) b' vs with
     | some (c',ws,b'')=>some ((cat c c'),w :: ws,b'')
     | none=>none
    | none=>none)=some (c,ws,b1')∧AgK K b1 b1'∧StK K b' b1':=by
   intro x hx h
   split at h
   ·rename_i c1 w b2 h1
    obtain ⟨b2',k1,k2,k3⟩:=hx h1
    split at h
    ·rename_i c2 ws2 b3 h2
     simp only [oj,pj] at h
     obtain ⟨rfl,rfl,rfl⟩:=h
     obtain ⟨b3',m1,m2,m3⟩:=prepIo_k h2 k2
     exact ⟨b3',by simp only [k1,m1],m2,k3.trans m3⟩
    ·cases h
   ·cases h
  have still:∀ {c w b1},(some (([]:List Cond),v,b):G (V × BL))=some (c,w,b1)→∃ b1',(some (([]:List Cond),v,b'):G (V × BL))=some (c,w,b1')∧AgK K b1 b1'∧StK K b' b1':=by
   intro c w b1 h
   simp only [oj,pj] at h
   obtain ⟨rfl,rfl,rfl⟩:=h
   exact ⟨b',rfl,hK,StK.refl⟩
  simp only [prepIo] at h ⊢
  cases hm:A.mode f i with
  | lend=>simp only [hm] at h ⊢; exact go (fun b=>some ([],v,b)) still h
  | keep=>simp only [hm] at h ⊢; exact go (fun b=>some ([],v,b)) still h
  | io=>simp only [hm] at h ⊢; exact go (fun b=>inl 9 b v) (fun h=>(inl_k 9).1 h hK) h
  | take=>simp only [hm] at h ⊢; exact go (fun b=>inl 9 b v) (fun h=>(inl_k 9).1 h hK) h
theorem ioRoot_k {K:List Nat} {b b':BL} (hK:AgK K b b') {v:V} (h:ioRoot b v=true):ioRoot b' v=true∧(∀ s p e,v=.full s p e→s ∈ K)∧(∀ s p,v=.ptr s p→s ∈ K):=by
 unfold ioRoot at h ⊢
 split at h
 ·rename_i s p e
  split at h
  ·split at h
   ·rename_i hl
    obtain ⟨h1,h2⟩:=hK.get hl
    exact ⟨by rw [h2],(fun s' p' e' he=>by cases he; exact h1),(fun s' p' he=>by cases he)⟩
   ·rename_i hl
    obtain ⟨h1,h2⟩:=hK.get hl
    exact ⟨by rw [h2],(fun s' p' e' he=>by cases he; exact h1),(fun s' p' he=>by cases he)⟩
   ·cases h
  ·cases h
 ·rename_i s p
  split at h
  ·split at h
   ·rename_i hl
    obtain ⟨h1,h2⟩:=hK.get hl
    exact ⟨by rw [h2],(fun s' p' e' he=>by cases he),(fun s' p' he=>by cases he; exact h1)⟩
   ·cases h
  ·cases h
 ·cases h
theorem ioRoots_k {A:Ann} {f:FuncId} {K:List Nat} {b b':BL} (hK:AgK K b b'):∀ {vs:List V} {i:Nat},ioRoots A f b i vs=true→ioRoots A f b' i vs=true∧(∀ s,s ∈ ioF A f i vs→s ∈ K)∧(∀ s,s ∈ ioP A f i vs→s ∈ K)
 | [],i,h=>⟨rfl,fun s hs=>(by simp [ioF] at hs),fun s hs=>(by simp [ioP] at hs)⟩
 | v :: vs,i,h=>by
  simp only [ioRoots,ioF,ioP] at h ⊢
  cases hm:A.mode f i with
  | io=>
   simp only [hm] at h ⊢
   rw [band_true] at h
   obtain ⟨k1,k2,k3⟩:=ioRoot_k hK h.1
   obtain ⟨m1,m2,m3⟩:=ioRoots_k hK h.2
   refine ⟨by rw [k1,m1]; rfl,fun s hs=>?_,fun s hs=>?_⟩
   ·split at hs
    ·rcases List.mem_cons.1 hs with rfl | hs
     ·exact k2 _ _ _ rfl
     ·exact m2 s hs
    ·exact m2 s hs
   ·split at hs
    ·rcases List.mem_cons.1 hs with rfl | hs
     ·exact k3 _ _ rfl
     ·exact m3 s hs
    ·exact m3 s hs
  | lend=>simp only [hm] at h ⊢; exact ioRoots_k hK h
  | take=>simp only [hm] at h ⊢; exact ioRoots_k hK h
  | keep=>simp only [hm] at h ⊢; exact ioRoots_k hK h
theorem free_k {K:List Nat} {b b':BL} (hK:AgK K b b') {s:Nat} (hs:s ∈ K) (hn:s ∉ sitesB b') (h:bor (isIn (sitesB b) s) (match lookB b s with | some _=>true | none=>false)=false) :
  bor (isIn (sitesB b') s) (match lookB b' s with | some _=>true | none=>false)=false:=by
 rw [bor_false] at h ⊢
 refine ⟨?_,?_⟩
 ·cases hi:isIn (sitesB b') s with
  | false=>rfl
  | true=>exact absurd (isIn_mem.1 hi) hn
 ·rw [hK.on s hs]; exact h.2
theorem reput_k {K:List Nat} {b b' b1:BL} {v x:V} (h:reput b v x=some b1) (hK:AgK K b b') (hx:sites x=[]) (hf:∀ s p e,v=.full s p e→s ∈ K∧s ∉ sitesB b') (hp:∀ s p,v=.ptr s p→s ∈ K∧s ∉ sitesB b') :
  ∃ b1',reput b' v x=some b1'∧AgK K b1 b1'∧StK K b' b1':=by
 unfold reput at h ⊢
 split at h
 ·rename_i s p e
  obtain ⟨hs,hn⟩:=hf _ _ _ rfl
  split at h
  ·split at h
   ·rename_i e1 l
    split at h
    ·rename_i hb
     simp only [oj] at h
     subst h
     have hx':∀ t,t ∈ sites (V.own e1 l)→t ∈ sitesB b':=fun t ht=>by simp [sites] at ht
     split
     ·exact ⟨_,rfl,(hK.set hs hx').1,(hK.set hs hx').2⟩
     ·rename_i ht
      exact absurd (ht.symm.trans (free_k hK hs hn hb)) (by simp)
    ·cases h
   ·cases h
  ·cases h
 ·rename_i s p
  obtain ⟨hs,hn⟩:=hp _ _ rfl
  split at h
  ·split at h
   ·rename_i y
    split at h
    ·rename_i hb
     simp only [oj] at h
     subst h
     have hx':∀ t,t ∈ sites (V.obox y)→t ∈ sitesB b':=fun t ht=>by rw [hx] at ht; cases ht
     split
     ·exact ⟨_,rfl,(hK.set hs hx').1,(hK.set hs hx').2⟩
     ·rename_i ht
      exact absurd (ht.symm.trans (free_k hK hs hn hb)) (by simp)
    ·cases h
   ·cases h
  ·cases h
 ·cases h
theorem reputAll_k {A:Ann} {f:FuncId} {kp:Bool} {K:List Nat}:∀ {vs xs:List V} {i:Nat} {b b' b1:BL},reputAll A kp f i b vs xs=some b1→AgK K b b'→(∀ s,s ∈ ioF A f i vs→s ∈ K∧s ∉ sitesB b')→(∀ s,s ∈ ioP A f i vs→s ∈ K∧s ∉ sitesB b') →
  ∃ b1',reputAll A kp f i b' vs xs=some b1'∧AgK K b1 b1'∧StK K b' b1'
 | [],[],i,b,b',b1,h,hK,_,_=>by
  simp only [reputAll,oj] at h ⊢
  subst h
  exact ⟨b',rfl,hK,StK.refl⟩
 | v :: vs,[],i,b,b',b1,h,_,_,_=>by simp [reputAll] at h
 | [],x :: xs,i,b,b',b1,h,_,_,_=>by simp [reputAll] at h
 | v :: vs,x :: xs,i,b,b',b1,h,hK,hf,hp=>by
  simp only [reputAll,ioF,ioP] at h hf hp ⊢
  cases hm:A.mode f i with
  | io=>
   simp only [hm] at h hf hp ⊢
   split at h
   ·rename_i hb
    have hx:sites x=[]:=by
     rw [bor_true,band_true] at hb
     rcases hb with hb | hb
     ·exact own_sites x hb
     ·exact kept_site hb.2
    split at h
    ·rename_i b2 hr
     obtain ⟨b2',k1,k2,k3⟩:=reput_k hr hK hx (fun s p e he=>by subst he; exact hf s (by simp)) (fun s p he=>by subst he; exact hp s (by simp))
     have up:∀ {s:Nat},s ∈ K∧s ∉ sitesB b'→s ∈ K∧s ∉ sitesB b2':=fun q=>⟨q.1,fun hm=>q.2 (k3.names _ hm)⟩
     obtain ⟨b3',m1,m2,m3⟩:=reputAll_k h k2 (fun s hs=>up (hf s (by split <;> simp [hs]))) (fun s hs=>up (hp s (by split <;> simp [hs])))
     exact ⟨b3',by simp only [hb,k1,m1],m2,k3.trans m3⟩
    ·cases h
   ·cases h
  | lend=>simp only [hm] at h hf hp ⊢; exact reputAll_k h hK hf hp
  | take=>simp only [hm] at h hf hp ⊢; exact reputAll_k h hK hf hp
  | keep=>simp only [hm] at h hf hp ⊢; exact reputAll_k h hK hf hp
section
variable {P:Program} {A:Ann} {w w' w0:World} {F0:List Nat} {sl sl':List V} {a:Act} {b b' b1 bl:BL} {G:GT} {o:Oper} {v:V} {c:List Cond}
def LocQ (P:Program) (o:Oper) (sl:List V) (b:BL) (v:V) (b1:BL) (rd T W N L qf qp:List Nat):Prop:=
 (∀ s,s ∉ W→lookB b1 s=lookB b s) ∧
 ∀ sl' b',(∀ t ∈ rd,slotL sl' t=slotL sl t)→AgreeB b b' T→SimB b b' L→(∀ s ∈ N,s ∉ sitess sl'∧s ∉ sitesB b')→ioVs qf qp sl'=true→(∀ s,s ∈ qf ∨ s ∈ qp→s ∉ sitesB b') →
  ∃ b1',Semo P o sl' b' v b1'∧(∀ s ∈ W,lookB b1' s=lookB b1 s)∧(∀ s,s ∉ W→lookB b1' s=lookB b' s)
theorem LocL.q {rd T W N L qf qp:List Nat} (h:LocL P o sl b v b1 rd T W N L):LocQ P o sl b v b1 rd T W N L qf qp:=
 ⟨h.1,fun sl' b' h1 h2 h3 h4 _ _=>h.2 sl' b' h1 h2 h3 h4⟩
theorem prepLend_over {g:FuncId} {bR bW b2 b1':BL} {K:List Nat} {ts:List Ty} {vs:List V} {r:List Cond × List V} (hR:∀ s,s ∉ K→∀ c,lookB bR s=some c→lookB b1' s=some c) (hK:AgK K b2 b1')
  (h:prepLend A g (over bR K b2) 0 ts vs=some r):prepLend A g b1' 0 ts vs=some r:=by
 refine prepLend_sub (fun s c hc=>?_) h
 rw [look_over hK.off] at hc
 split at hc
 ·rename_i hs; rw [hK.on s hs]; exact hc
 ·rename_i hs; exact hR s hs c hc
theorem callD_loc {cl:Call} {fo:Operand} {g:FuncId} {caps:List V} (ho:o.op=.call cl) (hcal:cl.callee=.value fo) (hf:opd sl fo=.fn g caps)
  {ts:List Ty} (hnt:noTups (mapOpd sl cl.args.toList)=true) (hna:noAggs caps=true) {bW bR b2 b3:BL} (hW:SubB bW b) (hR:SubB bR b)
  (hroots:ioRoots A g bW 0 (cat (mapOpd sl cl.args.toList) caps)=true) {ws us:List V} {c c':List Cond} {res:V} {outs:List V}
  (hp:prepIo A g 0 bW (cat (mapOpd sl cl.args.toList) caps)=some (c,ws,b2)) (hp2:prepLend A g (over bR (keys bW) b2) 0 ts ws=some (c',us)) (hk:∀ x ∈ cat c c',x.ok)
  (hco:CallsOK P (fun i=>isIo (A.mode g i)) g us res outs) (how:resOwn res=true)
  (hre:reputAll A (scalL A g 0 us) g 0 b2 (cat (mapOpd sl cl.args.toList) caps) outs=some b3) (hpl:placeRes sl (over b (keys bW) b3) o.dst res=some (v,b1)) {gs:List Nat} :
  LocQ P o sl b v b1 (cat gs (tmpsOf (opsOf o.op))) (cat (cat (keys bR) (keys bW)) (resSites o.dst res)) (cat (keys bW) (resSites o.dst res)) (resSites o.dst res) []
   (ioF A g 0 (cat (mapOpd sl cl.args.toList) caps)) (ioP A g 0 (cat (mapOpd sl cl.args.toList) caps)):=by
 have hops:opsOf o.op=fo :: cl.args.toList:=by rw [ho]; simp [opsOf,hcal]
 have key:∀ b',AgreeB b b' (cat (cat (keys bR) (keys bW)) (resSites o.dst res))→(∀ s,s ∈ ioF A g 0 (cat (mapOpd sl cl.args.toList) caps) ∨ s ∈ ioP A g 0 (cat (mapOpd sl cl.args.toList) caps)→s ∉ sitesB b') →
   ∃ b2' b3',prep A g b' ts (cat (mapOpd sl cl.args.toList) caps)=some (cat c c',us,b2')∧reputAll A (scalL A g 0 us) g 0 b2' (cat (mapOpd sl cl.args.toList) caps) outs=some b3'∧AgK (keys bW) b3 b3'∧StK (keys bW) b' b3' ∧
    ioRoots A g b' 0 (cat (mapOpd sl cl.args.toList) caps)=true:=by
  intro b' h2 hq
  have hK:AgK (keys bW) bW b':=by
   refine ⟨fun s hs=>?_,fun s hs=>off_keys hs⟩
   cases hl:lookB bW s with
   | none=>
    exfalso
    have:∀ {b:BL} {s:Nat},s ∈ keys b→lookB b s ≠ none:=by
     intro b
     induction b with
     | nil=>intro s h; simp [keys] at h
     | cons x r ih=>
      obtain ⟨k,u⟩:=x
      intro s h
      simp only [keys,List.mem_cons] at h
      simp only [lookB]
      split
      ·simp
      ·rename_i hb
       rcases h with rfl | h
       ·rw [Nat.beq_refl] at hb; cases hb
       ·exact ih h
    exact this hs hl
   | some x=>rw [h2 s (by simp only [mem_cat]; exact .inl (.inr hs))]; exact hW s x hl
  obtain ⟨r1,r2,r3⟩:=ioRoots_k hK hroots
  obtain ⟨b2',k1,k2,k3⟩:=prepIo_k hp hK
  have hl:=prepLend_over (b1':=b2') (bR:=bR) (bW:=bW) (fun s hs x hx=>by
   rw [k3.look s hs,h2 s (by simp only [mem_cat]; exact .inl (.inl (look_keys hx)))]
   exact hR s x hx) k2 hp2
  obtain ⟨b3',m1,m2,m3⟩:=reputAll_k hre k2 (fun s hs=>⟨r2 s hs,fun hm=>hq s (.inl hs) (k3.names s hm)⟩) (fun s hs=>⟨r3 s hs,fun hm=>hq s (.inr hs) (k3.names s hm)⟩)
  exact ⟨b2',b3',by unfold prep; simp only [k1,hl],m1,m2,k3.trans m3,r1⟩
 have off3:∀ s,s ∉ keys bW→lookB b3 s=none:=by
  have hK:AgK (keys bW) bW bW:=⟨fun _ _=>rfl,fun s hs=>off_keys hs⟩
  obtain ⟨b2',k1,k2,k3⟩:=prepIo_k hp hK
  have hre':∀ {vs xs:List V} {i:Nat} {b b1:BL} {kp:Bool},reputAll A kp g i b vs xs=some b1→(∀ s,s ∉ keys bW→lookB b s=none)→(∀ s,s ∈ ioF A g i vs→s ∈ keys bW)→(∀ s,s ∈ ioP A g i vs→s ∈ keys bW)→∀ s,s ∉ keys bW→lookB b1 s=none:=by
   intro vs
   induction vs with
   | nil=>
    intro xs i b b1 kp h h0 _ _
    cases xs with
    | nil=>simp only [reputAll,oj] at h; subst h; exact h0
    | cons x xs=>simp [reputAll] at h
   | cons v vs ih=>
    intro xs i b b1 kp h h0 hf hp
    cases xs with
    | nil=>simp [reputAll] at h
    | cons x xs=>
     simp only [reputAll,ioF,ioP] at h hf hp
     cases hm:A.mode g i with
     | io=>
      simp only [hm] at h hf hp
      split at h
      ·split at h
       ·rename_i b2 hr
        refine ih h ?_ (fun s hs=>hf s (by split <;> simp [hs])) (fun s hs=>hp s (by split <;> simp [hs]))
        intro s hs
        unfold reput at hr
        split at hr
        ·split at hr
         ·split at hr
          ·split at hr
           ·simp only [oj] at hr
            subst hr
            rw [lookB_set,if_neg (by rintro rfl; exact hs (hf _ (by simp))),h0 s hs]
           ·cases hr
          ·cases hr
         ·cases hr
        ·split at hr
         ·split at hr
          ·split at hr
           ·simp only [oj] at hr
            subst hr
            rw [lookB_set,if_neg (by rintro rfl; exact hs (hp _ (by simp))),h0 s hs]
           ·cases hr
          ·cases hr
         ·cases hr
        ·cases hr
       ·cases h
      ·cases h
     | lend=>simp only [hm] at h hf hp; exact ih h h0 hf hp
     | take=>simp only [hm] at h hf hp; exact ih h h0 hf hp
     | keep=>simp only [hm] at h hf hp; exact ih h h0 hf hp
  obtain ⟨_,r2,r3⟩:=ioRoots_k hK hroots
  exact hre' hre k2.off r2 r3
 have base:∀ t,t ∉ resSites o.dst res→lookB b1 t=lookB (over b (keys bW) b3) t:=by
  cases hd:o.dst with
  | none=>
   rw [hd] at hpl
   simp only [placeRes,oj,pj] at hpl
   intro t _; rw [hpl.2]
  | some s=>
   intro t ht
   rw [hd] at hpl
   exact placeRes_frame hpl t ht
 refine ⟨fun s hs=>?_,fun sl' b' h1 h2 _ h3 h4 h5=>?_⟩
 ·simp only [mem_cat,not_or] at hs
  rw [base s hs.2,look_over off3,if_neg hs.1]
 ·have hag:AgreeO sl sl' (opsOf o.op):=agreeO_of (fun t ht=>h1 t (by rw [cat_eq]; simp [ht]))
  rw [hops] at hag
  have e1:opd sl' fo=.fn g caps:=by rw [hag fo (by simp),hf]
  have e2:mapOpd sl' cl.args.toList=mapOpd sl cl.args.toList:=AgreeO.map (fun x hx=>hag x (by simp [hx]))
  obtain ⟨b2',b3',k1,k2,k3,k4,k5⟩:=key b' h2 h5
  obtain ⟨b1',p1,p2,p3⟩:=placeRes_loc (sl':=sl') (b':=b3') hpl (fun t ht=>⟨(h3 t ht).1,fun hm=>(h3 t ht).2 (k4.names t hm)⟩) (fun t ht=>by
   rw [look_over off3]
   split
   ·rename_i hs; exact k3.on t hs
   ·rename_i hs; rw [k4.look t hs]; exact h2 t (by simp only [mem_cat]; exact .inr ht))
  refine ⟨b1',callIo_sem ho hcal e1 (by rw [e2]; exact hnt) hna (by rw [e2]; exact k5) (by rw [e2]; exact h4) (by rw [e2]; exact k1) hk hco how (by rw [e2]; exact k2) p1,fun s hs=>?_,fun s hs=>?_⟩
  ·by_cases hr:s ∈ resSites o.dst res
   ·exact p2 s hr
   ·simp only [mem_cat,hr,or_false] at hs
    rw [(p3 s hr).1,(p3 s hr).2,look_over off3,if_pos hs]
    exact k3.on s hs
  ·simp only [mem_cat,not_or] at hs
   rw [(p3 s hs.2).1,k4.look s hs.1]
end
end Go.Rai
