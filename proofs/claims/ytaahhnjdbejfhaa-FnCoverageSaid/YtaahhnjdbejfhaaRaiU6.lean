/- An evaluator of the model's programs over plain values, proved sound, part 6 of 6. It is used by the claim's law; it has no condition of its own. -/
import Derived.Test.YtaahhnjdbejfhaaRaiU5
set_option linter.unusedVariables false
set_option linter.unusedSectionVars false
set_option linter.unusedSimpArgs false
namespace Go.Rai
theorem Uu {n:Int} (h1:-9223372036854775808≤n) (h2:n≤9223372036854775807):IntKind.i64.wrap n=n:=by
 unfold IntKind.wrap
 simp [IntKind.signed,IntKind.bits]
 omega
theorem Yh {l:List D} {i:Nat} (h:i<l.length):l.getD i (.int 0) ∈ l:=by
 rw [List.getD_eq_getElem?_getD,List.getElem?_eq_getElem h]
 exact List.getElem_mem h
theorem OZ (n:Int):(D.int n).toInt=n:=rfl
theorem vg (n:Bool):(D.bool n).toBool=n:=rfl
theorem vh (l:List D):(D.node l).items=l:=rfl
theorem vr (l:List D) (j:Nat):(D.node l).fld j=(l[j]?).getD (.int 0):=by
 unfold D.fld D.items
 rw [List.getD_eq_getElem?_getD]
theorem vt {l:List D} {i:Nat} (h:i<l.length):l[i]?.getD (.int 0) ∈ l:=by
 rw [← List.getD_eq_getElem?_getD];exact Yh h
theorem vu {N:Nat→List D→Int→List D→Option (List D)} {l:List D} {z:D}
  (hs:∀ m (i:Nat) acc,i<l.length→acc.length=l.length→N (m + 1) l (i:Int) acc=N m l ((i:Int) + 1) (acc.set i (l.getD i (.int 0))))
  (he:∀ m acc,acc.length=l.length→N (m + 1) l (l.length:Int) acc=some acc) :
  ev (fun n=>N n l 0 (List.replicate l.length z))=some l:=by
 have key:∀ k,∀ m (i:Nat) acc,i + k=l.length→k<m→acc.length=l.length→acc.take i=l.take i→N m l (i:Int) acc=some l:=by
  intro k
  induction k with
  | zero=>
   intro m i acc h1 h2 h3 h4
   obtain ⟨m,rfl⟩:∃ m',m=m' + 1:=⟨m - 1,by omega⟩
   have hi:i=l.length:=by omega
   subst hi
   rw [he m acc h3]
   rw [List.take_of_length_le (by omega),List.take_of_length_le (by omega)] at h4
   rw [h4]
  | succ k ih=>
   intro m i acc h1 h2 h3 h4
   obtain ⟨m,rfl⟩:∃ m',m=m' + 1:=⟨m - 1,by omega⟩
   rw [hs m i acc (by omega) h3]
   rw [show ((i:Int) + 1)=((i + 1:Nat):Int) by omega]
   refine ih m (i + 1) _ (by omega) (by omega) (by simpa using h3) ?_
   rw [List.take_succ_eq_append_getElem (by simp;omega),List.take_succ_eq_append_getElem (by omega)]
   rw [List.take_set_of_le (by omega),h4]
   have hi:i<l.length:=by omega
   simp [List.getD_eq_getElem?_getD,List.getElem?_eq_getElem hi]
 exact Cf (l.length + 1) (fun m hm=>key l.length m 0 _ (by omega) (by omega) (by simp) (by simp))
theorem vw {X:Type} {N:Nat→Int→Option X} {len:Nat} {x:X}
  (hs:∀ m (i:Nat),i<len→N (m + 1) (i:Int)=N m ((i:Int) + 1))
  (he:∀ m,N (m + 1) (len:Int)=some x):ev (fun n=>N n 0)=some x:=by
 have key:∀ k,∀ m (i:Nat),i + k=len→k<m→N m (i:Int)=some x:=by
  intro k
  induction k with
  | zero=>
   intro m i h1 h2
   obtain ⟨m,rfl⟩:∃ m',m=m' + 1:=⟨m - 1,by omega⟩
   have hi:i=len:=by omega
   subst hi
   exact he m
  | succ k ih=>
   intro m i h1 h2
   obtain ⟨m,rfl⟩:∃ m',m=m' + 1:=⟨m - 1,by omega⟩
   rw [hs m i (by omega)]
   rw [show ((i:Int) + 1)=((i + 1:Nat):Int) by omega]
   exact ih m (i + 1) (by omega) (by omega)
 exact Cf (len + 1) (fun m hm=>key len m 0 (by omega) (by omega))
def Uf (p:Nat→Bool) (len:Nat):Option Nat:=(List.range len).find? p
theorem vA {p q:Nat→Bool} {len:Nat} (h:∀ i,i<len→p i=q i):Uf p len=Uf q len:=by
 unfold Uf
 have:∀ (l:List Nat),(∀ i ∈ l,i<len)→l.find? p=l.find? q:=by
  intro l
  induction l with
  | nil=>intro _;rfl
  | cons a l ih=>
   intro hl
   rw [List.find?_cons,List.find?_cons,h a (hl a (by simp)),ih (fun i hi=>hl i (by simp [hi]))]
 exact this _ (fun i hi=>List.mem_range.1 hi)
theorem vi {p:Nat→Bool} {len i:Nat} (h:Uf p len=some i):i<len∧p i=true∧∀ j,j<i→p j=false:=by
 unfold Uf at h
 have h1:=List.find?_some h
 have h2:=List.mem_range.1 (List.mem_of_find?_eq_some h)
 refine ⟨h2,h1,fun j hj=>?_⟩
 rw [List.find?_range_eq_some] at h
 have:=h.2.2 j hj
 simpa using this
theorem N8 {p:Nat→Bool} {len:Nat} (h:Uf p len=none):∀ j,j<len→p j=false:=by
 unfold Uf at h
 intro j hj
 have:=List.find?_eq_none.1 h j (List.mem_range.2 hj)
 simpa using this
theorem Yi {X:Type} {N:Nat→Int→Option X} {len:Nat} (p:Nat→Bool) (bad:Nat→X) {fin:X}
  (hs:∀ m (i:Nat),i<len→N (m + 1) (i:Int)=bif p i then some (bad i) else N m ((i:Int) + 1))
  (he:∀ m,N (m + 1) (len:Int)=some fin):ev (fun n=>N n 0)=some (match Uf p len with | some i=>bad i | none=>fin):=by
 have key:∀ k,∀ m (i:Nat),i + k=len→k<m→(∀ j,j<i→p j=false)→N m (i:Int)=some (match Uf p len with | some i=>bad i | none=>fin):=by
  intro k
  induction k with
  | zero=>
   intro m i h1 h2 h3
   obtain ⟨m,rfl⟩:∃ m',m=m' + 1:=⟨m - 1,by omega⟩
   have hi:i=len:=by omega
   subst hi
   rw [he m]
   cases hf:Uf p i with
   | none=>rfl
   | some j=>
    obtain ⟨q1,q2,_⟩:=vi hf
    rw [h3 j q1] at q2
    cases q2
  | succ k ih=>
   intro m i h1 h2 h3
   obtain ⟨m,rfl⟩:∃ m',m=m' + 1:=⟨m - 1,by omega⟩
   rw [hs m i (by omega)]
   cases hp:p i with
   | true=>
    rw [cond_true]
    have:Uf p len=some i:=by
     unfold Uf
     rw [List.find?_range_eq_some]
     exact ⟨hp,List.mem_range.2 (by omega),fun j hj=>by simp [h3 j hj]⟩
    rw [this]
   | false=>
    rw [cond_false,show ((i:Int) + 1)=((i + 1:Nat):Int) by omega]
    refine ih m (i + 1) (by omega) (by omega) (fun j hj=>?_)
    by_cases hji:j=i
    ·subst hji;exact hp
    ·exact h3 j (by omega)
 exact Cf (len + 1) (fun m hm=>key len m 0 (by omega) (by omega) (fun j hj=>by omega))
theorem V3 {X Y:Type} {N:Nat→X→Option Y} (Inv:X→Prop) (μ:X→Nat) (Post:X→Y→Prop)
  (step:∀ x,Inv x→(∃ y,Post x y∧∀ m,N (m + 1) x=some y) ∨ ∃ x',Inv x'∧μ x'<μ x∧(∀ y,Post x' y→Post x y)∧∀ m,N (m + 1) x=N m x') :
  ∀ x,Inv x→∃ y,ev (fun n=>N n x)=some y∧Post x y:=by
 have key:∀ k x,Inv x→μ x≤k→∃ y,Post x y∧∀ m,k<m→N m x=some y:=by
  intro k
  induction k with
  | zero=>
   intro x hi hk
   rcases step x hi with ⟨y,h1,h2⟩ | ⟨x',_,h2,_⟩
   ·refine ⟨y,h1,fun m hm=>?_⟩
    obtain ⟨m,rfl⟩:∃ m',m=m' + 1:=⟨m - 1,by omega⟩
    exact h2 m
   ·omega
  | succ k ih=>
   intro x hi hk
   rcases step x hi with ⟨y,h1,h2⟩ | ⟨x',h1,h2,h3,h4⟩
   ·refine ⟨y,h1,fun m hm=>?_⟩
    obtain ⟨m,rfl⟩:∃ m',m=m' + 1:=⟨m - 1,by omega⟩
    exact h2 m
   ·obtain ⟨y,q1,q2⟩:=ih x' h1 (by omega)
    refine ⟨y,h3 y q1,fun m hm=>?_⟩
    obtain ⟨m,rfl⟩:∃ m',m=m' + 1:=⟨m - 1,by omega⟩
    rw [h4]
    exact q2 m (by omega)
 intro x hi
 obtain ⟨y,h1,h2⟩:=key (μ x) x hi (Nat.le_refl _)
 exact ⟨y,Cf (μ x + 1) (fun m hm=>h2 m (by omega)),h1⟩
def btw (x a b:Int):Bool:=decide (a≤x) && decide (x≤b)
theorem O0 {x a b:Int}:btw x a b=true ↔ a≤x∧x≤b:=by simp [btw]
theorem vB {l:List D} {i:Nat} (h:i<l.length):l.drop i=l[i]?.getD (.int 0) :: l.drop (i + 1):=by
 rw [List.drop_eq_getElem_cons h,List.getElem?_eq_getElem h];rfl
theorem vC {l:List D} {i:Nat} (h:¬ i<l.length):l.drop i=[]:=List.drop_of_length_le (by omega)
theorem UD {i:Nat} (h:i<4611686018427387904):IntKind.i64.wrap ((i:Int) + 1)=((i + 1:Nat):Int):=by
 rw [Uu (by omega) (by omega)];omega
theorem N9 {i:Nat} (h:i<4611686018427387904) (h0:0<i):IntKind.i64.wrap ((i:Int) - 1)=((i - 1:Nat):Int):=by
 rw [Uu (by omega) (by omega)];omega
theorem vD {X Y Y':Type} {N:Nat→X→Option Y} {N':Nat→X→Option Y'} (Inv:X→Prop) (μ:X→Nat) (R:Y→Y'→Prop)
  (step:∀ x,Inv x→(∃ y y',R y y'∧∀ m,N (m + 1) x=some y∧N' (m + 1) x=some y') ∨ ∃ x',Inv x'∧μ x'<μ x∧∀ m,N (m + 1) x=N m x'∧N' (m + 1) x=N' m x') :
  ∀ x,Inv x→∃ y y',ev (fun n=>N n x)=some y∧ev (fun n=>N' n x)=some y'∧R y y':=by
 have key:∀ k x,Inv x→μ x≤k→∃ y y',R y y'∧∀ m,k<m→N m x=some y∧N' m x=some y':=by
  intro k
  induction k with
  | zero=>
   intro x hi hk
   rcases step x hi with ⟨y,y',h1,h2⟩ | ⟨x',_,h2,_⟩
   ·refine ⟨y,y',h1,fun m hm=>?_⟩
    obtain ⟨m,rfl⟩:∃ m',m=m' + 1:=⟨m - 1,by omega⟩
    exact h2 m
   ·omega
  | succ k ih=>
   intro x hi hk
   rcases step x hi with ⟨y,y',h1,h2⟩ | ⟨x',h1,h2,h3⟩
   ·refine ⟨y,y',h1,fun m hm=>?_⟩
    obtain ⟨m,rfl⟩:∃ m',m=m' + 1:=⟨m - 1,by omega⟩
    exact h2 m
   ·obtain ⟨y,y',q1,q2⟩:=ih x' h1 (by omega)
    refine ⟨y,y',q1,fun m hm=>?_⟩
    obtain ⟨m,rfl⟩:∃ m',m=m' + 1:=⟨m - 1,by omega⟩
    rw [(h3 m).1,(h3 m).2]
    exact q2 m (by omega)
 intro x hi
 obtain ⟨y,y',h1,h2⟩:=key (μ x) x hi (Nat.le_refl _)
 exact ⟨y,y',Cf (μ x + 1) (fun m hm=>(h2 m (by omega)).1),Cf (μ x + 1) (fun m hm=>(h2 m (by omega)).2),h1⟩
theorem Ma {a b:Nat}:((a:Int)).tmod (b:Int)=((a % b:Nat):Int):=by
 rw [Int.tmod_eq_emod_of_nonneg (by omega)];rfl
structure Dir {ι:Type} (R:ι→ι→Prop):Prop where
 ne:Nonempty ι
 ub:∀ i j,∃ k,R i k∧R j k
structure Lim {ι α:Type} (R:ι→ι→Prop) (e:Option α) (es:ι→Option α):Prop where
 mono:∀ i j y,R i j→es i=some y→es j=some y
 lim:∀ y,e=some y ↔ ∃ i,es i=some y
theorem Lim.const {ι α:Type} {R:ι→ι→Prop} (hD:Dir R) {e:Option α}:Lim R e (fun _=>e):=
 ⟨fun _ _ _ _ h=>h,fun y=>⟨fun h=>hD.ne.elim (fun i=>⟨i,h⟩),fun ⟨_,h⟩=>h⟩⟩
theorem Lim.bind {ι α β:Type} {R:ι→ι→Prop} (hD:Dir R) {e:Option α} {es:ι→Option α} {g:α→Option β} {gs:ι→α→Option β} (h:Lim R e es) (k:∀ v,Lim R (g v) (fun i=>gs i v)) :
  Lim R (e.bind g) (fun i=>(es i).bind (gs i)):=by
 refine ⟨fun i j y hR hy=>?_,fun y=>⟨fun hy=>?_,fun ⟨i,hy⟩=>?_⟩⟩
 ·obtain ⟨z,h1,h2⟩:=Option.bind_eq_some_iff.1 hy
  rw [h.mono i j z hR h1]
  exact (k z).mono i j y hR h2
 ·obtain ⟨z,h1,h2⟩:=Option.bind_eq_some_iff.1 hy
  obtain ⟨i,hi⟩:=(h.lim z).1 h1
  obtain ⟨j,hj⟩:=((k z).lim y).1 h2
  obtain ⟨m,m1,m2⟩:=hD.ub i j
  exact ⟨m,by rw [h.mono i m z m1 hi];exact (k z).mono j m y m2 hj⟩
 ·obtain ⟨z,h1,h2⟩:=Option.bind_eq_some_iff.1 hy
  rw [(h.lim z).2 ⟨i,h1⟩]
  exact ((k z).lim y).2 ⟨i,h2⟩
theorem Lim.ite {ι α:Type} {R:ι→ι→Prop} {c:Prop} [Decidable c] {a b:Option α} {az bs:ι→Option α} (h1:Lim R a az) (h2:Lim R b bs):Lim R (if c then a else b) (fun i=>if c then az i else bs i):=by
 by_cases h:c
 ·simpa only [if_pos h] using h1
 ·simpa only [if_neg h] using h2
theorem Lim.cond {ι α:Type} {R:ι→ι→Prop} {c:Bool} {a b:Option α} {az bs:ι→Option α} (h1:Lim R a az) (h2:Lim R b bs):Lim R (bif c then a else b) (fun i=>bif c then az i else bs i):=by
 cases c
 ·exact h2
 ·exact h1
theorem Lim.sum {ι α X Y:Type} {R:ι→ι→Prop} {a:X→Option α} {b:Y→Option α} {az:ι→X→Option α} {bs:ι→Y→Option α} (z:X ⊕ Y) (h1:∀ v,Lim R (a v) (fun i=>az i v)) (h2:∀ v,Lim R (b v) (fun i=>bs i v)) :
  Lim R (Sum.elim a b z) (fun i=>Sum.elim (az i) (bs i) z):=by
 cases z with
 | inl z=>exact h1 z
 | inr z=>exact h2 z
theorem HY {X Y:Type} {N:Nat→X→Option Y} {C:(X→Option Y)→X→Option Y} (h0:∀ x,N 0 x=none) (hs:∀ n x,N (n + 1) x=C (N n) x)
  (hC:∀ {ι:Type} {R:ι→ι→Prop},Dir R→∀ (f:X→Option Y) (fs:ι→X→Option Y),(∀ x,Lim R (f x) (fun i=>fs i x))→∀ x,Lim R (C f x) (fun i=>C (fs i) x)) (x:X) :
  ev (fun n=>N n x)=C (fun x=>ev (fun n=>N n x)) x:=by
 have up:∀ (F G:X→Option Y),(∀ x y,F x=some y→G x=some y)→∀ x y,C F x=some y→C G x=some y:=by
  intro F G hFG x y hy
  have hb:Dir (fun (i j:Bool)=>i=false ∨ j=true):=⟨⟨false⟩,fun i j=>⟨true,.inr rfl,.inr rfl⟩⟩
  have m1:∀ (x:X) (i j:Bool) (y:Y),(i=false ∨ j=true)→(match i with | false=>F | true=>G) x=some y→(match j with | false=>F | true=>G) x=some y:=by
   intro x i j y hR h
   cases i<;>cases j<;>simp at hR h ⊢<;>first | exact h | exact hFG _ _ h
  have:=hC hb G (fun b=>match b with | false=>F | true=>G) (fun x=>⟨m1 x,fun y=>⟨fun h=>⟨true,h⟩,fun ⟨i,h⟩=>m1 x i true y (.inr rfl) h⟩⟩) x
  exact (this.lim y).2 ⟨false,hy⟩
 have step:∀ n x y,N n x=some y→N (n + 1) x=some y:=by
  intro n
  induction n with
  | zero=>intro x y h;rw [h0] at h;cases h
  | succ n ih=>intro x y h;rw [hs] at h ⊢;exact up _ _ ih x y h
 have mono:∀ n m x y,n≤m→N n x=some y→N m x=some y:=by
  intro n m x y hnm h
  induction m with
  | zero=>
   have:n=0:=by omega
   subst this
   exact h
  | succ m ih=>
   by_cases he:n=m + 1
   ·subst he;exact h
   ·exact step _ _ _ (ih (by omega))
 have evl:∀ x y,ev (fun n=>N n x)=some y ↔ ∃ n,N n x=some y:=fun x y=>⟨fun h=>Q6 h,fun ⟨n,h⟩=>Cf n (fun m hm=>mono n m x y hm h)⟩
 have hd:Dir (fun (i j:Nat)=>i≤j):=⟨⟨0⟩,fun i j=>⟨max i j,Nat.le_max_left _ _,Nat.le_max_right _ _⟩⟩
 have hl:=hC hd (fun x=>ev (fun n=>N n x)) N (fun x=>⟨fun i j y h1 h2=>mono i j x y h1 h2,evl x⟩) x
 apply Option.ext
 intro y
 rw [evl,hl.lim]
 constructor
 ·rintro ⟨n,h⟩
  exact ⟨n,by rw [← hs];exact step _ _ _ h⟩
 ·rintro ⟨n,h⟩
  exact ⟨n + 1,by rw [hs];exact h⟩
end Go.Rai
