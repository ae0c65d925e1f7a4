/- The law FnCoverage over plain values. No condition beside those of the statement. -/
import Derived.Test.YtaahhnjdbejfhaaClMFnCoverage
import Derived.Test.YtaahhnjdbejfhaaRaiU6
set_option linter.unusedVariables false
set_option linter.unusedSimpArgs false
set_option linter.unusedSectionVars false
set_option maxRecDepth 100000
namespace Go.Proofs.Ytaahhnjdbejfhaa
open Go Go.Rai
theorem Z4_fx (x0:Int) (x1:List D) (x2 x3:Int) (x4:List D):Z4 x0 x1 x2 x3 x4=c_Z4 (Z4) x0 x1 x2 x3 x4 some:=
 HY (N:=fun n (p:Int×List D×Int×Int×List D)=>n_Z4 n p.1 p.2.1 p.2.2.1 p.2.2.2.1 p.2.2.2.2) (C:=fun f p=>c_Z4 (fun x0 x1 x2 x3 x4=>f (x0,x1,x2,x3,x4)) p.1 p.2.1 p.2.2.1 p.2.2.2.1 p.2.2.2.2 some) (fun _=>rfl) (fun _ _=>rfl) (fun hD f fs h p=>by
  unfold c_Z4
  repeat' first | exact Lim.const hD|exact h _|apply Lim.ite|apply Lim.cond|apply Lim.bind hD|apply Lim.sum|intro _) (x0,x1,x2,x3,x4)
theorem Z8_fx (x0 x1:Int) (x2:List D) (x3 x4:Int) (x5 x6:List D):Z8 x0 x1 x2 x3 x4 x5 x6=c_Z8 (Z8) x0 x1 x2 x3 x4 x5 x6 some:=
 HY (N:=fun n (p:Int×Int×List D×Int×Int×List D×List D)=>n_Z8 n p.1 p.2.1 p.2.2.1 p.2.2.2.1 p.2.2.2.2.1 p.2.2.2.2.2.1 p.2.2.2.2.2.2) (C:=fun f p=>c_Z8 (fun x0 x1 x2 x3 x4 x5 x6=>f (x0,x1,x2,x3,x4,x5,x6)) p.1 p.2.1 p.2.2.1 p.2.2.2.1 p.2.2.2.2.1 p.2.2.2.2.2.1 p.2.2.2.2.2.2 some) (fun _=>rfl) (fun _ _=>rfl) (fun hD f fs h p=>by
  unfold c_Z8
  repeat' first | exact Lim.const hD|exact h _|apply Lim.ite|apply Lim.cond|apply Lim.bind hD|apply Lim.sum|intro _) (x0,x1,x2,x3,x4,x5,x6)
theorem Z9_fx (x0:Int) (x1:List D) (x2 x3:Int) (x4 x5:List D):Z9 x0 x1 x2 x3 x4 x5=c_Z9 (Z9) x0 x1 x2 x3 x4 x5 some:=
 HY (N:=fun n (p:Int×List D×Int×Int×List D×List D)=>n_Z9 n p.1 p.2.1 p.2.2.1 p.2.2.2.1 p.2.2.2.2.1 p.2.2.2.2.2) (C:=fun f p=>c_Z9 (fun x0 x1 x2 x3 x4 x5=>f (x0,x1,x2,x3,x4,x5)) p.1 p.2.1 p.2.2.1 p.2.2.2.1 p.2.2.2.2.1 p.2.2.2.2.2 some) (fun _=>rfl) (fun _ _=>rfl) (fun hD f fs h p=>by
  unfold c_Z9
  repeat' first | exact Lim.const hD|exact h _|apply Lim.ite|apply Lim.cond|apply Lim.bind hD|apply Lim.sum|intro _) (x0,x1,x2,x3,x4,x5)
theorem Z10_fx (x0:List D) (x1 x2:Int) (x3 x4:List D):Z10 x0 x1 x2 x3 x4=c_Z10 (Z10) x0 x1 x2 x3 x4 some:=
 HY (N:=fun n (p:List D×Int×Int×List D×List D)=>n_Z10 n p.1 p.2.1 p.2.2.1 p.2.2.2.1 p.2.2.2.2) (C:=fun f p=>c_Z10 (fun x0 x1 x2 x3 x4=>f (x0,x1,x2,x3,x4)) p.1 p.2.1 p.2.2.1 p.2.2.2.1 p.2.2.2.2 some) (fun _=>rfl) (fun _ _=>rfl) (fun hD f fs h p=>by
  unfold c_Z10
  repeat' first | exact Lim.const hD|exact h _|apply Lim.ite|apply Lim.cond|apply Lim.bind hD|apply Lim.sum|intro _) (x0,x1,x2,x3,x4)
theorem Z26_fx (x0 x1:Int) (x2 x3 x4:List D):Z26 x0 x1 x2 x3 x4=c_Z26 (Z26) x0 x1 x2 x3 x4 some:=
 HY (N:=fun n (p:Int×Int×List D×List D×List D)=>n_Z26 n p.1 p.2.1 p.2.2.1 p.2.2.2.1 p.2.2.2.2) (C:=fun f p=>c_Z26 (fun x0 x1 x2 x3 x4=>f (x0,x1,x2,x3,x4)) p.1 p.2.1 p.2.2.1 p.2.2.2.1 p.2.2.2.2 some) (fun _=>rfl) (fun _ _=>rfl) (fun hD f fs h p=>by
  unfold c_Z26
  repeat' first | exact Lim.const hD|exact h _|apply Lim.ite|apply Lim.cond|apply Lim.bind hD|apply Lim.sum|intro _) (x0,x1,x2,x3,x4)
theorem Z29_fx (x0:List D) (x1 x2:Int) (x3:Nat) (x4 x5 x6 x7:Int) (x8 x9:List D):Z29 x0 x1 x2 x3 x4 x5 x6 x7 x8 x9=c_Z29 (Z29) x0 x1 x2 x3 x4 x5 x6 x7 x8 x9 some:=
 HY (N:=fun n (p:List D×Int×Int×Nat×Int×Int×Int×Int×List D×List D)=>n_Z29 n p.1 p.2.1 p.2.2.1 p.2.2.2.1 p.2.2.2.2.1 p.2.2.2.2.2.1 p.2.2.2.2.2.2.1 p.2.2.2.2.2.2.2.1 p.2.2.2.2.2.2.2.2.1 p.2.2.2.2.2.2.2.2.2) (C:=fun f p=>c_Z29 (fun x0 x1 x2 x3 x4 x5 x6 x7 x8 x9=>f (x0,x1,x2,x3,x4,x5,x6,x7,x8,x9)) p.1 p.2.1 p.2.2.1 p.2.2.2.1 p.2.2.2.2.1 p.2.2.2.2.2.1 p.2.2.2.2.2.2.1 p.2.2.2.2.2.2.2.1 p.2.2.2.2.2.2.2.2.1 p.2.2.2.2.2.2.2.2.2 some) (fun _=>rfl) (fun _ _=>rfl) (fun hD f fs h p=>by
  unfold c_Z29
  repeat' first | exact Lim.const hD|exact h _|apply Lim.ite|apply Lim.cond|apply Lim.bind hD|apply Lim.sum|intro _) (x0,x1,x2,x3,x4,x5,x6,x7,x8,x9)
theorem Z30_fx (x0:List D) (x1:Int) (x2:Nat) (x3 x4:Int) (x5 x6:List D):Z30 x0 x1 x2 x3 x4 x5 x6=c_Z30 (Z30) x0 x1 x2 x3 x4 x5 x6 some:=
 HY (N:=fun n (p:List D×Int×Nat×Int×Int×List D×List D)=>n_Z30 n p.1 p.2.1 p.2.2.1 p.2.2.2.1 p.2.2.2.2.1 p.2.2.2.2.2.1 p.2.2.2.2.2.2) (C:=fun f p=>c_Z30 (fun x0 x1 x2 x3 x4 x5 x6=>f (x0,x1,x2,x3,x4,x5,x6)) p.1 p.2.1 p.2.2.1 p.2.2.2.1 p.2.2.2.2.1 p.2.2.2.2.2.1 p.2.2.2.2.2.2 some) (fun _=>rfl) (fun _ _=>rfl) (fun hD f fs h p=>by
  unfold c_Z30
  repeat' first | exact Lim.const hD|exact h _|apply Lim.ite|apply Lim.cond|apply Lim.bind hD|apply Lim.sum|intro _) (x0,x1,x2,x3,x4,x5,x6)
theorem Z41_fx (x0 x1 x2:Int) (x3 x4 x5:List D):Z41 x0 x1 x2 x3 x4 x5=c_Z41 (Z41) x0 x1 x2 x3 x4 x5 some:=
 HY (N:=fun n (p:Int×Int×Int×List D×List D×List D)=>n_Z41 n p.1 p.2.1 p.2.2.1 p.2.2.2.1 p.2.2.2.2.1 p.2.2.2.2.2) (C:=fun f p=>c_Z41 (fun x0 x1 x2 x3 x4 x5=>f (x0,x1,x2,x3,x4,x5)) p.1 p.2.1 p.2.2.1 p.2.2.2.1 p.2.2.2.2.1 p.2.2.2.2.2 some) (fun _=>rfl) (fun _ _=>rfl) (fun hD f fs h p=>by
  unfold c_Z41
  repeat' first | exact Lim.const hD|exact h _|apply Lim.ite|apply Lim.cond|apply Lim.bind hD|apply Lim.sum|intro _) (x0,x1,x2,x3,x4,x5)
theorem Z42_fx (x0 x1:Int) (x2 x3:List D):Z42 x0 x1 x2 x3=c_Z42 (Z42) x0 x1 x2 x3 some:=
 HY (N:=fun n (p:Int×Int×List D×List D)=>n_Z42 n p.1 p.2.1 p.2.2.1 p.2.2.2) (C:=fun f p=>c_Z42 (fun x0 x1 x2 x3=>f (x0,x1,x2,x3)) p.1 p.2.1 p.2.2.1 p.2.2.2 some) (fun _=>rfl) (fun _ _=>rfl) (fun hD f fs h p=>by
  unfold c_Z42
  repeat' first | exact Lim.const hD|exact h _|apply Lim.ite|apply Lim.cond|apply Lim.bind hD|apply Lim.sum|intro _) (x0,x1,x2,x3)
theorem Z44_fx (x0:List D) (x1 x2 x3:Int) (x4:Bool) (x5:Int) (x6:List D):Z44 x0 x1 x2 x3 x4 x5 x6=c_Z44 (Z44) x0 x1 x2 x3 x4 x5 x6 some:=
 HY (N:=fun n (p:List D×Int×Int×Int×Bool×Int×List D)=>n_Z44 n p.1 p.2.1 p.2.2.1 p.2.2.2.1 p.2.2.2.2.1 p.2.2.2.2.2.1 p.2.2.2.2.2.2) (C:=fun f p=>c_Z44 (fun x0 x1 x2 x3 x4 x5 x6=>f (x0,x1,x2,x3,x4,x5,x6)) p.1 p.2.1 p.2.2.1 p.2.2.2.1 p.2.2.2.2.1 p.2.2.2.2.2.1 p.2.2.2.2.2.2 some) (fun _=>rfl) (fun _ _=>rfl) (fun hD f fs h p=>by
  unfold c_Z44
  repeat' first | exact Lim.const hD|exact h _|apply Lim.ite|apply Lim.cond|apply Lim.bind hD|apply Lim.sum|intro _) (x0,x1,x2,x3,x4,x5,x6)
theorem Z45_fx (x0:List D) (x1 x2 x3:Int) (x4:List D):Z45 x0 x1 x2 x3 x4=c_Z45 (Z45) x0 x1 x2 x3 x4 some:=
 HY (N:=fun n (p:List D×Int×Int×Int×List D)=>n_Z45 n p.1 p.2.1 p.2.2.1 p.2.2.2.1 p.2.2.2.2) (C:=fun f p=>c_Z45 (fun x0 x1 x2 x3 x4=>f (x0,x1,x2,x3,x4)) p.1 p.2.1 p.2.2.1 p.2.2.2.1 p.2.2.2.2 some) (fun _=>rfl) (fun _ _=>rfl) (fun hD f fs h p=>by
  unfold c_Z45
  repeat' first | exact Lim.const hD|exact h _|apply Lim.ite|apply Lim.cond|apply Lim.bind hD|apply Lim.sum|intro _) (x0,x1,x2,x3,x4)
theorem Z47_fx (x0 x1 x2 x3:Int) (x4 x5:List D):Z47 x0 x1 x2 x3 x4 x5=c_Z47 (Z47) x0 x1 x2 x3 x4 x5 some:=
 HY (N:=fun n (p:Int×Int×Int×Int×List D×List D)=>n_Z47 n p.1 p.2.1 p.2.2.1 p.2.2.2.1 p.2.2.2.2.1 p.2.2.2.2.2) (C:=fun f p=>c_Z47 (fun x0 x1 x2 x3 x4 x5=>f (x0,x1,x2,x3,x4,x5)) p.1 p.2.1 p.2.2.1 p.2.2.2.1 p.2.2.2.2.1 p.2.2.2.2.2 some) (fun _=>rfl) (fun _ _=>rfl) (fun hD f fs h p=>by
  unfold c_Z47
  repeat' first | exact Lim.const hD|exact h _|apply Lim.ite|apply Lim.cond|apply Lim.bind hD|apply Lim.sum|intro _) (x0,x1,x2,x3,x4,x5)
def Tt {ι β:Type} (I:ι→Prop) (P:β→Prop) (e:ι→Option β):Prop:=∃ y,P y∧∀ i,I i→e i=some y
theorem Tt.pure {ι β:Type} {I:ι→Prop} {P:β→Prop} {y:β} (h:P y):Tt I P (fun _=>some y):=⟨y,h,fun _ _=>rfl⟩
theorem Tt.bind {ι α β:Type} {I:ι→Prop} {Q:α→Prop} {P:β→Prop} {t:ι→Option α} {f:α→ι→Option β} (h:Tt I Q t) (k:∀ v,Q v→Tt I P (fun i=>f v i)) :
  Tt I P (fun i=>(t i).bind (fun v=>f v i)):=by
 obtain ⟨v,hv,ht⟩:=h
 obtain ⟨y,hy,hk⟩:=k v hv
 exact ⟨y,hy,fun i hi=>by show (t i).bind _=_;rw [ht i hi];exact hk i hi⟩
theorem Tt.ite {ι β:Type} {I:ι→Prop} {P:β→Prop} {c:Prop} [Decidable c] {x y:ι→Option β} (h:c) (k:Tt I P x):Tt I P (fun i=>if c then x i else y i):=by
 simpa only [if_pos h] using k
theorem Tt.cnd {ι β:Type} {I:ι→Prop} {P:β→Prop} {b:Bool} {x y:ι→Option β} (h1:b=true→Tt I P x) (h2:b=false→Tt I P y):Tt I P (fun i=>bif b then x i else y i):=by
 cases b with
 | true=>exact h1 rfl
 | false=>exact h2 rfl
theorem Tt.dec {ι β:Type} {I:ι→Prop} {P:β→Prop} {p:Prop} [Decidable p] {x y:ι→Option β} (h1:p→Tt I P x) (h2:¬ p→Tt I P y):Tt I P (fun i=>bif decide p then x i else y i):=
 Tt.cnd (fun h=>h1 (of_decide_eq_true h)) (fun h=>h2 (of_decide_eq_false h))
theorem Tt.con {ι β:Type} {I:ι→Prop} {Q:β→Prop} {t:Option β} (h:∃ y,t=some y∧Q y):Tt I Q (fun _=>t):=by
 obtain ⟨y,h1,h2⟩:=h
 exact ⟨y,h2,fun _ _=>h1⟩
theorem Tt.mono {ι β:Type} {I J:ι→Prop} {P Q:β→Prop} {e:ι→Option β} (h:Tt I P e) (hI:∀ i,J i→I i) (hP:∀ y,P y→Q y):Tt J Q e:=by
 obtain ⟨y,h1,h2⟩:=h
 exact ⟨y,hP y h1,fun i hi=>h2 i (hI i hi)⟩
theorem Tt.out {β:Type} {P:β→Prop} {t:Option β} (h:Tt (fun _:Unit=>True) P (fun _=>t)):∃ y,t=some y∧P y:=by
 obtain ⟨y,h1,h2⟩:=h
 exact ⟨y,h2 () trivial,h1⟩
theorem Tt.loop {X Y:Type} (N:Nat→X→Option Y) (Inv:X→Prop) (μ:X→Nat) (Post:X→Y→Prop)
  (step:∀ x,Inv x→(∀ x',Inv x'→μ x'<μ x→Tt (fun m=>μ x≤m) (Post x') (fun m=>N m x'))→Tt (fun m=>μ x≤m) (Post x) (fun m=>N (m+1) x)) :
  ∀ x,Inv x→∃ y,ev (fun n=>N n x)=some y∧Post x y:=by
 have key:∀ k x,Inv x→μ x≤k→Tt (fun m=>μ x<m) (Post x) (fun m=>N m x):=by
  intro k
  induction k with
  | zero=>
   intro x hi hk
   obtain ⟨y,h1,h2⟩:=step x hi (fun x' _ h=>absurd h (by omega))
   refine ⟨y,h1,fun m hm=>?_⟩
   obtain ⟨m,rfl⟩:∃ m',m=m'+1:=⟨m - 1,by omega⟩
   exact h2 m (by omega)
  | succ k ih=>
   intro x hi hk
   obtain ⟨y,h1,h2⟩:=step x hi (fun x' hx' h=>(ih x' hx' (by omega)).mono (fun m hm=>by omega) (fun _ h=>h))
   refine ⟨y,h1,fun m hm=>?_⟩
   obtain ⟨m,rfl⟩:∃ m',m=m'+1:=⟨m - 1,by omega⟩
   exact h2 m (by omega)
 intro x hi
 obtain ⟨y,h1,h2⟩:=key (μ x) x hi (Nat.le_refl _)
 exact ⟨y,Cf (μ x+1) (fun m hm=>h2 m (by omega)),h1⟩
theorem wq (n:Int):IntKind.i64.wrap n=(n+9223372036854775808) % 18446744073709551616 - 9223372036854775808:=by
 unfold IntKind.wrap
 simp [IntKind.signed,IntKind.bits]
 omega
def okC (c:List D):Prop:=c.length≤65536∧∀ d∈c,0≤d.toInt∧d.toInt≤255
theorem uwrap (n:Int):IntKind.u64.wrap n=n % 18446744073709551616:=by
 unfold IntKind.wrap
 simp [IntKind.signed,IntKind.bits]
theorem and255 (r:Int):0≤IntKind.i64.wrap (IntKind.u64.wrap (((BitVec.ofInt IntKind.u64.bits r &&& BitVec.ofInt IntKind.u64.bits 255).toNat:Nat):Int))∧IntKind.i64.wrap (IntKind.u64.wrap (((BitVec.ofInt IntKind.u64.bits r &&& BitVec.ofInt IntKind.u64.bits 255).toNat:Nat):Int))≤255:=by
 have h2:(BitVec.ofInt IntKind.u64.bits r &&& BitVec.ofInt IntKind.u64.bits 255).toNat≤(BitVec.ofInt IntKind.u64.bits 255).toNat:=by
  rw [BitVec.toNat_and];exact Nat.and_le_right
 have h3:(BitVec.ofInt IntKind.u64.bits 255).toNat=255:=by decide
 rw [h3] at h2
 rw [uwrap,wq]
 omega
theorem next_tot (c:List D) (h:okC c) (p s:Int) (hp:0≤p∧p≤1099511627776):∃ y,Z1 c p s=some y∧(0≤y.1∧y.1≤255∧y.2.1=c∧y.2.2.1=p+1):=by
 have hw:IntKind.i64.wrap (p+1)=p+1:=Uu (by omega) (by omega)
 have a1:=fun r=>and255 r
 refine Tt.out ?_
 unfold Z1 c_Z1
 rw [hw]
 by_cases hpl:p<(c.length:Int)
 ·rw [decide_eq_true hpl,cond_true]
  have hd:=h.2 _ (Yh (show p.toNat<c.length by omega))
  have hv:IntKind.i64.wrap (c.getD p.toNat (D.int 0)).toInt=(c.getD p.toNat (D.int 0)).toInt:=Uu (by omega) (by omega)
  refine Tt.ite (by omega) ?_
  refine Tt.dec (fun _=>?_) (fun hn=>absurd (show p+1≤(c.length:Int) by omega) hn)
  refine Tt.pure ?_
  exact ⟨by rw [hv];exact hd.1,by rw [hv];exact hd.2,rfl,rfl⟩
 ·rw [decide_eq_false hpl,cond_false]
  refine Tt.dec (fun hn=>by exfalso;omega) (fun _=>?_)
  refine Tt.ite (by decide) ?_
  refine Tt.pure ?_
  exact ⟨(a1 _).1,(a1 _).2,rfl,rfl⟩
attribute [local irreducible] Z1
theorem pick_tot (c:List D) (h:okC c) (p s n:Int) (hp:0≤p∧p≤1099511627770) (hn:n≤65536):∃ y,Z2 c p s n=some y∧(0≤y.1∧(y.1<n∨y.1=0)∧y.2.1=c∧p≤y.2.2.1∧y.2.2.1≤p+2):=by
 refine Tt.out ?_
 unfold Z2 c_Z2
 refine Tt.dec (fun _=>?_) (fun hn1=>?_)
 ·refine Tt.pure ?_
  exact ⟨by simp,.inr rfl,rfl,by simp,by simp only;omega⟩
 ·refine Tt.bind (Tt.con (next_tot c h p s (by omega))) (fun v hv=>?_)
  obtain ⟨v1,v2,v3,v4⟩:=hv
  rw [v3,v4]
  refine Tt.dec (fun _=>?_) (fun _=>?_)
  ·refine Tt.bind (Tt.con (next_tot c h (p+1) _ (by omega))) (fun w hw=>?_)
   obtain ⟨w1,w2,w3,w4⟩:=hw
   refine Tt.ite (by omega) ?_
   have hq:IntKind.i64.wrap (IntKind.i64.wrap (v.1 * 256)+w.1)=v.1 * 256+w.1:=by
    rw [Uu (n:=v.1 * 256) (by omega) (by omega),Uu (by omega) (by omega)]
   have hm:(v.1 * 256+w.1).tmod n=(v.1 * 256+w.1) % n:=Int.tmod_eq_emod_of_nonneg (by omega)
   have m1:=Int.emod_nonneg (v.1 * 256+w.1) (show n≠0 by omega)
   have m2:=Int.emod_lt_of_pos (v.1 * 256+w.1) (show 0<n by omega)
   refine Tt.pure ?_
   exact ⟨by simp only;rw [hq,hm];exact m1,.inl (by simp only;rw [hq,hm];exact m2),w3,by simp only;omega,by simp only;omega⟩
  ·refine Tt.ite (by omega) ?_
   have hm:v.1.tmod n=v.1 % n:=Int.tmod_eq_emod_of_nonneg v1
   have m1:=Int.emod_nonneg v.1 (show n≠0 by omega)
   have m2:=Int.emod_lt_of_pos v.1 (show 0<n by omega)
   refine Tt.pure ?_
   exact ⟨by simp only;rw [hm];exact m1,.inl (by simp only;rw [hm];exact m2),rfl,by simp only;omega,by simp only;omega⟩
attribute [local irreducible] Z2
theorem among_tot (c:List D) (h:okC c) (p s:Int) (l:List D) (hp:0≤p∧p≤1099511627770) (hl:1≤l.length∧l.length≤65536):∃ y,Z3 c p s l=some y∧((∃ d∈l,y.1=d.toInt)∧y.2.1=c∧p≤y.2.2.1∧y.2.2.1≤p+2):=by
 refine Tt.out ?_
 unfold Z3 c_Z3
 refine Tt.bind (Tt.con (pick_tot c h p s _ hp (by omega))) (fun v hv=>?_)
 refine Tt.ite (by omega) ?_
 refine Tt.ite (by omega) ?_
 refine Tt.pure ?_
 exact ⟨⟨_,Yh (show v.1.toNat<l.length by omega),rfl⟩,hv.2.2.1,hv.2.2.2.1,hv.2.2.2.2⟩
attribute [local irreducible] Z3
theorem okB {d:D} (h:wfD (.int .u8) d):0≤d.toInt∧d.toInt≤255:=by
 obtain ⟨n,rfl,h2⟩:=h
 simp [Lit.wf,IntKind.min,IntKind.max,IntKind.signed,IntKind.bits] at h2
 simp only [OZ];omega
theorem pick_tot' (c:List D) (h:okC c) (p s n:Int) (hp:0≤p∧p≤1099511627770) (hn:n≤65536):∃ y,Z2 c p s n=some y∧((0≤y.1∧(y.1<n∨y.1=0))∧y.2.1=c∧p≤y.2.2.1∧y.2.2.1≤p+2):=by
 obtain ⟨y,h1,h2,h3,h4⟩:=pick_tot c h p s n hp hn
 exact ⟨y,h1,⟨h2,h3⟩,h4⟩
theorem one_tot (c:List D) (h:okC c) (p s n:Int) (hp:0≤p∧p≤1099511627770) (hn:n≤65536):∃ y,Z7 c p s n=some y∧(y.2.1=c∧p≤y.2.2.1∧y.2.2.1≤p+2):=by
 refine Tt.out ?_
 unfold Z7 c_Z7
 refine Tt.bind (Tt.con (pick_tot c h p s n hp hn)) (fun v hv=>?_)
 refine Tt.pure ?_
 exact ⟨hv.2.2.1,hv.2.2.2.1,hv.2.2.2.2⟩
attribute [local irreducible] Z7
theorem one_tot' (c:List D) (h:okC c) (p s n:Int) (hp:0≤p∧p≤1099511627770) (hn:n≤65536):∃ y,Z7 c p s n=some y∧(True∧y.2.1=c∧p≤y.2.2.1∧y.2.2.1≤p+2):=by
 obtain ⟨y,h1,h2⟩:=one_tot c h p s n hp hn
 exact ⟨y,h1,trivial,h2⟩
theorem l1In_eq (x a b:Int):Z32 x a b=some (btw x a b):=by
 unfold Z32 c_Z32 btw
 by_cases h:a≤x<;>simp [h]
theorem within_eq (x a b:Int):Z13 x a b=some (btw x a b):=by
 unfold Z13 c_Z13 btw
 by_cases h:a≤x<;>simp [h]
def cmpV (x y:Int):Int:=if x<y then -1 else if y<x then 1 else 0
theorem compare_eq (x y:Int):Z17 x y=some (cmpV x y):=by
 simp only [Z17,c_Z17,Z16,c_Z16,ob,decide_true,Bool.not_true,cond_false,cmpV]
 by_cases h:x<y
 ·simp [h]
 ·by_cases h2:y<x<;>simp [h,h2]
theorem or_eq (a b:Int):Z19 [.int a,.int b]=some (if a=0 then b else a):=by
 have w1:IntKind.i64.wrap 1=1:=by decide
 have w2:IntKind.i64.wrap 2=2:=by decide
 have key:∃ y,Z18 0 [.int a,.int b] 2 0=some y∧(match y with | .inl z=>z.1 | .inr z=>z)=(if a=0 then b else a):=by
  by_cases ha:a=0
  ·by_cases hb:b=0
   ·refine ⟨.inr 0,Cf (f:=fun m=>n_Z18 m 0 [.int a,.int b] 2 0) 3 (fun m hm=>?_),by simp [ha,hb]⟩
    obtain ⟨m,rfl⟩:∃ m',m=m'+3:=⟨m - 3,by omega⟩
    simp [n_Z18,c_Z18,ha,hb,OZ,w1,w2]
   ·refine ⟨.inl (b,0),Cf (f:=fun m=>n_Z18 m 0 [.int a,.int b] 2 0) 2 (fun m hm=>?_),by simp [ha]⟩
    obtain ⟨m,rfl⟩:∃ m',m=m'+2:=⟨m - 2,by omega⟩
    simp [n_Z18,c_Z18,ha,hb,OZ,w1]
  ·refine ⟨.inl (a,0),Cf (f:=fun m=>n_Z18 m 0 [.int a,.int b] 2 0) 1 (fun m hm=>?_),by simp [ha]⟩
   obtain ⟨m,rfl⟩:∃ m',m=m'+1:=⟨m - 1,by omega⟩
   simp [n_Z18,c_Z18,ha,OZ]
 obtain ⟨y,h1,h2⟩:=key
 rw [← h2]
 simp only [Z19,c_Z19,show (([D.int a,D.int b]:List D).length:Int)=2 from rfl,h1,ob]
 cases y<;>rfl
def sherdB (d:D):Bool:=btw (d.fld 0).toInt 1 999&&(btw (d.fld 1).toInt 0 9&&(btw (d.fld 2).toInt 0 3599&&btw (d.fld 3).toInt 1 3600))
theorem sL4_eq (l r:List D) (hl:l.length≤1048576):Z33 l r 0=some (match Uf (fun i=>!sherdB (l[i]?.getD (.int 0))) l.length with | some _=>.inl (l,r,false) | none=>.inr (l,r)):=by
 refine Yi (N:=fun m i=>n_Z33 m l r i) _ (fun _=>.inl (l,r,false)) (fun m i hi=>?_) (fun m=>?_)
 ·have hw:IntKind.i64.wrap ((i:Int)+1)=(i:Int)+1:=Uu (by omega) (by omega)
  have h1:(i:Int)<l.length:=by omega
  simp only [n_Z33,c_Z33,h1,hw,l1In_eq,decide_true,cond_true,Int.natCast_nonneg,and_self,if_true,tn,List.getD_eq_getElem?_getD,ob,sherdB]
  generalize l[i]?.getD (D.int 0)=d
  cases btw (d.fld 0).toInt 1 999<;>cases btw (d.fld 1).toInt 0 9<;>cases btw (d.fld 2).toInt 0 3599<;>cases btw (d.fld 3).toInt 1 3600<;>simp
 ·simp [n_Z33,c_Z33]
theorem iL2_eq (l r:List D) (hl:l.length≤1048576):Z15 l r l l.length 0=some (match Uf (fun i=>!sherdB (l[i]?.getD (.int 0))) l.length with | some _=>.inl (l,r,false) | none=>.inr (l,r)):=by
 refine Yi (N:=fun m i=>n_Z15 m l r l l.length i) _ (fun _=>.inl (l,r,false)) (fun m i hi=>?_) (fun m=>?_)
 ·have hw:IntKind.i64.wrap ((i:Int)+1)=(i:Int)+1:=Uu (by omega) (by omega)
  have h1:(i:Int)<l.length:=by omega
  simp only [n_Z15,c_Z15,h1,hw,Z14,c_Z14,within_eq,decide_true,cond_true,Int.natCast_nonneg,and_self,if_true,tn,List.getD_eq_getElem?_getD,ob,sherdB]
  generalize l[i]?.getD (D.int 0)=d
  cases btw (d.fld 0).toInt 1 999<;>cases btw (d.fld 1).toInt 0 9<;>cases btw (d.fld 2).toInt 0 3599<;>cases btw (d.fld 3).toInt 1 3600<;>simp
 ·simp [n_Z15,c_Z15]
def jA (l:List D) (i:Nat):Int:=((l[i]?.getD (.int 0)).fld 0).toInt
def jB (l:List D) (i:Nat):Int:=((l[i]?.getD (.int 0)).fld 1).toInt
def joinBad (n:Int) (l:List D) (i:Nat):Bool:=decide (¬ (0≤jA l i∧jA l i<jB l i∧jB l i<n))||(decide (0<i)&&decide (jA l i<jA l (i - 1)∨(jA l (i - 1)=jA l i∧jB l i≤jB l (i - 1))))
theorem sL10_eq (l r:List D) (hl:l.length≤1048576) (hr:r.length≤1048576):Z34 l r 0=some (match Uf (joinBad l.length r) r.length with | some _=>.inl false | none=>.inr ()):=by
 refine Yi (N:=fun m i=>n_Z34 m l r i) _ (fun _=>.inl false) (fun m i hi=>?_) (fun m=>?_)
 ·have hw:IntKind.i64.wrap ((i:Int)+1)=(i:Int)+1:=Uu (by omega) (by omega)
  have h1:(i:Int)<r.length:=by omega
  have hwl:IntKind.i64.wrap ((l.length:Int) - 1)=(l.length:Int) - 1:=Uu (by omega) (by omega)
  by_cases c1:1≤jB r i∧jB r i≤(l.length:Int) - 1
  ·have hwb:IntKind.i64.wrap (jB r i - 1)=jB r i - 1:=Uu (by omega) (by omega)
   by_cases c2:0≤jA r i∧jA r i≤jB r i - 1
   ·have e1:btw (jB r i) 1 ((l.length:Int) - 1)=true:=O0.2 c1
    have e2:btw (jA r i) 0 (jB r i - 1)=true:=O0.2 c2
    have e3:(¬ (0≤jA r i∧jA r i<jB r i∧jB r i<(l.length:Int)))↔False:=by simp;omega
    unfold joinBad
    by_cases c3:0<i
    ·have hwp:IntKind.i64.wrap ((i:Int) - 1)=((i - 1:Nat):Int):=N9 (by omega) c3
     have h3:((i - 1:Nat):Int)<r.length:=by omega
     have h4:(0:Int)<i:=by omega
     unfold jA jB at e1 e2 hwb
     simp only [n_Z34,c_Z34,h1,hw,hwl,hwb,hwp,h3,h4,l1In_eq,e1,e2,decide_true,cond_true,Int.natCast_nonneg,and_self,if_true,tn,List.getD_eq_getElem?_getD,ob,Bool.not_true,cond_false]
     simp only [e3,c3]
     unfold jA jB
     by_cases d1:((r[i]?.getD (.int 0)).fld 0).toInt<((r[i - 1]?.getD (.int 0)).fld 0).toInt
     ·simp [d1]
     ·by_cases d2:((r[i - 1]?.getD (.int 0)).fld 0).toInt=((r[i]?.getD (.int 0)).fld 0).toInt
      ·by_cases d3:((r[i]?.getD (.int 0)).fld 1).toInt≤((r[i - 1]?.getD (.int 0)).fld 1).toInt<;>simp [d2,d3]
      ·simp [d1,d2]
    ·have h4:¬ (0:Int)<i:=by omega
     unfold jA jB at e1 e2 hwb
     simp only [n_Z34,c_Z34,h1,hw,hwl,hwb,h4,l1In_eq,e1,e2,decide_true,decide_false,cond_true,Int.natCast_nonneg,and_self,if_true,tn,List.getD_eq_getElem?_getD,ob,Bool.not_true,cond_false]
     simp only [e3,c3]
     simp
   ·have e1:btw (jB r i) 1 ((l.length:Int) - 1)=true:=O0.2 c1
    have e2:btw (jA r i) 0 (jB r i - 1)=false:=by rw [← Bool.not_eq_true,O0];exact c2
    have e3:(¬ (0≤jA r i∧jA r i<jB r i∧jB r i<(l.length:Int)))↔True:=by simp;omega
    unfold joinBad
    simp only [e3]
    unfold jA jB at e1 e2 hwb
    simp [n_Z34,c_Z34,h1,hwl,hwb,l1In_eq,e1,e2]
  ·have e1:btw (jB r i) 1 ((l.length:Int) - 1)=false:=by rw [← Bool.not_eq_true,O0];exact c1
   have e3:(¬ (0≤jA r i∧jA r i<jB r i∧jB r i<(l.length:Int)))↔True:=by simp;omega
   unfold joinBad
   simp only [e3]
   unfold jB at e1
   simp [n_Z34,c_Z34,h1,hwl,l1In_eq,e1]
 ·simp [n_Z34,c_Z34]
theorem iL8_eq (l r:List D) (hl:l.length≤1048576) (hr:r.length≤1048576):Z20 l r r r.length 0=some (match Uf (joinBad l.length r) r.length with | some _=>.inl (l,r,false) | none=>.inr (l,r)):=by
 refine Yi (N:=fun m i=>n_Z20 m l r r r.length i) _ (fun _=>.inl (l,r,false)) (fun m i hi=>?_) (fun m=>?_)
 ·have hw:IntKind.i64.wrap ((i:Int)+1)=(i:Int)+1:=Uu (by omega) (by omega)
  have h1:(i:Int)<r.length:=by omega
  unfold joinBad
  by_cases c:0≤jA r i∧jA r i<jB r i∧jB r i<(l.length:Int)
  ·have e3:(¬ (0≤jA r i∧jA r i<jB r i∧jB r i<(l.length:Int)))↔False:=by simp;omega
   have f1:¬ jA r i<0:=by omega
   have f2:¬ (l.length:Int)≤jB r i:=by omega
   have f3:¬ jB r i≤jA r i:=by omega
   by_cases c3:0<i
   ·have hwp:IntKind.i64.wrap ((i:Int) - 1)=((i - 1:Nat):Int):=N9 (by omega) c3
    have h3:((i - 1:Nat):Int)<r.length:=by omega
    have h4:(0:Int)<i:=by omega
    simp only [jA,jB] at f1 f2 f3
    simp only [n_Z20,c_Z20,h1,hw,hwp,h3,h4,f1,f2,f3,compare_eq,or_eq,decide_true,decide_false,cond_true,cond_false,Int.natCast_nonneg,and_self,if_true,tn,List.getD_eq_getElem?_getD,ob]
    simp only [e3,c3]
    unfold jA jB
    generalize ((r[i - 1]?.getD (D.int 0)).fld 0).toInt=pa
    generalize ((r[i - 1]?.getD (D.int 0)).fld 1).toInt=pb
    generalize ((r[i]?.getD (D.int 0)).fld 0).toInt=xa
    generalize ((r[i]?.getD (D.int 0)).fld 1).toInt=xb
    have hc:decide (0≤(if cmpV pa xa=0 then cmpV pb xb else cmpV pa xa))=decide (xa<pa∨pa=xa∧xb≤pb):=by
     rw [decide_eq_decide]
     unfold cmpV
     by_cases d1:pa<xa
     ·simp [d1]<;>omega
     ·by_cases d2:xa<pa
      ·simp [d1,d2]
      ·by_cases d3:pb<xb
       ·simp [d1,d2,d3]<;>omega
       ·by_cases d4:xb<pb
        ·simp [d1,d2,d3,d4]<;>omega
        ·simp [d1,d2,d3,d4]<;>omega
    rw [hc]
    cases decide (xa<pa∨pa=xa∧xb≤pb)<;>simp
   ·have h4:¬ (0:Int)<i:=by omega
    simp only [jA,jB] at f1 f2 f3
    simp only [n_Z20,c_Z20,h1,hw,h4,f1,f2,f3,decide_true,decide_false,cond_true,cond_false,Int.natCast_nonneg,and_self,if_true,tn,List.getD_eq_getElem?_getD,ob]
    simp only [e3,c3]
    simp
  ·have e3:(¬ (0≤jA r i∧jA r i<jB r i∧jB r i<(l.length:Int)))↔True:=by simp only [c];simp
   simp only [e3]
   by_cases f1:jA r i<0
   ·unfold jA at f1
    simp [n_Z20,c_Z20,h1,f1]
   ·by_cases f2:(l.length:Int)≤jB r i
    ·unfold jA at f1;unfold jB at f2
     simp [n_Z20,c_Z20,h1,f1,f2]
    ·have f3:jB r i≤jA r i:=by omega
     unfold jA at f1;unfold jB at f2;unfold jA jB at f3
     simp [n_Z20,c_Z20,h1,f1,f2,f3]
 ·simp [n_Z20,c_Z20]
theorem sherds_good (l r:List D) (hl:l.length≤1048576) (hr:r.length≤1048576):∃ b,Z35 l r=some b∧Z21 l r=some b∧(b=true→l.length≤12∧r.length≤20∧∀ i,i<r.length→joinBad l.length r i=false):=by
 simp only [Z35,c_Z35,Z21,c_Z21,sL4_eq l r hl,iL2_eq l r hl,ob]
 by_cases c1:(12:Int)<l.length
 ·refine ⟨false,by simp [c1],?_,by simp⟩
  cases Uf (fun i=>!sherdB (l[i]?.getD (.int 0))) l.length with
  | some _=>rfl
  | none=>
   simp only [Sum.elim_inr,iL8_eq l r hl hr,ob]
   cases Uf (joinBad l.length r) r.length with
   | some _=>rfl
   | none=>
    have:¬ (l.length:Int)≤12:=by omega
    simp [this]
 ·by_cases c2:(20:Int)<r.length
  ·refine ⟨false,by simp [c1,c2],?_,by simp⟩
   cases Uf (fun i=>!sherdB (l[i]?.getD (.int 0))) l.length with
   | some _=>rfl
   | none=>
    simp only [Sum.elim_inr,iL8_eq l r hl hr,ob]
    cases Uf (joinBad l.length r) r.length with
    | some _=>rfl
    | none=>
     have:¬ (r.length:Int)≤20:=by omega
     simp [this]
  ·have c1':(l.length:Int)≤12:=by omega
   have c2':(r.length:Int)≤20:=by omega
   simp only [c1,c2,decide_false,cond_false]
   cases Uf (fun i=>!sherdB (l[i]?.getD (.int 0))) l.length with
   | some _=>exact ⟨false,rfl,rfl,by simp⟩
   | none=>
    simp only [Sum.elim_inr,sL10_eq l r hl hr,iL8_eq l r hl hr,ob]
    cases hf:Uf (joinBad l.length r) r.length with
    | some _=>exact ⟨false,rfl,rfl,by simp⟩
    | none=>exact ⟨true,rfl,by simp [c1',c2'],fun _=>⟨by omega,by omega,N8 hf⟩⟩
def stp (s:Nat→Int) (e:Nat×Nat):Nat→Int:=fun v=>if v=e.1∨v=e.2 then min (s e.1) (s e.2) else s v
def passL (E:List (Nat×Nat)) (s:Nat→Int):Nat→Int:=E.foldl stp s
def iterL (E:List (Nat×Nat)):Nat→(Nat→Int)→Nat→Int
 | 0,s=>s
 | k+1,s=>iterL E k (passL E s)
def allE (E:List (Nat×Nat)) (s:Nat→Int):Prop:=∀ e∈E,s e.1=s e.2
def doneE (E:List (Nat×Nat)) (s:Nat→Int) (e:Nat×Nat):Prop:=s e.1=s e.2∧∀ f∈E,min (s f.1) (s f.2)<s e.1→s f.1=s f.2
theorem stp_id {s:Nat→Int} {e:Nat×Nat} (h:s e.1=s e.2):stp s e=s:=by
 funext v
 unfold stp
 by_cases hv:v=e.1∨v=e.2
 ·rw [if_pos hv]
  rcases hv with rfl | rfl<;>omega
 ·rw [if_neg hv]
theorem stp_done {E:List (Nat×Nat)} {s:Nat→Int} {e f:Nat×Nat} (hf:f∈E) (h:doneE E s e):doneE E (stp s f) e∧stp s f e.1=s e.1:=by
 by_cases hq:s f.1=s f.2
 ·rw [stp_id hq];exact ⟨h,rfl⟩
 ·obtain ⟨h1,h2⟩:=h
  have hm:s e.1≤min (s f.1) (s f.2):=by
   rcases Int.lt_or_le (min (s f.1) (s f.2)) (s e.1) with h3 | h3
   ·exact absurd (h2 f hf h3) hq
   ·exact h3
  have hin:∀ v,(v=f.1∨v=f.2)→stp s f v=min (s f.1) (s f.2):=fun v hv=>by unfold stp;rw [if_pos hv]
  have hout:∀ v,¬ (v=f.1∨v=f.2)→stp s f v=s v:=fun v hv=>by unfold stp;rw [if_neg hv]
  have keep:∀ v,s v=s e.1→stp s f v=s e.1:=by
   intro v hv
   by_cases hi:v=f.1∨v=f.2
   ·rw [hin v hi]
    rcases hi with rfl | rfl<;>omega
   ·rw [hout v hi,hv]
  have k1:=keep e.1 rfl
  have k2:=keep e.2 h1.symm
  refine ⟨⟨by rw [k1,k2],fun g hg hlt=>?_⟩,k1⟩
  rw [k1] at hlt
  have low:∀ v,stp s f v<s e.1→stp s f v=s v:=by
   intro v hv
   by_cases hi:v=f.1∨v=f.2
   ·rw [hin v hi] at hv;omega
   ·exact hout v hi
  have low':∀ v,s v<s e.1→stp s f v=s v:=by
   intro v hv
   by_cases hi:v=f.1∨v=f.2
   ·exfalso
    rcases hi with rfl | rfl<;>omega
   ·exact hout v hi
  have hl:min (s g.1) (s g.2)<s e.1:=by
   rcases Int.lt_or_le (stp s f g.1) (s e.1) with h3 | h3
   ·have:=low _ h3;omega
   ·have h4:stp s f g.2<s e.1:=by omega
    have:=low _ h4;omega
  have he:=h2 g hg hl
  rw [low' g.1 (by omega),low' g.2 (by omega)]
  exact he
theorem fold_done {E:List (Nat×Nat)} {e:Nat×Nat}:∀ {l:List (Nat×Nat)} {s:Nat→Int},(∀ f∈l,f∈E)→doneE E s e→doneE E (l.foldl stp s) e∧l.foldl stp s e.1=s e.1
 | [],s,_,h=>⟨h,rfl⟩
 | f::l,s,hl,h=>by
  obtain ⟨h1,h2⟩:=stp_done (hl f (by simp)) h
  obtain ⟨h3,h4⟩:=fold_done (l:=l) (fun g hg=>hl g (by simp [hg])) h1
  exact ⟨h3,h4.trans h2⟩
theorem exists_least {α:Type} (m:α→Int):∀ (l:List α) (P:α→Prop),(∃ a∈l,P a)→∃ a∈l,P a∧∀ b∈l,P b→m a≤m b
 | [],P,⟨a,h,_⟩=>by cases h
 | x::l,P,h=>by
  by_cases hl:∃ a∈l,P a
  ·obtain ⟨a,h1,h2,h3⟩:=exists_least m l P hl
   by_cases hx:P x∧m x<m a
   ·refine ⟨x,by simp,hx.1,fun b hb hP=>?_⟩
    rcases List.mem_cons.1 hb with rfl | hb
    ·omega
    ·have:=h3 b hb hP;omega
   ·refine ⟨a,by simp [h1],h2,fun b hb hP=>?_⟩
    rcases List.mem_cons.1 hb with rfl | hb
    ·rcases Int.lt_or_le (m b) (m a) with h4 | h4
     ·exact absurd ⟨hP,h4⟩ hx
     ·exact h4
    ·exact h3 b hb hP
  ·obtain ⟨a,h1,h2⟩:=h
   rcases List.mem_cons.1 h1 with rfl | h1
   ·refine ⟨a,by simp,h2,fun b hb hP=>?_⟩
    rcases List.mem_cons.1 hb with rfl | hb
    ·exact Int.le_refl _
    ·exact absurd ⟨b,hb,hP⟩ hl
   ·exact absurd ⟨a,h1,h2⟩ hl
theorem pass_more {E:List (Nat×Nat)} {s:Nat→Int} (h:¬ allE E s):∃ e∈E,¬ doneE E s e∧doneE E (passL E s) e:=by
 have h0:∃ e∈E,s e.1≠s e.2:=Classical.byContradiction fun hn=>h fun e he=>Classical.byContradiction fun hne=>hn ⟨e,he,hne⟩
 obtain ⟨e,he,hne,hmin⟩:=exists_least (fun e=>min (s e.1) (s e.2)) E (fun e=>s e.1≠s e.2) h0
 refine ⟨e,he,fun hd=>hne hd.1,?_⟩
 obtain ⟨u,w,hu,hw⟩:∃ u w,s u=min (s e.1) (s e.2)∧((u=e.1∧w=e.2)∨(u=e.2∧w=e.1)):=by
  rcases Int.le_total (s e.1) (s e.2) with hle | hle
  ·exact ⟨e.1,e.2,by omega,.inl ⟨rfl,rfl⟩⟩
  ·exact ⟨e.2,e.1,by omega,.inr ⟨rfl,rfl⟩⟩
 have d0:doneE E s (u,u):=⟨rfl,fun f hf hlt=>Classical.byContradiction fun hq=>by
  have h1:=hmin f hf hq
  simp only at hlt h1
  omega⟩
 obtain ⟨l1,l2,hl⟩:=List.append_of_mem he
 have hsub1:∀ f∈l1,f∈E:=fun f hf=>by rw [hl];simp [hf]
 have hsub2:∀ f∈l2,f∈E:=fun f hf=>by rw [hl];simp [hf]
 obtain ⟨d1,v1⟩:=fold_done (e:=(u,u)) hsub1 d0
 obtain ⟨d2,v2⟩:=stp_done he d1
 simp only at v1 v2
 have hp:passL E s=l2.foldl stp (stp (l1.foldl stp s) e):=by
  unfold passL
  rw [hl,List.foldl_append,List.foldl_cons]
 rw [hp]
 have hwv:stp (l1.foldl stp s) e w=l1.foldl stp s u:=by
  have hin:stp (l1.foldl stp s) e w=min (l1.foldl stp s e.1) (l1.foldl stp s e.2):=by
   unfold stp;rw [if_pos (by rcases hw with ⟨_,rfl⟩ | ⟨_,rfl⟩<;>simp)]
  have hnl:¬ min (l1.foldl stp s e.1) (l1.foldl stp s e.2)<l1.foldl stp s u:=by
   intro hlt
   have hq:=d1.2 e he hlt
   rcases hw with ⟨rfl,_⟩ | ⟨rfl,_⟩<;>omega
  rw [hin]
  rcases hw with ⟨rfl,_⟩ | ⟨rfl,_⟩<;>omega
 have d3:doneE E (stp (l1.foldl stp s) e) e:=by
  have h2:=d2.2
  simp only at h2
  rcases hw with ⟨rfl,rfl⟩ | ⟨rfl,rfl⟩
  ·exact ⟨by rw [v2,hwv],h2⟩
  ·refine ⟨by rw [v2,hwv],?_⟩
   rw [hwv,← v2];exact h2
 exact (fold_done hsub2 d3).1
theorem countP_lt {α:Type} {p q:α→Bool}:∀ {l:List α},(∀ a∈l,p a=true→q a=true)→(∃ a∈l,p a=false∧q a=true)→l.countP p<l.countP q
 | [],_,⟨a,h,_⟩=>by cases h
 | x::l,h,⟨a,h1,h2,h3⟩=>by
  have hle:l.countP p≤l.countP q:=List.countP_mono_left (fun a ha hp=>h a (by simp [ha]) hp)
  rw [List.countP_cons,List.countP_cons]
  rcases List.mem_cons.1 h1 with rfl | h1
  ·simp [h2,h3];omega
  ·have:=countP_lt (l:=l) (fun a ha hp=>h a (by simp [ha]) hp) ⟨a,h1,h2,h3⟩
   have hx:=h x (by simp)
   cases hpx:p x
   ·cases hqx:q x<;>simp<;>omega
   ·simp [hx hpx];omega
open Classical in
noncomputable def cntE (E:List (Nat×Nat)) (s:Nat→Int):Nat:=E.countP (fun e=>decide (doneE E s e))
theorem pass_id {E:List (Nat×Nat)} {s:Nat→Int} (h:allE E s):passL E s=s:=by
 have:∀ l:List (Nat×Nat),(∀ e∈l,e∈E)→l.foldl stp s=s:=by
  intro l
  induction l with
  | nil=>intro _;rfl
  | cons a l ih=>
   intro hl
   rw [List.foldl_cons,stp_id (h a (hl a (by simp)))]
   exact ih (fun e he=>hl e (by simp [he]))
 exact this E (fun e he=>he)
theorem iter_id {E:List (Nat×Nat)} {s:Nat→Int} (h:allE E s):∀ k,iterL E k s=s
 | 0=>rfl
 | k+1=>by rw [iterL,pass_id h];exact iter_id h k
theorem cnt_lt {E:List (Nat×Nat)} {s:Nat→Int} (h:¬ allE E s):cntE E s<cntE E (passL E s):=by
 unfold cntE
 obtain ⟨e,he,h1,h2⟩:=pass_more h
 exact countP_lt (fun f hf hp=>by
  simp only [decide_eq_true_eq] at hp ⊢
  exact (fold_done (fun g hg=>hg) hp).1) ⟨e,he,by simp [h1],by simp [h2]⟩
theorem iter_all {E:List (Nat×Nat)}:∀ (k:Nat) (s:Nat→Int),E.length≤cntE E s+k→allE E (iterL E k s)
 | 0,s,h=>by
  intro e he
  have hc:cntE E s=E.length:=Nat.le_antisymm List.countP_le_length (by omega)
  unfold cntE at hc
  rw [List.countP_eq_length] at hc
  have:=hc e he
  simp only [decide_eq_true_eq] at this
  exact this.1
 | k+1,s,h=>by
  rw [iterL]
  by_cases ha:allE E s
  ·rw [pass_id ha]
   rw [iter_id ha]
   exact ha
  ·exact iter_all k _ (by have:=cnt_lt ha;omega)
theorem iter_full (E:List (Nat×Nat)) (s:Nat→Int):allE E (iterL E E.length s):=iter_all _ _ (by omega)
def lst (n:Nat) (s:Nat→Int):List D:=(List.range n).map (fun v=>.int (s v))
theorem lst_len {n:Nat} {s:Nat→Int}:(lst n s).length=n:=by simp [lst]
theorem lst_get {n v:Nat} {s:Nat→Int} (h:v<n):(lst n s)[v]?.getD (.int 0)=.int (s v):=by simp [lst,h]
theorem lst_set {n a:Nat} {s:Nat→Int} {x:Int}:(lst n s).set a (.int x)=lst n (fun v=>if v=a then x else s v):=by
 apply List.ext_getElem
 ·simp [lst]
 ·intro i h1 h2
  simp only [lst,List.getElem_set,List.getElem_map,List.getElem_range]
  by_cases h:a=i
  ·subst h;simp
  ·have h':¬ i=a:=fun e=>h e.symm
   simp [h,h']
def edgeOf (d:D):Nat×Nat:=((d.fld 0).toInt.toNat,(d.fld 1).toInt.toNat)
def edges (r:List D):List (Nat×Nat):=r.map edgeOf
def validJ (n:Nat) (r:List D):Prop:=∀ i,i<r.length→∃ a b:Nat,((r[i]?.getD (.int 0)).fld 0).toInt=(a:Int)∧((r[i]?.getD (.int 0)).fld 1).toInt=(b:Int)∧a<b∧b<n∧(edges r)[i]?=some (a,b)
theorem validJ_of {n:Nat} {r:List D} (h:∀ i,i<r.length→joinBad n r i=false):validJ n r:=by
 intro i hi
 have hb:=h i hi
 unfold joinBad at hb
 rw [Bool.or_eq_false_iff] at hb
 have h1:=hb.1
 simp only [decide_eq_false_iff_not,Classical.not_not] at h1
 obtain ⟨h2,h3,h4⟩:=h1
 refine ⟨(jA r i).toNat,(jB r i).toNat,?_,?_,by omega,by omega,?_⟩
 ·unfold jA at h2 h3 ⊢;omega
 ·unfold jA at h2 h3;unfold jB at h3 ⊢;omega
 ·simp only [edges,List.getElem?_map,List.getElem?_eq_getElem hi,Option.map_some,oj]
  simp only [edgeOf,jA,jB,List.getElem?_eq_getElem hi,Option.getD_some]
theorem validJ_take {n:Nat} {r:List D} (h:validJ n r) (k:Nat):validJ n (r.take k):=by
 intro i hi
 rw [List.length_take] at hi
 obtain ⟨a,b,h1,h2,h3,h4,h5⟩:=h i (by omega)
 have e1:(r.take k)[i]?=r[i]?:=by rw [List.getElem?_take];simp;omega
 refine ⟨a,b,by rw [e1];exact h1,by rw [e1];exact h2,h3,h4,?_⟩
 simp only [edges,List.getElem?_map,e1] at h5 ⊢
 exact h5
theorem iter_add {E:List (Nat×Nat)}:∀ (a b:Nat) (s:Nat→Int),iterL E (a+b) s=iterL E b (iterL E a s)
 | 0,b,s=>by rw [Nat.zero_add];rfl
 | a+1,b,s=>by
  rw [show a+1+b=(a+b)+1 by omega]
  simp only [iterL]
  exact iter_add a b _
def finalS (r:List D):Nat→Int:=iterL (edges r) (edges r).length (fun v=>(v:Int))
theorem iter_end {E:List (Nat×Nat)} {s:Nat→Int} {k:Nat} (h:allE E (iterL E k s)):iterL E k s=iterL E E.length s:=by
 have h1:=iter_add (E:=E) k E.length s
 have h2:=iter_add (E:=E) E.length k s
 rw [iter_id h] at h1
 rw [iter_id (iter_full E s)] at h2
 rw [← h1,← h2,Nat.add_comm]
theorem stp_lst {n a b:Nat} {s:Nat→Int} {x:Int} (hx:x=min (s a) (s b)):((lst n s).set a (.int x)).set b (.int x)=lst n (stp s (a,b)):=by
 rw [lst_set,lst_set]
 congr 1
 funext v
 unfold stp
 simp only
 subst hx
 by_cases h1:v=b
 ·simp [h1]
 ·by_cases h2:v=a
  ·simp [h1,h2]
  ·simp [h1,h2]
theorem take_fold {E:List (Nat×Nat)} {i:Nat} {e:Nat×Nat} (h:E[i]?=some e) (s:Nat→Int):(E.take (i+1)).foldl stp s=stp ((E.take i).foldl stp s) e:=by
 obtain ⟨hi,he⟩:=List.getElem?_eq_some_iff.1 h
 rw [List.take_succ_eq_append_getElem hi,List.foldl_append,he]
 rfl
theorem edges_len {r:List D}:(edges r).length=r.length:=by simp [edges]
theorem least_eq (a b:Int):Z37 a b=some (min a b):=by
 unfold Z37 c_Z37
 by_cases h:a<b
 ·simp only [h,decide_true,cond_true];congr 1;omega
 ·simp only [h,decide_false,cond_false];congr 1;omega
theorem sLab10 (n:Nat) (r:List D) (hn:n≤1048576) (hr:r.length≤1048576) (hv:validJ n r) (s0:Nat→Int) :
  ∃ more,Z38 r false 0 (lst n s0)=some (r,more,lst n (passL (edges r) s0))∧(more=false→allE (edges r) s0)∧(more=true→¬ allE (edges r) s0):=by
 obtain ⟨y,h1,h2⟩:=V3 (N:=fun m (s:Bool×Nat×List D)=>n_Z38 m r s.1 (s.2.1:Int) s.2.2)
  (fun s=>s.2.1≤r.length∧s.2.2=lst n (((edges r).take s.2.1).foldl stp s0)∧(s.1=false→((edges r).take s.2.1).foldl stp s0=s0∧∀ e∈(edges r).take s.2.1,s0 e.1=s0 e.2)∧(s.1=true→¬ allE (edges r) s0))
  (fun s=>r.length - s.2.1) (fun s y=>y.1=r∧y.2.2=lst n (passL (edges r) s0)∧(y.2.1=false→allE (edges r) s0)∧(y.2.1=true→¬ allE (edges r) s0)) (by
  rintro ⟨more,i,acc⟩ ⟨hi,hacc,hf,ht⟩
  simp only at hi hacc hf ht ⊢
  subst hacc
  by_cases hlt:i<r.length
  ·obtain ⟨a,b,ea,eb,hab,hbn,he⟩:=hv i hlt
   have h1:(i:Int)<r.length:=by omega
   have hw:IntKind.i64.wrap ((i:Int)+1)=((i+1:Nat):Int):=UD (by omega)
   have ga:(a:Int)<n:=by omega
   have gb:(b:Int)<n:=by omega
   have ga':a+1≤n:=by omega
   have gb':b+1≤n:=by omega
   generalize hs:((edges r).take i).foldl stp s0=s at hf
   have hfold:((edges r).take (i+1)).foldl stp s0=stp s (a,b):=by rw [take_fold he,hs]
   by_cases hq:s a=s b
   ·refine .inr ⟨(more,i+1,lst n (((edges r).take (i+1)).foldl stp s0)),⟨by simp;omega,rfl,fun hm=>?_,ht⟩,by simp;omega,fun y hy=>hy,fun m=>?_⟩
    ·obtain ⟨k1,k2⟩:=hf hm
     refine ⟨by rw [hfold,stp_id (e:=(a,b)) hq,k1],fun e hme=>?_⟩
     obtain ⟨hi',he'⟩:=List.getElem?_eq_some_iff.1 he
     rw [List.take_succ_eq_append_getElem hi',he',List.mem_append] at hme
     rcases hme with hme | hme
     ·exact k2 e hme
     ·simp only [List.mem_singleton] at hme
      subst hme
      rw [← k1];exact hq
    ·simp only [hfold,stp_id (e:=(a,b)) hq]
     simp only [n_Z38,c_Z38,h1,decide_true,cond_true,Int.natCast_nonneg,and_self,if_true,tn,List.getD_eq_getElem?_getD,ea,eb,lst_len,ga,gb,ga',gb',lst_get (show a<n by omega),lst_get hbn,OZ,hq,Bool.not_true,cond_false,hw]
     cases n_Z38 m r more ((i+1:Nat):Int) (lst n s)<;>rfl
   ·refine .inr ⟨(true,i+1,lst n (((edges r).take (i+1)).foldl stp s0)),⟨by simp;omega,rfl,fun hm=>(by cases hm),fun _=>?_⟩,by simp;omega,fun y hy=>hy,fun m=>?_⟩
    ·cases more with
     | true=>exact ht rfl
     | false=>
      obtain ⟨k1,k2⟩:=hf rfl
      intro hall
      have:=hall (a,b) (List.mem_of_getElem? he)
      rw [← k1] at this
      exact hq this
    ·simp only [hfold]
     rw [← stp_lst (n:=n) (x:=min (s a) (s b)) rfl]
     simp only [n_Z38,c_Z38,h1,decide_true,cond_true,Int.natCast_nonneg,and_self,if_true,tn,List.getD_eq_getElem?_getD,ea,eb,lst_len,ga,gb,ga',gb',lst_get (show a<n by omega),lst_get hbn,OZ,hq,decide_false,Bool.not_false,hw,least_eq,ob,List.length_set]
     cases n_Z38 m r true ((i+1:Nat):Int) (((lst n s).set a (.int (min (s a) (s b)))).set b (.int (min (s a) (s b))))<;>rfl
  ·have hi':i=r.length:=by omega
   subst hi'
   have hall:(edges r).take r.length=edges r:=List.take_of_length_le (by rw [edges_len];exact Nat.le_refl _)
   rw [hall] at hf
   refine .inl ⟨(r,more,lst n (passL (edges r) s0)),⟨rfl,rfl,fun hm=>(hf hm).2,ht⟩,fun m=>?_⟩
   simp [n_Z38,c_Z38,hall,passL]) (false,0,lst n s0) ⟨by simp,by simp,fun _=>(by simp),fun h=>(by cases h)⟩
 obtain ⟨y1,y2,y3⟩:=y
 simp only at h2
 obtain ⟨rfl,rfl,h3,h4⟩:=h2
 exact ⟨y2,h1,h3,h4⟩
theorem sLab7 (n:Nat) (r:List D) (hn:n≤1048576) (hr:r.length≤1048576) (hv:validJ n r):Z39 r true (lst n (fun v=>(v:Int)))=some (lst n (finalS r)):=by
 obtain ⟨y,h1,h2⟩:=V3 (N:=fun m (s:Bool×(Nat→Int))=>n_Z39 m r s.1 (lst n s.2))
  (fun s=>∃ k,s.2=iterL (edges r) k (fun v=>(v:Int))∧(s.1=false→allE (edges r) s.2))
  (fun s=>if s.1=true then 1+((edges r).length - cntE (edges r) s.2) else 0) (fun s y=>y=lst n (finalS r)) (by
  rintro ⟨more,s⟩ ⟨k,hk,hall⟩
  simp only at hk hall ⊢
  cases more with
  | false=>
   refine .inl ⟨_,rfl,fun m=>?_⟩
   have:=iter_end (E:=edges r) (s:=fun v=>(v:Int)) (k:=k) (by rw [← hk];exact hall rfl)
   simp only [n_Z39,c_Z39,cond_false,finalS,← this,hk]
  | true=>
   obtain ⟨more',e1,e2,e3⟩:=sLab10 n r hn hr hv s
   refine .inr ⟨(more',passL (edges r) s),⟨k+1,?_,fun hm=>?_⟩,?_,fun y hy=>hy,fun m=>?_⟩
   ·simp only
    rw [iter_add,← hk];rfl
   ·simp only at hm ⊢
    rw [pass_id (e2 hm)];exact e2 hm
   ·cases more' with
    | false=>simp;omega
    | true=>
     have h1:=cnt_lt (e3 rfl)
     have h2:cntE (edges r) (passL (edges r) s)≤(edges r).length:=by unfold cntE;exact List.countP_le_length
     simp only [if_true]
     omega
   ·simp only [n_Z39,c_Z39,cond_true,e1,ob]
    cases n_Z39 m r more' (lst n (passL (edges r) s))<;>rfl) (true,fun v=>(v:Int)) ⟨0,rfl,fun h=>(by cases h)⟩
 subst h2
 exact h1
theorem lst_succ {i:Nat} {s:Nat→Int}:lst (i+1) s=lst i s++[.int (s i)]:=by simp [lst,List.range_succ]
theorem sLab_eq (n:Nat) (r:List D) (hn:n≤1048576) (hr:r.length≤1048576) (hv:validJ n r):Z40 (n:Int) r=some (lst n (finalS r)):=by
 have h3:Z36 (n:Int) r 0 []=some (r,lst n (fun v=>(v:Int))):=by
  obtain ⟨y,h1,h2⟩:=V3 (N:=fun m (i:Nat)=>n_Z36 m (n:Int) r (i:Int) (lst i (fun v=>(v:Int)))) (fun i=>i≤n) (fun i=>n - i) (fun s y=>y=(r,lst n (fun v=>(v:Int)))) (by
   intro i hi
   by_cases hlt:i<n
   ·refine .inr ⟨i+1,by omega,by omega,fun y hy=>hy,fun m=>?_⟩
    have h1:(i:Int)<n:=by omega
    have hw:IntKind.i64.wrap ((i:Int)+1)=((i+1:Nat):Int):=UD (by omega)
    have h2:(lst i (fun v=>(v:Int))).length+([D.int (i:Int)]:List D).length≤4294967296:=by simp [lst_len];omega
    rw [lst_succ]
    simp only [n_Z36,c_Z36,h1,decide_true,cond_true,h2,if_true,hw]
    cases n_Z36 m (n:Int) r ((i+1:Nat):Int) (lst i (fun v=>(v:Int))++[.int (i:Int)])<;>rfl
   ·have:i=n:=by omega
    subst this
    exact .inl ⟨_,rfl,fun m=>by simp [n_Z36,c_Z36]⟩) 0 (by omega)
  subst h2
  exact h1
 simp only [Z40,c_Z40,h3,sLab7 n r hn hr hv,ob]
theorem min_if (x y:Int):(if y<x then y else x)=min x y:=by
 by_cases h:y<x<;>simp [h]<;>omega
theorem iLab10 (n:Nat) (r:List D) (hn:n≤1048576) (hr:r.length≤1048576) (hv:validJ n r) (s0:Nat→Int) (x1 x2:Int):Z23 r x1 x2 r r.length 0 (lst n s0)=some (r,x1,x2,lst n (passL (edges r) s0)):=by
 obtain ⟨y,h1,h2⟩:=V3 (N:=fun m (i:Nat)=>n_Z23 m r x1 x2 r r.length (i:Int) (lst n (((edges r).take i).foldl stp s0))) (fun i=>i≤r.length) (fun i=>r.length - i) (fun s y=>y=(r,x1,x2,lst n (passL (edges r) s0))) (by
  intro i hi
  by_cases hlt:i<r.length
  ·obtain ⟨a,b,ea,eb,hab,hbn,he⟩:=hv i hlt
   have h1:(i:Int)<r.length:=by omega
   have hw:IntKind.i64.wrap ((i:Int)+1)=((i+1:Nat):Int):=UD (by omega)
   have ga:(a:Int)<n:=by omega
   have gb:(b:Int)<n:=by omega
   have ga':a+1≤n:=by omega
   have gb':b+1≤n:=by omega
   refine .inr ⟨i+1,by omega,by omega,fun y hy=>hy,fun m=>?_⟩
   rw [take_fold he]
   generalize ((edges r).take i).foldl stp s0=s
   rw [← stp_lst (n:=n) (x:=min (s a) (s b)) rfl]
   simp only [n_Z23,c_Z23,h1,decide_true,cond_true,Int.natCast_nonneg,and_self,if_true,tn,List.getD_eq_getElem?_getD,ea,eb,lst_len,ga,gb,ga',gb',lst_get (show a<n by omega),lst_get hbn,OZ,hw,List.length_set,min_if]
   cases n_Z23 m r x1 x2 r r.length ((i+1:Nat):Int) (((lst n s).set a (.int (min (s a) (s b)))).set b (.int (min (s a) (s b))))<;>rfl
  ·have hi':i=r.length:=by omega
   subst hi'
   have hall:(edges r).take r.length=edges r:=List.take_of_length_le (by rw [edges_len];exact Nat.le_refl _)
   exact .inl ⟨_,rfl,fun m=>by simp [n_Z23,c_Z23,hall,passL]⟩) 0 (by omega)
 subst h2
 show ev _=_
 simpa using h1
theorem iLab_eq (n:Nat) (r:List D) (hn:n≤1048576) (hr:r.length≤1048576) (hv:validJ n r):Z25 (n:Int) r=some (lst n (finalS r)):=by
 have h3:Z22 r (n:Int) 0 []=some (r,lst n (fun v=>(v:Int))):=by
  obtain ⟨y,h1,h2⟩:=V3 (N:=fun m (i:Nat)=>n_Z22 m r (n:Int) (i:Int) (lst i (fun v=>(v:Int)))) (fun i=>i≤n) (fun i=>n - i) (fun s y=>y=(r,lst n (fun v=>(v:Int)))) (by
   intro i hi
   by_cases hlt:i<n
   ·refine .inr ⟨i+1,by omega,by omega,fun y hy=>hy,fun m=>?_⟩
    have h1:(i:Int)<n:=by omega
    have hw:IntKind.i64.wrap ((i:Int)+1)=((i+1:Nat):Int):=UD (by omega)
    have h2:(lst i (fun v=>(v:Int))).length+([D.int (i:Int)]:List D).length≤4294967296:=by simp [lst_len];omega
    rw [lst_succ]
    simp only [n_Z22,c_Z22,h1,decide_true,cond_true,h2,if_true,hw]
    cases n_Z22 m r (n:Int) ((i+1:Nat):Int) (lst i (fun v=>(v:Int))++[.int (i:Int)])<;>rfl
   ·have:i=n:=by omega
    subst this
    exact .inl ⟨_,rfl,fun m=>by simp [n_Z22,c_Z22]⟩) 0 (by omega)
  subst h2
  exact h1
 have h8:Z24 r r.length 0 (lst n (fun v=>(v:Int)))=some (lst n (finalS r)):=by
  obtain ⟨y,h1,h2⟩:=V3 (N:=fun m (i:Nat)=>n_Z24 m r r.length (i:Int) (lst n (iterL (edges r) i (fun v=>(v:Int))))) (fun i=>i≤r.length) (fun i=>r.length - i) (fun s y=>y=lst n (finalS r)) (by
   intro i hi
   by_cases hlt:i<r.length
   ·refine .inr ⟨i+1,by omega,by omega,fun y hy=>hy,fun m=>?_⟩
    have h1:(i:Int)<r.length:=by omega
    have hw:IntKind.i64.wrap ((i:Int)+1)=((i+1:Nat):Int):=UD (by omega)
    rw [iter_add]
    simp only [n_Z24,c_Z24,h1,decide_true,cond_true,iLab10 n r hn hr hv,ob,hw,iterL]
    cases n_Z24 m r r.length ((i+1:Nat):Int) (lst n (passL (edges r) (iterL (edges r) i (fun v=>(v:Int)))))<;>rfl
   ·have hi':i=r.length:=by omega
    subst hi'
    exact .inl ⟨_,rfl,fun m=>by simp [n_Z24,c_Z24,finalS,edges_len]⟩) 0 (by omega)
  subst h2
  exact h1
 simp only [Z25,c_Z25,h3,h8,ob]
theorem mapIx_cons (d:D) (l:List D) (k:Int):H1 (d::l) k=if k=(d.fld 0).toInt then some 0 else (H1 l k).map (·+1):=by
 unfold H1
 rw [List.findIdx?_cons]
 by_cases h:k=(d.fld 0).toInt
 ·rw [if_pos h];simp [h]
 ·rw [if_neg h];simp [h]
theorem mapGet_cons (d:D) (l:List D) (k:Int):Qs (d::l) k=if k=(d.fld 0).toInt then (d.fld 1).toInt else Qs l k:=by
 unfold Qs
 rw [mapIx_cons]
 by_cases h:k=(d.fld 0).toInt
 ·simp [h]
 ·rw [if_neg h,if_neg h]
  cases H1 l k<;>simp
theorem mapPut_cons (d:D) (l:List D) (k v:Int):QY (d::l) k v=if k=(d.fld 0).toInt then .node [.int k,.int v]::l else d::QY l k v:=by
 unfold QY
 rw [mapIx_cons]
 by_cases h:k=(d.fld 0).toInt
 ·simp [h]
 ·rw [if_neg h,if_neg h]
  cases H1 l k<;>simp
theorem mapGet_put (k v k':Int):∀ (l:List D),Qs (QY l k v) k'=if k'=k then v else Qs l k'
 | []=>by
  have e:QY [] k v=[.node [.int k,.int v]]:=rfl
  rw [e,mapGet_cons]
  rfl
 | d::l=>by
  rw [mapPut_cons]
  by_cases h:k=(d.fld 0).toInt
  ·rw [if_pos h,mapGet_cons,mapGet_cons]
   show (if k'=k then v else Qs l k')=_
   by_cases h2:k'=k
   ·rw [if_pos h2,if_pos h2]
   ·rw [if_neg h2,if_neg h2,if_neg (by rw [← h];exact h2)]
  ·rw [if_neg h,mapGet_cons,mapGet_cons,mapGet_put k v k' l]
   by_cases h2:k'=(d.fld 0).toInt
   ·rw [if_pos h2,if_pos h2,if_neg (fun e=>h (by rw [← e];exact h2))]
   ·rw [if_neg h2,if_neg h2]
structure Lab (E:List (Nat×Nat)) (s:Nat→Int):Prop where
 rng:∀ v:Nat,0≤s v∧s v≤v
 con:∀ T:Nat→Prop,(∀ e∈E,T e.1↔T e.2)→∀ v,T v→T (s v).toNat
theorem Lab.one {E:List (Nat×Nat)} {s:Nat→Int} {e:Nat×Nat} (he:e∈E) (h:Lab E s):Lab E (stp s e):=by
 have hm:min (s e.1) (s e.2)=s e.1∨min (s e.1) (s e.2)=s e.2:=by omega
 have r1:=h.rng e.1
 have r2:=h.rng e.2
 refine ⟨fun v=>?_,fun T hT v hv=>?_⟩
 ·unfold stp
  split
  ·rename_i hc
   rcases hc with rfl | rfl<;>omega
  ·exact h.rng v
 ·unfold stp
  split
  ·rename_i hc
   have h12:T e.1∧T e.2:=by
    rcases hc with rfl | rfl
    ·exact ⟨hv,(hT e he).1 hv⟩
    ·exact ⟨(hT e he).2 hv,hv⟩
   rcases hm with hm | hm
   ·rw [hm];exact h.con T hT _ h12.1
   ·rw [hm];exact h.con T hT _ h12.2
  ·exact h.con T hT v hv
theorem Lab.fold {E:List (Nat×Nat)}:∀ {l:List (Nat×Nat)} {s:Nat→Int},(∀ f∈l,f∈E)→Lab E s→Lab E (l.foldl stp s)
 | [],s,_,h=>h
 | e::l,s,hl,h=>Lab.fold (l:=l) (fun f hf=>hl f (List.mem_cons_of_mem _ hf)) (h.one (hl e (List.mem_cons_self ..)))
theorem Lab.iter {E:List (Nat×Nat)}:∀ (k:Nat) {s:Nat→Int},Lab E s→Lab E (iterL E k s)
 | 0,s,h=>h
 | k+1,s,h=>Lab.iter k (Lab.fold (l:=E) (fun f hf=>hf) h)
theorem finalS_lab (r:List D):Lab (edges r) (finalS r):=Lab.iter _ ⟨fun v=>by omega,fun T _ v hv=>by simpa using hv⟩
structure LabOK (s:Nat→Int):Prop where
 rng:∀ v:Nat,0≤s v∧s v≤v
 root:∀ v:Nat,s (s v).toNat=s v
theorem finalS_ok (r:List D):LabOK (finalS r):=by
 have h:=finalS_lab r
 refine ⟨h.rng,fun v=>?_⟩
 exact h.con (fun u=>finalS r u=finalS r v) (fun e he=>by
  have:=iter_full (edges r) (fun v=>(v:Int)) e he
  show finalS r e.1=_↔finalS r e.2=_
  unfold finalS
  rw [this]) v rfl
def rootB (s:Nat→Int) (i:Nat):Bool:=decide (s i=(i:Int))
def roots (m:Nat) (s:Nat→Int):List Nat:=(List.range m).filter (rootB s)
def clsN (n:Nat) (s:Nat→Int) (h:Nat):List Nat:=(List.range n).filter (fun k=>decide (s k=(h:Int)))
def cls (n:Nat) (s:Nat→Int) (h:Nat):List D:=(clsN n s h).map (fun k=>D.int ((k:Nat):Int))
def vesL (m n:Nat) (s:Nat→Int):List D:=(roots m s).map (fun h=>.node (cls n s h))
theorem roots_succ {m:Nat} {s:Nat→Int}:roots (m+1) s=roots m s++(if rootB s m then [m] else []):=by
 unfold roots
 rw [List.range_succ,List.filter_append,List.filter_cons,List.filter_nil]
theorem clsN_succ {m h:Nat} {s:Nat→Int}:clsN (m+1) s h=clsN m s h++(if s m=(h:Int) then [m] else []):=by
 unfold clsN
 rw [List.range_succ,List.filter_append]
 congr 1
 rw [List.filter_cons]
 by_cases h:s m=(h:Int)<;>simp [h]
theorem cls_succ {m h:Nat} {s:Nat→Int}:cls (m+1) s h=cls m s h++(if s m=(h:Int) then [.int (m:Int)] else []):=by
 unfold cls
 rw [clsN_succ,List.map_append]
 congr 1
 split<;>rfl
theorem roots_le (m:Nat) (s:Nat→Int):(roots m s).length≤m:=by
 have:=List.length_filter_le (rootB s) (List.range m)
 simpa [roots] using this
theorem cls_le (n:Nat) (s:Nat→Int) (h:Nat):(cls n s h).length≤n:=by
 have:=List.length_filter_le (fun k=>decide (s k=(h:Int))) (List.range n)
 simpa [cls,clsN] using this
theorem roots_mem {m h:Nat} {s:Nat→Int}:h∈roots m s↔h<m∧s h=(h:Int):=by simp [roots,rootB]
theorem roots_nodup (m:Nat) (s:Nat→Int):(roots m s).Nodup:=List.Pairwise.filter _ List.nodup_range
theorem nodup_inj {l:List Nat} (h:l.Nodup) {i j:Nat} (hi:i<l.length) (hj:j<l.length) (e:l[i]=l[j]):i=j:=by
 have hp:=List.pairwise_iff_getElem.1 h
 by_cases h1:i<j
 ·exact absurd e (hp i j hi hj h1)
 ·by_cases h2:j<i
  ·exact absurd e.symm (hp j i hj hi h2)
  ·omega
theorem roots_at {h:Nat} {s:Nat→Int} (hr:s h=(h:Int)):∀ (m:Nat),h<m→(roots m s)[(roots h s).length]?=some h
 | 0,hm=>by omega
 | m+1,hm=>by
  rw [roots_succ]
  by_cases e:h=m
  ·subst e
   have:rootB s h=true:=by simp [rootB,hr]
   rw [List.getElem?_append_right (Nat.le_refl _),this]
   simp
  ·have ih:=roots_at hr m (by omega)
   have hlt:(roots h s).length<(roots m s).length:=(List.getElem?_eq_some_iff.1 ih).1
   rw [List.getElem?_append_left hlt]
   exact ih
theorem cls_none {n h:Nat} {s:Nat→Int} (hs:LabOK s) (hn:n≤h):cls n s h=[]:=by
 unfold cls clsN
 rw [List.map_eq_nil_iff,List.filter_eq_nil_iff]
 intro k hk
 rw [List.mem_range] at hk
 have:=(hs.rng k).2
 simp
 omega
theorem vesL_root {s:Nat→Int} (hs:LabOK s) {j:Nat} (hj:s j=(j:Int)):vesL (j+1) (j+1) s=vesL j j s++[.node [.int (j:Int)]]:=by
 unfold vesL
 have hr:rootB s j=true:=by simp [rootB,hj]
 rw [roots_succ,hr,List.map_append]
 congr 1
 ·refine List.map_congr_left (fun h hh=>?_)
  have:=(roots_mem.1 hh).1
  have hne:¬ s j=(h:Int):=by omega
  rw [cls_succ,if_neg hne,List.append_nil]
 ·show [D.node (cls (j+1) s j)]=_
  rw [cls_succ,if_pos hj,cls_none hs (Nat.le_refl _)]
  rfl
theorem vesL_add {s:Nat→Int} (hs:LabOK s) {j h:Nat} (hj:s j=(h:Int)) (hh:h<j):vesL (j+1) (j+1) s=(vesL j j s).set (roots h s).length (.node ((cls j s h)++[.int (j:Int)])):=by
 have hr:rootB s j=false:=by
  simp only [rootB,decide_eq_false_iff_not];omega
 have hroot:s h=(h:Int):=by
  have:=hs.root j
  rw [hj] at this
  simpa using this
 have hat:=roots_at hroot j hh
 unfold vesL
 rw [roots_succ,hr]
 simp only [Bool.false_eq_true,if_false,List.append_nil]
 refine List.ext_getElem (by simp) (fun i h1 h2=>?_)
 have hi:i<(roots j s).length:=by simpa using h1
 rw [List.getElem_set]
 simp only [List.getElem_map]
 have hget:(roots j s)[i]?=some (roots j s)[i]:=List.getElem?_eq_getElem hi
 by_cases e:(roots h s).length=i
 ·subst e
  rw [hat] at hget
  simp only [oj] at hget
  rw [if_pos rfl,← hget,cls_succ,if_pos hj]
 ·rw [if_neg e,cls_succ]
  have:¬ s j=((roots j s)[i]:Int):=by
   rw [hj]
   intro q
   have q':h=(roots j s)[i]:=by omega
   obtain ⟨hlt,hq⟩:=List.getElem?_eq_some_iff.1 hat
   exact e (nodup_inj (roots_nodup j s) hlt hi (by rw [hq,← q']))
  rw [if_neg this,List.append_nil]
theorem vesL_at {s:Nat→Int} {j h:Nat} (hroot:s h=(h:Int)) (hh:h<j):((vesL j j s).getD (roots h s).length (.int 0)).items=cls j s h:=by
 unfold vesL
 rw [List.getD_eq_getElem?_getD,List.getElem?_map,roots_at hroot j hh]
 rfl
theorem vesL_len (m n:Nat) (s:Nat→Int):(vesL m n s).length=(roots m s).length:=by simp [vesL]
theorem vessels_eq (n:Nat) (r:List D) (hn:n≤12) (hr:r.length≤1048576) (hv:validJ n r):Z27 (n:Int) r=some (vesL n n (finalS r)):=by
 have hs:=finalS_ok r
 generalize hS:finalS r=s at hs
 have key:∀ (m j:Nat) (M:List D),j+m=n→(∀ h,h<j→s h=(h:Int)→Qs M h=((roots h s).length:Int))→Z26 n j (vesL j j s) M (lst n s)=some (vesL n n s):=by
  intro m
  induction m with
  | zero=>
   intro j M hj hM
   have:j=n:=by omega
   subst this
   rw [Z26_fx]
   unfold c_Z26
   simp
  | succ m ih=>
   intro j M hj hM
   have hjn:j<n:=by omega
   have g0:(j:Int)<n:=by omega
   have g1:(0:Int)≤(j:Int)∧(j:Int)<(lst n s).length:=by rw [lst_len];omega
   have g2:j+1≤(lst n s).length:=by rw [lst_len];omega
   have hget:((lst n s).getD j (.int 0)).toInt=s j:=by rw [List.getD_eq_getElem?_getD,lst_get hjn];rfl
   have hrl:=roots_le j s
   have hrng:=hs.rng j
   rw [Z26_fx]
   unfold c_Z26
   simp only [g0,decide_true,cond_true,if_pos g1,tn,if_pos g2,hget]
   by_cases hj0:s j=(j:Int)
   ·have g3:(roots j s).length+[D.node []].length≤4294967296:=by simp only [List.length_cons,List.length_nil];omega
    have hlen:(vesL j j s++[D.node []]).length=(roots j s).length+1:=by simp [vesL_len]
    have g4:(0:Int)≤((roots j s).length:Int)∧((roots j s).length:Int)<((vesL j j s++[D.node []]).length:Int):=by rw [hlen];omega
    have g5:(roots j s).length+1≤(vesL j j s++[D.node []]).length:=by rw [hlen];omega
    have hitem:((vesL j j s++[D.node []]).getD (roots j s).length (.int 0)).items=[]:=by
     rw [List.getD_eq_getElem?_getD,List.getElem?_append_right (by rw [vesL_len];exact Nat.le_refl _),vesL_len]
     simp [vh]
    have g6:([]:List D).length+[D.int (j:Int)].length≤4294967296:=by simp only [List.length_cons,List.length_nil];omega
    have hset:(vesL j j s++[D.node []]).set (roots j s).length (.node [.int (j:Int)])=vesL (j+1) (j+1) s:=by
     rw [vesL_root hs hj0,List.set_append_right _ _ (by rw [vesL_len];exact Nat.le_refl _),vesL_len]
     simp
    simp only [hj0,decide_true,cond_true,if_pos g3,vesL_len,mapGet_put,if_true,if_pos g4,tn,if_pos g5,hitem,if_pos g6,Nat.le_refl,List.nil_append,hset,UD (show j<4611686018427387904 by omega)]
    rw [ih (j+1) _ (by omega) (fun h hh hr=>by
     rw [mapGet_put]
     by_cases e:h=j
     ·subst e;rw [if_pos rfl]
     ·rw [if_neg (by omega)];exact hM h (by omega) hr)]
    rfl
   ·obtain ⟨h,hh⟩:∃ h:Nat,s j=(h:Int):=⟨(s j).toNat,by omega⟩
    have hhj:h<j:=by omega
    have hroot:s h=(h:Int):=by
     have:=hs.root j
     rw [hh] at this
     simpa using this
    have hm:=hM h hhj hroot
    have hlt:(roots h s).length<(roots j s).length:=(List.getElem?_eq_some_iff.1 (roots_at hroot j hhj)).1
    have g4:(0:Int)≤((roots h s).length:Int)∧((roots h s).length:Int)<((vesL j j s).length:Int):=by rw [vesL_len];omega
    have g5:(roots h s).length+1≤(vesL j j s).length:=by rw [vesL_len];omega
    have hcl:=cls_le j s h
    have g6:(cls j s h).length+[D.int (j:Int)].length≤4294967296:=by simp only [List.length_cons,List.length_nil];omega
    have hne:¬ (h:Int)=(j:Int):=by omega
    simp only [hh,hne,decide_false,cond_false,hm,if_pos g4,tn,if_pos g5,vesL_at hroot hhj,if_pos g6,Nat.le_refl,if_true,← vesL_add hs hh hhj,UD (show j<4611686018427387904 by omega)]
    rw [ih (j+1) M (by omega) (fun h' hh' hr=>by
     by_cases e:h'=j
     ·subst e;exact absurd hr hj0
     ·exact hM h' (by omega) hr)]
    rfl
 have h0:Z26 n 0 [] [] (lst n s)=_:=key n 0 [] (by omega) (fun h hh=>by omega)
 have hl:=iLab_eq n r (by omega) hr hv
 rw [hS] at hl
 simp only [Z27,c_Z27,hl,lst_len,h0,ob]
theorem sVessels_eq (n:Nat) (r:List D) (hn:n≤12) (hr:r.length≤1048576) (hv:validJ n r):Z43 (n:Int) r=some (vesL n n (finalS r)):=by
 have hs:=finalS_ok r
 generalize hS:finalS r=s at hs
 have k8:∀ (m k:Nat) (acc out:List D) (i:Nat),k+m=n→acc.length≤k→Z41 n i k (lst n s) out acc=some ((n:Int),(i:Int),lst n s,out,acc++(((List.range n).drop k).filter (fun k=>decide (s k=(i:Int)))).map (fun k=>D.int ((k:Nat):Int))):=by
  intro m
  induction m with
  | zero=>
   intro k acc out i hk ha
   have:k=n:=by omega
   subst this
   rw [Z41_fx]
   unfold c_Z41
   rw [List.drop_of_length_le (by simp)]
   simp
  | succ m ih=>
   intro k acc out i hk ha
   have hkn:k<n:=by omega
   have g0:(k:Int)<n:=by omega
   have g1:(0:Int)≤(k:Int)∧(k:Int)<(lst n s).length:=by rw [lst_len];omega
   have g2:k+1≤(lst n s).length:=by rw [lst_len];omega
   have hget:((lst n s).getD k (.int 0)).toInt=s k:=by rw [List.getD_eq_getElem?_getD,lst_get hkn];rfl
   have g3:acc.length+[D.int (k:Int)].length≤4294967296:=by simp only [List.length_cons,List.length_nil];omega
   rw [Z41_fx]
   unfold c_Z41
   rw [List.drop_eq_getElem_cons (show k<(List.range n).length by simpa using hkn),List.getElem_range,List.filter_cons]
   simp only [g0,decide_true,cond_true,if_pos g1,tn,if_pos g2,hget,if_pos g3,UD (show k<4611686018427387904 by omega)]
   by_cases e:s k=(i:Int)
   ·simp only [e,decide_true,cond_true,if_true]
    rw [ih (k+1) _ out i (by omega) (by simp;omega),List.map_cons,List.append_assoc]
    rfl
   ·simp only [e,decide_false,cond_false]
    rw [ih (k+1) acc out i (by omega) (by omega)]
    rfl
 have hdrop:∀ i,i≤n→(((List.range n).drop i).filter (fun k=>decide (s k=(i:Int)))).map (fun k=>D.int ((k:Nat):Int))=cls n s i:=by
  intro i hi
  unfold cls clsN
  have:List.range n=(List.range n).take i++(List.range n).drop i:=(List.take_append_drop ..).symm
  conv=>rhs;rw [this,List.filter_append]
  have h0:((List.range n).take i).filter (fun k=>decide (s k=(i:Int)))=[]:=by
   rw [List.filter_eq_nil_iff]
   intro k hk
   rw [List.take_range,List.mem_range] at hk
   have:=(hs.rng k).2
   simp
   omega
  rw [h0]
  rfl
 have k4:∀ (m i:Nat),i+m=n→Z42 n i (lst n s) (vesL i n s)=some (vesL n n s):=by
  intro m
  induction m with
  | zero=>
   intro i hi
   have:i=n:=by omega
   subst this
   rw [Z42_fx]
   unfold c_Z42
   simp
  | succ m ih=>
   intro i hi
   have hin:i<n:=by omega
   have g0:(i:Int)<n:=by omega
   have h8:=k8 (n - i) i [] (vesL i n s) i (by omega) (by simp)
   rw [List.nil_append,hdrop i (by omega)] at h8
   have hrl:=roots_le i s
   have g3:(vesL i n s).length+[D.node (cls n s i)].length≤4294967296:=by rw [vesL_len];simp only [List.length_cons,List.length_nil];omega
   have hnext:=ih (i+1) (by omega)
   have hsucc:vesL (i+1) n s=vesL i n s++(if rootB s i then [.node (cls n s i)] else []):=by
    unfold vesL
    rw [roots_succ,List.map_append]
    congr 1
    split<;>rfl
   rw [Z42_fx]
   unfold c_Z42
   simp only [g0,decide_true,cond_true,h8,ob,if_pos g3,UD (show i<4611686018427387904 by omega)]
   by_cases hr:s i=(i:Int)
   ·have hb:rootB s i=true:=by simp [rootB,hr]
    have hpos:(0:Int)<(cls n s i).length:=by
     have hm:D.int (i:Int)∈cls n s i:=List.mem_map.2 ⟨i,by simp [clsN,hin,hr],rfl⟩
     have:=List.length_pos_of_mem hm
     omega
    rw [hsucc,hb] at hnext
    simp only [if_true] at hnext
    simp only [hpos,decide_true,cond_true,hnext,ob]
   ·have hb:rootB s i=false:=by simp [rootB,hr]
    have hz:cls n s i=[]:=by
     unfold cls clsN
     rw [List.map_eq_nil_iff,List.filter_eq_nil_iff]
     intro k hk hq
     have hq':s k=(i:Int):=by simpa using hq
     have:=hs.root k
     rw [hq'] at this
     exact hr (by simpa using this)
    rw [hsucc,hb] at hnext
    simp only [Bool.false_eq_true,if_false,List.append_nil] at hnext
    rw [hz]
    simp only [List.length_nil,Int.natCast_zero,Int.lt_irrefl,decide_false,cond_false,hnext,ob]
 have h0:Z42 n 0 (lst n s) []=_:=k4 n 0 (by omega)
 have hl:=sLab_eq n r (by omega) hr hv
 rw [hS] at hl
 simp only [Z43,c_Z43,hl,h0,ob]
theorem sherds_each {l r:List D} (hl:l.length≤1048576) (h:Z35 l r=some true):∀ i,i<l.length→sherdB (l[i]?.getD (.int 0))=true:=by
 simp only [Z35,c_Z35,sL4_eq l r hl,ob] at h
 cases hf:Uf (fun i=>!sherdB (l[i]?.getD (.int 0))) l.length with
 | none=>
  intro i hi
  have:=N8 hf i hi
  simpa using this
 | some j=>
  rw [hf] at h
  by_cases c1:(12:Int)<l.length
  ·simp [c1] at h
  ·by_cases c2:(20:Int)<r.length
   ·simp [c2] at h
   ·simp [c1,c2] at h
def frN (l:List D) (i:Nat):Nat:=((l[i]?.getD (.int 0)).fld 2).toInt.toNat
def wdN (l:List D) (i:Nat):Nat:=((l[i]?.getD (.int 0)).fld 3).toInt.toNat
def cvB (l:List D) (i d:Nat):Bool:=decide ((d+3600 - frN l i) % 3600<wdN l i)
structure Sher (l:List D) (i:Nat):Prop where
 fr:((l[i]?.getD (.int 0)).fld 2).toInt=(frN l i:Int)
 wd:((l[i]?.getD (.int 0)).fld 3).toInt=(wdN l i:Int)
 frlt:frN l i<3600
 wdle:wdN l i≤3600
theorem sher_of {l:List D} {i:Nat} (h:sherdB (l[i]?.getD (.int 0))=true):Sher l i:=by
 simp only [sherdB,Bool.and_eq_true,O0] at h
 obtain ⟨_,_,h3,h4⟩:=h
 exact ⟨by unfold frN;omega,by unfold wdN;omega,by unfold frN;omega,by unfold wdN;omega⟩
def arrB (N:Nat) (f:Nat→Bool):List D:=(List.range N).map (fun d=>.bool (f d))
theorem arrB_len {N:Nat} {f:Nat→Bool}:(arrB N f).length=N:=by simp [arrB]
theorem arrB_get {N d:Nat} {f:Nat→Bool} (h:d<N):((arrB N f).getD d (.int 0)).toBool=f d:=by
 rw [List.getD_eq_getElem?_getD]
 simp [arrB,h,vg]
theorem arrB_rep (N:Nat):List.replicate N (D.bool false)=arrB N (fun _=>false):=by
 unfold arrB
 rw [List.map_const',List.length_range]
theorem arrB_set {N a:Nat} {f:Nat→Bool} {x:Bool}:(arrB N f).set a (.bool x)=arrB N (fun d=>if d=a then x else f d):=by
 refine List.ext_getElem (by simp [arrB]) (fun i h1 h2=>?_)
 rw [List.getElem_set]
 simp only [arrB,List.getElem_map,List.getElem_range]
 by_cases e:a=i
 ·subst e;simp
 ·rw [if_neg e,if_neg (fun q=>e q.symm)]
def cnt (N:Nat) (f:Nat→Bool):Nat:=(List.range N).countP f
theorem cnt_succ (N:Nat) (f:Nat→Bool):cnt (N+1) f=cnt N f+(if f N=true then 1 else 0):=by
 unfold cnt
 rw [List.range_succ,List.countP_append,List.countP_cons,List.countP_nil,Nat.zero_add]
theorem cnt_set {f:Nat→Bool} {a:Nat} (h:f a=false):∀ (N:Nat),cnt N (fun d=>if d=a then true else f d)=cnt N f+(if a<N then 1 else 0)
 | 0=>rfl
 | N+1=>by
  rw [cnt_succ,cnt_succ,cnt_set h N]
  by_cases e:N=a
  ·subst e
   rw [if_pos rfl,if_pos rfl,h,if_neg (Nat.lt_irrefl _),if_pos (Nat.lt_succ_self _)]
   simp
  ·rw [if_neg e]
   by_cases h2:a<N
   ·have h3:a<N+1:=by omega
    simp only [h2,h3,if_true];omega
   ·have h3:¬ a<N+1:=by omega
    simp only [h2,h3,if_false];omega
theorem cnt_congr {f g:Nat→Bool}:∀ {N:Nat},(∀ d,d<N→f d=g d)→cnt N f=cnt N g
 | 0,_=>rfl
 | N+1,h=>by rw [cnt_succ,cnt_succ,cnt_congr (N:=N) (fun d hd=>h d (by omega)),h N (Nat.lt_succ_self _)]
theorem cnt_le (N:Nat) (f:Nat→Bool):cnt N f≤N:=by
 have:=List.countP_le_length (p:=f) (l:=List.range N)
 simpa [cnt] using this
open Classical in
noncomputable def fromK (l:List D) (i k d:Nat):Bool:=decide (∃ q,k≤q∧q<wdN l i∧(frN l i+q) % 3600=d)
theorem fromK_true {l:List D} {i k d:Nat}:fromK l i k d=true↔∃ q,k≤q∧q<wdN l i∧(frN l i+q) % 3600=d:=by
 unfold fromK
 simp only [decide_eq_true_eq]
theorem fromK_iff {l:List D} {i d:Nat} (h:Sher l i) (hd:d<3600):fromK l i 0 d=cvB l i d:=by
 have h1:=h.frlt
 have h2:=h.wdle
 rw [Bool.eq_iff_iff,fromK_true]
 unfold cvB
 rw [decide_eq_true_eq]
 constructor
 ·rintro ⟨q,_,q1,q2⟩
  omega
 ·intro hc
  exact ⟨(d+3600 - frN l i) % 3600,Nat.zero_le _,hc,by omega⟩
theorem fromK_next {l:List D} {i k d:Nat} (hk:k<wdN l i):fromK l i k d=(decide ((frN l i+k) % 3600=d)||fromK l i (k+1) d):=by
 rw [Bool.eq_iff_iff,Bool.or_eq_true,fromK_true,fromK_true,decide_eq_true_eq]
 constructor
 ·rintro ⟨q,q1,q2,q3⟩
  by_cases e:q=k
  ·subst e;exact .inl q3
  ·exact .inr ⟨q,by omega,q2,q3⟩
 ·rintro (h | ⟨q,q1,q2,q3⟩)
  ·exact ⟨k,Nat.le_refl _,hk,h⟩
  ·exact ⟨q,by omega,q2,q3⟩
theorem fromK_end {l:List D} {i k d:Nat} (hk:wdN l i≤k):fromK l i k d=false:=by
 rw [← Bool.not_eq_true,fromK_true]
 rintro ⟨q,q1,q2,_⟩
 omega
theorem cov10 (l V:List D) (N:Nat) (hN:N=3600) (i x3:Nat) (x4 x5:Int) (hi:i<l.length) (hs:Sher l i):∀ (m k:Nat) (f:Nat→Bool),k+m=wdN l i →
  ∃ g,Z29 l (cnt N f:Nat) i x3 x4 x5 (wdN l i:Nat) k (arrB N f) V=some (l,((cnt N g:Nat):Int),x3,x4,x5,arrB N g,V)∧∀ d,d<N→g d=(f d||fromK l i k d):=by
 intro m
 have hw:=hs.wdle
 have hf:=hs.frlt
 induction m with
 | zero=>
  intro k f hk
  refine ⟨f,?_,fun d _=>by rw [fromK_end (by omega),Bool.or_false]⟩
  have:¬ (k:Int)<(wdN l i:Nat):=by omega
  rw [Z29_fx]
  unfold c_Z29
  simp only [this,decide_false,cond_false]
 | succ m ih=>
  intro k f hk
  have hkw:k<wdN l i:=by omega
  have g0:(k:Int)<(wdN l i:Nat):=by omega
  have g1:(0:Int)≤(i:Int)∧(i:Int)<l.length:=by omega
  have hfr:((l.getD i (.int 0)).fld 2).toInt=(frN l i:Int):=by rw [List.getD_eq_getElem?_getD];exact hs.fr
  have hwr:IntKind.i64.wrap ((frN l i:Int)+k)=((frN l i+k:Nat):Int):=by rw [Uu (by omega) (by omega)];omega
  have hmod:(((frN l i+k:Nat):Int)).tmod 3600=(((frN l i+k) % 3600:Nat):Int):=Ma (b:=3600)
  have g2:(0:Int)≤(((frN l i+k) % 3600:Nat):Int)∧(((frN l i+k) % 3600:Nat):Int)<((3600:Nat):Int):=by omega
  have g3:(frN l i+k) % 3600+1≤(arrB N f).length:=by rw [arrB_len];omega
  have hlt:(frN l i+k) % 3600<N:=by omega
  have hn1:cnt N f≤N:=cnt_le N f
  have hcw:IntKind.i64.wrap (((cnt N f:Nat):Int)+1)=((cnt N f+1:Nat):Int):=UD (by omega)
  have hne:(3600:Int)≠0:=by omega
  rw [Z29_fx]
  unfold c_Z29
  simp only [g0,decide_true,cond_true,if_pos g1,tn,if_pos hne,hfr,hwr,hmod,if_pos g2,if_pos g3,arrB_get hlt,hcw,UD (show k<4611686018427387904 by omega)]
  cases hb:f ((frN l i+k) % 3600) with
  | true=>
   obtain ⟨g,q1,q2⟩:=ih (k+1) f (by omega)
   refine ⟨g,?_,fun d hd=>?_⟩
   ·simp only [Bool.not_true,cond_false,q1,ob]
   ·rw [q2 d hd,fromK_next hkw]
    by_cases e:(frN l i+k) % 3600=d
    ·subst e;rw [hb];simp
    ·simp [e]
  | false=>
   obtain ⟨g,q1,q2⟩:=ih (k+1) (fun d=>if d=(frN l i+k) % 3600 then true else f d) (by omega)
   rw [cnt_set hb,if_pos hlt] at q1
   refine ⟨g,?_,fun d hd=>?_⟩
   ·simp only [Bool.not_false,cond_true,arrB_set,q1,ob]
   ·rw [q2 d hd,fromK_next hkw]
    by_cases e:d=(frN l i+k) % 3600
    ·subst e;simp
    ·have e':¬ (frN l i+k) % 3600=d:=fun q=>e q.symm
     simp [e,e']
def itN (V:List D) (v j:Nat):Nat:=((V.getD v (.int 0)).items.getD j (.int 0)).toInt.toNat
structure Vess (l V:List D) (v:Nat):Prop where
 lt:v<V.length
 len:(V.getD v (.int 0)).items.length≤1000
 item:∀ j,j<(V.getD v (.int 0)).items.length→((V.getD v (.int 0)).items.getD j (.int 0)).toInt=(itN V v j:Int)∧itN V v j<l.length
 sher:∀ i,i<l.length→Sher l i
open Classical in
noncomputable def anyFrom (l V:List D) (v j d:Nat):Bool:=decide (∃ q,j≤q∧q<(V.getD v (.int 0)).items.length∧cvB l (itN V v q) d=true)
theorem anyFrom_true {l V:List D} {v j d:Nat}:anyFrom l V v j d=true↔∃ q,j≤q∧q<(V.getD v (.int 0)).items.length∧cvB l (itN V v q) d=true:=by
 unfold anyFrom
 simp only [decide_eq_true_eq]
theorem anyFrom_next {l V:List D} {v j d:Nat} (hj:j<(V.getD v (.int 0)).items.length):anyFrom l V v j d=(cvB l (itN V v j) d||anyFrom l V v (j+1) d):=by
 rw [Bool.eq_iff_iff,Bool.or_eq_true,anyFrom_true,anyFrom_true]
 constructor
 ·rintro ⟨q,q1,q2,q3⟩
  by_cases e:q=j
  ·subst e;exact .inl q3
  ·exact .inr ⟨q,by omega,q2,q3⟩
 ·rintro (h | ⟨q,q1,q2,q3⟩)
  ·exact ⟨j,Nat.le_refl _,hj,h⟩
  ·exact ⟨q,by omega,q2,q3⟩
theorem anyFrom_end {l V:List D} {v j d:Nat} (hj:(V.getD v (.int 0)).items.length≤j):anyFrom l V v j d=false:=by
 rw [← Bool.not_eq_true,anyFrom_true]
 rintro ⟨q,q1,q2,_⟩
 omega
theorem cov7 (l V:List D) (N:Nat) (hN:N=3600) (v:Nat) (h:Vess l V v):∀ (m j:Nat) (f:Nat→Bool),j+m=(V.getD v (.int 0)).items.length →
  ∃ g,Z30 l (cnt N f:Nat) v ((V.getD v (.int 0)).items.length:Int) j (arrB N f) V=some ((cnt N g:Nat):Int)∧∀ d,d<N→g d=(f d||anyFrom l V v j d):=by
 intro m
 have hlen:=h.len
 have hv:=h.lt
 induction m with
 | zero=>
  intro j f hj
  refine ⟨f,?_,fun d _=>by rw [anyFrom_end (by omega),Bool.or_false]⟩
  have:¬ (j:Int)<((V.getD v (.int 0)).items.length:Int):=by omega
  rw [Z30_fx]
  unfold c_Z30
  simp only [this,decide_false,cond_false]
 | succ m ih=>
  intro j f hj
  have hjl:j<(V.getD v (.int 0)).items.length:=by omega
  obtain ⟨i1,i2⟩:=h.item j hjl
  have g0:(j:Int)<((V.getD v (.int 0)).items.length:Int):=by omega
  have g1:v+1≤V.length:=by omega
  have g2:(0:Int)≤(j:Int)∧(j:Int)<((V.getD v (.int 0)).items.length:Int):=by omega
  have g3:j+1≤(V.getD v (.int 0)).items.length:=by omega
  have g4:(0:Int)≤(itN V v j:Int)∧(itN V v j:Int)<l.length:=by omega
  have hsh:=h.sher _ i2
  have hwd:((l.getD (itN V v j) (.int 0)).fld 3).toInt=(wdN l (itN V v j):Int):=by rw [List.getD_eq_getElem?_getD];exact hsh.wd
  obtain ⟨g,q1,q2⟩:=cov10 l V N hN (itN V v j) v ((V.getD v (.int 0)).items.length:Int) j i2 hsh (wdN l (itN V v j)) 0 f (by omega)
  have q1':Z29 l (cnt N f:Nat) (itN V v j) v ((V.getD v (.int 0)).items.length:Int) j (wdN l (itN V v j):Nat) 0 (arrB N f) V=_:=q1
  obtain ⟨g',r1,r2⟩:=ih (j+1) g (by omega)
  refine ⟨g',?_,fun d hd=>?_⟩
  ·rw [Z30_fx]
   unfold c_Z30
   simp only [g0,decide_true,cond_true,if_pos g1,Int.natCast_nonneg,and_self,if_true,tn,if_pos g3,i1,if_pos g4,g4.2,hwd,q1',ob,UD (show j<4611686018427387904 by omega),r1]
  ·rw [r2 d hd,q2 d hd,fromK_iff hsh (by omega),anyFrom_next hjl,Bool.or_assoc]
theorem sCov12 (l V:List D) (v d:Nat) (n:Int) (hd:d<3600) (h:Vess l V v):∀ (m j:Nat) (b:Bool),j+m=(V.getD v (.int 0)).items.length →
  Z44 l v n d b j V=some (l,(v:Int),n,(d:Int),b||anyFrom l V v j d,V):=by
 intro m
 have hlen:=h.len
 have hv:=h.lt
 have a1:(0:Int)≤(v:Int)∧(v:Int)<V.length:=by omega
 have g1:v+1≤V.length:=by omega
 induction m with
 | zero=>
  intro j b hj
  have:¬ (j:Int)<((V.getD v (.int 0)).items.length:Int):=by omega
  rw [Z44_fx]
  unfold c_Z44
  simp only [if_pos a1,tn,if_pos g1,this,decide_false,cond_false,anyFrom_end (show (V.getD v (.int 0)).items.length≤j by omega),Bool.or_false]
 | succ m ih=>
  intro j b hj
  have hjl:j<(V.getD v (.int 0)).items.length:=by omega
  obtain ⟨i1,i2⟩:=h.item j hjl
  have hsh:=h.sher _ i2
  have g0:(j:Int)<((V.getD v (.int 0)).items.length:Int):=by omega
  have g2:(0:Int)≤(j:Int)∧(j:Int)<((V.getD v (.int 0)).items.length:Int):=by omega
  have g3:j+1≤(V.getD v (.int 0)).items.length:=by omega
  have g4:(0:Int)≤(itN V v j:Int)∧(itN V v j:Int)<l.length:=by omega
  have hne:(3600:Int)≠0:=by omega
  have f1:=hsh.frlt
  have hfr:((l.getD (itN V v j) (.int 0)).fld 2).toInt=(frN l (itN V v j):Int):=by rw [List.getD_eq_getElem?_getD];exact hsh.fr
  have hwd:((l.getD (itN V v j) (.int 0)).fld 3).toInt=(wdN l (itN V v j):Int):=by rw [List.getD_eq_getElem?_getD];exact hsh.wd
  have hw1:IntKind.i64.wrap ((d:Int) - (frN l (itN V v j):Int))=(d:Int) - (frN l (itN V v j):Int):=Uu (by omega) (by omega)
  have hw2:IntKind.i64.wrap ((d:Int) - (frN l (itN V v j):Int)+3600)=((d+3600 - frN l (itN V v j):Nat):Int):=by rw [Uu (by omega) (by omega)];omega
  have hmod:(((d+3600 - frN l (itN V v j):Nat):Int)).tmod 3600=(((d+3600 - frN l (itN V v j)) % 3600:Nat):Int):=Ma (b:=3600)
  have hcv:decide ((((d+3600 - frN l (itN V v j)) % 3600:Nat):Int)<(wdN l (itN V v j):Int))=cvB l (itN V v j) d:=by
   unfold cvB
   by_cases hc:(d+3600 - frN l (itN V v j)) % 3600<wdN l (itN V v j)
   ·rw [decide_eq_true hc,decide_eq_true (by omega)]
   ·rw [decide_eq_false hc,decide_eq_false (by omega)]
  rw [Z44_fx]
  unfold c_Z44
  simp only [if_pos a1,tn,if_pos g1,g0,decide_true,cond_true,Int.natCast_nonneg,and_self,if_true,if_pos g3,i1,if_pos g4,if_pos hne,hfr,hwd,hw1,hw2,hmod,hcv,UD (show j<4611686018427387904 by omega),a1.2,g4.2]
  cases b with
  | true=>simp only [cond_true,ih (j+1) true (by omega),Bool.true_or,ob]
  | false=>simp only [cond_false,ih (j+1) _ (by omega),anyFrom_next hjl,Bool.false_or,ob]
theorem sCov8 (l V:List D) (v:Nat) (h:Vess l V v) (N:Nat) (hN:N=3600):∀ (m d:Nat),d+m=N→Z45 l v (cnt d (anyFrom l V v 0):Nat) d V=some ((cnt N (anyFrom l V v 0):Nat):Int):=by
 intro m
 induction m with
 | zero=>
  intro d hd
  have e:d=N:=by omega
  subst e
  have:¬ (d:Int)<3600:=by omega
  rw [Z45_fx]
  unfold c_Z45
  simp only [this,decide_false,cond_false]
 | succ m ih=>
  intro d hd
  have g0:(d:Int)<3600:=by omega
  have h12:=sCov12 l V v d (cnt d (anyFrom l V v 0):Nat) (by omega) h (V.getD v (.int 0)).items.length 0 false (by omega)
  have h12':Z44 l v (cnt d (anyFrom l V v 0):Nat) d false 0 V=_:=h12
  have hc:=cnt_le d (anyFrom l V v 0)
  have hn:=ih (d+1) (by omega)
  rw [cnt_succ] at hn
  rw [Z45_fx]
  unfold c_Z45
  simp only [g0,decide_true,cond_true,h12',ob,Bool.false_or,UD (show d<4611686018427387904 by omega),UD (show cnt d (anyFrom l V v 0)<4611686018427387904 by omega)]
  cases hb:anyFrom l V v 0 d with
  | true=>
   rw [hb] at hn
   simp only [if_true] at hn
   simp only [cond_true,hn,ob]
  | false=>
   rw [hb] at hn
   simp only [Bool.false_eq_true,if_false,Nat.add_zero] at hn
   simp only [cond_false,hn,ob]
theorem vess_of {l r:List D} (h12:l.length≤12) (hs:∀ i,i<l.length→sherdB (l[i]?.getD (.int 0))=true) {v:Nat} (hv:v<(vesL l.length l.length (finalS r)).length):Vess l (vesL l.length l.length (finalS r)) v:=by
 have hit:((vesL l.length l.length (finalS r)).getD v (.int 0)).items=cls l.length (finalS r) ((roots l.length (finalS r)).getD v 0):=by
  have hv':v<(roots l.length (finalS r)).length:=by rw [← vesL_len];exact hv
  unfold vesL
  rw [List.getD_eq_getElem?_getD,List.getElem?_map,List.getElem?_eq_getElem hv',List.getD_eq_getElem?_getD,List.getElem?_eq_getElem hv']
  rfl
 refine ⟨hv,?_,fun j hj=>?_,fun i hi=>sher_of (hs i hi)⟩
 ·rw [hit]
  have:=cls_le l.length (finalS r) ((roots l.length (finalS r)).getD v 0)
  omega
 ·unfold itN
  rw [hit] at hj ⊢
  have hm:=Yh hj
  obtain ⟨k,k1,k2⟩:=List.mem_map.1 hm
  rw [← k2]
  have:k<l.length:=by
   unfold clsN at k1
   exact List.mem_range.1 (List.mem_filter.1 k1).1
  exact ⟨rfl,this⟩
theorem cov_same (l r:List D) (hl:l.length≤1048576) (hr:r.length≤1048576) (x:Int):∃ y,Z46 l r x=some y∧Z31 l r x=some y∧(y.2=true→∃ v:Nat,x=(v:Int)∧v<(vesL l.length l.length (finalS r)).length∧Vess l (vesL l.length l.length (finalS r)) v∧y.1=(cnt 3600 (anyFrom l (vesL l.length l.length (finalS r)) v 0):Nat)∧Z28 l r=some (vesL l.length l.length (finalS r),true)):=by
 obtain ⟨b,h1,h2,h3⟩:=sherds_good l r hl hr
 cases b with
 | false=>
  refine ⟨(0,false),?_,?_,fun h=>by cases h⟩
  ·simp only [Z46,c_Z46,h1,ob,Bool.not_false,cond_true]
  ·simp only [Z31,c_Z31,Z28,c_Z28,h2,ob,Bool.not_false,cond_true]
 | true=>
  obtain ⟨k1,k2,k3⟩:=h3 rfl
  have hvj:=validJ_of k3
  have hs:=sherds_each hl h1
  have e1:=vessels_eq l.length r k1 hr hvj
  have e2:=sVessels_eq l.length r k1 hr hvj
  have hve:Z28 l r=some (vesL l.length l.length (finalS r),true):=by
   simp only [Z28,c_Z28,h2,ob,Bool.not_true,cond_false,e1]
  have hvl:=roots_le l.length (finalS r)
  have hlen:=vesL_len l.length l.length (finalS r)
  generalize hV:vesL l.length l.length (finalS r)=V at *
  have hw:IntKind.i64.wrap ((V.length:Int) - 1)=(V.length:Int) - 1:=Uu (by omega) (by omega)
  cases hb:btw x 0 ((V.length:Int) - 1) with
  | false=>
   refine ⟨(0,false),?_,?_,fun h=>by cases h⟩
   ·simp only [Z46,c_Z46,h1,ob,Bool.not_true,cond_false,e2,l1In_eq,hw,hb,Bool.not_false,cond_true]
   ·simp only [Z31,c_Z31,hve,ob,Bool.not_true,cond_false,within_eq,hw,hb,Bool.not_false,cond_true]
  | true=>
   have hb':=O0.1 hb
   obtain ⟨v,rfl⟩:∃ v:Nat,x=(v:Int):=⟨x.toNat,by omega⟩
   have hvlt:v<V.length:=by omega
   have hV':Vess l V v:=by rw [← hV];exact vess_of k1 hs (by rw [hV];exact hvlt)
   obtain ⟨N,hN⟩:∃ N:Nat,N=3600:=⟨3600,rfl⟩
   obtain ⟨g,q1,q2⟩:=cov7 l V N hN v hV' (V.getD v (.int 0)).items.length 0 (fun _=>false) (by omega)
   have hz:cnt N (fun _=>false)=0:=by
    unfold cnt
    rw [List.countP_eq_zero]
    intro a _
    simp
   rw [hz,← arrB_rep] at q1
   have q1':Z30 l 0 v ((V.getD v (.int 0)).items.length:Int) 0 (List.replicate N (D.bool false)) V=_:=q1
   have hg:cnt N g=cnt N (anyFrom l V v 0):=cnt_congr (fun d hd=>by rw [q2 d hd,Bool.false_or])
   have s1:=sCov8 l V v hV' N hN N 0 (by omega)
   have s1':Z45 l v 0 0 V=_:=s1
   have a1:(0:Int)≤(v:Int)∧(v:Int)<V.length:=by omega
   have a2:v+1≤V.length:=by omega
   refine ⟨(((cnt N (anyFrom l V v 0):Nat):Int),true),?_,?_,fun _=>⟨v,rfl,hvlt,hV',by rw [hN],hve⟩⟩
   ·simp only [Z46,c_Z46,h1,ob,Bool.not_true,cond_false,e2,l1In_eq,hw,hb,s1']
   ·rw [hg,hN] at q1'
    rw [hN]
    unfold Z31 c_Z31
    generalize List.replicate 3600 (D.bool Bool.false)=Z at q1' ⊢
    simp only [hve,ob,Bool.not_true,cond_false,within_eq,hw,hb,if_pos a1,tn,if_pos a2,q1']
theorem shL3_tot (c:List D) (hc:okC c):∀ (k:Nat) (n p s:Int) (acc:List D),n.toNat=k→acc.length+k≤100→0≤p→p+8 * k≤1099511627000 →
  ∃ y,Z4 n c p s acc=some y∧(y.1=c∧p≤y.2.1∧y.2.1≤p+8 * k∧y.2.2.2.length≤acc.length+k):=by
 intro k
 induction k with
 | zero=>
  intro n p s acc hk ha h0 h1
  refine Tt.out ?_
  rw [Z4_fx]
  unfold c_Z4
  refine Tt.dec (fun hn=>by exfalso;omega) (fun _=>Tt.pure ⟨rfl,by simp only;omega,by simp only;omega,by simp only;omega⟩)
 | succ k ih=>
  intro n p s acc hk ha h0 h1
  refine Tt.out ?_
  rw [Z4_fx]
  unfold c_Z4
  refine Tt.dec (fun hn=>?_) (fun hn=>by exfalso;omega)
  (refine Tt.bind (Tt.con (pick_tot' _ hc _ _ _ (by omega) (by omega))) ?_;rintro ⟨v,c',p',s'⟩ ⟨hv,rfl,hp1,hp2⟩;dsimp only at hv hp1 hp2 ⊢)
  (refine Tt.bind (Tt.con (pick_tot' _ hc _ _ _ (by omega) (by omega))) ?_;rintro ⟨v,c',p',s'⟩ ⟨hv,rfl,hp1,hp2⟩;dsimp only at hv hp1 hp2 ⊢)
  (refine Tt.bind (Tt.con (among_tot _ hc _ _ _ (by omega) (by simp))) ?_;rintro ⟨v,c',p',s'⟩ ⟨hv,rfl,hp1,hp2⟩;dsimp only at hv hp1 hp2 ⊢)
  (refine Tt.bind (Tt.con (among_tot _ hc _ _ _ (by omega) (by simp))) ?_;rintro ⟨v,c',p',s'⟩ ⟨hv,rfl,hp1,hp2⟩;dsimp only at hv hp1 hp2 ⊢)
  refine Tt.ite (by simp only [List.length_cons,List.length_nil];omega) ?_
  rw [Uu (n:=n - 1) (by omega) (by omega)]
  refine Tt.bind (Tt.con (ih (n - 1) _ _ _ (by omega) (by simp only [List.length_append,List.length_cons,List.length_nil];omega) (by omega) (by omega))) ?_
  rintro ⟨c2,p2,s2,l2⟩ ⟨e1,e2,e3,e4⟩
  simp only [List.length_append,List.length_cons,List.length_nil] at e1 e2 e3 e4
  exact Tt.pure ⟨e1,by simp only;omega,by simp only;omega,by simp only;omega⟩
theorem clash_any (a1 a2 a3 a4 b1 b2 b3 b4:Int):∃ b,Z6 a1 a2 a3 a4 b1 b2 b3 b4=some b:=by
 have hne:(3600:Int)≠0:=by omega
 unfold Z6 c_Z6 Z5 c_Z5
 rw [if_pos hne,if_pos hne]
 cases (!decide (a2=b2)) with
 | true=>exact ⟨_,rfl⟩
 | false=>
  simp only [cond_false]
  cases decide ((IntKind.i64.wrap (IntKind.i64.wrap (b3 - a3)+3600)).tmod 3600<a4)<;>exact ⟨_,rfl⟩
theorem shL11_tot (c:List D) (hc:okC c) (l:List D) (hl:l.length≤100) (a:Nat) (ha:a<l.length):∀ (m b:Nat) (p s:Int) (J:List D),b+m=l.length→J.length+m≤100000→0≤p→p+8 * m≤1099511627000 →
  ∃ y,Z8 a b c p s l J=some y∧(y.1=(a:Int)∧y.2.1=c∧p≤y.2.2.1∧y.2.2.1≤p+8 * m∧y.2.2.2.2.1=l∧y.2.2.2.2.2.length≤J.length+m):=by
 intro m
 induction m with
 | zero=>
  intro b p s J hb hJ h0 h1
  refine Tt.out ?_
  rw [Z8_fx]
  unfold c_Z8
  refine Tt.dec (fun hn=>by exfalso;omega) (fun _=>Tt.pure ⟨rfl,rfl,by simp only;omega,by simp only;omega,rfl,by simp only;omega⟩)
 | succ m ih=>
  intro b p s J hb hJ h0 h1
  have hw:=UD (show b<4611686018427387904 by omega)
  have go:∀ (p' s':Int) (J':List D),p≤p'→p'≤p+8→J'.length≤J.length+1→Tt (fun _:Unit=>True) (fun y=>y.1=(a:Int)∧y.2.1=c∧p≤y.2.2.1∧y.2.2.1≤p+8 * ((m+1:Nat):Int)∧y.2.2.2.2.1=l∧y.2.2.2.2.2.length≤J.length+(m+1)) (fun _=>(Z8 a ((b+1:Nat):Int) c p' s' l J').bind some):=by
   intro p' s' J' q1 q2 q3
   refine Tt.bind (Tt.con (ih (b+1) p' s' J' (by omega) (by omega) (by omega) (by omega))) ?_
   rintro ⟨a2,c2,p2,s2,l2,J2⟩ ⟨e1,e2,e3,e4,e5,e6⟩
   simp only at e1 e2 e3 e4 e5 e6
   exact Tt.pure ⟨e1,e2,by simp only;omega,by simp only;omega,e5,by simp only;omega⟩
  obtain ⟨cl,hcl⟩:=clash_any ((l.getD a (.int 0)).fld 0).toInt ((l.getD a (.int 0)).fld 1).toInt ((l.getD a (.int 0)).fld 2).toInt ((l.getD a (.int 0)).fld 3).toInt ((l.getD b (.int 0)).fld 0).toInt ((l.getD b (.int 0)).fld 1).toInt ((l.getD b (.int 0)).fld 2).toInt ((l.getD b (.int 0)).fld 3).toInt
  refine Tt.out ?_
  rw [Z8_fx]
  unfold c_Z8
  rw [hw]
  simp only [tn]
  refine Tt.dec (fun hn=>?_) (fun hn=>by exfalso;omega)
  refine Tt.ite (by omega) (Tt.ite (by omega) (Tt.ite (by omega) (Tt.ite (by omega) ?_)))
  simp only [hcl,ob]
  refine Tt.cnd (fun _=>?_) (fun _=>?_)
  ·(refine Tt.bind (Tt.con (one_tot' _ hc _ _ _ (by omega) (by omega))) ?_;rintro ⟨v,c',p',s'⟩ ⟨hv,rfl,hp1,hp2⟩;dsimp only at hv hp1 hp2 ⊢)
   refine Tt.cnd (fun _=>?_) (fun _=>?_)
   ·refine Tt.ite (by simp only [List.length_cons,List.length_nil];omega) ?_
    exact go _ _ _ (by omega) (by omega) (by simp)
   ·refine Tt.cnd (fun _=>?_) (fun _=>?_)
    ·(refine Tt.bind (Tt.con (one_tot' _ hc _ _ _ (by omega) (by omega))) ?_;rintro ⟨v,c',p',s'⟩ ⟨hv,rfl,hp1,hp2⟩;dsimp only at hv hp1 hp2 ⊢)
     refine Tt.cnd (fun _=>?_) (fun _=>?_)
     ·refine Tt.ite (by simp only [List.length_cons,List.length_nil];omega) ?_
      exact go _ _ _ (by omega) (by omega) (by simp)
     ·exact go _ _ _ (by omega) (by omega) (by omega)
    ·exact go _ _ _ (by omega) (by omega) (by omega)
  ·refine Tt.cnd (fun _=>?_) (fun _=>?_)
   ·(refine Tt.bind (Tt.con (one_tot' _ hc _ _ _ (by omega) (by omega))) ?_;rintro ⟨v,c',p',s'⟩ ⟨hv,rfl,hp1,hp2⟩;dsimp only at hv hp1 hp2 ⊢)
    refine Tt.cnd (fun _=>?_) (fun _=>?_)
    ·refine Tt.ite (by simp only [List.length_cons,List.length_nil];omega) ?_
     exact go _ _ _ (by omega) (by omega) (by simp)
    ·exact go _ _ _ (by omega) (by omega) (by omega)
   ·exact go _ _ _ (by omega) (by omega) (by omega)
theorem shL8_tot (c:List D) (hc:okC c) (l:List D) (hl:l.length≤100):∀ (m a:Nat) (p s:Int) (J:List D),a+m=l.length→J.length+100 * m≤20000→0≤p→p+800 * m≤1099511627000 →
  ∃ y,Z9 a c p s l J=some y∧(y.1=c∧p≤y.2.1∧y.2.1≤p+800 * m∧y.2.2.2.1=l∧y.2.2.2.2.length≤J.length+100 * m):=by
 intro m
 induction m with
 | zero=>
  intro a p s J ha hJ h0 h1
  refine Tt.out ?_
  rw [Z9_fx]
  unfold c_Z9
  refine Tt.dec (fun hn=>by exfalso;omega) (fun _=>Tt.pure ⟨rfl,by simp only;omega,by simp only;omega,rfl,by simp only;omega⟩)
 | succ m ih=>
  intro a p s J ha hJ h0 h1
  have hw:=UD (show a<4611686018427387904 by omega)
  refine Tt.out ?_
  rw [Z9_fx]
  unfold c_Z9
  rw [hw]
  refine Tt.dec (fun hn=>?_) (fun hn=>by exfalso;omega)
  refine Tt.bind (Tt.con (shL11_tot c hc l hl a (by omega) (l.length - (a+1)) (a+1) p s J (by omega) (by omega) (by omega) (by omega))) ?_
  rintro ⟨a2,c2,p2,s2,l2,J2⟩ ⟨e1,e2,e3,e4,e5,e6⟩
  simp only at e1 e2 e3 e4 e5 e6 ⊢
  subst e1;subst e2;subst e5
  rw [hw]
  refine Tt.bind (Tt.con (ih (a+1) p2 s2 J2 (by omega) (by omega) (by omega) (by omega))) ?_
  rintro ⟨c3,p3,s3,l3,J3⟩ ⟨f1,f2,f3,f4,f5⟩
  simp only at f1 f2 f3 f4 f5
  exact Tt.pure ⟨f1,by simp only;omega,by simp only;omega,f4,by simp only;omega⟩
theorem shL22_tot (c:List D) (hc:okC c):∀ (m:Nat) (p s:Int) (l J:List D),20 - l.length=m→0≤p→p+8 * (m+1)≤1099511627000→l.length≤100 →
  ∃ y,Z10 c p s l J=some y∧(y.1=c∧p≤y.2.1∧y.2.1≤p+8 * (m+1)∧y.2.2.2.1.length≤100∧y.2.2.2.2=J):=by
 intro m
 induction m with
 | zero=>
  intro p s l J hm h0 h1 hl
  refine Tt.out ?_
  rw [Z10_fx]
  unfold c_Z10
  (refine Tt.bind (Tt.con (pick_tot' _ hc _ _ _ (by omega) (by omega))) ?_;rintro ⟨v,c',p',s'⟩ ⟨hv,rfl,hp1,hp2⟩;dsimp only at hv hp1 hp2 ⊢)
  rw [Uu (n:=12+v) (by omega) (by omega)]
  refine Tt.dec (fun hn=>by exfalso;omega) (fun _=>Tt.pure ⟨rfl,by simp only;omega,by simp only;omega,by simp only;omega,rfl⟩)
 | succ m ih=>
  intro p s l J hm h0 h1 hl
  refine Tt.out ?_
  rw [Z10_fx]
  unfold c_Z10
  (refine Tt.bind (Tt.con (pick_tot' _ hc _ _ _ (by omega) (by omega))) ?_;rintro ⟨v,c',p',s'⟩ ⟨hv,rfl,hp1,hp2⟩;dsimp only at hv hp1 hp2 ⊢)
  rw [Uu (n:=12+v) (by omega) (by omega)]
  refine Tt.dec (fun hn=>?_) (fun _=>Tt.pure ⟨rfl,by simp only;omega,by simp only;omega,by simp only;omega,rfl⟩)
  (refine Tt.bind (Tt.con (pick_tot' _ hc _ _ _ (by omega) (by omega))) ?_;rintro ⟨v,c',p',s'⟩ ⟨hv,rfl,hp1,hp2⟩;dsimp only at hv hp1 hp2 ⊢)
  refine Tt.ite (by simp only [List.length_cons,List.length_nil];omega) ?_
  refine Tt.bind (Tt.con (ih _ _ _ J (by simp only [List.length_append,List.length_cons,List.length_nil];omega) (by omega) (by omega) (by simp only [List.length_append,List.length_cons,List.length_nil];omega))) ?_
  rintro ⟨c2,p2,s2,l2,J2⟩ ⟨e1,e2,e3,e4,e5⟩
  simp only at e1 e2 e3 e4 e5
  exact Tt.pure ⟨e1,by simp only;omega,by simp only;omega,e4,e5⟩
theorem sherds_tot (c:List D) (hc:okC c) (p s:Int) (hp:0≤p∧p≤1099511600000):∃ y,Z11 c p s=some y∧(y.2.2.1=c∧p≤y.2.2.2.1∧y.2.2.2.1≤p+10000∧y.1.length≤1000∧y.2.1.length≤10000):=by
 refine Tt.out ?_
 unfold Z11 c_Z11
 (refine Tt.bind (Tt.con (pick_tot' _ hc _ _ _ (by omega) (by omega))) ?_;rintro ⟨v,c',p',s'⟩ ⟨hv,rfl,hp1,hp2⟩;dsimp only at hv hp1 hp2 ⊢)
 refine Tt.bind (Tt.con (shL3_tot _ hc v.toNat v _ _ [] rfl (by simp only [List.length_nil];omega) (by omega) (by omega))) ?_
 rintro ⟨c1,p1,s1,l⟩ ⟨e1,e2,e3,e4⟩
 simp only [List.length_nil] at e1 e2 e3 e4 ⊢
 subst e1
 have hl7:l.length≤7:=by omega
 have hp7:p1≤p+100:=by omega
 refine Tt.bind (Tt.con (shL8_tot _ hc l (by omega) l.length 0 _ _ [] (by omega) (by simp only [List.length_nil];omega) (by omega) (by omega))) ?_
 rintro ⟨c2,p2,s2,l2,J⟩ ⟨f1,f2,f3,f4,f5⟩
 simp only [List.length_nil] at f1 f2 f3 f4 f5 ⊢
 subst f1;subst f4
 have hJ7:J.length≤700:=by omega
 have hp8:p2≤p+7000:=by omega
 have hp9:p≤p2:=by omega
 (refine Tt.bind (Tt.con (pick_tot' _ hc _ _ _ (by omega) (by omega))) ?_;rintro ⟨v,c',p',s'⟩ ⟨hv,rfl,hp1,hp2⟩;dsimp only at hv hp1 hp2 ⊢)
 refine Tt.dec (fun _=>?_) (fun _=>?_)
 ·(refine Tt.bind (Tt.con (among_tot _ hc _ _ _ (by omega) (by simp))) ?_;rintro ⟨v,c',p',s'⟩ ⟨hv,rfl,hp1,hp2⟩;dsimp only at hv hp1 hp2 ⊢)
  refine Tt.ite (by simp only [List.length_cons,List.length_nil];omega) ?_
  exact Tt.pure ⟨rfl,by simp only;omega,by simp only;omega,by simp only [List.length_append,List.length_cons,List.length_nil];omega,by simp only;omega⟩
 ·refine Tt.dec (fun _=>?_) (fun _=>?_)
  ·(refine Tt.bind (Tt.con (pick_tot' _ hc _ _ _ (by omega) (by omega))) ?_;rintro ⟨v,c',p',s'⟩ ⟨hv,rfl,hp1,hp2⟩;dsimp only at hv hp1 hp2 ⊢)
   (refine Tt.bind (Tt.con (among_tot _ hc _ _ _ (by omega) (by simp))) ?_;rintro ⟨v,c',p',s'⟩ ⟨hv,rfl,hp1,hp2⟩;dsimp only at hv hp1 hp2 ⊢)
   refine Tt.ite (by simp only [List.length_cons,List.length_nil];omega) ?_
   exact Tt.pure ⟨rfl,by simp only;omega,by simp only;omega,by simp only;omega,by simp only [List.length_append,List.length_cons,List.length_nil];omega⟩
  ·refine Tt.dec (fun _=>?_) (fun _=>?_)
   ·refine Tt.bind (Tt.con (shL22_tot _ hc _ _ _ l2 J rfl (by omega) (by omega) (by omega))) ?_
    rintro ⟨c3,p3,s3,l3,J3⟩ ⟨g1,g2,g3,g4,g5⟩
    simp only at g1 g2 g3 g4 g5 ⊢
    subst g1;subst g5
    exact Tt.pure ⟨rfl,by simp only;omega,by simp only;omega,by simp only;omega,by simp only;omega⟩
   ·exact Tt.pure ⟨rfl,by simp only;omega,by simp only;omega,by simp only;omega,by simp only;omega⟩
theorem drawC_tot (c:List D) (hc:okC c):∃ y,Z12 c=some y∧(y.1.length≤1000∧y.2.1.length≤10000):=by
 refine Tt.out ?_
 unfold Z12 c_Z12
 refine Tt.bind (Tt.con (sherds_tot _ hc _ _ (by omega))) ?_
 rintro ⟨l,J,c1,p1,s1⟩ ⟨rfl,q1,q2,q3,q4⟩
 dsimp only at q1 q2 q3 q4 ⊢
 (refine Tt.bind (Tt.con (pick_tot' _ hc _ _ _ (by omega) (by omega))) ?_;rintro ⟨v,c',p',s'⟩ ⟨hv,rfl,hp1,hp2⟩;dsimp only at hv hp1 hp2 ⊢)
 (refine Tt.bind (Tt.con (pick_tot' _ hc _ _ _ (by omega) (by omega))) ?_;rintro ⟨v,c',p',s'⟩ ⟨hv,rfl,hp1,hp2⟩;dsimp only at hv hp1 hp2 ⊢)
 refine Tt.ite (by omega) ?_
 exact Tt.pure ⟨q3,q4⟩
theorem cnt_mono {f g:Nat→Bool}:∀ {N:Nat},(∀ d,d<N→f d=true→g d=true)→cnt N f≤cnt N g
 | 0,_=>Nat.le_refl _
 | N+1,h=>by
  have ih:=cnt_mono (N:=N) (fun d hd=>h d (by omega))
  rw [cnt_succ,cnt_succ]
  have:=h N (Nat.lt_succ_self _)
  cases hf:f N with
  | false=>simp;omega
  | true=>rw [this hf];simp;omega
theorem cnt_or (f g:Nat→Bool):∀ (N:Nat),cnt N (fun d=>f d||g d)≤cnt N f+cnt N g
 | 0=>Nat.le_refl _
 | N+1=>by
  have ih:=cnt_or f g N
  rw [cnt_succ,cnt_succ,cnt_succ]
  cases f N<;>cases g N<;>simp<;>omega
theorem cnt_cv (F N:Nat) (hN:N=3600) (hF:F<3600):∀ w,w≤3600→cnt N (fun d=>decide ((d+3600 - F) % 3600<w))=w
 | 0,_=>by
  unfold cnt
  rw [List.countP_eq_zero]
  intro a _
  simp
 | w+1,hw=>by
  have ih:=cnt_cv F N hN hF w (by omega)
  have h0:(fun d=>decide ((d+3600 - F) % 3600<w)) ((F+w) % 3600)=false:=by
   simp only [decide_eq_false_iff_not]
   omega
  have h1:=cnt_set (f:=fun d=>decide ((d+3600 - F) % 3600<w)) (a:=(F+w) % 3600) h0 N
  rw [ih,if_pos (show (F+w) % 3600<N by omega)] at h1
  rw [← h1]
  refine cnt_congr (fun d hd=>?_)
  by_cases e:d=(F+w) % 3600
  ·subst e
   simp only [if_true,decide_eq_true_eq]
   omega
  ·rw [if_neg e]
   by_cases hc:(d+3600 - F) % 3600<w
   ·rw [decide_eq_true hc,decide_eq_true (by omega)]
   ·rw [decide_eq_false hc,decide_eq_false (by omega)]
theorem cnt_cvB {l:List D} {i:Nat} (h:Sher l i) (N:Nat) (hN:N=3600):cnt N (cvB l i)=wdN l i:=cnt_cv (frN l i) N hN h.frlt (wdN l i) h.wdle
theorem lawC (l V:List D) (v:Nat) (h:Vess l V v) (N:Nat) (hN:N=3600) (n:Nat) (hn:n=cnt N (anyFrom l V v 0)):∀ (m j sum:Nat),j+m=(V.getD v (.int 0)).items.length→sum≤3600 * j →
  ∃ s',Z47 v n sum j l V=some (.inr ((n:Int),((s':Nat):Int)))∧sum+cnt N (anyFrom l V v j)≤s':=by
 intro m
 have hlen:=h.len
 have hv:=h.lt
 have a1:(0:Int)≤(v:Int)∧(v:Int)<V.length:=by omega
 have a2:v+1≤V.length:=by omega
 induction m with
 | zero=>
  intro j sum hj hs
  refine ⟨sum,?_,?_⟩
  ·have:¬ (j:Int)<((V.getD v (.int 0)).items.length:Int):=by omega
   rw [Z47_fx]
   unfold c_Z47
   simp only [if_pos a1,tn,if_pos a2,this,decide_false,cond_false]
  ·have:cnt N (anyFrom l V v j)=0:=by
    unfold cnt
    rw [List.countP_eq_zero]
    intro d _
    rw [anyFrom_end (by omega)]
    simp
   omega
 | succ m ih=>
  intro j sum hj hs
  have hjl:j<(V.getD v (.int 0)).items.length:=by omega
  obtain ⟨i1,i2⟩:=h.item j hjl
  have hsh:=h.sher _ i2
  have w1:=hsh.wdle
  have g0:(j:Int)<((V.getD v (.int 0)).items.length:Int):=by omega
  have g3:j+1≤(V.getD v (.int 0)).items.length:=by omega
  have g4:(0:Int)≤(itN V v j:Int)∧(itN V v j:Int)<l.length:=by omega
  have g5:itN V v j+1≤l.length:=by omega
  have hwd:((l.getD (itN V v j) (.int 0)).fld 3).toInt=(wdN l (itN V v j):Int):=by rw [List.getD_eq_getElem?_getD];exact hsh.wd
  have hle:wdN l (itN V v j)≤n:=by
   rw [hn,← cnt_cvB hsh N hN]
   exact cnt_mono (fun d _ hd=>anyFrom_true.2 ⟨j,Nat.zero_le _,hjl,hd⟩)
  have hnl:¬ (n:Int)<(wdN l (itN V v j):Int):=by omega
  have hws:IntKind.i64.wrap ((sum:Int)+(wdN l (itN V v j):Int))=((sum+wdN l (itN V v j):Nat):Int):=by rw [Uu (by omega) (by omega)];omega
  obtain ⟨s',e1,e2⟩:=ih (j+1) (sum+wdN l (itN V v j)) (by omega) (by omega)
  refine ⟨s',?_,?_⟩
  ·rw [Z47_fx]
   unfold c_Z47
   simp only [if_pos a1,a1.2,tn,if_pos a2,g0,decide_true,cond_true,Int.natCast_nonneg,and_self,if_true,if_pos g3,i1,if_pos g4,g4.2,if_pos g5,hwd,hnl,decide_false,cond_false,hws,UD (show j<4611686018427387904 by omega),e1,ob]
  ·have h1:cnt N (anyFrom l V v j)=cnt N (fun d=>cvB l (itN V v j) d||anyFrom l V v (j+1) d):=cnt_congr (fun d _=>anyFrom_next hjl)
   have h2:=cnt_or (cvB l (itN V v j)) (anyFrom l V v (j+1)) N
   have h3:=cnt_cvB hsh N hN
   omega
theorem pure_FnCoverage (x0:List D) (h0:x0.length≤maxLen) (w0:∀ d∈x0,wfD (.int .u8) d):Z48 x0=some true:=by
 simp only [Z48,c_Z48,Z0,c_Z0,ob]
 by_cases hb:(65536:Int)<x0.length
 ·simp only [hb,decide_true,cond_true]
 ·have hc:okC x0:=⟨by omega,fun d hd=>okB (w0 d hd)⟩
  obtain ⟨⟨l,J,x⟩,d1,d2,d3⟩:=drawC_tot x0 hc
  simp only at d2 d3
  obtain ⟨⟨n,ok⟩,e1,e2,e3⟩:=cov_same l J (by omega) (by omega) x
  have hbb:∀ b:Bool,(!b==b)=false:=by decide
  simp only [hb,decide_false,cond_false,d1,ob,e1,e2,decide_true,Bool.not_true,hbb]
  cases ok with
  | false=>simp
  | true=>
   obtain ⟨v,rfl,f1,f2,f3,f4⟩:=e3 rfl
   simp only at f3
   generalize vesL l.length l.length (finalS J)=V at *
   obtain ⟨N,hN⟩:∃ N:Nat,N=3600:=⟨3600,rfl⟩
   rw [← hN] at f3
   obtain ⟨s',q1,q2⟩:=lawC l V v f2 N hN (cnt N (anyFrom l V v 0)) rfl (V.getD v (.int 0)).items.length 0 0 (by omega) (by omega)
   have q1':Z47 v (cnt N (anyFrom l V v 0):Nat) 0 0 l V=_:=q1
   have hle:=cnt_le N (anyFrom l V v 0)
   have n1:¬ (V.length:Int)≤(v:Int):=by omega
   have n2:¬ (3600:Int)<((cnt N (anyFrom l V v 0):Nat):Int):=by omega
   have n3:((cnt N (anyFrom l V v 0):Nat):Int)≤((s':Nat):Int):=by omega
   simp only [Bool.not_true,cond_false,f4,f3,ob,n1,n2,decide_false,q1',Sum.elim_inr,n3,decide_true]
end Go.Proofs.Ytaahhnjdbejfhaa
