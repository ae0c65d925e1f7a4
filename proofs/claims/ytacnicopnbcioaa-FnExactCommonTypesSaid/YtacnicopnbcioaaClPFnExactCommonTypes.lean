/- The law FnExactCommonTypes over plain values. No condition beside those of the statement. -/
import Derived.Test.YtacnicopnbcioaaClMFnExactCommonTypes
import Derived.Test.YtacnicopnbcioaaRaiU6
set_option linter.unusedVariables false
set_option linter.unusedSimpArgs false
set_option maxRecDepth 100000
namespace Go.Proofs.Ytacnicopnbcioaa
open Go Go.Rai
theorem Z2_fx (x0:List D) (x1 x2:Int):Z2 x0 x1 x2=c_Z2 Z2 x0 x1 x2 some:=
 fix_eq (N:=fun n (p:List D × Int × Int)=>n_Z2 n p.1 p.2.1 p.2.2) (C:=fun f p=>c_Z2 (fun x0 x1 x2=>f (x0,x1,x2)) p.1 p.2.1 p.2.2 some) (fun _=>rfl) (fun _ _=>rfl) (fun hD f fs h p=>by
  unfold c_Z2
  repeat' first | exact Lim.const hD | exact h _ | apply Lim.ite | apply Lim.cond | apply Lim.bind hD | apply Lim.sum | intro _) (x0,x1,x2)
theorem Z8_fx (x0:ByteArray) (x1:Int):Z8 x0 x1=c_Z8 Z8 x0 x1 some:=
 fix_eq (N:=fun n (p:ByteArray × Int)=>n_Z8 n p.1 p.2) (C:=fun f p=>c_Z8 (fun x0 x1=>f (x0,x1)) p.1 p.2 some) (fun _=>rfl) (fun _ _=>rfl) (fun hD f fs h p=>by
  unfold c_Z8
  repeat' first | exact Lim.const hD | exact h _ | apply Lim.ite | apply Lim.cond | apply Lim.bind hD | apply Lim.sum | intro _) (x0,x1)
theorem Z12_fx (x0:List D) (x1:Int):Z12 x0 x1=c_Z12 Z12 x0 x1 some:=
 fix_eq (N:=fun n (p:List D × Int)=>n_Z12 n p.1 p.2) (C:=fun f p=>c_Z12 (fun x0 x1=>f (x0,x1)) p.1 p.2 some) (fun _=>rfl) (fun _ _=>rfl) (fun hD f fs h p=>by
  unfold c_Z12
  repeat' first | exact Lim.const hD | exact h _ | apply Lim.ite | apply Lim.cond | apply Lim.bind hD | apply Lim.sum | intro _) (x0,x1)
theorem Z15_fx (x0:ByteArray) (x1:Int) (x2:List D):Z15 x0 x1 x2=c_Z15 Z15 x0 x1 x2 some:=
 fix_eq (N:=fun n (p:ByteArray × Int × List D)=>n_Z15 n p.1 p.2.1 p.2.2) (C:=fun f p=>c_Z15 (fun x0 x1 x2=>f (x0,x1,x2)) p.1 p.2.1 p.2.2 some) (fun _=>rfl) (fun _ _=>rfl) (fun hD f fs h p=>by
  unfold c_Z15
  repeat' first | exact Lim.const hD | exact h _ | apply Lim.ite | apply Lim.cond | apply Lim.bind hD | apply Lim.sum | intro _) (x0,x1,x2)
theorem Z17_fx (x0:List D) (x1 x2 x3 x4:Int) (x5:List D):Z17 x0 x1 x2 x3 x4 x5=c_Z17 Z17 x0 x1 x2 x3 x4 x5 some:=
 fix_eq (N:=fun n (p:List D × Int × Int × Int × Int × List D)=>n_Z17 n p.1 p.2.1 p.2.2.1 p.2.2.2.1 p.2.2.2.2.1 p.2.2.2.2.2) (C:=fun f p=>c_Z17 (fun x0 x1 x2 x3 x4 x5=>f (x0,x1,x2,x3,x4,x5)) p.1 p.2.1 p.2.2.1 p.2.2.2.1 p.2.2.2.2.1 p.2.2.2.2.2 some) (fun _=>rfl) (fun _ _=>rfl) (fun hD f fs h p=>by
  unfold c_Z17
  repeat' first | exact Lim.const hD | exact h _ | apply Lim.ite | apply Lim.cond | apply Lim.bind hD | apply Lim.sum | intro _) (x0,x1,x2,x3,x4,x5)
theorem Z18_fx (x0:List D) (x1 x2 x3:Int) (x4:List D):Z18 x0 x1 x2 x3 x4=c_Z18 Z18 x0 x1 x2 x3 x4 some:=
 fix_eq (N:=fun n (p:List D × Int × Int × Int × List D)=>n_Z18 n p.1 p.2.1 p.2.2.1 p.2.2.2.1 p.2.2.2.2) (C:=fun f p=>c_Z18 (fun x0 x1 x2 x3 x4=>f (x0,x1,x2,x3,x4)) p.1 p.2.1 p.2.2.1 p.2.2.2.1 p.2.2.2.2 some) (fun _=>rfl) (fun _ _=>rfl) (fun hD f fs h p=>by
  unfold c_Z18
  repeat' first | exact Lim.const hD | exact h _ | apply Lim.ite | apply Lim.cond | apply Lim.bind hD | apply Lim.sum | intro _) (x0,x1,x2,x3,x4)
theorem Z22_fx (x0:ByteArray) (x1 x2:Int):Z22 x0 x1 x2=c_Z22 Z22 x0 x1 x2 some:=
 fix_eq (N:=fun n (p:ByteArray × Int × Int)=>n_Z22 n p.1 p.2.1 p.2.2) (C:=fun f p=>c_Z22 (fun x0 x1 x2=>f (x0,x1,x2)) p.1 p.2.1 p.2.2 some) (fun _=>rfl) (fun _ _=>rfl) (fun hD f fs h p=>by
  unfold c_Z22
  repeat' first | exact Lim.const hD | exact h _ | apply Lim.ite | apply Lim.cond | apply Lim.bind hD | apply Lim.sum | intro _) (x0,x1,x2)
theorem Z32_fx (x0 x1:List D) (x2 x3:Int):Z32 x0 x1 x2 x3=c_Z32 Z32 x0 x1 x2 x3 some:=
 fix_eq (N:=fun n (p:List D × List D × Int × Int)=>n_Z32 n p.1 p.2.1 p.2.2.1 p.2.2.2) (C:=fun f p=>c_Z32 (fun x0 x1 x2 x3=>f (x0,x1,x2,x3)) p.1 p.2.1 p.2.2.1 p.2.2.2 some) (fun _=>rfl) (fun _ _=>rfl) (fun hD f fs h p=>by
  unfold c_Z32
  repeat' first | exact Lim.const hD | exact h _ | apply Lim.ite | apply Lim.cond | apply Lim.bind hD | apply Lim.sum | intro _) (x0,x1,x2,x3)
theorem Z36_fx (x0:List D) (x1 x2 x3:Int):Z36 x0 x1 x2 x3=c_Z36 Z36 x0 x1 x2 x3 some:=
 fix_eq (N:=fun n (p:List D × Int × Int × Int)=>n_Z36 n p.1 p.2.1 p.2.2.1 p.2.2.2) (C:=fun f p=>c_Z36 (fun x0 x1 x2 x3=>f (x0,x1,x2,x3)) p.1 p.2.1 p.2.2.1 p.2.2.2 some) (fun _=>rfl) (fun _ _=>rfl) (fun hD f fs h p=>by
  unfold c_Z36
  repeat' first | exact Lim.const hD | exact h _ | apply Lim.ite | apply Lim.cond | apply Lim.bind hD | apply Lim.sum | intro _) (x0,x1,x2,x3)
theorem Z38_fx (x0 x1 x2:Int) (x3:List D):Z38 x0 x1 x2 x3=c_Z38 Z38 x0 x1 x2 x3 some:=
 fix_eq (N:=fun n (p:Int × Int × Int × List D)=>n_Z38 n p.1 p.2.1 p.2.2.1 p.2.2.2) (C:=fun f p=>c_Z38 (fun x0 x1 x2 x3=>f (x0,x1,x2,x3)) p.1 p.2.1 p.2.2.1 p.2.2.2 some) (fun _=>rfl) (fun _ _=>rfl) (fun hD f fs h p=>by
  unfold c_Z38
  repeat' first | exact Lim.const hD | exact h _ | apply Lim.ite | apply Lim.cond | apply Lim.bind hD | apply Lim.sum | intro _) (x0,x1,x2,x3)
theorem Z41_fx (x0:List D) (x1 x2:Int) (x3:List D):Z41 x0 x1 x2 x3=c_Z41 Z41 x0 x1 x2 x3 some:=
 fix_eq (N:=fun n (p:List D × Int × Int × List D)=>n_Z41 n p.1 p.2.1 p.2.2.1 p.2.2.2) (C:=fun f p=>c_Z41 (fun x0 x1 x2 x3=>f (x0,x1,x2,x3)) p.1 p.2.1 p.2.2.1 p.2.2.2 some) (fun _=>rfl) (fun _ _=>rfl) (fun hD f fs h p=>by
  unfold c_Z41
  repeat' first | exact Lim.const hD | exact h _ | apply Lim.ite | apply Lim.cond | apply Lim.bind hD | apply Lim.sum | intro _) (x0,x1,x2,x3)
theorem Z43_fx (x0:Int) (x1 x2:Nat) (x3:Int) (x4:List D):Z43 x0 x1 x2 x3 x4=c_Z43 Z43 x0 x1 x2 x3 x4 some:=
 fix_eq (N:=fun n (p:Int × Nat × Nat × Int × List D)=>n_Z43 n p.1 p.2.1 p.2.2.1 p.2.2.2.1 p.2.2.2.2) (C:=fun f p=>c_Z43 (fun x0 x1 x2 x3 x4=>f (x0,x1,x2,x3,x4)) p.1 p.2.1 p.2.2.1 p.2.2.2.1 p.2.2.2.2 some) (fun _=>rfl) (fun _ _=>rfl) (fun hD f fs h p=>by
  unfold c_Z43
  repeat' first | exact Lim.const hD | exact h _ | apply Lim.ite | apply Lim.cond | apply Lim.bind hD | apply Lim.sum | intro _) (x0,x1,x2,x3,x4)
theorem Z44_fx (x0:Int) (x1:List D):Z44 x0 x1=c_Z44 Z44 x0 x1 some:=
 fix_eq (N:=fun n (p:Int × List D)=>n_Z44 n p.1 p.2) (C:=fun f p=>c_Z44 (fun x0 x1=>f (x0,x1)) p.1 p.2 some) (fun _=>rfl) (fun _ _=>rfl) (fun hD f fs h p=>by
  unfold c_Z44
  repeat' first | exact Lim.const hD | exact h _ | apply Lim.ite | apply Lim.cond | apply Lim.bind hD | apply Lim.sum | intro _) (x0,x1)
theorem Z47_fx (x0:List D) (x1:ByteArray) (x2 x3:Int):Z47 x0 x1 x2 x3=c_Z47 Z47 x0 x1 x2 x3 some:=
 fix_eq (N:=fun n (p:List D × ByteArray × Int × Int)=>n_Z47 n p.1 p.2.1 p.2.2.1 p.2.2.2) (C:=fun f p=>c_Z47 (fun x0 x1 x2 x3=>f (x0,x1,x2,x3)) p.1 p.2.1 p.2.2.1 p.2.2.2 some) (fun _=>rfl) (fun _ _=>rfl) (fun hD f fs h p=>by
  unfold c_Z47
  repeat' first | exact Lim.const hD | exact h _ | apply Lim.ite | apply Lim.cond | apply Lim.bind hD | apply Lim.sum | intro _) (x0,x1,x2,x3)
theorem Z51_fx (x0 x1:List D) (x2 x3:Int):Z51 x0 x1 x2 x3=c_Z51 Z51 x0 x1 x2 x3 some:=
 fix_eq (N:=fun n (p:List D × List D × Int × Int)=>n_Z51 n p.1 p.2.1 p.2.2.1 p.2.2.2) (C:=fun f p=>c_Z51 (fun x0 x1 x2 x3=>f (x0,x1,x2,x3)) p.1 p.2.1 p.2.2.1 p.2.2.2 some) (fun _=>rfl) (fun _ _=>rfl) (fun hD f fs h p=>by
  unfold c_Z51
  repeat' first | exact Lim.const hD | exact h _ | apply Lim.ite | apply Lim.cond | apply Lim.bind hD | apply Lim.sum | intro _) (x0,x1,x2,x3)
theorem Z53_fx (x0:List D) (x1 x2:Int) (x3:List D):Z53 x0 x1 x2 x3=c_Z53 Z53 x0 x1 x2 x3 some:=
 fix_eq (N:=fun n (p:List D × Int × Int × List D)=>n_Z53 n p.1 p.2.1 p.2.2.1 p.2.2.2) (C:=fun f p=>c_Z53 (fun x0 x1 x2 x3=>f (x0,x1,x2,x3)) p.1 p.2.1 p.2.2.1 p.2.2.2 some) (fun _=>rfl) (fun _ _=>rfl) (fun hD f fs h p=>by
  unfold c_Z53
  repeat' first | exact Lim.const hD | exact h _ | apply Lim.ite | apply Lim.cond | apply Lim.bind hD | apply Lim.sum | intro _) (x0,x1,x2,x3)
theorem Z61_fx (x0:Int) (x1:ByteArray):Z61 x0 x1=c_Z61 Z61 x0 x1 some:=
 fix_eq (N:=fun n (p:Int × ByteArray)=>n_Z61 n p.1 p.2) (C:=fun f p=>c_Z61 (fun x0 x1=>f (x0,x1)) p.1 p.2 some) (fun _=>rfl) (fun _ _=>rfl) (fun hD f fs h p=>by
  unfold c_Z61
  repeat' first | exact Lim.const hD | exact h _ | apply Lim.ite | apply Lim.cond | apply Lim.bind hD | apply Lim.sum | intro _) (x0,x1)
theorem Z63_fx (x0 x1:Int) (x2:List D):Z63 x0 x1 x2=c_Z63 Z63 x0 x1 x2 some:=
 fix_eq (N:=fun n (p:Int × Int × List D)=>n_Z63 n p.1 p.2.1 p.2.2) (C:=fun f p=>c_Z63 (fun x0 x1 x2=>f (x0,x1,x2)) p.1 p.2.1 p.2.2 some) (fun _=>rfl) (fun _ _=>rfl) (fun hD f fs h p=>by
  unfold c_Z63
  repeat' first | exact Lim.const hD | exact h _ | apply Lim.ite | apply Lim.cond | apply Lim.bind hD | apply Lim.sum | intro _) (x0,x1,x2)
theorem l1In_eq (x a b:Int):Z7 x a b=some (btw x a b):=by
 unfold Z7 c_Z7 btw
 by_cases h:a≤x <;> simp [h]
theorem within_eq (x a b:Int):Z20 x a b=some (btw x a b):=by
 unfold Z20 c_Z20 btw
 by_cases h:a≤x <;> simp [h]
theorem fxScan {α:Type} {F:Int→Option α} {len:Nat} (p:Nat→Bool) (bad:Nat→α) {fin:α}
  (hs:∀ i:Nat,i<len→F (i:Int)=bif p i then some (bad i) else F ((i + 1:Nat):Int)) (he:F (len:Int)=some fin) :
  F 0=some (match firstN p len with | some i=>bad i | none=>fin):=by
 have key:∀ k (i:Nat),i + k=len→(∀ j,j<i→p j=false)→F (i:Int)=some (match firstN p len with | some i=>bad i | none=>fin):=by
  intro k
  induction k with
  | zero=>
   intro i h1 h3
   have hi:i=len:=by omega
   subst hi
   rw [he]
   cases hf:firstN p i with
   | none=>rfl
   | some j=>
    obtain ⟨q1,q2,_⟩:=firstN_some hf
    rw [h3 j q1] at q2
    cases q2
  | succ k ih=>
   intro i h1 h3
   rw [hs i (by omega)]
   cases hp:p i with
   | true=>
    rw [cond_true]
    have:firstN p len=some i:=by
     unfold firstN
     rw [List.find?_range_eq_some]
     exact ⟨hp,List.mem_range.2 (by omega),fun j hj=>by simp [h3 j hj]⟩
    rw [this]
   | false=>
    rw [cond_false]
    refine ih (i + 1) (by omega) (fun j hj=>?_)
    by_cases hji:j=i
    ·subst hji; exact hp
    ·exact h3 j (by omega)
 exact key len 0 (by omega) (fun j hj=>by omega)
def allN (p:Nat→Bool) (len:Nat):Bool:=(firstN (fun i=>!p i) len).isNone
theorem allN_iff {p:Nat→Bool} {len:Nat}:allN p len=true ↔ ∀ i,i<len→p i=true:=by
 unfold allN
 constructor
 ·intro h i hi
  cases hf:firstN (fun i=>!p i) len with
  | none=>simpa using firstN_none hf i hi
  | some j=>rw [hf] at h; cases h
 ·intro h
  cases hf:firstN (fun i=>!p i) len with
  | none=>rfl
  | some i=>obtain ⟨h1,h2,_⟩:=firstN_some hf; rw [h i h1] at h2; cases h2
theorem fxAll {α:Type} {F:Int→Option α} {len:Nat} (p:Nat→Bool) (bad:α) {fin:α}
  (hs:∀ i:Nat,i<len→F (i:Int)=bif p i then F ((i + 1:Nat):Int) else some bad) (he:F (len:Int)=some fin) :
  F 0=some (bif allN p len then fin else bad):=by
 have:=fxScan (F:=F) (len:=len) (fun i=>!p i) (fun _=>bad) (fin:=fin) (fun i hi=>by rw [hs i hi]; cases p i <;> rfl) he
 rw [this]
 unfold allN
 cases firstN (fun i=>!p i) len <;> rfl
def cmpV (x y:Int):Int:=if x<y then -1 else if y<x then 1 else 0
theorem compare_eq (x y:Int):Z26 x y=some (cmpV x y):=by
 simp only [Z26,c_Z26,Z25,c_Z25,Option.bind_some,decide_true,Bool.not_true,cond_false,cmpV]
 by_cases h:x<y
 ·simp [h]
 ·by_cases h2:y<x <;> simp [h,h2]
theorem or_eq (a b:Int):Z30 [.int a,.int b]=some (if a=0 then b else a):=by
 have w1:IntKind.i64.wrap 1=1:=by decide
 have w2:IntKind.i64.wrap 2=2:=by decide
 have key:∃ y,Z29 0 [.int a,.int b] 2 0=some y∧(match y with | .inl z=>z.1 | .inr z=>z)=(if a=0 then b else a):=by
  by_cases ha:a=0
  ·by_cases hb:b=0
   ·refine ⟨.inr 0,ev_eq (f:=fun m=>n_Z29 m 0 [.int a,.int b] 2 0) 3 (fun m hm=>?_),by simp [ha,hb]⟩
    obtain ⟨m,rfl⟩:∃ m',m=m' + 3:=⟨m - 3,by omega⟩
    simp [n_Z29,c_Z29,ha,hb,toInt_int,w1,w2]
   ·refine ⟨.inl (b,0),ev_eq (f:=fun m=>n_Z29 m 0 [.int a,.int b] 2 0) 2 (fun m hm=>?_),by simp [ha]⟩
    obtain ⟨m,rfl⟩:∃ m',m=m' + 2:=⟨m - 2,by omega⟩
    simp [n_Z29,c_Z29,ha,hb,toInt_int,w1]
  ·refine ⟨.inl (a,0),ev_eq (f:=fun m=>n_Z29 m 0 [.int a,.int b] 2 0) 1 (fun m hm=>?_),by simp [ha]⟩
   obtain ⟨m,rfl⟩:∃ m',m=m' + 1:=⟨m - 1,by omega⟩
   simp [n_Z29,c_Z29,ha,toInt_int]
 obtain ⟨y,h1,h2⟩:=key
 rw [← h2]
 simp only [Z30,c_Z30,show (([D.int a,D.int b]:List D).length:Int)=2 from rfl,h1,Option.bind_some]
 cases y <;> rfl
def markd (cell:Int→D) (c:Int) (n:Nat):List D:=(List.range n).map (fun (i:Nat)=>cell (1 + c * (i:Int)))
theorem markd_len {cell:Int→D} {c:Int} {n:Nat}:(markd cell c n).length=n:=by simp [markd]
theorem markd_get {cell:Int→D} {c:Int} {n i:Nat} (h:i<n):(markd cell c n)[i]?.getD (.int 0)=cell (1 + c * (i:Int)):=by
 simp [markd,h]
theorem mark_loop {N:Nat→Int→Int→List D→Option (Int × List D)} {n:Nat} {c:Int} {cell:Int→D}
  (hs:∀ m (i:Nat) acc,i<n→acc.length=n→N (m + 1) (1 + c * (i:Int)) (i:Int) acc=N m (1 + c * ((i + 1:Nat):Int)) ((i + 1:Nat):Int) (acc.set i (cell (1 + c * (i:Int)))))
  (he:∀ m acc,acc.length=n→N (m + 1) (1 + c * (n:Int)) (n:Int) acc=some (1 + c * (n:Int),acc)) {l:List D} (hl:l.length=n) :
  ev (fun m=>N m 1 0 l)=some (1 + c * (n:Int),markd cell c n):=by
 have key:∀ k,∀ m (i:Nat) acc,i + k=n→k<m→acc.length=n→acc.take i=(markd cell c n).take i→N m (1 + c * (i:Int)) (i:Int) acc=some (1 + c * (n:Int),markd cell c n):=by
  intro k
  induction k with
  | zero=>
   intro m i acc h1 h2 h3 h4
   obtain ⟨m,rfl⟩:∃ m',m=m' + 1:=⟨m - 1,by omega⟩
   have hi:i=n:=by omega
   subst hi
   rw [he m acc h3]
   rw [List.take_of_length_le (by omega),List.take_of_length_le (by rw [markd_len]; exact Nat.le_refl _)] at h4
   rw [h4]
  | succ k ih=>
   intro m i acc h1 h2 h3 h4
   obtain ⟨m,rfl⟩:∃ m',m=m' + 1:=⟨m - 1,by omega⟩
   rw [hs m i acc (by omega) h3]
   refine ih m (i + 1) _ (by omega) (by omega) (by simpa using h3) ?_
   have hi:i<(markd cell c n).length:=by rw [markd_len]; omega
   rw [List.take_succ_eq_append_getElem (by simp; omega),List.take_succ_eq_append_getElem hi]
   rw [List.take_set_of_le (by omega),h4]
   simp [markd]
 have:=ev_eq (f:=fun m=>N m 1 0 l) (n + 1) (fun m hm=>by
  have:=key n m 0 l (by omega) (by omega) hl (by simp)
  simpa using this)
 exact this
theorem held_loop {X:Type} {N:Nat→Int→Int→Option X} {n:Nat} {c:Int} {x:X}
  (hs:∀ m (i:Nat),i<n→N (m + 1) (1 + c * (i:Int)) (i:Int)=N m (1 + c * ((i + 1:Nat):Int)) ((i + 1:Nat):Int))
  (he:∀ m,N (m + 1) (1 + c * (n:Int)) (n:Int)=some x):ev (fun m=>N m 1 0)=some x:=by
 have key:∀ k,∀ m (i:Nat),i + k=n→k<m→N m (1 + c * (i:Int)) (i:Int)=some x:=by
  intro k
  induction k with
  | zero=>
   intro m i h1 h2
   obtain ⟨m,rfl⟩:∃ m',m=m' + 1:=⟨m - 1,by omega⟩
   have hi:i=n:=by omega
   subst hi
   exact he m
  | succ k ih=>
   intro m i h1 h2
   obtain ⟨m,rfl⟩:∃ m',m=m' + 1:=⟨m - 1,by omega⟩
   rw [hs m i (by omega)]
   exact ih m (i + 1) (by omega) (by omega)
 exact ev_eq (f:=fun m=>N m 1 0) (n + 1) (fun m hm=>by
  have:=key n m 0 (by omega) (by omega)
  simpa using this)
theorem markText_tot (k:Nat) (hk:k<10 ^ 18):∃ s,Z62 k=some s:=by
 have key:∀ (n j:Nat) (s:ByteArray),j<10 ^ n→n≤18→s.size + n≤4294967000→∃ r,Z61 j s=some r∧r.size≤s.size + n:=by
  intro n
  induction n with
  | zero=>
   intro j s hj _ hs
   have:j=0:=by simpa using hj
   subst this
   refine ⟨s,?_,by omega⟩
   rw [Z61_fx]; unfold c_Z61; simp
  | succ n ih=>
   intro j s hj hn hs
   rw [Z61_fx]
   unfold c_Z61
   by_cases h0:j=0
   ·subst h0
    exact ⟨s,by simp,by omega⟩
   ·have h1:(0:Int)<j:=by omega
    have hq:IntKind.i64.wrap ((j:Int).tdiv 10)=((j / 10:Nat):Int):=by
     have e:(j:Int).tdiv 10=((j / 10:Nat):Int):=by
      rw [Int.tdiv_eq_ediv_of_nonneg (by omega)]; omega
     have hp:10 ^ (n + 1)≤10 ^ 18:=Nat.pow_le_pow_right (by omega) (by omega)
     rw [e,wrap_id (by omega) (by omega)]
    have hb:∀ d:D,(bytesOf [d]).size=1:=fun d=>rfl
    have hc:(1:Nat) + s.size≤4294967296:=by omega
    simp only [h1,decide_true,cond_true,ne_eq,show ¬ (10:Int)=0 by omega,not_false_eq_true,if_true,hb,hc,hq]
    have hp:j / 10<10 ^ n:=by
     rw [Nat.pow_succ] at hj
     omega
    have hsz:∀ d:D,(bytesOf [d] ++ s).size=1 + s.size:=fun d=>by rw [ByteArray.size_append,hb]
    obtain ⟨r,r1,r2⟩:=ih (j / 10) (bytesOf [D.int (IntKind.u8.wrap (IntKind.i64.wrap (48 + (j:Int).tmod 10)))] ++ s) hp (by omega) (by rw [hsz]; omega)
    rw [hsz] at r2
    rw [r1]
    exact ⟨r,rfl,by omega⟩
 unfold Z62 c_Z62
 by_cases h0:k=0
 ·subst h0; exact ⟨_,rfl⟩
 ·have h1:¬ (k:Int)≤0:=by omega
  obtain ⟨r,r1,r2⟩:=key 18 k bytes_0 hk (by omega) (by decide)
  have hz:ByteArray.size bytes_0=0:=by decide
  have hm:ByteArray.size bytes_2=1:=by decide
  have hc:ByteArray.size bytes_2 + r.size≤4294967296:=by omega
  simp only [h1,decide_false,cond_false,r1,Option.bind_some,hc,if_true]
  exact ⟨_,rfl⟩
noncomputable def mt (k:Int):ByteArray:=(Z62 k).getD ByteArray.empty
theorem markText_eq (k:Nat) (hk:k<10 ^ 18):Z62 k=some (mt k):=by
 obtain ⟨s,hs⟩:=markText_tot k hk
 unfold mt
 rw [hs]; rfl
noncomputable abbrev cellS (k:Int):D:=.str (mt k)
theorem markStringS_eq (l:List D) (hl:l.length≤1048576):Z66 l 1=some (1 + (l.length:Int),markd cellS 1 l.length):=by
 have key:Z65 1 0 l=some (1 + 1 * (l.length:Int),markd cellS 1 l.length):=by
  refine mark_loop (N:=n_Z65) (fun m i acc hi hacc=>?_) (fun m acc hacc=>?_) rfl
  ·have hw:IntKind.i64.wrap ((i:Int) + 1)=((i + 1:Nat):Int):=succ_wrap (by omega)
   have e:(1 + 1 * (i:Int))=((i + 1:Nat):Int):=by omega
   have e':(1 + 1 * ((i + 1:Nat):Int))=((i + 1 + 1:Nat):Int):=by omega
   have hw':IntKind.i64.wrap (((i + 1:Nat):Int) + 1)=((i + 1 + 1:Nat):Int):=succ_wrap (by omega)
   have h2:(i:Int)<acc.length:=by omega
   have h3:i + 1≤acc.length:=by omega
   rw [e,e']
   simp only [n_Z65,c_Z65,h2,h3,decide_true,cond_true,markText_eq (i + 1) (by omega),Option.bind_some,Int.natCast_nonneg,and_self,if_true,Int.toNat_natCast,hw,hw',Option.bind_fun_some]
  ·have h1:¬ (l.length:Int)<acc.length:=by omega
   simp [n_Z65,c_Z65,h1]
 simp only [Z66,c_Z66,key,Option.bind_some]
 rw [Int.one_mul]
theorem heldStringS_eq (n:Nat) (hn:n≤1048576):Z68 (markd cellS 1 n) 1=some (1 + (n:Int)):=by
 have key:Z67 (markd cellS 1 n) 1 0=some (.inr (1 + 1 * (n:Int))):=by
  refine held_loop (n:=n) (c:=1) (N:=fun m k i=>n_Z67 m (markd cellS 1 n) k i) (fun m i hi=>?_) (fun m=>?_)
  ·have hw:IntKind.i64.wrap ((i:Int) + 1)=((i + 1:Nat):Int):=succ_wrap (by omega)
   have e:(1 + 1 * (i:Int))=((i + 1:Nat):Int):=by omega
   have e':(1 + 1 * ((i + 1:Nat):Int))=((i + 1 + 1:Nat):Int):=by omega
   have hw':IntKind.i64.wrap (((i + 1:Nat):Int) + 1)=((i + 1 + 1:Nat):Int):=succ_wrap (by omega)
   have h2:(i:Int)<(markd cellS 1 n).length:=by rw [markd_len]; omega
   have hg:=markd_get (cell:=cellS) (c:=1) hi
   rw [e] at hg
   rw [e,e']
   simp only [n_Z67,c_Z67,h2,decide_true,cond_true,markText_eq (i + 1) (by omega),Option.bind_some,Int.natCast_nonneg,and_self,if_true,Int.toNat_natCast,List.getD_eq_getElem?_getD,hg,D.toStr,beq_self_eq_true,Bool.not_true,cond_false,hw,hw',Option.bind_fun_some]
  ·have h1:¬ (n:Int)<(markd cellS 1 n).length:=by rw [markd_len]; omega
   simp [n_Z67,c_Z67,h1]
 simp only [Z68,c_Z68,key,Option.bind_some,Sum.elim_inr]
 rw [Int.one_mul]
theorem eqStringS_self (l:List D) (hl:l.length≤1048576):Z57 l l=some true:=by
 have key:Z56 l l 0=some (.inr ()):=by
  refine all_loop (N:=fun n i=>n_Z56 n l l i) (len:=l.length) (fun m i hi=>?_) (fun m=>?_)
  ·have hw:IntKind.i64.wrap ((i:Int) + 1)=(i:Int) + 1:=wrap_id (by omega) (by omega)
   have h1:(i:Int)<l.length:=by omega
   simp [n_Z56,c_Z56,h1,hw]
  ·simp [n_Z56,c_Z56]
 simp [Z57,c_Z57,key]
abbrev tFi:Ty:=.struct [.int .i64,.str,.int .i64,.int .i64,.int .i64]
theorem tFi_wf {d:D} (h:wfD tFi d):∃ (a:Int) (s:ByteArray) (b c e:Int),d=.node [.int a,.str s,.int b,.int c,.int e]∧s.size≤maxLen:=by
 obtain ⟨l,rfl,x1,r1,rfl,⟨a,rfl,_⟩,x2,r2,rfl,⟨s,rfl,hs⟩,x3,r3,rfl,⟨b,rfl,_⟩,x4,r4,rfl,⟨c,rfl,_⟩,x5,r5,rfl,⟨e,rfl,_⟩,h⟩:=h
 obtain rfl:=h
 exact ⟨a,s,b,c,e,rfl,hs⟩
theorem szFindS_tot (l:List D) (v:Int) (hv:0≤v) (hv':v≤1048576) (hl:l.length≤maxLen):∃ r,Z3 l v=some r∧(0≤r→l.length≤1048576):=by
 unfold maxLen at hl
 have hw:IntKind.i64.wrap (v - (l.length:Int))=v - (l.length:Int):=wrap_id (by omega) (by omega)
 unfold Z3 c_Z3
 rw [hw]
 by_cases h:v - (l.length:Int)<0
 ·exact ⟨-1,by simp [h],by omega⟩
 ·have key:∀ k (i:Nat) (u:Int),i + k=l.length→∃ r,Z2 l u i=some r:=by
   intro k
   induction k with
   | zero=>
    intro i u hi
    have hi:i=l.length:=by omega
    subst hi
    rw [Z2_fx]; unfold c_Z2; simp
   | succ k ih=>
    intro i u hi
    rw [Z2_fx]
    unfold c_Z2
    have h1:(i:Int)<l.length:=by omega
    have hw:IntKind.i64.wrap ((i:Int) + 1)=((i + 1:Nat):Int):=succ_wrap (by omega)
    simp only [h1,decide_true,cond_true,Int.natCast_nonneg,and_self,if_true,hw,Z1,c_Z1,Option.bind_fun_some]
    cases decide (IntKind.i64.wrap (u - (((l.getD (i:Int).toNat (D.int 0)).fld 1).toStr.size:Int))<0) with
    | true=>exact ⟨_,rfl⟩
    | false=>
     simp only [cond_false,Option.bind_some]
     cases decide (IntKind.i64.wrap (u - (((l.getD (i:Int).toNat (D.int 0)).fld 1).toStr.size:Int))<0) with
     | true=>exact ⟨_,rfl⟩
     | false=>exact ih (i + 1) _ (by omega)
  obtain ⟨r,hr⟩:=key l.length 0 (v - l.length) (by omega)
  have hr:Z2 l (v - l.length) 0=some r:=hr
  simp only [h,decide_false,cond_false,hr,Option.bind_some]
  cases r <;> exact ⟨_,rfl,fun _=>by omega⟩
theorem toFindS_id (l:List D) (hl:l.length≤1048576) (w:∀ d ∈ l,wfD tFi d):Z6 l=some l:=by
 have key:Z5 l 0 (List.replicate l.length (.node [.int 0,.str bytes_0,.int 0,.int 0,.int 0]))=some l:=by
  refine copy_loop (N:=n_Z5) (fun m i acc hi hacc=>?_) (fun m acc hacc=>?_)
  ·obtain ⟨a,s,b,c,e,hd,_⟩:=tFi_wf (w _ (get_mem hi))
   have hw:IntKind.i64.wrap ((i:Int) + 1)=(i:Int) + 1:=wrap_id (by omega) (by omega)
   have h2:(i:Int)<acc.length:=by omega
   have h3:i + 1≤acc.length:=by omega
   have h1:(i:Int)<l.length:=by omega
   simp [n_Z5,c_Z5,Z4,c_Z4,h1,h2,h3,hw,hd,fld_node,toInt_int,D.toStr]
  ·simp [n_Z5,c_Z5]
 have h4:(l.length:Int)≤4294967296:=by omega
 simp [Z6,c_Z6,key,h4]
theorem eqFindS_self (l:List D) (hl:l.length≤1048576):Z60 l l=some true:=by
 have key:Z59 l l 0=some (.inr ()):=by
  refine all_loop (N:=fun n i=>n_Z59 n l l i) (len:=l.length) (fun m i hi=>?_) (fun m=>?_)
  ·have hw:IntKind.i64.wrap ((i:Int) + 1)=(i:Int) + 1:=wrap_id (by omega) (by omega)
   have h1:(i:Int)<l.length:=by omega
   simp [n_Z59,c_Z59,Z58,c_Z58,h1,hw]
  ·simp [n_Z59,c_Z59]
 simp [Z60,c_Z60,key]
theorem markFindS_ok (l:List D) (hl:l.length≤1048576):∃ k l',Z64 l 1=some (k,l')∧0≤k:=by
 have key:∀ r (i:Nat) (acc:List D),i + r=l.length→acc.length=l.length→∃ l',Z63 ((1 + 5 * i:Nat):Int) i acc=some (((1 + 5 * l.length:Nat):Int),l'):=by
  intro r
  induction r with
  | zero=>
   intro i acc hi ha
   have hi:i=acc.length:=by omega
   subst hi
   rw [Z63_fx]
   unfold c_Z63
   simp [ha]
  | succ r ih=>
   intro i acc hi ha
   rw [Z63_fx]
   unfold c_Z63
   have h2:(i:Int)<acc.length:=by omega
   have h3:i + 1≤acc.length:=by omega
   have hw:IntKind.i64.wrap ((i:Int) + 1)=((i + 1:Nat):Int):=succ_wrap (by omega)
   have w1:IntKind.i64.wrap (((1 + 5 * i:Nat):Int) + 1)=((1 + 5 * i + 1:Nat):Int):=succ_wrap (by omega)
   have w2:IntKind.i64.wrap (((1 + 5 * i + 1:Nat):Int) + 1)=((1 + 5 * i + 1 + 1:Nat):Int):=succ_wrap (by omega)
   have w3:IntKind.i64.wrap (((1 + 5 * i + 1 + 1:Nat):Int) + 1)=((1 + 5 * i + 1 + 1 + 1:Nat):Int):=succ_wrap (by omega)
   have w4:IntKind.i64.wrap (((1 + 5 * i + 1 + 1 + 1:Nat):Int) + 1)=((1 + 5 * i + 1 + 1 + 1 + 1:Nat):Int):=succ_wrap (by omega)
   have w5:IntKind.i64.wrap (((1 + 5 * i + 1 + 1 + 1 + 1:Nat):Int) + 1)=((1 + 5 * (i + 1):Nat):Int):=by rw [succ_wrap (by omega)]; omega
   simp only [h2,h3,decide_true,cond_true,Int.natCast_nonneg,and_self,if_true,Int.toNat_natCast,w1,markText_eq (1 + 5 * i + 1) (by omega),Option.bind_some,Z0,List.length_set,w2,w3,w4,w5,hw,Option.bind_fun_some]
   exact ih (i + 1) _ (by omega) (by simp only [List.length_set]; exact ha)
 obtain ⟨l',h⟩:=key l.length 0 l (by omega) rfl
 have h:Z63 1 0 l=some (((1 + 5 * l.length:Nat):Int),l'):=h
 refine ⟨((1 + 5 * l.length:Nat):Int),l',?_,by omega⟩
 simp only [Z64,c_Z64,h,Option.bind_some]
def chr (s:ByteArray) (i:Nat):Int:=((s.data.toList.getD i (0:UInt8)).toNat:Int)
def okL (c:Int):Bool:=decide (97≤c) && decide (c≤122)
def okD (c:Int):Bool:=decide (48≤c) && decide (c≤57)
def okC (s:ByteArray) (i:Nat):Bool:=okL (chr s i) || (!decide (i=0) && okD (chr s i))
def nameB (s:ByteArray):Bool:=btw (s.size:Int) 1 8 && allN (okC s) s.size
theorem l7Name_eq (s:ByteArray):Z9 s=some (nameB s):=by
 unfold Z9 c_Z9 nameB
 simp only [l1In_eq,Option.bind_some]
 cases hb:btw (s.size:Int) 1 8 with
 | false=>rfl
 | true=>
  rw [btw_iff] at hb
  have h:=fxAll (F:=fun i=>Z8 s i) (len:=s.size) (fun i=>okL (chr s i) || okD (chr s i)) (.inl false) (fin:=.inr ()) (fun i hi=>by
   show Z8 s i=_
   rw [Z8_fx]
   unfold c_Z8
   have h1:(i:Int)<s.size:=by omega
   simp only [h1,decide_true,cond_true,Int.natCast_nonneg,and_self,if_true,Int.toNat_natCast,succ_wrap (show i<4611686018427387904 by omega),Option.bind_fun_some]
   show _=bif okL (chr s i) || okD (chr s i) then _ else _
   have hc:((s.data.toList.getD i (0:UInt8)).toNat:Int)=chr s i:=rfl
   simp only [hc]
   unfold okL okD
   by_cases a1:chr s i<97
   ·have a1':¬ 97≤chr s i:=by omega
    by_cases a2:chr s i<48
    ·have a2':¬ 48≤chr s i:=by omega
     simp [a1,a1',a2,a2']
    ·have a2':48≤chr s i:=by omega
     by_cases a3:57<chr s i
     ·have a3':¬ chr s i≤57:=by omega
      simp [a1,a1',a2,a2',a3,a3']
     ·have a3':chr s i≤57:=by omega
      simp [a1,a1',a2,a2',a3,a3']
   ·have a1':97≤chr s i:=by omega
    by_cases a4:122<chr s i
    ·have a4':¬ chr s i≤122:=by omega
     have a2:¬ chr s i<48:=by omega
     have a3:57<chr s i:=by omega
     have a3':¬ chr s i≤57:=by omega
     simp [a1,a1',a4,a4',a2,a3,a3']
    ·have a4':chr s i≤122:=by omega
     simp [a1,a1',a4,a4'])
   (by
    show Z8 s s.size=_
    rw [Z8_fx]; unfold c_Z8; simp)
  have h':Z8 s 0=_:=h
  have h0:(0:Int)<s.size:=by omega
  have hc:((s.data.toList.getD (0:Int).toNat (0:UInt8)).toNat:Int)=chr s 0:=rfl
  simp only [Bool.not_true,cond_false,h0,and_self,if_true,Int.le_refl,hc,h',Option.bind_some,Bool.true_and]
  have hsz:0<s.size:=by omega
  by_cases a1:chr s 0<97
  ·have hn:allN (okC s) s.size=false:=by
    rw [← Bool.not_eq_true,allN_iff]
    intro hf
    have:=hf 0 hsz
    simp only [okC,okL,decide_true,Bool.not_true,Bool.false_and,Bool.or_false,Bool.and_eq_true,decide_eq_true_eq] at this
    omega
   simp [a1,hn]
  ·by_cases a2:122<chr s 0
   ·have hn:allN (okC s) s.size=false:=by
     rw [← Bool.not_eq_true,allN_iff]
     intro hf
     have:=hf 0 hsz
     simp only [okC,okL,decide_true,Bool.not_true,Bool.false_and,Bool.or_false,Bool.and_eq_true,decide_eq_true_eq] at this
     omega
    simp [a1,a2,hn]
   ·have hn:allN (fun i=>okL (chr s i) || okD (chr s i)) s.size=allN (okC s) s.size:=by
     rw [Bool.eq_iff_iff,allN_iff,allN_iff]
     constructor
     ·intro hf i hi
      by_cases hi0:i=0
      ·subst hi0
       simp only [okC,okL,Bool.or_eq_true,Bool.and_eq_true,decide_eq_true_eq]
       left; omega
      ·have:=hf i hi
       simpa [okC,hi0] using this
     ·intro hf i hi
      have:=hf i hi
      simp only [okC,Bool.or_eq_true,Bool.and_eq_true] at this ⊢
      rcases this with h | h
      ·exact .inl h
      ·exact .inr h.2
    simp only [a1,a2,decide_false,cond_false,hn]
    cases allN (okC s) s.size <;> rfl
theorem isName_eq (s:ByteArray) (hs:s.size≤maxLen):Z23 s=some (nameB s):=by
 unfold maxLen at hs
 have h:=fxAll (F:=fun i=>Z22 s s.size i) (len:=s.size) (okC s) (.inl (s,false)) (fin:=.inr s) (fun i hi=>by
  show Z22 s s.size i=_
  rw [Z22_fx]
  unfold c_Z22
  have h1:(i:Int)<s.size:=by omega
  have hw:IntKind.i64.wrap ((i:Int) + 1)=((i + 1:Nat):Int):=by rw [wrap_id (by omega) (by omega)]; omega
  have hc:((s.data.toList.getD i (0:UInt8)).toNat:Int)=chr s i:=rfl
  have h0:decide ((i:Int)=0)=decide (i=0):=by simp
  simp only [h1,decide_true,cond_true,Int.natCast_nonneg,and_self,if_true,Int.toNat_natCast,hw,Option.bind_fun_some,hc,h0]
  unfold okC okL okD
  cases decide (i=0) <;> cases decide (97≤chr s i) <;> cases decide (chr s i≤122) <;> cases decide (48≤chr s i) <;> cases decide (chr s i≤57) <;> rfl)
  (by
   show Z22 s s.size s.size=_
   rw [Z22_fx]; unfold c_Z22; simp)
 have h':Z22 s s.size 0=_:=h
 unfold Z23 c_Z23 nameB
 simp only [h',Option.bind_some]
 cases allN (okC s) s.size with
 | false=>simp
 | true=>simp [within_eq]
def findB (a:Int) (s:ByteArray) (b c e:Int):Bool:=btw a 1 999 && (nameB s && (btw b 1 10000 && (btw c 0 1000000 && btw e 0 (IntKind.i64.wrap (100 * b)))))
theorem l14Find_eq (a:Int) (s:ByteArray) (b c e:Int):Z10 a s b c e=some (findB a s b c e):=by
 unfold Z10 c_Z10 findB
 simp only [l1In_eq,l7Name_eq,Option.bind_some]
 cases btw a 1 999 <;> cases nameB s <;> cases btw b 1 10000 <;> cases btw c 0 1000000 <;> rfl
theorem isFind_eq (a:Int) (s:ByteArray) (b c e:Int) (hs:s.size≤maxLen):Z24 a s b c e=some (findB a s b c e):=by
 unfold Z24 c_Z24 findB
 simp only [Z21,c_Z21,within_eq,isName_eq s hs,Option.bind_some]
 cases btw a 1 999 <;> cases nameB s <;> cases btw b 1 10000 <;> cases btw c 0 1000000 <;> rfl
def lexS (a:Int) (s:ByteArray) (b:Int) (u:ByteArray):Bool:=decide (a<b) || (decide (a=b) && Op.bytesLess s.toList u.toList)
theorem before14_eq (a:Int) (s:ByteArray) (b c e:Int) (a':Int) (s':ByteArray) (b' c' e':Int):Z11 a s b c e a' s' b' c' e'=some (lexS a s a' s'):=by
 unfold Z11 c_Z11 lexS
 cases decide (a<a') <;> cases decide (a=a') <;> rfl
theorem cmpFinds_eq (a:Int) (s:ByteArray) (b c e:Int) (a':Int) (s':ByteArray) (b' c' e':Int):∃ v,Z31 a s b c e a' s' b' c' e'=some v∧decide (0≤v)=!lexS a s a' s':=by
 have h2:∃ w,Z28 s s'=some w∧decide (0≤w)=!Op.bytesLess s.toList s'.toList:=by
  simp only [Z28,c_Z28,Z27,c_Z27,Option.bind_some,beq_self_eq_true,Bool.not_true,cond_false]
  cases Op.bytesLess s.toList s'.toList <;> cases (s.toList == s'.toList) <;> exact ⟨_,rfl,rfl⟩
 obtain ⟨w,w1,w2⟩:=h2
 simp only [Z31,c_Z31,compare_eq,w1,or_eq,Option.bind_some]
 refine ⟨_,rfl,?_⟩
 unfold cmpV lexS
 by_cases h1:a<a'
 ·simp [h1]
 ·by_cases h2:a'<a
  ·have:¬ a=a':=by omega
   simp [h1,h2,this]
  ·have:a=a':=by omega
   subst this
   simp [w2]
def fOk (l:List D) (i:Nat):Bool:=
 findB ((l[i]?.getD (.int 0)).fld 0).toInt ((l[i]?.getD (.int 0)).fld 1).toStr ((l[i]?.getD (.int 0)).fld 2).toInt ((l[i]?.getD (.int 0)).fld 3).toInt ((l[i]?.getD (.int 0)).fld 4).toInt &&
 (decide (i=0) || lexS ((l[i - 1]?.getD (.int 0)).fld 0).toInt ((l[i - 1]?.getD (.int 0)).fld 1).toStr ((l[i]?.getD (.int 0)).fld 0).toInt ((l[i]?.getD (.int 0)).fld 1).toStr)
def validF (l:List D):Bool:=decide (l.length≤30) && allN (fOk l) l.length
theorem l14Good_eq (l:List D) (hl:l.length≤1048576):Z13 l=some (validF l):=by
 have h:=fxAll (F:=fun i=>Z12 l i) (len:=min l.length 31) (fOk l) (.inl (l,false)) (fin:=.inr l) (fun i hi=>by
  show Z12 l i=_
  rw [Z12_fx]
  unfold c_Z12
  have h1:(i:Int)<l.length:=by omega
  have h2:(i:Int)≤30:=by omega
  simp only [h1,h2,decide_true,cond_true,Int.natCast_nonneg,and_self,if_true,Int.toNat_natCast,List.getD_eq_getElem?_getD,l14Find_eq,before14_eq,Option.bind_some,succ_wrap (show i<4611686018427387904 by omega),Option.bind_fun_some,fOk]
  cases findB ((l[i]?.getD (.int 0)).fld 0).toInt ((l[i]?.getD (.int 0)).fld 1).toStr ((l[i]?.getD (.int 0)).fld 2).toInt ((l[i]?.getD (.int 0)).fld 3).toInt ((l[i]?.getD (.int 0)).fld 4).toInt with
  | false=>rfl
  | true=>
   by_cases h0:i=0
   ·subst h0; simp
   ·have h2:(0:Int)<i:=by omega
    have h3:((i - 1:Nat):Int)<l.length:=by omega
    simp only [pred_wrap (show i<4611686018427387904 by omega) (show 0<i by omega),h2,h3,h0,Int.natCast_nonneg,and_self,if_true,Int.toNat_natCast,decide_true,decide_false,cond_true,cond_false,Bool.not_true,Bool.true_and,Bool.false_or]
    cases lexS ((l[i - 1]?.getD (.int 0)).fld 0).toInt ((l[i - 1]?.getD (.int 0)).fld 1).toStr ((l[i]?.getD (.int 0)).fld 0).toInt ((l[i]?.getD (.int 0)).fld 1).toStr <;> rfl)
  (by
   show Z12 l (min l.length 31:Nat)=_
   rw [Z12_fx]; unfold c_Z12
   by_cases h:l.length≤31
   ·rw [Nat.min_eq_left h]; simp
   ·rw [Nat.min_eq_right (by omega)]
    have:((31:Nat):Int)<l.length:=by omega
    simp [this])
 have h':Z12 l 0=_:=h
 unfold Z13 c_Z13 validF
 simp only [h',Option.bind_some]
 by_cases hl':l.length≤30
 ·rw [Nat.min_eq_left (by omega)]
  have h2:(l.length:Int)≤30:=by omega
  cases allN (fOk l) l.length <;> simp [hl',h2]
 ·have h2:¬ (l.length:Int)≤30:=by omega
  cases allN (fOk l) (min l.length 31) <;> simp [hl',h2]
theorem isFinds_eq (l:List D) (hl:l.length≤1048576) (w:∀ d ∈ l,wfD tFi d):Z33 l=some (validF l):=by
 have h:=fxAll (F:=fun i=>Z32 l l l.length i) (len:=l.length) (fOk l) (.inl (l,false)) (fin:=.inr l) (fun i hi=>by
  show Z32 l l l.length i=_
  rw [Z32_fx]
  unfold c_Z32
  have h1:(i:Int)<l.length:=by omega
  have hs:((l[i]?.getD (.int 0)).fld 1).toStr.size≤maxLen:=by
   obtain ⟨a,s,b,c,e,hd,hs⟩:=tFi_wf (w _ (get_mem hi))
   rw [hd]; exact hs
  simp only [h1,decide_true,cond_true,Int.natCast_nonneg,and_self,if_true,Int.toNat_natCast,List.getD_eq_getElem?_getD,isFind_eq _ _ _ _ _ hs,Option.bind_some,succ_wrap (show i<4611686018427387904 by omega),Option.bind_fun_some,fOk]
  cases findB ((l[i]?.getD (.int 0)).fld 0).toInt ((l[i]?.getD (.int 0)).fld 1).toStr ((l[i]?.getD (.int 0)).fld 2).toInt ((l[i]?.getD (.int 0)).fld 3).toInt ((l[i]?.getD (.int 0)).fld 4).toInt with
  | false=>rfl
  | true=>
   by_cases h0:i=0
   ·subst h0; simp
   ·have h2:(0:Int)<i:=by omega
    have h3:((i - 1:Nat):Int)<l.length:=by omega
    obtain ⟨v,v1,v2⟩:=cmpFinds_eq ((l[i - 1]?.getD (.int 0)).fld 0).toInt ((l[i - 1]?.getD (.int 0)).fld 1).toStr ((l[i - 1]?.getD (.int 0)).fld 2).toInt ((l[i - 1]?.getD (.int 0)).fld 3).toInt ((l[i - 1]?.getD (.int 0)).fld 4).toInt ((l[i]?.getD (.int 0)).fld 0).toInt ((l[i]?.getD (.int 0)).fld 1).toStr ((l[i]?.getD (.int 0)).fld 2).toInt ((l[i]?.getD (.int 0)).fld 3).toInt ((l[i]?.getD (.int 0)).fld 4).toInt
    simp only [pred_wrap (show i<4611686018427387904 by omega) (show 0<i by omega),h2,h3,h0,v1,v2,Option.bind_some,Int.natCast_nonneg,and_self,if_true,Int.toNat_natCast,decide_true,decide_false,cond_true,cond_false,Bool.not_true,Bool.true_and,Bool.false_or]
    cases lexS ((l[i - 1]?.getD (.int 0)).fld 0).toInt ((l[i - 1]?.getD (.int 0)).fld 1).toStr ((l[i]?.getD (.int 0)).fld 0).toInt ((l[i]?.getD (.int 0)).fld 1).toStr <;> rfl)
  (by
   show Z32 l l l.length l.length=_
   rw [Z32_fx]; unfold c_Z32; simp)
 have h':Z32 l l l.length 0=_:=h
 unfold Z33 c_Z33 validF
 simp only [h',Option.bind_some]
 by_cases hl':l.length≤30
 ·have h2:(l.length:Int)≤30:=by omega
  cases allN (fOk l) l.length <;> simp [hl',h2]
 ·have h2:¬ (l.length:Int)≤30:=by omega
  cases allN (fOk l) l.length <;> simp [hl',h2]
def LS (xs:List (List UInt8)):List D:=xs.map strS
theorem LS_len {xs:List (List UInt8)}:(LS xs).length=xs.length:=by simp [LS]
theorem LS_get {xs:List (List UInt8)} {i:Nat} (h:i<xs.length):((LS xs)[i]?.getD (.int 0)).toStr.toList=xs[i]:=by
 simp [LS,h,strS,D.toStr]
theorem strS_toList (b:List UInt8):(strS b).toStr.toList=b:=by simp [strS,D.toStr]
theorem less_iff {x y:List UInt8}:Op.bytesLess x y=true ↔ x<y:=by rw [bytesLess_eq]; simp
theorem less_irr (x:List UInt8):¬ x<x:=List.lt_irrefl x
theorem less_tr {x y z:List UInt8} (h:x<y) (h':y<z):x<z:=List.lt_trans h h'
theorem less_tri (x y:List UInt8):x<y ∨ x=y ∨ y<x:=by
 by_cases h:x<y
 ·exact .inl h
 ·by_cases h':y<x
  ·exact .inr (.inr h')
  ·exact .inr (.inl (List.le_antisymm (List.not_lt.1 h') (List.not_lt.1 h)))
theorem sorted_uniq:∀ {a b:List (List UInt8)},a.Pairwise (·<·)→b.Pairwise (·<·)→(∀ x,x ∈ a ↔ x ∈ b)→a=b
 | [],[],_,_,_=>rfl
 | [],y :: b,_,_,h=>by have:=(h y).2 (by simp); cases this
 | x :: a,[],_,_,h=>by have:=(h x).1 (by simp); cases this
 | x :: a,y :: b,ha,hb,h=>by
  rw [List.pairwise_cons] at ha hb
  have e:x=y:=by
   rcases List.mem_cons.1 ((h x).1 (by simp)) with e | e
   ·exact e
   ·rcases List.mem_cons.1 ((h y).2 (by simp)) with e' | e'
    ·exact e'.symm
    ·exact absurd (less_tr (ha.1 y e') (hb.1 x e)) (less_irr x)
  subst e
  rw [sorted_uniq ha.2 hb.2 (fun z=>?_)]
  constructor
  ·intro hz
   rcases List.mem_cons.1 ((h z).1 (List.mem_cons_of_mem _ hz)) with e | e
   ·subst e; exact absurd (ha.1 z hz) (less_irr z)
   ·exact e
  ·intro hz
   rcases List.mem_cons.1 ((h z).2 (List.mem_cons_of_mem _ hz)) with e | e
   ·subst e; exact absurd (hb.1 z hz) (less_irr z)
   ·exact e
theorem snoc_ind {α:Type} {P:List α→Prop} (h0:P []) (hs:∀ l x,P l→P (l ++ [x])) (l:List α):P l:=by
 have key:∀ r:List α,P r.reverse:=fun r=>by
  induction r with
  | nil=>exact h0
  | cons x r ih=>rw [List.reverse_cons]; exact hs _ _ ih
 have:=key l.reverse
 rwa [List.reverse_reverse] at this
def dstep (acc:List (List UInt8)) (x:List UInt8):List (List UInt8):=if acc.getLast?=some x then acc else acc ++ [x]
def dd (xs:List (List UInt8)):List (List UInt8):=xs.foldl dstep []
theorem dd_snoc (xs:List (List UInt8)) (x:List UInt8):dd (xs ++ [x])=dstep (dd xs) x:=by simp [dd,List.foldl_append]
theorem dd_last (xs:List (List UInt8)):(dd xs).getLast?=xs.getLast?:=by
 rcases List.eq_nil_or_concat xs with rfl | ⟨l,x,rfl⟩
 ·rfl
 ·rw [List.concat_eq_append,dd_snoc,dstep]
  split
  ·rename_i h; rw [h]; simp
  ·simp
theorem dd_take (xs:List (List UInt8)) (m:Nat) (h0:0<m) (h:m<xs.length):dd (xs.take (m + 1))=if xs[m - 1]=xs[m] then dd (xs.take m) else dd (xs.take m) ++ [xs[m]]:=by
 rw [List.take_succ_eq_append_getElem h,dd_snoc,dstep,dd_last]
 have:(xs.take m).getLast?=some xs[m - 1]:=by
  rw [List.getLast?_eq_getElem?,List.length_take,Nat.min_eq_left (by omega),List.getElem?_take]
  simp [show m - 1<m by omega,List.getElem?_eq_getElem (show m - 1<xs.length by omega)]
 rw [this]
 simp
theorem dd_one (xs:List (List UInt8)) (h:0<xs.length):dd (xs.take 1)=xs.take 1:=by
 cases xs with
 | nil=>simp at h
 | cons x l=>simp [dd,dstep]
theorem dd_len (xs:List (List UInt8)):(dd xs).length≤xs.length:=by
 refine snoc_ind (P:=fun xs=>(dd xs).length≤xs.length) (by simp [dd]) (fun l x ih=>?_) xs
 rw [dd_snoc,dstep]
 split
 ·simp; omega
 ·simp; exact ih
theorem dd_mem (xs:List (List UInt8)):∀ x,x ∈ dd xs ↔ x ∈ xs:=by
 refine snoc_ind (P:=fun xs=>∀ x,x ∈ dd xs ↔ x ∈ xs) (by simp [dd]) (fun l y ih=>?_) xs
 ·intro x
  rw [dd_snoc,dstep]
  split
  ·rename_i h
   have:=List.mem_of_getLast? h
   rw [List.mem_append,← ih x]
   constructor
   ·exact .inl
   ·rintro (h | h)
    ·exact h
    ·rw [List.mem_singleton] at h; subst h; exact this
  ·rw [List.mem_append,List.mem_append,ih x]
theorem dd_sorted (xs:List (List UInt8)) (h:xs.Pairwise (fun x y=>¬ y<x)):(dd xs).Pairwise (·<·):=by
 revert h
 refine snoc_ind (P:=fun xs=>xs.Pairwise (fun x y=>¬ y<x)→(dd xs).Pairwise (·<·)) (by simp [dd]) (fun l y ih=>?_) xs
 ·intro h
  rw [List.pairwise_append] at h
  rw [dd_snoc,dstep]
  split
  ·exact ih h.1
  ·rename_i hl
   rw [List.pairwise_append]
   refine ⟨ih h.1,by simp,fun a ha b hb=>?_⟩
   rw [List.mem_singleton] at hb; subst hb
   have h1:¬ b<a:=h.2.2 a ((dd_mem l a).1 ha) b (by simp)
   rcases less_tri a b with e | e | e
   ·exact e
   ·exfalso
    subst e
    have hs:=ih h.1
    obtain ⟨p,q,hpq⟩:=List.append_of_mem ha
    rw [hpq] at hs hl
    cases q with
    | nil=>simp at hl
    | cons z q=>
     have hz:a<z:=by
      rw [List.pairwise_append] at hs
      exact (List.pairwise_cons.1 hs.2.1).1 z (by simp)
     have hzm:z ∈ dd l:=by rw [hpq]; simp
     exact h.2.2 z ((dd_mem l z).1 hzm) a (by simp) hz
   ·exact absurd e h1
def putS (xs:List (List UInt8)) (s:List UInt8):List (List UInt8):=match firstN (fun i=>decide (¬ (xs[i]?.getD [])<s)) xs.length with
 | some i=>if xs[i]?.getD []=s then xs else xs.take i ++ s :: xs.drop i
 | none=>xs ++ [s]
theorem putS_len (xs:List (List UInt8)) (s:List UInt8):(putS xs s).length≤xs.length + 1:=by
 unfold putS
 cases firstN (fun i=>decide (¬ (xs[i]?.getD [])<s)) xs.length with
 | none=>simp
 | some i=>
  simp only
  split
  ·omega
  ·simp; omega
theorem putS_ok (xs:List (List UInt8)) (s:List UInt8) (h:xs.Pairwise (·<·)):(putS xs s).Pairwise (·<·)∧∀ x,x ∈ putS xs s ↔ x=s ∨ x ∈ xs:=by
 unfold putS
 cases hf:firstN (fun i=>decide (¬ (xs[i]?.getD [])<s)) xs.length with
 | none=>
  refine ⟨?_,fun x=>by simp [or_comm]⟩
  rw [List.pairwise_append]
  refine ⟨h,by simp,fun a ha b hb=>?_⟩
  rw [List.mem_singleton] at hb; subst hb
  obtain ⟨i,hi,rfl⟩:=List.getElem_of_mem ha
  have:=firstN_none hf i hi
  simpa [hi] using this
 | some i=>
  obtain ⟨h1,h2,h3⟩:=firstN_some hf
  have hlow:∀ j (hj:j<i),xs[j]'(by omega)<s:=by
   intro j hj
   have:=h3 j hj
   simpa [show j<xs.length by omega] using this
  have hge:¬ xs[i]<s:=by simpa [h1] using h2
  have hxi:xs[i]?.getD []=xs[i]:=by simp [h1]
  simp only [hxi]
  split
  ·rename_i he
   refine ⟨h,fun x=>⟨.inr,?_⟩⟩
   rintro (e | e)
   ·rw [e,← he]; exact List.getElem_mem h1
   ·exact e
  ·rename_i hne
   have hgt:s<xs[i]:=by
    rcases less_tri s xs[i] with e | e | e
    ·exact e
    ·exact absurd e.symm hne
    ·exact absurd e hge
   have hsplit:xs=xs.take i ++ xs.drop i:=(List.take_append_drop i xs).symm
   have hp:=h
   rw [hsplit,List.pairwise_append] at hp
   refine ⟨?_,fun x=>?_⟩
   ·rw [List.pairwise_append,List.pairwise_cons]
    refine ⟨hp.1,⟨fun b hb=>?_,hp.2.1⟩,fun a ha b hb=>?_⟩
    ·rw [List.drop_eq_getElem_cons h1] at hb hp
     rcases List.mem_cons.1 hb with e | e
     ·rw [e]; exact hgt
     ·exact less_tr hgt ((List.pairwise_cons.1 hp.2.1).1 b e)
    ·rcases List.mem_cons.1 hb with e | e
     ·subst e
      obtain ⟨j,hj,rfl⟩:=List.getElem_of_mem ha
      rw [List.length_take] at hj
      rw [List.getElem_take]
      exact hlow j (by omega)
     ·exact hp.2.2 a ha b e
   ·rw [List.mem_append,List.mem_cons]
    conv=>rhs; rw [hsplit,List.mem_append]
    constructor
    ·rintro (e | e | e)
     ·exact .inr (.inl e)
     ·exact .inl e
     ·exact .inr (.inr e)
    ·rintro (e | e | e)
     ·exact .inr (.inl e)
     ·exact .inl e
     ·exact .inr (.inr e)
theorem put_eq (xs:List (List UInt8)) (s:ByteArray) (hl:xs.length≤1048576):Z16 (LS xs) s=some (LS (putS xs s.toList)):=by
 have h:=fxScan (F:=fun i=>Z15 s i (LS xs)) (len:=xs.length) (fun i=>decide (¬ (xs[i]?.getD [])<s.toList)) (fun i=>(s,(i:Int),LS xs)) (fin:=(s,(xs.length:Int),LS xs)) (fun i hi=>by
  show Z15 s i (LS xs)=_
  rw [Z15_fx]
  unfold c_Z15
  have h1:(i:Int)<(LS xs).length:=by rw [LS_len]; omega
  have h2:i + 1≤(LS xs).length:=by rw [LS_len]; omega
  simp only [h1,h2,decide_true,cond_true,Int.natCast_nonneg,and_self,if_true,Int.toNat_natCast,List.getD_eq_getElem?_getD,LS_get hi,succ_wrap (show i<4611686018427387904 by omega),Option.bind_fun_some,bytesLess_eq]
  by_cases hc:xs[i]<s.toList <;> simp [hi,hc])
  (by
   show Z15 s (xs.length:Int) (LS xs)=_
   rw [Z15_fx]; unfold c_Z15; simp [LS_len])
 have h':Z15 s 0 (LS xs)=_:=h
 have hs:D.str s=strS s.toList:=by
  unfold strS
  rw [ByteArray.toList_eq]
 have hmap:∀ (i:Nat),(LS xs).take i ++ D.str s :: (LS xs).drop i=LS (xs.take i ++ s.toList :: xs.drop i):=by
  intro i
  rw [hs]
  simp [LS,List.map_take,List.map_drop]
 unfold Z16 c_Z16 putS
 simp only [h',Option.bind_some]
 cases hf:firstN (fun i=>decide (¬ (xs[i]?.getD [])<s.toList)) xs.length with
 | none=>
  have e1:¬ (xs.length:Int)<(LS xs).length:=by rw [LS_len]; omega
  have e2:xs.length≤(LS xs).length:=by rw [LS_len]; exact Nat.le_refl _
  have e3:(xs.length:Int)≤(LS xs).length:=by omega
  have hm:LS xs ++ [D.str s]=LS (xs ++ [s.toList]):=by rw [hs]; simp [LS]
  have e4:(LS xs).drop xs.length=[]:=List.drop_of_length_le (Nat.le_of_eq LS_len)
  have e5:(LS xs).take xs.length=LS xs:=List.take_of_length_le (Nat.le_of_eq LS_len)
  simp [LS_len,e4,e5]
  exact ⟨by omega,by omega,hm⟩
 | some i=>
  obtain ⟨h1,h2,h3⟩:=firstN_some hf
  have e1:(i:Int)<(LS xs).length:=by rw [LS_len]; omega
  have e2:i + 1≤(LS xs).length:=by rw [LS_len]; omega
  have hxi:xs[i]?.getD []=xs[i]:=by simp [h1]
  simp only [e1,e2,decide_true,cond_true,Int.natCast_nonneg,and_self,if_true,Int.toNat_natCast,List.getD_eq_getElem?_getD,LS_get h1,hxi]
  by_cases he:xs[i]=s.toList
  ·simp [he]
  ·have he':(xs[i] == s.toList)=false:=by simp [he]
   have hm:=hmap i
   simp [he,LS_len,show i≤xs.length by omega,show (i:Int)≤xs.length by omega]
   have e1:i≤4294967296:=by omega
   have e2:i≤4294967295:=by omega
   have e3:i + 1 + (xs.length - i)≤4294967296:=by omega
   have e4:(LS xs).drop i=((LS xs).drop i).take (xs.length - i):=(List.take_of_length_le (by rw [List.length_drop,LS_len]; exact Nat.le_refl _)).symm
   rw [he',cond_false,if_pos e1,if_pos e2,if_pos e3,← e4,hm]
theorem LS_take (xs:List (List UInt8)) (i:Nat):(LS xs).take i=LS (xs.take i):=by simp [LS,List.map_take]
theorem str_LS {d:D} {b:List UInt8} (h:d.toStr.toList=b):D.str d.toStr=strS b:=by
 unfold strS
 rw [← h,ByteArray.toList_eq]
theorem cmpct9 (xs:List (List UInt8)) (hl:xs.length≤1048576) (k0:Nat) (hk0:0<k0) (hk:k0<xs.length) :
  ∀ (r k2 i:Nat) (cur:List D),k2 + r=xs.length - k0→1≤k2→i≤k0 + k2 - 1→0<i→cur.length=xs.length→(∀ j,k0 + k2 - 1≤j→cur[j]?=(LS xs)[j]?)→cur.take i=LS (dd (xs.take (k0 + k2))) →
   ∃ (i':Nat) (cur':List D),Z43 i k0 (xs.length - k0) k2 cur=some ((i':Int),cur')∧i'≤xs.length∧cur'.length=xs.length∧cur'.take i'=LS (dd xs):=by
 intro r
 induction r with
 | zero=>
  intro k2 i cur h1 h2 h3 h0 h4 h5 h6
  refine ⟨i,cur,?_,by omega,h4,?_⟩
  ·rw [Z43_fx]
   unfold c_Z43
   have:¬ (k2:Int)<((xs.length - k0:Nat):Int):=by omega
   simp only [this,decide_false,cond_false]
  ·rw [h6,List.take_of_length_le (by omega)]
 | succ r ih=>
  intro k2 i cur h1 h2 h3 h0 h4 h5 h6
  rw [Z43_fx]
  unfold c_Z43
  have b1:(k2:Int)<((xs.length - k0:Nat):Int):=by omega
  have b2:k0 + (xs.length - k0)≤cur.length:=by omega
  have b3:k0 + k2 + 1≤cur.length:=by omega
  have b4:((k2 - 1:Nat):Int)<((xs.length - k0:Nat):Int):=by omega
  have b5:k0 + (k2 - 1) + 1≤cur.length:=by omega
  have b6:(i:Int)<cur.length:=by omega
  have b7:i + 1≤cur.length:=by omega
  have hm:k0 + k2<xs.length:=by omega
  have g1:((cur[k0 + k2]?.getD (.int 0))).toStr.toList=xs[k0 + k2]:=by rw [h5 _ (by omega)]; exact LS_get hm
  have g2:((cur[k0 + (k2 - 1)]?.getD (.int 0))).toStr.toList=xs[k0 + k2 - 1]:=by
   have e:k0 + (k2 - 1)=k0 + k2 - 1:=by omega
   rw [e,h5 _ (by omega)]; exact LS_get (by omega)
  have hd:=dd_take xs (k0 + k2) (by omega) hm
  simp only [b1,b2,b3,b4,b5,b6,b7,decide_true,cond_true,Int.natCast_nonneg,and_self,if_true,Int.toNat_natCast,List.getD_eq_getElem?_getD,pred_wrap (show k2<4611686018427387904 by omega) (show 0<k2 by omega),succ_wrap (show k2<4611686018427387904 by omega),succ_wrap (show i<4611686018427387904 by omega),Option.bind_fun_some,g1,g2]
  by_cases he:xs[k0 + k2 - 1]=xs[k0 + k2]
  ·have he':(xs[k0 + k2] == xs[k0 + k2 - 1])=true:=by simp [he]
   simp only [he',Bool.not_true,cond_false]
   rw [if_pos he] at hd
   exact ih (k2 + 1) i cur (by omega) (by omega) (by omega) h0 h4 (fun j hj=>h5 j (by omega)) (by rw [h6,← hd]; rfl)
  ·have he':(xs[k0 + k2] == xs[k0 + k2 - 1])=false:=by
    rw [beq_eq_false_iff_ne]; exact fun e=>he e.symm
   simp only [he',Bool.not_false,cond_true]
   rw [if_neg he] at hd
   refine ih (k2 + 1) (i + 1) _ (by omega) (by omega) (by omega) (by omega) (by simpa using h4) (fun j hj=>?_) ?_
   ·rw [List.getElem?_set_ne (by omega)]
    exact h5 j (by omega)
   ·have e:k0 + (k2 + 1)=k0 + k2 + 1:=by omega
    rw [e,hd,List.take_succ_eq_append_getElem (by simp; omega),List.take_set_of_le (Nat.le_refl _),h6,List.getElem_set_self,str_LS g1]
    simp [LS]
theorem compact_eq (xs:List (List UInt8)) (hl:xs.length≤1048576):Z45 (LS xs)=some (LS (dd xs)):=by
 unfold Z45 c_Z45
 by_cases h2:xs.length<2
 ·have h2':((LS xs).length:Int)<2:=by rw [LS_len]; omega
  have e:dd xs=xs:=by
   match xs,h2 with
   | [],_=>rfl
   | [x],_=>rfl
  simp only [h2',decide_true,cond_true,e]
 ·have h2':¬ ((LS xs).length:Int)<2:=by rw [LS_len]; omega
  have key:∀ r (k:Nat),k + r=xs.length→1≤k→dd (xs.take k)=xs.take k →
    (∃ i cur,Z44 k (LS xs)=some (.inl (0,i,cur))∧i≤cur.length∧cur.take i=LS (dd xs)) ∨ (Z44 k (LS xs)=some (.inr (LS xs))∧dd xs=xs):=by
   intro r
   induction r with
   | zero=>
    intro k h1 h3 h4
    right
    have hk:k=xs.length:=by omega
    subst hk
    refine ⟨?_,by simpa using h4⟩
    rw [Z44_fx]; unfold c_Z44; simp [LS_len]
   | succ r ih=>
    intro k h1 h3 h4
    have hm:k<xs.length:=by omega
    have hd:=dd_take xs k (by omega) hm
    rw [Z44_fx]
    unfold c_Z44
    have b1:(k:Int)<(LS xs).length:=by rw [LS_len]; omega
    have b2:k + 1≤(LS xs).length:=by rw [LS_len]; omega
    have b3:((k - 1:Nat):Int)<(LS xs).length:=by rw [LS_len]; omega
    have b4:k - 1 + 1≤(LS xs).length:=by rw [LS_len]; omega
    have b5:(k:Int)≤(LS xs).length:=by omega
    simp only [b1,b2,b3,b4,b5,decide_true,cond_true,Int.natCast_nonneg,and_self,if_true,Int.le_refl,Int.toNat_natCast,List.getD_eq_getElem?_getD,pred_wrap (show k<4611686018427387904 by omega) (show 0<k by omega),succ_wrap (show k<4611686018427387904 by omega),Option.bind_fun_some,LS_get hm,LS_get (show k - 1<xs.length by omega)]
    by_cases he:xs[k - 1]=xs[k]
    ·have he':(xs[k] == xs[k - 1])=true:=by simp [he]
     rw [if_pos he] at hd
     obtain ⟨i,cur,q1,q2,q3,q4⟩:=cmpct9 xs hl k (by omega) hm (xs.length - k - 1) 1 k (LS xs) (by omega) (by omega) (by omega) (by omega) LS_len (fun _ _=>rfl) (by rw [hd,h4,LS_take])
     have q1':Z43 (k:Int) k ((LS xs).length - k) 1 (LS xs)=some ((i:Int),cur):=by rw [LS_len]; exact q1
     left
     have c1:(i:Int)≤cur.length:=by omega
     have c2:i + (cur.length - i)≤cur.length:=by omega
     simp only [he',cond_true,q1',Option.bind_some,Int.natCast_nonneg,c1,and_self,if_true,Int.le_refl,Int.toNat_natCast,c2]
     refine ⟨i,cur.take i ++ List.replicate (cur.length - i) (D.str bytes_0) ++ cur.drop (i + (List.replicate (cur.length - i) (D.str bytes_0)).length),?_,?_,?_⟩
     ·rw [if_pos (by simp; omega)]
      rfl
     ·simp; omega
     ·rw [List.append_assoc,List.take_append_of_le_length (by simp; omega),List.take_take,Nat.min_self,q4]
    ·have he':(xs[k] == xs[k - 1])=false:=by
      rw [beq_eq_false_iff_ne]; exact fun e=>he e.symm
     rw [if_neg he] at hd
     simp only [he',cond_false]
     refine ih (k + 1) (by omega) (by omega) ?_
     rw [hd,h4,List.take_succ_eq_append_getElem hm]
  simp only [h2',decide_false,cond_false]
  rcases key (xs.length - 1) 1 (by omega) (by omega) (dd_one xs (by omega)) with ⟨i,cur,q1,q2,q3⟩ | ⟨q1,q2⟩
  ·have q1:Z44 1 (LS xs)=_:=q1
   simp only [q1,Option.bind_some,Sum.elim_inl,Nat.zero_add,q2,if_true,List.drop_zero,q3]
  ·have q1:Z44 1 (LS xs)=_:=q1
   simp only [q1,Option.bind_some,Sum.elim_inr,q2]
def typesOf (l:List D):List (List UInt8):=l.map fun d=>(d.fld 1).toStr.toList
def sortL (xs:List (List UInt8)):List (List UInt8):=xs.mergeSort fun x y=>decide (x≤y)
def orderL (xs:List (List UInt8)):List (List UInt8):=dd (sortL xs)
theorem sortL_mem (xs:List (List UInt8)):∀ x,x ∈ sortL xs ↔ x ∈ xs:=fun x=>by unfold sortL; exact List.mem_mergeSort
theorem sortL_sorted (xs:List (List UInt8)):(sortL xs).Pairwise (fun x y=>¬ y<x):=by
 have:=List.pairwise_mergeSort (le:=fun x y:List UInt8=>decide (x≤y)) (fun a b c h1 h2=>by
  simp only [decide_eq_true_eq] at h1 h2 ⊢; exact List.le_trans h1 h2) (fun a b=>by
  simp only [Bool.or_eq_true,decide_eq_true_eq]; exact List.le_total a b) xs
 exact this.imp (fun h=>by simpa using h)
theorem orderL_sorted (xs:List (List UInt8)):(orderL xs).Pairwise (·<·):=dd_sorted _ (sortL_sorted xs)
theorem orderL_mem (xs:List (List UInt8)):∀ x,x ∈ orderL xs ↔ x ∈ xs:=fun x=>by unfold orderL; rw [dd_mem,sortL_mem]
theorem orderL_len (xs:List (List UInt8)):(orderL xs).length≤xs.length:=by
 unfold orderL
 refine Nat.le_trans (dd_len _) ?_
 unfold sortL
 rw [List.length_mergeSort]; exact Nat.le_refl _
theorem keyS_eq (d:D):keyS d=d.toStr.toList:=by unfold keyS; rw [ByteArray.toList_eq]
theorem goSort_eq (l:List D) (hl:l.length≤1048576):goSortS l=some (LS (sortL (l.map fun d=>d.toStr.toList))):=by
 unfold goSortS sortS
 rw [if_pos (by omega)]
 have:l.map keyS=l.map fun d=>d.toStr.toList:=List.map_congr_left fun d _=>keyS_eq d
 rw [this]; rfl
theorem findTypes_eq (l:List D) (hl:l.length≤1048576):Z46 l=some (LS (orderL (typesOf l))):=by
 have key:∀ r (i:Nat) (acc:List D),i + r=l.length→acc=(l.take i).map (fun d=>D.str (d.fld 1).toStr)→Z41 l l.length i acc=some (l.map fun d=>D.str (d.fld 1).toStr):=by
  intro r
  induction r with
  | zero=>
   intro i acc h1 h2
   have hi:i=l.length:=by omega
   subst hi
   rw [Z41_fx]; unfold c_Z41; simp [h2]
  | succ r ih=>
   intro i acc h1 h2
   have hi:i<l.length:=by omega
   rw [Z41_fx]
   unfold c_Z41
   have b1:(i:Int)<l.length:=by omega
   have b2:acc.length + ([D.str ((l[i]?.getD (.int 0)).fld 1).toStr]:List D).length≤4294967296:=by rw [h2]; simp; omega
   simp only [b1,decide_true,cond_true,Int.natCast_nonneg,and_self,if_true,Int.toNat_natCast,List.getD_eq_getElem?_getD,b2,succ_wrap (show i<4611686018427387904 by omega),Option.bind_fun_some]
   refine ih (i + 1) _ (by omega) ?_
   rw [h2,List.take_succ_eq_append_getElem hi,List.map_append,List.getElem?_eq_getElem hi]
   rfl
 have h:=key l.length 0 [] (by omega) rfl
 have h:Z41 l l.length 0 []=_:=h
 unfold Z46 c_Z46
 simp only [h,Option.bind_some,Z42]
 rw [goSort_eq _ (by simpa using hl)]
 simp only [Option.bind_some,List.map_map]
 have hlen:(sortL (typesOf l)).length≤1048576:=by unfold sortL typesOf; rw [List.length_mergeSort]; simpa using hl
 have e:(l.map ((fun d:D=>d.toStr.toList) ∘ fun d=>D.str (d.fld 1).toStr))=typesOf l:=rfl
 rw [e,compact_eq _ hlen]
 rfl
def putAll (xs acc:List (List UInt8)):List (List UInt8):=xs.foldl putS acc
theorem putAll_ok:∀ (xs acc:List (List UInt8)),acc.Pairwise (·<·)→(putAll xs acc).Pairwise (·<·)∧∀ x,x ∈ putAll xs acc ↔ x ∈ xs ∨ x ∈ acc
 | [],acc,h=>⟨h,fun x=>by simp [putAll]⟩
 | s :: xs,acc,h=>by
  obtain ⟨h1,h2⟩:=putS_ok acc s h
  obtain ⟨h3,h4⟩:=putAll_ok xs (putS acc s) h1
  refine ⟨h3,fun x=>?_⟩
  show x ∈ putAll xs (putS acc s) ↔ _
  rw [h4,h2,List.mem_cons]
  constructor
  ·rintro (e | e | e)
   ·exact .inl (.inr e)
   ·exact .inl (.inl e)
   ·exact .inr e
  ·rintro ((e | e) | e)
   ·exact .inr (.inl e)
   ·exact .inl e
   ·exact .inr (.inr e)
theorem putAll_order (xs:List (List UInt8)):putAll xs []=orderL xs:=by
 obtain ⟨h1,h2⟩:=putAll_ok xs [] (by simp)
 refine sorted_uniq h1 (orderL_sorted xs) (fun x=>?_)
 rw [h2,orderL_mem]; simp
theorem del_loop {F:Int→Int→List D→Option (Int × List D)} (q:D→Bool) (xs:List D)
  (hs:∀ (i j:Nat) (cur:List D),i≤j→j<xs.length→cur.length=xs.length→cur[j]?=xs[j]?→F i j cur=bif q (xs[j]?.getD (.int 0)) then F i ((j + 1:Nat):Int) cur else F ((i + 1:Nat):Int) ((j + 1:Nat):Int) (cur.set i (xs[j]?.getD (.int 0))))
  (he:∀ (i:Nat) (cur:List D),cur.length=xs.length→F i xs.length cur=some ((i:Int),cur)) :
  ∀ (r i j:Nat) (cur:List D),j + r=xs.length→i≤j→cur.length=xs.length→(∀ k,j≤k→cur[k]?=xs[k]?) →
   ∃ (i':Nat) (cur':List D),F i j cur=some ((i':Int),cur')∧i'≤xs.length∧cur'.length=xs.length∧cur'.take i'=cur.take i ++ (xs.drop j).filter (fun d=>!q d):=by
 intro r
 induction r with
 | zero=>
  intro i j cur h1 h2 h3 h4
  have hj:j=xs.length:=by omega
  subst hj
  exact ⟨i,cur,he i cur h3,h2,h3,by simp⟩
 | succ r ih=>
  intro i j cur h1 h2 h3 h4
  have hj:j<xs.length:=by omega
  rw [hs i j cur h2 hj h3 (h4 j (Nat.le_refl _))]
  have hx:xs[j]?.getD (.int 0)=xs[j]:=by simp [hj]
  rw [hx,List.drop_eq_getElem_cons hj]
  cases hq:q xs[j] with
  | true=>
   obtain ⟨i',cur',k1,k2,k3,k4⟩:=ih i (j + 1) cur (by omega) (by omega) h3 (fun k hk=>h4 k (by omega))
   refine ⟨i',cur',k1,k2,k3,?_⟩
   rw [k4,List.filter_cons_of_neg (by simp [hq])]
  | false=>
   obtain ⟨i',cur',k1,k2,k3,k4⟩:=ih (i + 1) (j + 1) (cur.set i xs[j]) (by omega) (by omega) (by simpa using h3) (fun k hk=>by rw [List.getElem?_set_ne (by omega)]; exact h4 k (by omega))
   refine ⟨i',cur',k1,k2,k3,?_⟩
   rw [k4,List.take_succ_eq_append_getElem (by simp; omega),List.take_set_of_le (Nat.le_refl _),List.getElem_set_self,List.filter_cons_of_pos (by simp [hq]),List.append_assoc]
   rfl
theorem filter_first {q:D→Bool} {xs:List D} {i:Nat} (h:firstN (fun i=>q (xs[i]?.getD (.int 0))) xs.length=some i):xs.filter (fun d=>!q d)=xs.take i ++ (xs.drop (i + 1)).filter (fun d=>!q d):=by
 obtain ⟨h1,h2,h3⟩:=firstN_some h
 conv=>lhs; rw [← List.take_append_drop i xs]
 rw [List.filter_append,List.drop_eq_getElem_cons h1]
 have hx:q xs[i]=true:=by simpa [h1] using h2
 have ht:(xs.take i).filter (fun d=>!q d)=xs.take i:=by
  rw [List.filter_eq_self]
  intro d hd
  obtain ⟨j,hj,rfl⟩:=List.getElem_of_mem hd
  rw [List.length_take] at hj
  rw [List.getElem_take]
  have:=h3 j (by omega)
  simpa [show j<xs.length by omega] using this
 rw [ht,List.filter_cons_of_neg (by simp [hx])]
theorem filter_none {q:D→Bool} {xs:List D} (h:firstN (fun i=>q (xs[i]?.getD (.int 0))) xs.length=none):xs.filter (fun d=>!q d)=xs:=by
 rw [List.filter_eq_self]
 intro d hd
 obtain ⟨j,hj,rfl⟩:=List.getElem_of_mem hd
 have:=firstN_none h j hj
 simpa [hj] using this
theorem del_tail {i:Nat} {cur:List D} {z:D} (h:i≤cur.length):(cur.take i ++ List.replicate (cur.length - i) z ++ cur.drop (i + (List.replicate (cur.length - i) z).length)).take i=cur.take i∧(cur.take i ++ List.replicate (cur.length - i) z ++ cur.drop (i + (List.replicate (cur.length - i) z).length)).length=cur.length:=by
 constructor
 ·rw [List.append_assoc,List.take_append_of_le_length (by simp; omega),List.take_take,Nat.min_self]
 ·simp; omega
theorem clone_eq (l:List D) (hl:l.length≤1048576):Z34 l=some l:=by
 have h:([]:List D).length + l.length≤4294967296:=by simp; omega
 unfold Z34 c_Z34
 by_cases h1:1≤l.length
 ·rw [if_pos h1,if_pos h]; rfl
 ·have:l=[]:=List.eq_nil_of_length_eq_zero (by omega)
  subst this
  simp [bothK]
def inC (n:Int) (d:D):Bool:=decide ((d.fld 0).toInt=n)
theorem tFi_eta {d:D} (h:wfD tFi d):D.node [D.int (d.fld 0).toInt,D.str (d.fld 1).toStr,D.int (d.fld 2).toInt,D.int (d.fld 3).toInt,D.int (d.fld 4).toInt]=d:=by
 obtain ⟨a,s,b,c,e,rfl,_⟩:=tFi_wf h
 rfl
theorem delFinds_eq (l:List D) (n:Int) (hl:l.length≤1048576) (w:∀ d ∈ l,wfD tFi d):Z39 l n=some (l.filter (inC n)):=by
 have hi:=fxScan (F:=fun i=>Z36 l n l.length i) (len:=l.length) (fun i=>!inC n (l[i]?.getD (.int 0))) (fun i=>.inl (i:Int)) (fin:=.inr ()) (fun i hi=>by
  show Z36 l n l.length i=_
  rw [Z36_fx]
  unfold c_Z36
  have h1:(i:Int)<l.length:=by omega
  simp only [h1,decide_true,cond_true,Int.natCast_nonneg,and_self,if_true,Int.toNat_natCast,List.getD_eq_getElem?_getD,Z35,c_Z35,Option.bind_some,succ_wrap (show i<4611686018427387904 by omega),Option.bind_fun_some,inC])
  (by
   show Z36 l n l.length l.length=_
   rw [Z36_fx]; unfold c_Z36; simp)
 have hi:Z36 l n l.length 0=_:=hi
 have hff:l.filter (inC n)=l.filter (fun d=>!!inC n d):=by congr 1; funext d; simp
 unfold Z39 c_Z39 Z37 c_Z37
 simp only [hi,Option.bind_some]
 rw [hff]
 cases hf:firstN (fun i=>!inC n (l[i]?.getD (.int 0))) l.length with
 | none=>
  rw [filter_none (q:=fun d=>!inC n d) hf]
  simp
 | some i=>
  obtain ⟨h1,h2,h3⟩:=firstN_some hf
  have e1:¬ ((i:Int)=-1):=by omega
  obtain ⟨i',cur',k1,k2,k3,k4⟩:=del_loop (F:=fun a b cur=>Z38 n a b cur) (fun d=>!inC n d) l (fun a b cur ha hb hc hd=>by
   show Z38 n a b cur=_
   rw [Z38_fx]
   unfold c_Z38
   have b1:(b:Int)<cur.length:=by omega
   have b2:b + 1≤cur.length:=by omega
   have b3:(a:Int)<cur.length:=by omega
   have b4:a + 1≤cur.length:=by omega
   have hw:=tFi_eta (w _ (get_mem hb))
   simp only [b1,b2,b3,b4,decide_true,cond_true,Int.natCast_nonneg,and_self,if_true,Int.toNat_natCast,List.getD_eq_getElem?_getD,hd,Z35,c_Z35,Option.bind_some,succ_wrap (show a<4611686018427387904 by omega),succ_wrap (show b<4611686018427387904 by omega),Option.bind_fun_some,hw,inC]
   cases decide (((l[b]?.getD (.int 0)).fld 0).toInt=n) <;> rfl)
   (fun a cur hc=>by
    show Z38 n a l.length cur=_
    rw [Z38_fx]; unfold c_Z38; simp [hc]) (l.length - (i + 1)) i (i + 1) l (by omega) (by omega) rfl (fun _ _=>rfl)
  have k1:Z38 n (i:Int) ((i + 1:Nat):Int) l=_:=k1
  have c1:(i':Int)≤cur'.length:=by omega
  have c2:i' + (cur'.length - i')≤cur'.length:=by omega
  obtain ⟨t1,t2⟩:=del_tail (i:=i') (cur:=cur') (z:=D.node [D.int 0,D.str bytes_0,D.int 0,D.int 0,D.int 0]) (by omega)
  have c3:0 + i'≤cur'.length:=by omega
  rw [filter_first (q:=fun d=>!inC n d) hf]
  simp only [Sum.elim_inl,Option.bind_some,e1,decide_false,cond_false,succ_wrap (show i<4611686018427387904 by omega),k1,Int.natCast_nonneg,c1,and_self,if_true,Int.le_refl,Int.toNat_natCast,c2,t2,c3,Nat.sub_zero,List.drop_zero,t1]
  rw [k4]
theorem number_eq (n:Int):Z21 n=some (btw n 1 999):=by
 simp only [Z21,c_Z21,within_eq,Option.bind_some]
theorem findsIn_eq (l:List D) (n:Int) (hl:l.length≤1048576) (w:∀ d ∈ l,wfD tFi d):Z40 l n=some (bif validF l && btw n 1 999 then (l.filter (inC n),true) else ([],false)):=by
 unfold Z40 c_Z40
 simp only [isFinds_eq l hl w,number_eq,clone_eq l hl,delFinds_eq l n hl w,Option.bind_some]
 cases validF l <;> cases btw n 1 999 <;> rfl
theorem asked_eq (l:List D) (n:Int) (hl:l.length≤1048576):Z14 l n=some (validF l && btw n 1 999):=by
 unfold Z14 c_Z14
 simp only [l14Good_eq l hl,l1In_eq,Option.bind_some]
 cases validF l <;> cases btw n 1 999 <;> rfl
theorem contains_eq (ys:List (List UInt8)) (s:ByteArray) (hl:ys.length≤1048576):Z49 (LS ys) s=some (decide (s.toList ∈ ys)):=by
 have h:=fxScan (F:=fun i=>Z47 (LS ys) s (LS ys).length i) (len:=ys.length) (fun i=>s.toList == (ys[i]?.getD [])) (fun i=>.inl (i:Int)) (fin:=.inr ()) (fun i hi=>by
  show Z47 (LS ys) s (LS ys).length i=_
  rw [Z47_fx]
  unfold c_Z47
  have h1:(i:Int)<(LS ys).length:=by rw [LS_len]; omega
  have h2:ys[i]?.getD []=ys[i]:=by simp [hi]
  simp only [h1,decide_true,cond_true,Int.natCast_nonneg,and_self,if_true,Int.toNat_natCast,List.getD_eq_getElem?_getD,LS_get hi,h2,succ_wrap (show i<4611686018427387904 by omega),Option.bind_fun_some])
  (by
   show Z47 (LS ys) s (LS ys).length (ys.length:Int)=_
   rw [Z47_fx]; unfold c_Z47; simp [LS_len])
 have h:Z47 (LS ys) s (LS ys).length 0=_:=h
 unfold Z49 c_Z49 Z48 c_Z48
 simp only [h,Option.bind_some]
 cases hf:firstN (fun i=>s.toList == (ys[i]?.getD [])) ys.length with
 | none=>
  have hn:¬ s.toList ∈ ys:=by
   intro hm
   obtain ⟨i,hi,he⟩:=List.getElem_of_mem hm
   have:=firstN_none hf i hi
   simp [hi,he] at this
  simp [hn]
 | some i=>
  obtain ⟨h1,h2,_⟩:=firstN_some hf
  have hm:s.toList ∈ ys:=by
   have:s.toList=ys[i]:=by simpa [h1] using h2
   rw [this]; exact List.getElem_mem h1
  have e:(0:Int)≤i:=by omega
  simp [hm,e]
theorem common_eq (ys:List (List UInt8)) (s:ByteArray) (hl:ys.length≤1048576):Z50 s (LS ys)=some (!decide (s.toList ∈ ys)):=by
 unfold Z50 c_Z50
 simp only [contains_eq ys s hl,Option.bind_some]
def inT (ys:List (List UInt8)) (d:D):Bool:=decide (d.toStr.toList ∈ ys)
theorem LS_eta {xs:List (List UInt8)} {i:Nat} (h:i<xs.length):D.str ((LS xs)[i]?.getD (.int 0)).toStr=(LS xs)[i]?.getD (.int 0):=by
 simp [LS,h,strS,D.toStr]
theorem delCommon_eq (xs ys:List (List UInt8)) (hx:xs.length≤1048576) (hy:ys.length≤1048576):Z54 (LS xs) (LS ys)=some (LS (xs.filter (fun x=>decide (x ∈ ys)))):=by
 have hl:(LS xs).length=xs.length:=LS_len
 have hi:=fxScan (F:=fun i=>Z51 (LS xs) (LS ys) (LS xs).length i) (len:=(LS xs).length) (fun i=>!inT ys ((LS xs)[i]?.getD (.int 0))) (fun i=>.inl (i:Int)) (fin:=.inr ()) (fun i hi=>by
  show Z51 (LS xs) (LS ys) (LS xs).length i=_
  rw [Z51_fx]
  unfold c_Z51
  have h1:(i:Int)<(LS xs).length:=by omega
  simp only [h1,decide_true,cond_true,Int.natCast_nonneg,and_self,if_true,Int.toNat_natCast,List.getD_eq_getElem?_getD,common_eq ys _ hy,Option.bind_some,succ_wrap (show i<4611686018427387904 by omega),Option.bind_fun_some,inT])
  (by
   show Z51 (LS xs) (LS ys) (LS xs).length ((LS xs).length:Int)=_
   rw [Z51_fx]; unfold c_Z51; simp)
 have hi:Z51 (LS xs) (LS ys) (LS xs).length 0=_:=hi
 have hff:LS (xs.filter (fun x=>decide (x ∈ ys)))=(LS xs).filter (fun d=>!!inT ys d):=by
  unfold LS
  rw [List.filter_map]
  congr 1
  congr 1
  funext x
  simp [inT,strS_toList]
 unfold Z54 c_Z54 Z52 c_Z52
 simp only [hi,Option.bind_some]
 rw [hff]
 cases hf:firstN (fun i=>!inT ys ((LS xs)[i]?.getD (.int 0))) (LS xs).length with
 | none=>
  rw [filter_none (q:=fun d=>!inT ys d) hf]
  simp
 | some i=>
  obtain ⟨h1,h2,h3⟩:=firstN_some hf
  have e1:¬ ((i:Int)=-1):=by omega
  obtain ⟨i',cur',k1,k2,k3,k4⟩:=del_loop (F:=fun a b cur=>Z53 (LS ys) a b cur) (fun d=>!inT ys d) (LS xs) (fun a b cur ha hb hc hd=>by
   show Z53 (LS ys) a b cur=_
   rw [Z53_fx]
   unfold c_Z53
   have b1:(b:Int)<cur.length:=by omega
   have b2:b + 1≤cur.length:=by omega
   have b3:(a:Int)<cur.length:=by omega
   have b4:a + 1≤cur.length:=by omega
   have hw:=LS_eta (xs:=xs) (i:=b) (by omega)
   simp only [b1,b2,b3,b4,decide_true,cond_true,Int.natCast_nonneg,and_self,if_true,Int.toNat_natCast,List.getD_eq_getElem?_getD,hd,common_eq ys _ hy,Option.bind_some,succ_wrap (show a<4611686018427387904 by omega),succ_wrap (show b<4611686018427387904 by omega),Option.bind_fun_some,hw,inT]
   cases decide (((LS xs)[b]?.getD (.int 0)).toStr.toList ∈ ys) <;> rfl)
   (fun a cur hc=>by
    show Z53 (LS ys) a (LS xs).length cur=_
    rw [Z53_fx]; unfold c_Z53; simp [hc]) ((LS xs).length - (i + 1)) i (i + 1) (LS xs) (by omega) (by omega) rfl (fun _ _=>rfl)
  have k1:Z53 (LS ys) (i:Int) ((i + 1:Nat):Int) (LS xs)=_:=k1
  have c1:(i':Int)≤cur'.length:=by omega
  have c2:i' + (cur'.length - i')≤cur'.length:=by omega
  obtain ⟨t1,t2⟩:=del_tail (i:=i') (cur:=cur') (z:=D.str bytes_0) (by omega)
  have c3:0 + i'≤cur'.length:=by omega
  rw [filter_first (q:=fun d=>!inT ys d) hf]
  simp only [Sum.elim_inl,Option.bind_some,e1,decide_false,cond_false,succ_wrap (show i<4611686018427387904 by omega),k1,Int.natCast_nonneg,c1,and_self,if_true,Int.le_refl,Int.toNat_natCast,c2,t2,c3,Nat.sub_zero,List.drop_zero,t1]
  rw [k4]
def cxAt (l:List D) (i:Nat):Int:=((l[i]?.getD (.int 0)).fld 0).toInt
def tyAt (l:List D) (i:Nat):List UInt8:=((l[i]?.getD (.int 0)).fld 1).toStr.toList
def pairM (l:List D) (a b:Int) (i k:Nat):List (List UInt8):=if cxAt l i=a∧cxAt l k=b∧tyAt l i=tyAt l k then [tyAt l i] else []
theorem pairM_len {l:List D} {a b:Int} {i k:Nat}:(pairM l a b i k).length≤1:=by unfold pairM; split <;> simp
theorem putAll_app (xs ys acc:List (List UInt8)):putAll (xs ++ ys) acc=putAll ys (putAll xs acc):=by simp [putAll,List.foldl_append]
theorem putAll_len:∀ (xs acc:List (List UInt8)),(putAll xs acc).length≤acc.length + xs.length
 | [],acc=>by simp [putAll]
 | s :: xs,acc=>by
  have h1:=putAll_len xs (putS acc s)
  have h2:=putS_len acc s
  show (putAll xs (putS acc s)).length≤_
  simp; omega
theorem sC8 (l:List D) (a b:Int) (hl:l.length≤1000) (i:Nat) (hi:i<l.length):∀ (r k:Nat) (acc:List (List UInt8)),k + r=l.length→acc.length + r≤1048576 →
  Z17 l a b i k (LS acc)=some (l,a,b,(i:Int),LS (putAll ((List.range' k r).flatMap (pairM l a b i)) acc)):=by
 intro r
 induction r with
 | zero=>
  intro k acc h1 h2
  have hk:k=l.length:=by omega
  subst hk
  rw [Z17_fx]; unfold c_Z17; simp [putAll]
 | succ r ih=>
  intro k acc h1 h2
  rw [Z17_fx]
  unfold c_Z17
  have b1:(k:Int)<l.length:=by omega
  have b2:(i:Int)<l.length:=by omega
  have hp:=putS_len acc (tyAt l i)
  have hn:=ih (k + 1) acc (by omega) (by omega)
  have hy:=ih (k + 1) (putS acc (tyAt l i)) (by omega) (by omega)
  have hput:=put_eq acc ((l[i]?.getD (.int 0)).fld 1).toStr (by omega)
  rw [List.range'_succ,List.flatMap_cons,putAll_app]
  simp only [b1,b2,decide_true,cond_true,Int.natCast_nonneg,and_self,if_true,Int.toNat_natCast,List.getD_eq_getElem?_getD,hput,Option.bind_some,succ_wrap (show k<4611686018427387904 by omega),Option.bind_fun_some]
  show (bif decide (cxAt l i=a) then (bif decide (cxAt l k=b) then (bif tyAt l i == tyAt l k then Z17 l a b i ((k + 1:Nat):Int) (LS (putS acc (tyAt l i))) else Z17 l a b i ((k + 1:Nat):Int) (LS acc)) else Z17 l a b i ((k + 1:Nat):Int) (LS acc)) else Z17 l a b i ((k + 1:Nat):Int) (LS acc))=_
  rw [hn,hy]
  unfold pairM
  by_cases e1:cxAt l i=a
  ·by_cases e2:cxAt l k=b
   ·by_cases e3:tyAt l i=tyAt l k
    ·have e3':(tyAt l i == tyAt l k)=true:=by simp [e3]
     rw [if_pos ⟨e1,e2,e3⟩]
     simp only [e1,e2,e3',decide_true,cond_true]
     rfl
    ·have e3':(tyAt l i == tyAt l k)=false:=by simp [e3]
     rw [if_neg (fun h=>e3 h.2.2)]
     simp only [e1,e2,e3',decide_true,cond_true,cond_false]
     rfl
   ·rw [if_neg (fun h=>e2 h.2.1)]
    simp only [e1,e2,decide_true,decide_false,cond_true,cond_false]
    rfl
  ·rw [if_neg (fun h=>e1 h.1)]
   simp only [e1,decide_false,cond_false]
   rfl
def rowM (l:List D) (a b:Int) (i:Nat):List (List UInt8):=(List.range' 0 l.length).flatMap (pairM l a b i)
theorem flat_le {f:Nat→List (List UInt8)} (h:∀ k,(f k).length≤1):∀ xs:List Nat,(xs.flatMap f).length≤xs.length
 | []=>by simp
 | x :: xs=>by
  have h1:=flat_le h xs
  have h2:=h x
  rw [List.flatMap_cons,List.length_append,List.length_cons]; omega
theorem rowM_len {l:List D} {a b:Int} {i:Nat}:(rowM l a b i).length≤l.length:=by
 have:=flat_le (f:=pairM l a b i) (fun k=>pairM_len) (List.range' 0 l.length)
 rwa [List.length_range'] at this
theorem sC5 (l:List D) (a b:Int) (hl:l.length≤1000):∀ (r i:Nat) (acc:List (List UInt8)),i + r=l.length→acc.length + r * l.length≤1048000 →
  Z18 l a b i (LS acc)=some (LS (putAll ((List.range' i r).flatMap (rowM l a b)) acc)):=by
 intro r
 induction r with
 | zero=>
  intro i acc h1 h2
  have hi:i=l.length:=by omega
  subst hi
  rw [Z18_fx]; unfold c_Z18; simp [putAll]
 | succ r ih=>
  intro i acc h1 h2
  rw [Nat.succ_mul] at h2
  rw [Z18_fx]
  unfold c_Z18
  have b1:(i:Int)<l.length:=by omega
  have h8:=sC8 l a b hl i (by omega) l.length 0 acc (by omega) (by omega)
  have h8:Z17 l a b i 0 (LS acc)=_:=h8
  have hlen:=putAll_len (rowM l a b i) acc
  have hrl:=rowM_len (l:=l) (a:=a) (b:=b) (i:=i)
  rw [List.range'_succ,List.flatMap_cons,putAll_app]
  simp only [b1,decide_true,cond_true,h8,Option.bind_some,succ_wrap (show i<4611686018427387904 by omega),Option.bind_fun_some]
  exact ih (i + 1) _ (by omega) (by show (putAll (rowM l a b i) acc).length + _≤_; omega)
theorem mem_pairs {l:List D} {a b:Int} {x:List UInt8}:x ∈ (List.range' 0 l.length).flatMap (rowM l a b) ↔ ∃ i k,i<l.length∧k<l.length∧cxAt l i=a∧cxAt l k=b∧tyAt l i=x∧tyAt l k=x:=by
 simp only [List.mem_flatMap,rowM,List.mem_range'_1,pairM]
 constructor
 ·rintro ⟨i,hi,k,hk,h⟩
  split at h
  ·rename_i hc
   rw [List.mem_singleton] at h
   exact ⟨i,k,by omega,by omega,hc.1,hc.2.1,h.symm,by rw [← hc.2.2]; exact h.symm⟩
  ·cases h
 ·rintro ⟨i,k,hi,hk,h1,h2,h3,h4⟩
  refine ⟨i,by omega,k,by omega,?_⟩
  rw [if_pos ⟨h1,h2,h3.trans h4.symm⟩,List.mem_singleton]
  exact h3.symm
theorem mem_types {l:List D} {a:Int} {x:List UInt8}:x ∈ typesOf (l.filter (inC a)) ↔ ∃ i,i<l.length∧cxAt l i=a∧tyAt l i=x:=by
 simp only [typesOf,List.mem_map,List.mem_filter,inC,decide_eq_true_eq]
 constructor
 ·rintro ⟨d,⟨h1,h2⟩,h3⟩
  obtain ⟨i,hi,rfl⟩:=List.getElem_of_mem h1
  exact ⟨i,hi,by simpa [cxAt,hi] using h2,by simpa [tyAt,hi] using h3⟩
 ·rintro ⟨i,hi,h1,h2⟩
  exact ⟨l[i],⟨List.getElem_mem hi,by simpa [cxAt,hi] using h1⟩,by simpa [tyAt,hi] using h2⟩
theorem ct_same (l:List D) (a b:Int) (hl:l.length≤1048576) (w:∀ d ∈ l,wfD tFi d):∃ y,Z19 l a b=some y∧Z55 l a b=some y∧y.1.length≤1048576:=by
 unfold Z19 c_Z19 Z55 c_Z55
 simp only [asked_eq l a hl,findsIn_eq l a hl w,findsIn_eq l b hl w,l1In_eq,Option.bind_some]
 cases hv:validF l with
 | false=>exact ⟨_,rfl,rfl,by simp⟩
 | true=>
  cases hA:btw a 1 999 with
  | false=>exact ⟨_,rfl,rfl,by simp⟩
  | true=>
   cases hB:btw b 1 999 with
   | false=>exact ⟨_,rfl,rfl,by simp⟩
   | true=>
    have h30:l.length≤30:=by
     unfold validF at hv
     rw [Bool.and_eq_true] at hv
     exact of_decide_eq_true hv.1
    have h5:=sC5 l a b (by omega) l.length 0 [] (by omega) (by have:l.length * l.length≤30 * 30:=Nat.mul_le_mul h30 h30; simp; omega)
    have h5:Z18 l a b 0 []=_:=h5
    have f1:(l.filter (inC a)).length≤l.length:=List.length_filter_le _ _
    have f2:(l.filter (inC b)).length≤l.length:=List.length_filter_le _ _
    have g1:=orderL_len (typesOf (l.filter (inC a)))
    have g2:=orderL_len (typesOf (l.filter (inC b)))
    have t1:(typesOf (l.filter (inC a))).length=(l.filter (inC a)).length:=by simp [typesOf]
    have t2:(typesOf (l.filter (inC b))).length=(l.filter (inC b)).length:=by simp [typesOf]
    simp only [Bool.and_self,Bool.not_true,cond_true,cond_false,h5,Option.bind_some,findTypes_eq (l.filter (inC a)) (by omega),findTypes_eq (l.filter (inC b)) (by omega),delCommon_eq _ _ (show (orderL (typesOf (l.filter (inC a)))).length≤1048576 by omega) (show (orderL (typesOf (l.filter (inC b)))).length≤1048576 by omega),putAll_order]
    have e:orderL ((List.range' 0 l.length).flatMap (rowM l a b))=(orderL (typesOf (l.filter (inC a)))).filter (fun x=>decide (x ∈ orderL (typesOf (l.filter (inC b))))):=by
     refine sorted_uniq (orderL_sorted _) ((orderL_sorted _).filter _) (fun x=>?_)
     rw [orderL_mem,List.mem_filter,decide_eq_true_eq,orderL_mem,orderL_mem,mem_pairs,mem_types,mem_types]
     constructor
     ·rintro ⟨i,k,h1,h2,h3,h4,h5,h6⟩
      exact ⟨⟨i,h1,h3,h5⟩,⟨k,h2,h4,h6⟩⟩
     ·rintro ⟨⟨i,h1,h3,h5⟩,⟨k,h2,h4,h6⟩⟩
      exact ⟨i,k,h1,h2,h3,h4,h5,h6⟩
    rw [e]
    refine ⟨_,rfl,rfl,?_⟩
    simp only [LS_len]
    have:=List.length_filter_le (fun x=>decide (x ∈ orderL (typesOf (l.filter (inC b))))) (orderL (typesOf (l.filter (inC a))))
    omega
theorem pure_FnExactCommonTypes (x0:List D) (x1 x2:Int) (h0:x0.length≤maxLen) (w0:∀ d ∈ x0,wfD (.struct [.int .i64,.str,.int .i64,.int .i64,.int .i64]) d) (h1:(Lit.int .i64 x1).wf=true) (h2:(Lit.int .i64 x2).wf=true):Z69 x0 x1 x2=some true:=by
 obtain ⟨r,r1,r2⟩:=szFindS_tot x0 1048576 (by omega) (by omega) h0
 by_cases hr:r<0
 ·simp [Z69,c_Z69,r1,hr]
 ·have hl:=r2 (by omega)
  obtain ⟨y,hb1,hb2,hb3⟩:=ct_same x0 x1 x2 hl w0
  obtain ⟨k1,l1,e1,e1'⟩:=markFindS_ok x0 hl
  have e3:¬ k1<0:=by omega
  have e4:=markStringS_eq y.1 hb3
  have e5:=heldStringS_eq y.1.length hb3
  have e6:¬ (1 + (y.1.length:Int))<0:=by omega
  simp [Z69,c_Z69,r1,hr,toFindS_id x0 hl w0,hb1,hb2,eqFindS_self x0 hl,eqStringS_self y.1 hb3,e1,e3,e4,e5,e6]
end Go.Proofs.Ytacnicopnbcioaa
