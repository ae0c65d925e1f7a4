/- An evaluator of the model's programs over plain values, proved sound, part 2 of 6. It is used by the claim's law; it has no condition of its own. -/
import Derived.Test.YtaahhnjdbejfhaaRaiU1
import Derived.Laws.Sem
import Derived.Laws.Cells
import Derived.Laws.World
import Derived.Laws.StructEq
import Derived.Deep.AppendSrc
import Derived.Laws.MakeOwn
import Derived.Laws.IdiomCopy
set_option linter.unusedVariables false
set_option linter.unusedSectionVars false
set_option linter.unusedSimpArgs false
namespace Go.Rai
variable [Inhabited Qk]
def Hm (T:TypeId→Ty):Ty→TypeDesc→Prop
 | .int k,.int k'=>k'=k
 | .bool,.bool=>True
 | .str,.string=>True
 | .slice e,.slice te=>T te=e∧e ≠ .other
 | .struct fs, .struct fields => fields.size = fs.length ∧ ∀ j f, fields[j]? = some f → fs[j]? = some (T f.type) ∧ T f.type ≠ .other ∧ (T f.type).size ≠ 0 ∧ f.offset = Ty.sizes (fs.take j) ∧ f.name ≠ "_"
 | .arr n e,.array n' te=>n'=n∧T te=e∧e ≠ .other
 | .ptr,.pointer _=>True
 | .fn,.func _ _ _=>True
 | .imap,.map k e=>T k=.int .i64∧T e=.int .i64
 | _,_=>False
mutual
def JF:Ty→List Value
 | .int k=>[.int k 0]
 | .bool=>[.bool false]
 | .str=>[.string ⟨#[]⟩]
 | .struct fs=>H4 fs
 | .slice _=>[.slice none 0 0]
 | .arr n e=>JW n (JF e)
 | .ptr=>[.pointer none]
 | .fn=>[.nilFunc]
 | .imap=>[.map none]
 | .other=>[]
def H4:List Ty→List Value
 | []=>[]
 | t :: ts=>JF t ++ H4 ts
def JW:Nat→List Value→List Value
 | 0,_=>[]
 | n + 1,l=>l ++ JW n l
end
def Qr:Ty→Bool
 | .struct _=>true
 | .arr _ _=>true
 | _=>false
def Ud (b:Bool) (cs:List Value):Value:=match b with
 | true=>.agg cs.toArray
 | false=>cs.headD undef
structure U6 (P:Program) (T:TypeId→Ty) (t:TypeId):Prop where
 info:∃ i z,P.info? t=some i∧i.size=(T t).size∧i.zero=some z∧i.bytes≤32768∧(T t).size≤65536∧z=Ud (Qr (T t)) (JF (T t))
 desc:∃ d,P.underlying t=some d∧Hm T (T t) d
 eqs:Qr (T t)=true→P.eqGuardType P.depth t=false∧P.stoodInHeld t=false
def JN (P:Program) (T:TypeId→Ty):Prop:=∀ t,T t ≠ .other→U6 P T t
structure JX (w:World) (bl:BL) (G:GT) (w0:World) (F0:List Nat):Prop where
 ok:Ok w bl G []
 frame:∀ b,b<w0.heap.size→b ∉ F0→w.heap[b]?=w0.heap[b]?
 own:∀ b,Uk bl G [] b→b ∈ F0 ∨ w0.heap.size≤b
 size:w0.heap.size≤w.heap.size
 os:w.os=w0.os
 tape:w.tape=w0.tape
 output:w.output=w0.output
def Jy (E:Env) (sl:List V) (a:Act):Prop:=∀ t,Val E (Jw sl t) (a.tmps.getD t undef) []
structure Rel (Pn:Nat→Option Value) (w0:World) (F0:List Nat) (σ:St) (a:Act) (w:World):Prop where
 core:∃ G,JX w σ.bl G w0 F0∧Jy (Ja w σ.bl G []) σ.sl a
 len:a.tmps.size=σ.sl.length
 defers:a.defers=[]
 pin:∀ t v,Pn t=some v→a.tmps.getD t undef=v
theorem JM {E:Env} {x:V} {v:Value} {F:List Nat} (ha:isA x=false) (ht:∀ xs,x ≠ .tup xs) (hu:x ≠ .undef):Val E x v F ↔ InV E x [v] F:=by
 have h:Val E x v F ↔ One E x v F:=by
  cases x<;>first | exact Iff.rfl | exact absurd rfl (ht _) | exact absurd rfl hu
 rw [h]
 constructor
 ·rintro ⟨cs,h1,h2⟩
  unfold Qf at h2
  rw [ha] at h2
  subst h2
  exact h1
 ·intro h1
  exact ⟨[v],h1,by unfold Qf;rw [ha]⟩
theorem We {E:Env} {vs:List V} {v:Value} {F:List Nat}:Val E (.agg vs) v F ↔ ∃ cs,v=.agg cs.toArray∧Jj E vs cs F:=by
 constructor
 ·rintro ⟨cs,h1,h2⟩
  unfold InV at h1
  exact ⟨cs,h2,h1⟩
 ·rintro ⟨cs,h1,h2⟩
  exact ⟨cs,by unfold InV;exact h2,h1⟩
theorem Qg {E:Env} {k:IntKind} {n:Int} {v:Value} {F:List Nat}:Val E (.int k n) v F ↔ v=.int k n∧F=[]:=by
 rw [JM rfl (by simp) (by simp)];unfold InV;simp
theorem QL {E:Env} {b:Bool} {v:Value} {F:List Nat}:Val E (.bool b) v F ↔ v=.bool b∧F=[]:=by
 rw [JM rfl (by simp) (by simp)];unfold InV;simp
theorem HA {E:Env} {s:ByteArray} {v:Value} {F:List Nat}:Val E (.str s) v F ↔ v=.string s∧F=[]:=by
 rw [JM rfl (by simp) (by simp)];unfold InV;simp
theorem OE {E:Env} {v:Value} {F:List Nat}:Val E .void v F ↔ v=undef∧F=[]:=by
 rw [JM rfl (by simp) (by simp)];unfold InV;simp
theorem Cq {E:Env} {v:Value}:Val E .undef v []:=rfl
theorem Mr {E:Env} (v:Value):Val E (W3 v) v []:=by
 cases v with
 | int k n=>exact Qg.2 ⟨rfl,rfl⟩
 | bool b=>exact QL.2 ⟨rfl,rfl⟩
 | string s=>exact HA.2 ⟨rfl,rfl⟩
 | slice a n c=>
  cases a with
  | some a=>exact Cq
  | none=>
   cases n with
   | succ n=>exact Cq
   | zero=>cases c with
    | succ c=>exact Cq
    | zero=>
     show Val E .nilsl _ []
     rw [JM rfl (by simp) (by simp)];unfold InV;simp
 | pointer a=>
  cases a with
  | some a=>exact Cq
  | none=>
   show Val E .nilptr _ []
   rw [JM rfl (by simp) (by simp)];unfold InV;simp
 | nilFunc=>show Val E .nilfn _ [];rw [JM rfl (by simp) (by simp)];unfold InV;simp
 | _=>exact Cq
theorem JJ {E:Env} {sl:List V} {a:Act} (h:Jy E sl a) (x:Operand):Val E (opd sl x) (a.eval x) []:=by
 cases x with
 | tmp t=>exact h t
 | const v=>exact Mr v
 | func f=>show Val E (.fn f []) (.func (.func f) #[] #[]) [];rw [JM rfl (by simp) (by simp)];unfold InV Jj;exact ⟨#[],rfl,by simp,rfl⟩
 | global g=>exact Cq
mutual
theorem TX {E E':Env} {N:Nat→Prop} (h:Jx E E' N):∀ {x:V} {v:Value} {F:List Nat},(∀ s ∈ Jd x,¬ N s)→QN E.w E'.w F→Val E x v F→Val E' x v F:=by
 intro x v F hs hF hv
 have one:∀ {x:V} {v:Value} {F:List Nat},(∀ s ∈ Jd x,¬ N s)→QN E.w E'.w F→One E x v F→One E' x v F:=by
  rintro x v F hs hF ⟨cs,h1,h2⟩
  exact ⟨cs,h.inV hs hF h1,h2⟩
 have tup:∀ {xs:List V} {vs:List Value} {F:List Nat},(∀ s ∈ Jl xs,¬ N s)→QN E.w E'.w F→Tup E xs vs F→Tup E' xs vs F:=by
  intro xs
  induction xs with
  | nil=>intro vs F _ _ h;exact h
  | cons x xs ih=>
   rintro vs F hs hF ⟨v,r,F1,F2,e1,e2,h1,h2⟩
   subst e2
   exact ⟨v,r,F1,F2,e1,rfl,one (fun s hs'=>hs s (by simp [Jl,Ju,hs'])) (fun b hb=>hF b (by simp [hb])) h1,
    ih (fun s hs'=>hs s (by simp [Jl,Ju,hs'])) (fun b hb=>hF b (by simp [hb])) h2⟩
 cases x with
 | tup xs=>
  obtain ⟨vs,h1,h2⟩:=hv
  exact ⟨vs,h1,tup (by simpa [Jd] using hs) hF h2⟩
 | undef=>exact hv
 | _=>exact one hs hF hv
end
theorem YC {sl:List V} {t s:Nat} (h:s ∈ Jd (Jw sl t)):s ∈ Jl sl:=by
 induction sl generalizing t with
 | nil=>simp [Jw,Jd] at h
 | cons a l ih=>cases t with
  | zero=>simp only [Jw] at h;simp [Jl,Ju,h]
  | succ t=>simp only [Jw] at h;simp [Jl,Ju,ih h]
theorem Jy.goes {E E':Env} {N:Nat→Prop} (h:Jx E E' N) {sl:List V} {a:Act} (hs:∀ s ∈ Jl sl,¬ N s) (hv:Jy E sl a):Jy E' sl a:=by
 intro t
 exact TX h (fun s hs'=>hs s (YC hs')) (fun b hb=>by simp at hb) (hv t)
theorem UJ {l:List Nat} {s:Nat}:JT l s=true ↔ s ∈ l:=by
 induction l with
 | nil=>simp [JT]
 | cons a l ih=>
  unfold JT
  cases h:Nat.beq a s with
  | true=>have:=Nat.eq_of_beq_eq_true h;simp [this]
  | false=>
   have:¬ s=a:=by intro h';subst h';rw [Nat.beq_refl] at h;cases h
   simp [ih,this]
theorem Cr {b:BL} {t s:Nat} {c:V} (h:Jb b t=some c) (hs:s ∈ Jd c):s ∈ Jv b:=by
 induction b with
 | nil=>simp [Jb] at h
 | cons x r ih=>
  obtain ⟨k,u⟩:=x
  simp only [Jb] at h
  simp only [Jv,Ju]
  split at h
  ·simp only [oj] at h;subst h;exact .inl hs
  ·exact .inr (ih h)
theorem C6 {sl:List V} {b:BL} {x:V} {t:Nat} (h:Uh sl b x t=true):Jb b t=none∧t ∉ Jl sl∧(∀ s c,Jb b s=some c→t ∉ Jd c)∧t ∉ Jd x:=by
 unfold Uh at h
 split at h
 ·rename_i hl
  have h1:bor (JT (Jl sl) t) (bor (JT (Jv b) t) (JT (Jd x) t))=false:=by
   cases hb:bor (JT (Jl sl) t) (bor (JT (Jv b) t) (JT (Jd x) t)) with
   | false=>rfl
   | true=>rw [hb] at h;simp [JO] at h
  have h2:¬ (JT (Jl sl) t=true ∨ JT (Jv b) t=true ∨ JT (Jd x) t=true):=by
   rw [← Co,← Co,h1];simp
  simp only [UJ,not_or] at h2
  exact ⟨hl,h2.1,fun s c hc hm=>h2.2.1 (Cr hc hm),h2.2.2⟩
 ·cases h
structure Jo (P:Program) (w0:World) (F0:List Nat) (sl:List V) (a:Act) (w:World) (o:Oper) (v:V) (bl':BL):Prop where
 out:∃ vv w' G',((execOp a.eval o).run P w=.ok (.value vv) w' ∨ ((execOp a.eval o).run P w=.ok .skip w'∧vv=undef)) ∧
  JX w' bl' G' w0 F0∧Jy (Ja w' bl' G' []) sl a∧Val (Ja w' bl' G' []) v vv []
theorem Jo.pure {P:Program} {w0 w:World} {F0:List Nat} {sl:List V} {a:Act} {o:Oper} {v:V} {bl:BL} {G:GT} {vv:Value}
  (hc:JX w bl G w0 F0) (hs:Jy (Ja w bl G []) sl a) (hr:(execOp a.eval o).run P w=.ok (.value vv) w) (hv:Val (Ja w bl G []) v vv []):Jo P w0 F0 sl a w o v bl:=
 ⟨vv,w,G,.inl hr,hc,hs,hv⟩
end Go.Rai
namespace Go.Rai
variable [Inhabited Qk]
section
variable {P:Program} {w:World}
theorem QO {t:TypeId} {d:TypeDesc} (h:P.underlying t=some d):(underlying t).run P w=.ok d w:=by
 simp [underlying,h]
theorem Ms {t:TypeId} {i:TypeInfo} (h:P.info? t=some i):(sizeOf t).run P w=.ok i.size w:=by
 simp [sizeOf,typeInfo,h]
theorem Mt {T:TypeId→Ty} {ty:Ty} {d:TypeDesc} (h:Hm T ty d) :
  Qr ty=(match d with | .struct _=>true | .array _ _=>true | _=>false):=by
 cases ty<;>cases d<;>first | rfl | exact (show False from h).elim
theorem OF {T:TypeId→Ty} {k:IntKind} {d:TypeDesc} (h:Hm T (.int k) d):d=.int k:=by
 cases d<;>first | exact (show False from h).elim | (rename_i k';rw [show k'=k from h])
theorem YD {T:TypeId→Ty} {d:TypeDesc} (h:Hm T .bool d):d=.bool:=by cases d<;>first | exact (show False from h).elim | rfl
theorem CK {T:TypeId→Ty} {d:TypeDesc} (h:Hm T .str d):d=.string:=by cases d<;>first | exact (show False from h).elim | rfl
theorem Us {T:TypeId→Ty} {e:Ty} {d:TypeDesc} (h:Hm T (.slice e) d):∃ te,d=.slice te∧T te=e∧e ≠ .other:=by
 cases d<;>first | exact (show False from h).elim | exact ⟨_,rfl,h⟩
theorem Mu {T:TypeId→Ty} {n:Nat} {e:Ty} {d:TypeDesc} (h:Hm T (.arr n e) d):∃ te,d=.array n te∧T te=e∧e ≠ .other:=by
 cases d<;>first | exact (show False from h).elim | (rename_i m te;obtain ⟨h1,h2⟩:=h;subst h1;exact ⟨te,rfl,h2⟩)
theorem Vo {T:TypeId→Ty} {fs:List Ty} {d:TypeDesc} (h:Hm T (.struct fs) d) :
  ∃ fields, d = .struct fields ∧ fields.size = fs.length ∧ ∀ j f, fields[j]? = some f → fs[j]? = some (T f.type) ∧ T f.type ≠ .other ∧ (T f.type).size ≠ 0 ∧ f.offset = Ty.sizes (fs.take j) ∧ f.name ≠ "_" := by
 cases d<;>first | exact (show False from h).elim | exact ⟨_,rfl,h⟩
theorem Mv {T:TypeId→Ty} {d:TypeDesc} (h:Hm T .ptr d):∃ te,d=.pointer te:=by cases d<;>first | exact (show False from h).elim | exact ⟨_,rfl⟩
theorem Mw {T:TypeId→Ty} {d:TypeDesc} (h:Hm T .fn d):∃ x y z,d=.func x y z:=by cases d<;>first | exact (show False from h).elim | exact ⟨_,_,_,rfl⟩
theorem YE {T:TypeId→Ty} {t:TypeId} (h:U6 P T t):(isAgg t).run P w=.ok (Qr (T t)) w:=by
 obtain ⟨d,hd,hk⟩:=h.desc
 rw [Mt hk]
 simp only [isAgg,Sem.run_bind,QO hd,Result.andThen_ok]
 cases d<;>rfl
theorem H5 {T:TypeId→Ty} {t:TypeId} (h:U6 P T t):(sizeOf t).run P w=.ok (T t).size w:=by
 obtain ⟨i,z,hi,hs,_⟩:=h.info
 rw [Ms hi,hs]
theorem Wg {T:TypeId→Ty} {t:TypeId} (h:U6 P T t):(zeroValue t).run P w=.ok (Ud (Qr (T t)) (JF (T t))) w:=by
 obtain ⟨i,z,hi,hs,hz,_,he⟩:=h.info
 simp only [zeroValue,typeInfo,Sem.run_bind,run_program,Result.andThen_ok,hi,Sem.run_pure,hz,he]
theorem Xn {T:TypeId→Ty} {t:TypeId} {a:Addr} {cs:List Value} (h:U6 P T t) (hl:cs.length=(T t).size) (hc:QG w a cs) (h1:Qr (T t)=false→(T t).size=1) :
  (loadVar t a).run P w=.ok (Ud (Qr (T t)) cs) w:=by
 simp only [loadVar,Sem.run_bind,YE h,Result.andThen_ok]
 cases hA:Qr (T t) with
 | true=>
  simp only [if_true,Sem.run_bind,H5 h,Result.andThen_ok]
  rw [← hl,run_loadCells_list w a cs hc]
  rfl
 | false=>
  have:=h1 hA
  simp only [Bool.false_eq_true,if_false]
  match cs,hl.trans this with
  | [v],_=>
   have:=hc 0 v rfl
   have h0:a.add 0=a:=rfl
   rw [h0] at this
   simp [this,Ud]
end
theorem U7 {t:Ty} (h:Qr t=false):t.size=1:=by
 cases t<;>first | rfl | simp [Qr] at h
mutual
theorem Qt:∀ {t:Ty} {v:V},Jq t v=true→vsz v=t.size∧isA v=Qr t
 | .int _,v,h=>by cases v<;>simp [Jq] at h;exact ⟨rfl,rfl⟩
 | .bool,v,h=>by cases v<;>simp [Jq] at h;exact ⟨rfl,rfl⟩
 | .str,v,h=>by cases v<;>simp [Jq] at h;exact ⟨rfl,rfl⟩
 | .ptr,v,h=>by cases v<;>simp [Jq] at h<;>exact ⟨rfl,rfl⟩
 | .fn,v,h=>by cases v<;>simp [Jq] at h<;>exact ⟨rfl,rfl⟩
 | .struct ts,v,h=>by
  cases v with
  | agg vs=>
   unfold Jq at h
   exact ⟨by unfold vsz Ty.size;exact YF h,rfl⟩
  | _=>simp [Jq] at h
 | .slice _,v,h=>by cases v<;>simp [Jq] at h<;>exact ⟨rfl,rfl⟩
 | .arr n e,v,h=>by
  cases v with
  | arr m e' l=>
   unfold Jq at h
   rw [Je] at h
   rw [← Nat.eq_of_beq_eq_true h.1,← Ty.beq_eq _ _ h.2]
   exact ⟨rfl,rfl⟩
  | _=>simp [Jq] at h
 | .imap,v,h=>by cases v<;>simp [Jq] at h
 | .other,v,h=>by cases v<;>simp [Jq] at h
theorem YF:∀ {ts:List Ty} {vs:List V},JI ts vs=true→Jt vs=Ty.sizes ts
 | [],vs,h=>by cases vs<;>simp [JI] at h;rfl
 | t :: ts,vs,h=>by
  cases vs with
  | nil=>simp [JI] at h
  | cons v vs=>
   unfold JI at h
   rw [Je] at h
   unfold Jt Ty.sizes
   rw [(Qt h.1).1,YF h.2]
end
mutual
theorem TY:∀ {t:Ty} {v:V},WX t v=true→vsz v=t.size
 | .slice e,v,h=>by
  by_cases hv:v=.undef
  ·subst hv;rfl
  ·refine (Qt (t:=.slice e) ?_).1
   cases v<;>first | exact absurd rfl hv | exact h
 | .struct fs,v,h=>by
  cases v with
  | agg vs=>unfold WX at h;exact TZ h
  | _=>simp [WX,Jq] at h
 | .int _,v,h=>by cases v<;>exact (Qt h).1
 | .bool,v,h=>by cases v<;>exact (Qt h).1
 | .str,v,h=>by cases v<;>exact (Qt h).1
 | .ptr,v,h=>by cases v<;>exact (Qt h).1
 | .fn,v,h=>by cases v<;>exact (Qt h).1
 | .arr _ _,v,h=>by cases v<;>exact (Qt h).1
 | .imap,v,h=>by cases v<;>exact (Qt h).1
 | .other,v,h=>by cases v<;>exact (Qt h).1
theorem TZ:∀ {ts:List Ty} {vs:List V},Ch ts vs=true→Jt vs=Ty.sizes ts
 | [],[],_=>rfl
 | [],_ :: _,h=>by simp [Ch] at h
 | _ :: _,[],h=>by simp [Ch] at h
 | t :: ts,v :: vs,h=>by
  unfold Ch at h
  rw [Je] at h
  simp only [Jt,Ty.sizes,TY h.1,TZ h.2]
end
theorem T0:∀ {ts:List Ty} {vs:List V} {j:Nat} {x:V},Ch ts vs=true→nth vs j=some x→∃ t,ts[j]?=some t∧Ty.sizes (ts.take j)=Jt (vs.take j)
 | [],[],j,x,_,hj=>by simp [nth] at hj
 | [],_ :: _,_,_,h,_=>by simp [Ch] at h
 | _ :: _,[],j,x,_,hj=>by simp [nth] at hj
 | t :: ts,v :: vs,0,x,_,_=>⟨t,rfl,rfl⟩
 | t :: ts,v :: vs,j + 1,x,h,hj=>by
  unfold Ch at h
  rw [Je] at h
  simp only [nth] at hj
  obtain ⟨t',h1,h2⟩:=T0 h.2 hj
  exact ⟨t',by simpa using h1,by simp only [List.take_succ_cons,Jt,Ty.sizes,TY h.1,h2]⟩
theorem Cs {t:Ty} {v:V} (h:Jq t v=true):t ≠ .other:=by
 intro ht;subst ht;cases v<;>simp [Jq] at h
theorem Xo:∀ {ts:List Ty} {vs:List V} {j:Nat} {x:V},JI ts vs=true→nth vs j=some x→∃ t,ts[j]?=some t∧Jq t x=true∧Ty.sizes (ts.take j)=Jt (vs.take j)
 | [],[],_,_,_,h=>by simp [nth] at h
 | [],_ :: _,_,_,h,_=>by simp [JI] at h
 | _ :: _,[],_,_,h,_=>by simp [JI] at h
 | t :: ts,v :: vs,0,x,h,hx=>by
  simp [nth] at hx;subst hx
  unfold JI at h;rw [Je] at h
  exact ⟨t,rfl,h.1,rfl⟩
 | t :: ts,v :: vs,j + 1,x,h,hx=>by
  unfold JI at h;rw [Je] at h
  obtain ⟨t',h1,h2,h3⟩:=Xo (ts:=ts) (vs:=vs) (j:=j) h.2 (by simpa [nth] using hx)
  exact ⟨t',by simpa using h1,h2,by simp [Ty.sizes,Jt,h3,(Qt h.1).1]⟩
theorem Wh {E:Env} {t:Ty} {x:V} {v:Value} {F:List Nat} (h:Jq t x=true):Val E x v F ↔ ∃ cs,InV E x cs F∧Qf x cs v:=by
 cases x<;>first | exact Iff.rfl | (cases t<;>simp [Jq] at h)
section
variable {P:Program} {A:Ann} {w w0:World} {F0:List Nat} {sl:List V} {a:Act} {bl:BL} {G:GT} {o:Oper}
theorem Mx {x:Operand} (h:o.op=.move x):(execOp a.eval o).run P w=.ok (.value (a.eval x)) w:=by simp [execOp,h]
theorem My {x:Operand} (h:o.op=.assign x):(execOp a.eval o).run P w=.ok (.value (a.eval x)) w:=by simp [execOp,h]
theorem Mz (hc:JX w bl G w0 F0) (hs:Jy (Ja w bl G []) sl a) {c x y:Operand} {v:V} (h:o.op=.pick c x y) (hv:Yk (opd sl c) (opd sl x) (opd sl y)=some v):Jo P w0 F0 sl a w o v bl:=by
 have hx:=JJ hs x
 have hy:=JJ hs y
 have hcv:=JJ hs c
 unfold Yk at hv
 split at hv
 ·rename_i b hcb
  rw [hcb] at hcv
  obtain ⟨hcv,_⟩:=QL.1 hcv
  have hr:(execOp a.eval o).run P w=.ok (.value (if b then a.eval x else a.eval y)) w:=by simp [execOp,h,hcv,asBool]
  refine Jo.pure hc hs hr ?_
  split at hv
  ·rename_i p q hp hq
   rw [hp] at hx;rw [hq] at hy
   obtain ⟨hx,_⟩:=QL.1 hx
   obtain ⟨hy,_⟩:=QL.1 hy
   simp only [oj] at hv
   subst hv
   exact QL.2 ⟨by cases b<;>simp [hx,hy],rfl⟩
  ·cases b
   ·simp only [oj] at hv;subst hv;simpa using hy
   ·simp only [oj] at hv;subst hv;simpa using hx
 ·simp at hv
theorem MA (hc:JX w bl G w0 F0) (hs:Jy (Ja w bl G []) sl a) {op:UnOp} {t:TypeId} {x:Operand} {v:V} (h:o.op=.unOp op t x) (hv:unV op (opd sl x)=some v):Jo P w0 F0 sl a w o v bl:=by
 have hx:=JJ hs x
 unfold unV at hv
 split at hv
 ·rename_i k n hxe
  rw [hxe] at hx
  obtain ⟨hx,_⟩:=Qg.1 hx
  simp only [oj] at hv;subst hv
  exact Jo.pure hc hs (by simp [execOp,h,hx,Op.unary,Op.intArith]) (Qg.2 ⟨rfl,rfl⟩)
 ·rename_i k n hxe
  rw [hxe] at hx
  obtain ⟨hx,_⟩:=Qg.1 hx
  simp only [oj] at hv;subst hv
  exact Jo.pure hc hs (by simp [execOp,h,hx,Op.unary,Op.intBits]) (Qg.2 ⟨rfl,rfl⟩)
 ·rename_i b hxe
  rw [hxe] at hx
  obtain ⟨hx,_⟩:=QL.1 hx
  simp only [oj] at hv;subst hv
  exact Jo.pure hc hs (by simp [execOp,h,hx,Op.unary]) (QL.2 ⟨rfl,rfl⟩)
 ·simp at hv
theorem MB (HT:JN P A.ty) (hc:JX w bl G w0 F0) (hs:Jy (Ja w bl G []) sl a) {s t:TypeId} {x:Operand} {c:List Jk} {v:V} {b:BL} (h:o.op=.convert s t x)
  (hv:(match A.ty s,A.ty t,opd sl x with
   | .int _,.int k,.int _ n=>some (([]:List Jk),V.int k (k.wrap n),bl)
   | .str,.str,.str s=>some ([],V.str s,bl)
   | _,_,_=>none)=some (c,v,b)):Jo P w0 F0 sl a w o v b:=by
 have hx:=JJ hs x
 split at hv
 ·rename_i k0 k k1 n hts htt hxe
  rw [hxe] at hx
  obtain ⟨hx,_⟩:=Qg.1 hx
  simp only [oj,pj] at hv
  obtain ⟨rfl,rfl,rfl⟩:=hv
  obtain ⟨d1,hd1,hk1⟩:=(HT s (by rw [hts];simp)).desc
  obtain ⟨d2,hd2,hk2⟩:=(HT t (by rw [htt];simp)).desc
  rw [hts] at hk1;rw [htt] at hk2
  have e1:=OF hk1
  have e2:=OF hk2
  subst e1;subst e2
  refine Jo.pure hc hs (vv:=.int k (k.wrap n)) ?_ (Qg.2 ⟨rfl,rfl⟩)
  simp [execOp,h,hx,convert,QO hd1,QO hd2,Conv.intToInt]
 ·rename_i q hts htt hxe
  rw [hxe] at hx
  obtain ⟨hx,_⟩:=HA.1 hx
  simp only [oj,pj] at hv
  obtain ⟨rfl,rfl,rfl⟩:=hv
  obtain ⟨d1,hd1,hk1⟩:=(HT s (by rw [hts];simp)).desc
  obtain ⟨d2,hd2,hk2⟩:=(HT t (by rw [htt];simp)).desc
  rw [hts] at hk1;rw [htt] at hk2
  have e1:=CK hk1
  have e2:=CK hk2
  subst e1;subst e2
  refine Jo.pure hc hs (vv:=.string q) ?_ (HA.2 ⟨rfl,rfl⟩)
  simp [execOp,h,hx,convert,QO hd1,QO hd2]
 ·simp at hv
theorem YG (hc:JX w bl G w0 F0) (hs:Jy (Ja w bl G []) sl a) {x:Operand} {v:V} (h:o.op=.nilCheck x) (hxe:opd sl x=v) (hk:(∃ s p,v=.ptr s p) ∨ (∃ u,v=.rp u) ∨ (∃ f c,v=.fn f c)):Jo P w0 F0 sl a w o v bl:=by
 have hx:=JJ hs x
 rw [hxe] at hx
 rcases hk with ⟨s,p,rfl⟩ | ⟨u,rfl⟩ | ⟨f,c,rfl⟩
 ·have hx':=(JM rfl (by simp) (by simp)).1 hx
  unfold InV at hx'
  obtain ⟨_,⟨ad,he⟩,_⟩:=hx'
  simp only [List.cons.injEq,and_true] at he
  exact Jo.pure hc hs (vv:=a.eval x) (by simp [execOp,h,he]) hx
 ·have hx':=(JM rfl (by simp) (by simp)).1 hx
  unfold InV at hx'
  obtain ⟨_,ad,cs',he,_⟩:=hx'
  simp only [List.cons.injEq,and_true] at he
  exact Jo.pure hc hs (vv:=a.eval x) (by simp [execOp,h,he]) hx
 ·have hx':=(JM rfl (by simp) (by simp)).1 hx
  unfold InV at hx'
  obtain ⟨vals,he,_⟩:=hx'
  simp only [List.cons.injEq,and_true] at he
  exact Jo.pure hc hs (vv:=a.eval x) (by simp [execOp,h,he]) hx
theorem T1 {E:Env}:∀ {xs:List V} {vs:List Value} {j:Nat} {x:V},Tup E xs vs []→nth xs j=some x→∃ v,vs[j]?=some v∧One E x v []
 | [],_,_,_,_,h=>by simp [nth] at h
 | y :: ys,vs,0,x,⟨v,r,F1,F2,e1,e2,h1,h2⟩,hx=>by
  simp [nth] at hx;subst hx
  have:=List.append_eq_nil_iff.1 e2.symm
  rw [this.1] at h1
  exact ⟨v,by simp [e1],h1⟩
 | y :: ys,vs,j + 1,x,⟨v,r,F1,F2,e1,e2,h1,h2⟩,hx=>by
  have:=List.append_eq_nil_iff.1 e2.symm
  rw [this.2] at h2
  obtain ⟨u,g1,g2⟩:=T1 (j:=j) h2 (by simpa [nth] using hx)
  exact ⟨u,by simp [e1,g1],g2⟩
theorem Xp {E:Env} {x:V} {v:Value} (h:One E x v []):Val E x v []:=by
 cases x with
 | tup xs=>obtain ⟨cs,h1,_⟩:=h;unfold InV at h1;exact h1.elim
 | undef=>exact rfl
 | _=>exact h
theorem MC (hc:JX w bl G w0 F0) (hs:Jy (Ja w bl G []) sl a) {x:Operand} {i:Nat} {xs:List V} {v:V} (h:o.op=.extract x i) (hxe:opd sl x=.tup xs) (hv:nth xs i=some v):Jo P w0 F0 sl a w o v bl:=by
 have hx:=JJ hs x
 rw [hxe] at hx
 obtain ⟨vs,he,ht⟩:=hx
 obtain ⟨u,h1,h2⟩:=T1 ht hv
 refine Jo.pure hc hs (vv:=u) ?_ (Xp h2)
 have h1':vs[i]?=some u:=by rw [← Array.getElem?_toList];exact h1
 simp [execOp,h,he,Instr.extract,h1']
theorem MD (HT:JN P A.ty) (hc:JX w bl G w0 F0) (hs:Jy (Ja w bl G []) sl a) {t:TypeId} {x i:Operand} {c:List Jk} {v:V} {b:BL} (h:o.op=.index t x i) (ht:A.ty t=.str)
  (hv:O7 (opd sl x) (opd sl i) bl=some (c,v,b)) (hcs:∀ k ∈ c,k.ok):Jo P w0 F0 sl a w o v b:=by
 have hx:=JJ hs x
 have hi:=JJ hs i
 unfold O7 at hv
 split at hv
 ·rename_i s n hxe hie
  rw [hxe] at hx
  obtain ⟨hx,_⟩:=HA.1 hx
  have hin:∃ k,opd sl i=.int k n:=by
   unfold Uv at hie;split at hie
   ·rename_i k m he;simp at hie;subst hie;exact ⟨k,he⟩
   ·simp at hie
  obtain ⟨k,hk⟩:=hin
  rw [hk] at hi
  obtain ⟨hi,_⟩:=Qg.1 hi
  simp only [oj,pj] at hv
  obtain ⟨rfl,rfl,rfl⟩:=hv
  have hb:0≤n∧n<s.size:=hcs (.ix n s.size) (by simp)
  obtain ⟨d1,hd1,hk1⟩:=(HT t (by rw [ht];simp)).desc
  rw [ht] at hk1
  have e1:=CK hk1
  subst e1
  have hlt:n.toNat<s.size:=by omega
  have hg:s[n.toNat]?=some s[n.toNat]:=by simp [hlt]
  have hd:s.data.toList.getD n.toNat 0=s[n.toNat]:=by
   rw [List.getD_eq_getElem?_getD,List.getElem?_eq_getElem (by simpa using hlt)];rfl
  refine Jo.pure hc hs (vv:=.int .u8 s[n.toNat].toNat) ?_ (Qg.2 ⟨by rw [hd],rfl⟩)
  simp [execOp,h,hx,hi,Instr.index,asIntOf,QO hd1,hb.1,hg]
 ·simp at hv
theorem ME (hc:JX w bl G w0 F0) (hs:Jy (Ja w bl G []) sl a) {f:FuncId} {first caps:Array Operand} (h:o.op=.makeFunc (.func f) first caps) (hf:first.toList=[]) (hk:C1 (Jm sl caps.toList)=true) :
  Jo P w0 F0 sl a w o (.fn f (Jm sl caps.toList)) bl:=by
 have hf':first=#[]:=by simpa using hf
 refine Jo.pure hc hs (vv:=.func (.func f) #[] (caps.map a.eval)) (by simp [execOp,h,hf',Instr.makeFunc]) ?_
 rw [JM rfl (by simp) (by simp)]
 unfold InV
 refine ⟨_,rfl,?_⟩
 have key:∀ l:List Operand,C1 (Jm sl l)=true→Jj (Ja w bl G []) (Jm sl l) (l.map a.eval) []∧Jt (Jm sl l)=(Jm sl l).length:=by
  intro l
  induction l with
  | nil=>intro _;exact ⟨by simp [Jm,Jj],rfl⟩
  | cons x r ih=>
   intro hkk
   simp only [Jm] at hkk ⊢
   have hx:=JJ hs x
   cases hxe:opd sl x with
   | ptr s p=>
    rw [hxe] at hkk hx
    obtain ⟨i1,i2⟩:=ih (by simpa [C1] using hkk)
    refine ⟨?_,by simp [Jt,vsz,i2];omega⟩
    unfold Jj
    exact ⟨[a.eval x],r.map a.eval,[],[],by simp,rfl,(JM rfl (by simp) (by simp)).1 hx,i1⟩
   | rp u=>
    rw [hxe] at hkk hx
    obtain ⟨i1,i2⟩:=ih (by simpa [C1] using hkk)
    refine ⟨?_,by simp [Jt,vsz,i2];omega⟩
    unfold Jj
    exact ⟨[a.eval x],r.map a.eval,[],[],by simp,rfl,(JM rfl (by simp) (by simp)).1 hx,i1⟩
   | _=>rw [hxe] at hkk;simp [C1] at hkk
 have:=key caps.toList hk
 simpa using this
end
end Go.Rai
namespace Go.Rai
variable [Inhabited Qk]
theorem OG {R:D→List Value→List Nat→Prop} {sz:Nat} (hR:∀ d c G,R d c G→c.length=sz):∀ {l:List D} {n:Nat} {cs:List Value} {F:List Nat},Row R l cs F→n≤l.length →
  ∃ c1 c2 F1 F2,cs=c1 ++ c2∧F=F1 ++ F2∧c1.length=n * sz∧Row R (l.take n) c1 F1∧Row R (l.drop n) c2 F2
 | l,0,cs,F,h,_=>⟨[],cs,[],F,rfl,rfl,by simp,by simp [Row],by simpa using h⟩
 | [],n + 1,_,_,_,h=>by simp at h
 | a :: l,n + 1,cs,F,h,hn=>by
  obtain ⟨d1,d2,G1,G2,e1,e2,h1,h2⟩:=h
  obtain ⟨c1,c2,F1,F2,i1,i2,i3,i4,i5⟩:=OG hR (l:=l) (n:=n) h2 (by simpa using hn)
  exact ⟨d1 ++ c1,c2,G1 ++ F1,F2,by simp [e1,i1],by simp [e2,i2],by simp [hR _ _ _ h1,i3,Nat.succ_mul,Nat.add_comm],⟨d1,c1,G1,F1,rfl,rfl,h1,i4⟩,by simpa using i5⟩
theorem CL {w:World} {a:Addr} {n m k:Nat} (h:QJ w a n) (hm:k + m≤n):QJ w (a.add k) m:=by
 intro j hj
 rw [Hh]
 exact h (k + j) (by omega)
theorem Xq {o:Bool} {w:World} {R:D→List Value→List Nat→Prop} {sz:Nat} (hR:∀ d c G,R d c G→c.length=sz) {A A':Option Addr} {c off len:Nat} {l:List D} {F:List Nat}
  (h:UI o w R sz A c l F) (hl:off + len≤l.length) (hA:off<c→∃ a,A=some a∧A'=some (a.add (off * sz))) :
  ∃ F',UI o w R sz A' (c - off) ((l.drop off).take len) F'∧(∀ b ∈ F',b ∈ F)∧F'.Sublist F:=by
 rcases h with ⟨h1,h2,h3⟩ | ⟨a,cs,F1,h1,h2,h3,h4,h5,h6,h7⟩
 ·subst h1;subst h2;subst h3
  exact ⟨[],.inl ⟨by simp,by simp,rfl⟩,by simp,by simp⟩
 ·by_cases hc:off<c
  ·obtain ⟨a',e1,e2⟩:=hA hc
   rw [h1] at e1;simp only [oj] at e1;subst e1
   obtain ⟨c1,c2,G1,G2,i1,i2,i3,i4,i5⟩:=OG hR (n:=off) h2 (by omega)
   obtain ⟨d1,d2,K1,K2,j1,j2,j3,j4,j5⟩:=OG hR (n:=len) i5 (by simp;omega)
   refine ⟨a.block :: K1,.inr ⟨a.add (off * sz),d1,K1,e2,j4,?_,by rw [Q1],by simp;omega,by rw [Q1];exact h6,fun ho=>?_⟩,?_,?_⟩
   ·have:=QK (L:=.mem a) (w:=w) (c1:=c1) (c:=d1) (c2:=d2) (by rw [← j1,← i1];exact h3)
    rw [i3] at this
    exact this
   ·have:=h7 ho
    rw [show c * sz=off * sz + (c - off) * sz by rw [← Nat.add_mul];congr 1;omega] at this
    exact CL this (Nat.le_refl _)
   ·intro b hb
    rw [h4,i2,j2]
    simp at hb ⊢
    rcases hb with hb | hb
    ·exact .inl hb
    ·exact .inr (.inr (.inl hb))
   ·rw [h4,i2,j2]
    refine List.Sublist.cons_cons _ ?_
    exact (List.sublist_append_left K1 K2).trans (List.sublist_append_right G1 (K1 ++ K2))
  ·have hlen:len=0:=by omega
   subst hlen
   exact ⟨[],.inl ⟨by simp,by omega,rfl⟩,by simp,by simp⟩
section
variable {P:Program} {A:Ann} {w w0:World} {F0:List Nat} {sl:List V} {a:Act} {bl:BL} {G:GT} {o:Oper}
theorem Uy (hc:JX w bl G w0 F0) {s:Nat} {p:List Nat} {c:List Jk} {x:V} (hg:JS bl s p=some (c,x)) (hk:∀ k ∈ c,k.ok) :
  ∃ c0 rc F,Jb bl s=some c0∧G s=some (rc,F)∧c0.get p=some (c,x)∧∃ Lx csx Fx,Jf w c0 (.reg rc) p=some (x,Lx)∧InV (Ja w bl G []) x csx Fx∧Lx.holds w csx∧(∀ b ∈ Fx,b ∈ F)∧Fx.Nodup∧∀ b ∈ F,b<w.heap.size:=by
 unfold JS at hg
 split at hg
 ·rename_i c0 hl
  obtain ⟨rc,F,F1,h1,h2,h3,h4,h5⟩:=hc.ok.root s c0 hl
  obtain ⟨Lx,h6⟩:=HO (Ja w bl G []) p c0 rc F1 (.reg rc) c x h2 ⟨[],by simp⟩ hg hk
  obtain ⟨csx,Fx,Fr,i1,i2,i3,i4,_⟩:=hc.ok.modify hl h1 h6 (by rw [hg];rfl)
  refine ⟨c0,rc,F,hl,h1,hg,Lx,csx,Fx,h6,i1,i2,fun b hb=>(i3.mem_iff).2 (by simp [hb]),?_,fun b hb=>(h5 b hb).1⟩
  exact (List.nodup_append.1 ((i3.nodup_iff).1 h4)).2.1
 ·simp at hg
theorem C7 {E:Env} {s:Nat} {p:List Nat} {v:Value} (h:Val E (.ptr s p) v []) {c0:V} {rc:List Value} {F:List Nat} (hl:Jb E.bl s=some c0) (hg:E.G s=some (rc,F)) {x:V} {Lx:Ji}
  (hx:Jf E.w c0 (.reg rc) p=some (x,Lx)):∃ ad,Lx=.mem ad∧v=.pointer (some ad):=by
 have h':=(JM rfl (by simp) (by simp)).1 h
 unfold InV at h'
 obtain ⟨_,_,h2⟩:=h'
 obtain ⟨ad,e1,e2⟩:=h2 c0 rc F hl hg x Lx hx
 simp only [List.cons.injEq,and_true] at e2
 exact ⟨ad,e1,e2⟩
theorem H6 {E:Env} {s:Nat} {p:List Nat} {e:Ty} {v:Value} (h:Val E (.full s p e) v []) {c0:V} {rc:List Value} {F:List Nat} (hl:Jb E.bl s=some c0) (hg:E.G s=some (rc,F)) {x:V} {Lx:Ji}
  (hx:Jf E.w c0 (.reg rc) p=some (x,Lx)) (ho:QB x=true):Lx.head E.w=some v:=by
 have h':=(JM rfl (by simp) (by simp)).1 h
 unfold InV at h'
 obtain ⟨_,_,h2⟩:=h'
 obtain ⟨v',e1,e2⟩:=h2 c0 rc F hl hg x Lx hx ho
 simp only [List.cons.injEq,and_true] at e2
 rw [e2];exact e1
theorem Wi {E:Env} {s:Nat} {p:List Nat} {off len:Nat} {e:Ty} {v:Value} (h:Val E (.sub s p off len e) v []) {c0:V} {rc:List Value} {F:List Nat} (hl:Jb E.bl s=some c0) (hg:E.G s=some (rc,F)) {x:V} {Lx:Ji}
  (hx:Jf E.w c0 (.reg rc) p=some (x,Lx)) (ho:QB x=true) :
  ∃ A n k A',Lx.head E.w=some (.slice A n k)∧off + len≤k∧v=.slice A' len (k - off)∧(off<k→∃ a,A=some a∧A'=some (a.add (off * e.size))):=by
 have h':=(JM rfl (by simp) (by simp)).1 h
 unfold InV at h'
 obtain ⟨_,_,h2⟩:=h'
 obtain ⟨A,n,k,A',e1,e2,e3,e4⟩:=h2 c0 rc F hl hg x Lx hx ho
 simp only [List.cons.injEq,and_true] at e3
 exact ⟨A,n,k,A',e1,e2,e3,e4⟩
theorem Wj (hc:JX w bl G w0 F0) {v:V} {vv:Value} (hv:Val (Ja w bl G []) v vv []) {c:List Jk} {e:Ty} {l:List D} (he:U0 bl v=some (c,e,l)) (hk:∀ k ∈ c,k.ok) :
  ∃ Ad cap F,vv=.slice Ad l.length cap∧UI false w (DIn false w e) e.size Ad cap l F∧e.plain=true∧∀ b ∈ F,b<w.heap.size:=by
 unfold U0 at he
 split at he
 ·rename_i e' l'
  simp only [oj,pj] at he
  obtain ⟨rfl,rfl,rfl⟩:=he
  have h':=(JM rfl (by simp) (by simp)).1 hv
  unfold InV at h'
  obtain ⟨_,hp,Ad,cap,F',h1,h2,h3⟩:=h'
  simp only [List.cons.injEq,and_true] at h1
  exact ⟨Ad,cap,F',h1,h2,hp,fun b hb=>(h3 b hb).1.1⟩
 ·rename_i s p e'
  split at he
  ·rename_i c' e'' l' hg
   simp only [oj,pj] at he
   obtain ⟨rfl,rfl,rfl⟩:=he
   obtain ⟨c0,rc,F,i1,i2,i3,Lx,csx,Fx,i4,i5,i6,i7,i8,i9⟩:=Uy hc hg hk
   have hh:=H6 hv i1 i2 i4 rfl
   unfold InV at i5
   obtain ⟨hp,Ad,cap,h1,h2⟩:=i5
   rw [h1] at i6
   have:=JL i6
   rw [show (Ja w bl G []).w=w from rfl] at hh
   rw [this] at hh
   simp only [oj] at hh
   exact ⟨Ad,cap,Fx,hh.symm,Xd (fun d c G hd=>OA _ hd) h2,hp,fun b hb=>i9 b (i7 b hb)⟩
  ·simp at he
 ·rename_i s p off len e'
  split at he
  ·rename_i c' e'' l' hg
   split at he
   ·rename_i hbeq
    simp only [oj,pj] at he
    obtain ⟨rfl,rfl,rfl⟩:=he
    have hee:=Ty.beq_eq _ _ hbeq
    subst hee
    obtain ⟨c0,rc,F,i1,i2,i3,Lx,csx,Fx,i4,i5,i6,i7,i8,i9⟩:=Uy hc hg (fun k hk'=>hk k (by rw [Ju];exact .inl hk'))
    have hb:off + len≤l'.length:=hk (.le (off + len) l'.length) (by rw [Ju];simp)
    obtain ⟨Ah,n,k,A',h3,h4,h5,h6⟩:=Wi hv i1 i2 i4 rfl
    unfold InV at i5
    obtain ⟨hp,Ad,cap,h1,h2⟩:=i5
    rw [h1] at i6
    have:=JL i6
    rw [show (Ja w bl G []).w=w from rfl,this] at h3
    simp only [oj,Value.slice.injEq] at h3
    obtain ⟨rfl,rfl,rfl⟩:=h3
    obtain ⟨F',g1,g2,_⟩:=Xq (fun d c G hd=>Qn _ hd) h2 hb h6
    refine ⟨A',cap - off,F',?_,Xd (fun d c G hd=>OA _ hd) g1,hp,fun b hb'=>i9 b (i7 b (g2 b hb'))⟩
    rw [h5]
    simp;omega
   ·simp at he
  ·simp at he
 ·simp at he
theorem U8 {w:World}:∀ (p q:List Nat) (v:V) (L:Ji),Jf w v L (p ++ q)=(Jf w v L p).bind fun r=>Jf w r.1 r.2 q
 | [],q,v,L=>rfl
 | j :: p,q,v,L=>by
  simp only [List.cons_append]
  cases v with
  | agg vs=>simp only [Jf];cases nth vs j with
   | none=>rfl
   | some x=>exact U8 p q x _
  | own e l=>
   simp only [Jf]
   split
   ·split
    ·exact U8 p q _ _
    ·rfl
   ·rfl
  | arr n e l=>
   simp only [Jf]
   split
   ·exact U8 p q _ _
   ·rfl
  | ownh e l i=>
   simp only [Jf]
   split
   ·split
    ·exact U8 p q _ _
    ·rfl
   ·rfl
  | lst e vs=>
   simp only [Jf]
   cases nth vs j with
   | none=>rfl
   | some x=>
    simp only
    split
    ·exact U8 p q _ _
    ·rfl
  | obox x=>
   simp only [Jf]
   split
   ·exact U8 p q _ _
   ·rfl
  | fn f caps=>
   simp only [Jf]
   cases nth caps j with
   | none=>rfl
   | some x=>
    simp only
    split
    ·exact U8 p q _ _
    ·rfl
  | _=>rfl
mutual
theorem YH {E:Env} {s:Nat} {c0:V} {rc:List Value} {F:List Nat} (hl:Jb E.bl s=some c0) (hg:E.G s=some (rc,F)):∀ (v:V) {p:List Nat} {cs:List Value} {Fv:List Nat} {L:Ji},
  Jf E.w c0 (.reg rc) p=some (v,L)→L.holds E.w cs→InV E v cs Fv→InV E (Qb s p v) cs []
 | .undef,p,cs,Fv,L,h1,h2,h3=>by unfold InV at h3;unfold Qb InV;exact ⟨h3.1,rfl⟩
 | .void,p,cs,Fv,L,h1,h2,h3=>by unfold InV at h3;unfold Qb InV;exact ⟨h3.1,rfl⟩
 | .int _ _,p,cs,Fv,L,h1,h2,h3=>by unfold InV at h3;unfold Qb InV;exact ⟨h3.1,rfl⟩
 | .bool _,p,cs,Fv,L,h1,h2,h3=>by unfold InV at h3;unfold Qb InV;exact ⟨h3.1,rfl⟩
 | .str _,p,cs,Fv,L,h1,h2,h3=>by unfold InV at h3;unfold Qb InV;exact ⟨h3.1,rfl⟩
 | .nilsl,p,cs,Fv,L,h1,h2,h3=>by unfold InV at h3;unfold Qb InV;exact ⟨h3.1,rfl⟩
 | .emp _,p,cs,Fv,L,h1,h2,h3=>by unfold InV at h3;unfold Qb InV;exact ⟨h3.1,rfl⟩
 | .nilfn,p,cs,Fv,L,h1,h2,h3=>by unfold InV at h3;unfold Qb InV;exact ⟨h3.1,rfl⟩
 | .nilptr,p,cs,Fv,L,h1,h2,h3=>by unfold InV at h3;unfold Qb InV;exact ⟨h3.1,rfl⟩
 | .mp l,p,cs,Fv,L,h1,h2,h3=>by
  unfold InV at h3
  obtain ⟨r,es,clk,hcs,_⟩:=h3
  cases p with
  | nil=>
   unfold Qb InV
   refine ⟨rfl,⟨r,hcs⟩,fun c' rc' F' hc' hg' ho=>?_⟩
   rw [hl] at hc';cases hc'
   rw [hg] at hg';cases hg'
   simp only [Jf,oj,pj] at h1
   obtain ⟨_,rfl⟩:=h1
   rw [hcs] at h2
   exact ⟨_,JL h2,hcs⟩
  | cons j p=>
   unfold Qb InV
   exact ⟨⟨_,hcs⟩,rfl⟩
 | .mref _,p,cs,Fv,L,h1,h2,h3=>by
  unfold Qb
  have:=h3
  unfold InV at h3
  rw [h3.1] at this
  exact this
 | .agg vs,p,cs,Fv,L,h1,h2,h3=>by
  unfold InV at h3
  unfold Qb InV
  refine YI hl hg vs (L:=L) (j:=0) (fun i x hi=>?_) h2 h3
  rw [U8,h1]
  simp [Jf,hi]
 | .arr n e l,p,cs,Fv,L,h1,h2,h3=>by
  unfold Qb
  have:=h3
  unfold InV at h3
  have hF:=Hk (fun d c G hd=>Hl e h3.2.1 hd) h3.2.2
  subst hF
  exact this
 | .own e l,p,cs,Fv,L,h1,h2,h3=>by
  unfold InV at h3
  obtain ⟨hp,A,c,hcs,hsl⟩:=h3
  unfold Qb InV
  refine ⟨rfl,⟨A,l.length,c,hcs⟩,fun c' rc' F' hc' hg' x L' hx ho=>?_⟩
  rw [hl] at hc';cases hc'
  rw [hg] at hg';cases hg'
  rw [h1] at hx;cases hx
  rw [hcs] at h2
  exact ⟨_,JL h2,hcs⟩
 | .ownh e l i,p,cs,Fv,L,h1,h2,h3=>by
  unfold InV at h3
  obtain ⟨_,_,a,c,c1,v,c2,F1,F2,hcs,_⟩:=h3
  unfold Qb InV
  exact ⟨⟨_,hcs⟩,rfl⟩
 | .rd e l,p,cs,Fv,L,h1,h2,h3=>by
  unfold Qb
  have:=h3
  unfold InV at h3
  rw [h3.1] at this
  exact this
 | .lst e vs,p,cs,Fv,L,h1,h2,h3=>by
  unfold InV at h3
  obtain ⟨a,c,cs',F',hcs,_⟩:=h3
  unfold Qb InV
  refine ⟨rfl,⟨some a,vs.length,c,hcs⟩,fun c' rc' F' hc' hg' x L' hx ho=>?_⟩
  rw [hl] at hc';cases hc'
  rw [hg] at hg';cases hg'
  rw [h1] at hx;cases hx
  rw [hcs] at h2
  exact ⟨_,JL h2,hcs⟩
 | .obox v,p,cs,Fv,L,h1,h2,h3=>by
  unfold InV at h3
  obtain ⟨a,cs',F',hcs,hv,hc,hf,hb,ho⟩:=h3
  unfold Qb InV
  refine ⟨rfl,⟨a,hcs⟩,fun c' rc' F' hc' hg' x L' hx=>?_⟩
  rw [hl] at hc';cases hc'
  rw [hg] at hg';cases hg'
  rw [Qd,U8,h1] at hx
  rw [hcs] at h2
  simp only [ob,Jf,JL h2,oj,pj] at hx
  exact ⟨a,hx.2.symm,hcs⟩
 | .rp v,p,cs,Fv,L,h1,h2,h3=>by
  unfold Qb
  have:=h3
  unfold InV at h3
  rw [h3.1] at this
  exact this
 | .full s' p' e,p,cs,Fv,L,h1,h2,h3=>by
  unfold Qb
  have:=h3
  unfold InV at h3
  rw [h3.1] at this
  exact this
 | .sub s' p' off len e,p,cs,Fv,L,h1,h2,h3=>by
  unfold Qb
  have:=h3
  unfold InV at h3
  rw [h3.1] at this
  exact this
 | .ptr s' p',p,cs,Fv,L,h1,h2,h3=>by
  unfold Qb
  have:=h3
  unfold InV at h3
  rw [h3.1] at this
  exact this
 | .fn f caps,p,cs,Fv,L,h1,h2,h3=>by
  unfold InV at h3
  obtain ⟨vals,hcs,hv,hz⟩:=h3
  unfold Qb InV
  refine ⟨vals,hcs,YI hl hg caps (L:=.reg vals.toList) (j:=0) (fun i x hi=>?_) ⟨[],by simp⟩ hv,?_⟩
  ·rw [U8,h1]
   rw [hcs] at h2
   simp [Jf,hi,JL h2,Ji.shift]
  ·rw [YJ,T2];exact hz
 | .tup _,p,cs,Fv,L,h1,h2,h3=>by unfold InV at h3;exact h3.elim
theorem YI {E:Env} {s:Nat} {c0:V} {rc:List Value} {F:List Nat} (hl:Jb E.bl s=some c0) (hg:E.G s=some (rc,F)):∀ (vs:List V) {p:List Nat} {j:Nat} {cs:List Value} {Fv:List Nat} {L:Ji},
  (∀ i x,nth vs i=some x→Jf E.w c0 (.reg rc) (p ++ [j + i])=some (x,L.shift (Jt (vs.take i))))→L.holds E.w cs→Jj E vs cs Fv→Jj E (HH s p j vs) cs []
 | [],p,j,cs,Fv,L,h1,h2,h3=>by unfold Jj at h3;unfold HH Jj;exact ⟨h3.1,rfl⟩
 | v :: vs,p,j,cs,Fv,L,h1,h2,h3=>by
  unfold Jj at h3
  obtain ⟨c1,c2,F1,F2,e1,e2,h4,h5⟩:=h3
  subst e1
  unfold HH Jj
  have g0:=h1 0 v rfl
  have hsh0:L.shift 0=L:=by cases L<;>simp [Ji.shift,Addr.add]
  simp only [Nat.add_zero,List.take_zero,Jt,hsh0] at g0
  refine ⟨c1,c2,[],[],rfl,rfl,YH hl hg v (by rw [Qd];exact g0) (Xg h2) h4,?_⟩
  refine YI hl hg vs (L:=L.shift c1.length) (fun i x hi=>?_) (Xh h2) h5
  have:=h1 (i + 1) x (by simpa [nth] using hi)
  rw [C4,Qq v h4]
  simp only [List.take_succ_cons,Jt] at this
  rw [show j + 1 + i=j + (i + 1) by omega]
  exact this
theorem MF (s:Nat):∀ (v:V) (p:List Nat),vsz (Qb s p v)=vsz v
 | .agg vs,p=>by unfold Qb vsz;exact YJ s vs p 0
 | .undef,_=>rfl
 | .void,_=>rfl
 | .int _ _,_=>rfl
 | .bool _,_=>rfl
 | .str _,_=>rfl
 | .arr _ _ _,_=>rfl
 | .own _ _,_=>rfl
 | .ownh _ _ _,_=>rfl
 | .rd _ _,_=>rfl
 | .lst _ _,_=>rfl
 | .nilsl,_=>rfl
 | .emp _,_=>rfl
 | .obox _,_=>rfl
 | .rp _,_=>rfl
 | .full _ _ _,_=>rfl
 | .sub _ _ _ _ _,_=>rfl
 | .ptr _ _,_=>rfl
 | .fn _ _,_=>rfl
 | .nilfn,_=>rfl
 | .nilptr,_=>rfl
 | .mp _,p=>by cases p<;>rfl
 | .mref _,_=>rfl
 | .tup _,_=>rfl
theorem YJ (s:Nat):∀ (vs:List V) (p:List Nat) (j:Nat),Jt (HH s p j vs)=Jt vs
 | [],_,_=>rfl
 | v :: vs,p,j=>by unfold HH Jt;rw [MF s v,YJ s vs]
theorem T2 (s:Nat):∀ (vs:List V) (p:List Nat) (j:Nat),(HH s p j vs).length=vs.length
 | [],_,_=>rfl
 | v :: vs,p,j=>by unfold HH;simp [T2 s vs]
end
theorem T3 (s:Nat) (v:V) (p:List Nat):isA (Qb s p v)=isA v:=by cases v<;>first | rfl | (cases p<;>rfl)
theorem Vp {E:Env} {s:Nat} {c0:V} {rc:List Value} {F:List Nat} (hl:Jb E.bl s=some c0) (hg:E.G s=some (rc,F)) {v:V} {p:List Nat} {cs:List Value} {Fv:List Nat} {L:Ji} {u:Value}
  (h1:Jf E.w c0 (.reg rc) p=some (v,L)) (h2:L.holds E.w cs) (h3:InV E v cs Fv) (hu:Qf v cs u):Val E (Qb s p v) u []:=by
 have h:=YH hl hg v h1 h2 h3
 apply Xp
 refine ⟨cs,h,?_⟩
 unfold Qf at hu ⊢
 rw [T3]
 exact hu
theorem MG (HT:JN P A.ty) (hc:JX w bl G w0 F0) (hs:Jy (Ja w bl G []) sl a) {c:Call} {xs:List Operand} {co:List Jk} {v:V} {b:BL} (h:o.op=.call c) (hcal:c.callee=.builtin .len)
  {d:Option Nat} (hv:Ql A sl bl d .len c.argTypes.toList (Jm sl c.args.toList)=some (co,v,b)) (hk:∀ k ∈ co,k.ok):Jo P w0 F0 sl a w o v b:=by
 match hargs:c.args.toList with
 | []=>rw [hargs] at hv;simp [Jm,Ql] at hv
 | x :: y :: r=>rw [hargs] at hv;simp [Jm,Ql] at hv
 | [x]=>
  rw [hargs] at hv
  simp only [Jm,Ql] at hv
  have hx:=JJ hs x
  split at hv
  ·rename_i t ht
   have hargs':c.args=#[x]:=by apply Array.toList_inj.1;rw [hargs]
   rw [Vh] at ht
   have ht':c.argTypes[0]?=some t:=by rw [← Array.getElem?_toList];exact ht
   have hrun:∀ vv,(Builtin.len_ c.argTypes o.type #[a.eval x]).run P w=.ok vv w→(execOp a.eval o).run P w=.ok (.value vv) w:=by
    intro vv hrun
    simp [execOp,h,resolve,hcal,hargs',invoke,builtin,hrun]
   split at hv
   ·rename_i hty
    obtain ⟨dd,hd,hkk⟩:=(HT t (by rw [hty];simp)).desc
    rw [hty] at hkk
    have:=CK hkk;subst this
    split at hv
    ·rename_i s hxe
     rw [hxe] at hx
     obtain ⟨hx,_⟩:=HA.1 hx
     simp only [oj,pj] at hv
     obtain ⟨rfl,rfl,rfl⟩:=hv
     exact Jo.pure hc hs (hrun (.int .i64 s.size) (by simp [Builtin.len_,ht',hx,QO hd,goInt])) (Qg.2 ⟨rfl,rfl⟩)
    ·simp at hv
   ·rename_i e hty
    obtain ⟨dd,hd,hkk⟩:=(HT t (by rw [hty];simp)).desc
    rw [hty] at hkk
    obtain ⟨te,rfl,_,_⟩:=Us hkk
    have hsl:∀ Ad n cap,a.eval x=.slice Ad n cap→(execOp a.eval o).run P w=.ok (.value (.int .i64 n)) w:=by
     intro Ad n cap he
     exact hrun _ (by simp [Builtin.len_,ht',he,QO hd,goInt])
    split at hv
    ·rename_i hxe
     rw [hxe] at hx
     have hx':=(JM rfl (by simp) (by simp)).1 hx
     unfold InV at hx'
     simp only [List.cons.injEq,and_true] at hx'
     simp only [oj,pj] at hv
     obtain ⟨rfl,rfl,rfl⟩:=hv
     exact Jo.pure hc hs (hsl _ _ _ hx') (Qg.2 ⟨rfl,rfl⟩)
    ·rename_i e' hxe
     rw [hxe] at hx
     have hx':=(JM rfl (by simp) (by simp)).1 hx
     unfold InV at hx'
     obtain ⟨⟨Ad,hx'⟩,_⟩:=hx'
     simp only [List.cons.injEq,and_true] at hx'
     simp only [oj,pj] at hv
     obtain ⟨rfl,rfl,rfl⟩:=hv
     exact Jo.pure hc hs (hsl _ _ _ hx') (Qg.2 ⟨rfl,rfl⟩)
    ·rename_i s p off len e' hxe
     rw [hxe] at hx
     have hx':=(JM rfl (by simp) (by simp)).1 hx
     unfold InV at hx'
     obtain ⟨_,⟨Ad,k,hx',_⟩,_⟩:=hx'
     simp only [List.cons.injEq,and_true] at hx'
     simp only [oj,pj] at hv
     obtain ⟨rfl,rfl,rfl⟩:=hv
     exact Jo.pure hc hs (hsl _ _ _ hx') (Qg.2 ⟨rfl,rfl⟩)
    ·split at hv
     ·rename_i c' e' l hel
      simp only [oj,pj] at hv
      obtain ⟨rfl,rfl,rfl⟩:=hv
      obtain ⟨Ad,cap,F,he,_⟩:=Wj hc hx hel hk
      exact Jo.pure hc hs (hsl _ _ _ he) (Qg.2 ⟨rfl,rfl⟩)
     ·simp at hv
   ·simp at hv
  ·simp at hv
theorem MH (HT:JN P A.ty) (hc:JX w bl G w0 F0) (hs:Jy (Ja w bl G []) sl a) {c:Call} {co:List Jk} {v:V} {b:BL} (h:o.op=.call c) (hcal:c.callee=.builtin .cap)
  {d:Option Nat} (hv:Ql A sl bl d .cap c.argTypes.toList (Jm sl c.args.toList)=some (co,v,b)):Jo P w0 F0 sl a w o v b:=by
 match hargs:c.args.toList with
 | []=>rw [hargs] at hv;simp [Jm,Ql] at hv
 | x :: y :: r=>rw [hargs] at hv;simp [Jm,Ql] at hv
 | [x]=>
  rw [hargs] at hv
  simp only [Jm,Ql] at hv
  have hx:=JJ hs x
  split at hv
  ·rename_i t ht
   have hargs':c.args=#[x]:=by apply Array.toList_inj.1;rw [hargs]
   rw [Vh] at ht
   have ht':c.argTypes[0]?=some t:=by rw [← Array.getElem?_toList];exact ht
   split at hv
   ·rename_i e hty
    obtain ⟨dd,hd,hkk⟩:=(HT t (by rw [hty];simp)).desc
    rw [hty] at hkk
    obtain ⟨te,rfl,_,_⟩:=Us hkk
    have hsl:∀ Ad n,a.eval x=.slice Ad n 0→(execOp a.eval o).run P w=.ok (.value (.int .i64 0)) w:=by
     intro Ad n he
     have hrun:(Builtin.cap_ c.argTypes o.type #[a.eval x]).run P w=.ok (.int .i64 0) w:=by
      simp [Builtin.cap_,ht',he,QO hd,goInt]
     simp [execOp,h,resolve,hcal,hargs',invoke,builtin,hrun]
    split at hv
    ·rename_i hxe
     rw [hxe] at hx
     have hx':=(JM rfl (by simp) (by simp)).1 hx
     unfold InV at hx'
     simp only [List.cons.injEq,and_true] at hx'
     simp only [oj,pj] at hv
     obtain ⟨rfl,rfl,rfl⟩:=hv
     exact Jo.pure hc hs (hsl _ _ hx') (Qg.2 ⟨rfl,rfl⟩)
    ·rename_i e' hxe
     rw [hxe] at hx
     have hx':=(JM rfl (by simp) (by simp)).1 hx
     unfold InV at hx'
     obtain ⟨⟨Ad,hx'⟩,_⟩:=hx'
     simp only [List.cons.injEq,and_true] at hx'
     simp only [oj,pj] at hv
     obtain ⟨rfl,rfl,rfl⟩:=hv
     exact Jo.pure hc hs (hsl _ _ hx') (Qg.2 ⟨rfl,rfl⟩)
    ·simp at hv
   ·simp at hv
  ·simp at hv
theorem MI (HT:JN P A.ty) (hc:JX w bl G w0 F0) (hs:Jy (Ja w bl G []) sl a) {t:TypeId} {x:Operand} {co:List Jk} {v:V} {b:BL} (h:o.op=.load t x)
  (hv:Ck (A.ty t) bl (opd sl x)=some (co,v,b)) (hk:∀ k ∈ co,k.ok):Jo P w0 F0 sl a w o v b:=by
 have hx:=JJ hs x
 unfold Ck at hv
 split at hv
 ·rename_i u hxe
  split at hv
  ·rename_i hfit
   simp only [oj,pj] at hv
   obtain ⟨rfl,rfl,rfl⟩:=hv
   rw [hxe] at hx
   have hx':=(JM rfl (by simp) (by simp)).1 hx
   unfold InV at hx'
   obtain ⟨_,ad,cs',h1,h2,h3,h4⟩:=hx'
   simp only [List.cons.injEq,and_true] at h1
   have hty:=HT t (Cs hfit)
   have hsz:cs'.length=(A.ty t).size:=by rw [Qq _ h2,(Qt hfit).1]
   refine Jo.pure hc hs (vv:=Ud (Qr (A.ty t)) cs') ?_ ?_
   ·simp [execOp,h,h1,Instr.loadAt,Instr.sureAddr,Xn (w:=w) hty hsz h3 U7]
   ·rw [Wh hfit]
    refine ⟨cs',h2,?_⟩
    unfold Qf
    rw [(Qt hfit).2]
    cases hA:Qr (A.ty t) with
    | true=>rfl
    | false=>
     have:=U7 hA
     rw [this] at hsz
     match cs',hsz with
     | [q],_=>rfl
  ·simp at hv
 ·rename_i s p hxe
  split at hv
  ·rename_i c' u hg
   split at hv
   ·rename_i hfit
    simp only [oj,pj] at hv
    obtain ⟨rfl,rfl,rfl⟩:=hv
    rw [hxe] at hx
    obtain ⟨c0,rc,F,i1,i2,i3,Lx,csx,Fx,i4,i5,i6,i7,i8,i9⟩:=Uy hc hg hk
    obtain ⟨ad,e1,e2⟩:=C7 hx i1 i2 i4
    subst e1
    have hty:=HT t (Cs hfit)
    have hsz:csx.length=(A.ty t).size:=by rw [Qq _ i5,(Qt hfit).1]
    refine Jo.pure hc hs (vv:=Ud (Qr (A.ty t)) csx) ?_ ?_
    ·simp [execOp,h,e2,Instr.loadAt,Instr.sureAddr,Xn (w:=w) hty hsz i6 U7]
    ·refine Vp (E:=Ja w bl G []) i1 i2 i4 i6 i5 ?_
     unfold Qf
     rw [(Qt hfit).2]
     cases hA:Qr (A.ty t) with
     | true=>rfl
     | false=>
      have:=U7 hA
      rw [this] at hsz
      match csx,hsz with
      | [q],_=>rfl
   ·simp at hv
  ·simp at hv
 ·simp at hv
end
end Go.Rai
namespace Go.Rai
variable [Inhabited Qk]
section
variable {P:Program} {A:Ann} {w w0:World} {F0:List Nat} {sl:List V} {a:Act} {bl:BL} {G:GT} {o:Oper}
theorem HB {E:Env} {x:V} {n:Int} {v:Value} (h:Uv x=some n) (hv:Val E x v []):∃ k,v=.int k n:=by
 unfold Uv at h
 split at h
 ·simp only [oj] at h;subst h
  exact ⟨_,(Qg.1 hv).1⟩
 ·simp at h
theorem MJ {T:TypeId→Ty} {f:Field} {ad:Addr} (h:U6 P T f.type) (hz:(T f.type).size ≠ 0):(fieldPlace ad f).run P w=.ok (ad.add f.offset) w:=by
 simp [fieldPlace,H5 h,hz]
theorem MK (HT:JN P A.ty) (hc:JX w bl G w0 F0) (hs:Jy (Ja w bl G []) sl a) {t:TypeId} {x:Operand} {f:Nat} {co:List Jk} {v:V} {b:BL} (h:o.op=.fieldAddr t x f)
  (hv:Oq (A.ty t) bl f (opd sl x)=some (co,v,b)) (hk:∀ k ∈ co,k.ok):Jo P w0 F0 sl a w o v b:=by
 have hx:=JJ hs x
 unfold Oq at hv
 split at hv
 ·rename_i fs hty
  obtain ⟨d,hd,hdk⟩:=(HT t (by rw [hty];simp)).desc
  rw [hty] at hdk
  obtain ⟨fields,rfl,hsize,hfs⟩:=Vo hdk
  have run:∀ (ad:Addr) (vs:List V) (y:V),(∃ tf,fs[f]?=some tf∧Ty.sizes (fs.take f)=Jt (vs.take f))→nth vs f=some y→a.eval x=.pointer (some ad) →
    (execOp a.eval o).run P w=.ok (.value (.pointer (some (ad.add (Jt (vs.take f)))))) w:=by
   intro ad vs y hfit hn he
   obtain ⟨tf,g1,g3⟩:=hfit
   have hlt:f<fields.size:=by rw [hsize];exact (List.getElem?_eq_some_iff.1 g1).1
   obtain ⟨q1,q2,q3,q4,q5⟩:=hfs f fields[f] (by simp [hlt])
   simp only [execOp,h,he,Instr.fieldAt,Sem.run_bind,QO hd,Result.andThen_ok,Instr.sureAddr,Sem.run_pure]
   simp only [Array.getElem?_eq_getElem hlt]
   simp only [Sem.run_bind,Sem.run_pure,Result.andThen_ok,MJ (HT _ q2) q3]
   rw [q4,g3]
  split at hv
  ·rename_i s p hxe
   split at hv
   ·rename_i c' vs hg
    split at hv
    ·rename_i hfit
     split at hv
     ·rename_i y hn
      simp only [oj,pj] at hv
      obtain ⟨rfl,rfl,rfl⟩:=hv
      rw [hxe] at hx
      obtain ⟨c0,rc,F,i1,i2,i3,Lx,csx,Fx,i4,i5,i6,i7,i8,i9⟩:=Uy hc hg hk
      obtain ⟨ad,e1,e2⟩:=C7 hx i1 i2 i4
      subst e1
      refine Jo.pure hc hs (run ad vs y (T0 hfit hn) hn e2) ?_
      rw [JM rfl (by simp) (by simp)]
      unfold InV
      refine ⟨rfl,⟨_,rfl⟩,fun c1 rc1 F1 h1 h2 z L hz=>?_⟩
      rw [show (Ja w bl G []).bl=bl from rfl,i1] at h1;cases h1
      rw [show (Ja w bl G []).G=G from rfl,i2] at h2;cases h2
      rw [Qd,U8,show (Ja w bl G []).w=w from rfl,i4] at hz
      simp only [ob,Jf,hn,oj,pj] at hz
      exact ⟨_,hz.2.symm,rfl⟩
     ·simp at hv
    ·simp at hv
   ·simp at hv
  ·rename_i vs hxe
   split at hv
   ·rename_i hfit
    split at hv
    ·rename_i y hn
     simp only [oj,pj] at hv
     obtain ⟨rfl,rfl,rfl⟩:=hv
     rw [hxe] at hx
     have hx':=(JM rfl (by simp) (by simp)).1 hx
     unfold InV at hx'
     obtain ⟨_,ad,cs',h1,h2,h3,h4⟩:=hx'
     simp only [List.cons.injEq,and_true] at h1
     unfold InV at h2
     obtain ⟨c1,ci,c2,F1,F2,F3,e1,e2,e3,e4,e5⟩:=U3 h2 hn
     subst e1
     have hF:=List.append_eq_nil_iff.1 e2.symm
     have hF':=List.append_eq_nil_iff.1 hF.2
     rw [hF'.1] at e4
     refine Jo.pure hc hs (run ad vs y (by obtain ⟨tf,g1,_,g3⟩:=Xo hfit hn;exact ⟨tf,g1,g3⟩) hn h1) ?_
     rw [JM rfl (by simp) (by simp)]
     unfold InV
     refine ⟨rfl,_,ci,rfl,e4,?_,by rw [Q1];exact h4⟩
     have:=QK (L:=.mem ad) (w:=w) (c1:=c1) (c:=ci) (c2:=c2) h3
     rw [e3] at this
     exact this
    ·simp at hv
   ·simp at hv
  ·simp at hv
 ·simp at hv
theorem ML (HT:JN P A.ty) (hc:JX w bl G w0 F0) (hs:Jy (Ja w bl G []) sl a) {t:TypeId} {x:Operand} {f:Nat} {v:V} (h:o.op=.field t x f)
  (hv:Yo (A.ty t) (opd sl x) f=some v):Jo P w0 F0 sl a w o v bl:=by
 have hx:=JJ hs x
 unfold Yo at hv
 split at hv
 ·rename_i fs vs hty hxe
  split at hv
  ·rename_i hfit
   obtain ⟨d,hd,hdk⟩:=(HT t (by rw [hty];simp)).desc
   rw [hty] at hdk
   obtain ⟨fields,rfl,hsize,hfs⟩:=Vo hdk
   obtain ⟨tf,g1,g2,g3⟩:=Xo hfit hv
   have hlt:f<fields.size:=by rw [hsize];exact (List.getElem?_eq_some_iff.1 g1).1
   obtain ⟨q1,q2,q3,q4,q5⟩:=hfs f fields[f] (by simp [hlt])
   rw [g1] at q1;simp only [oj] at q1
   rw [hxe] at hx
   obtain ⟨cs,e1,e2⟩:=We.1 hx
   obtain ⟨c1,ci,c2,F1,F2,F3,k1,k2,k3,k4,k5⟩:=U3 e2 hv
   have hF:=List.append_eq_nil_iff.1 k2.symm
   have hF':=List.append_eq_nil_iff.1 hF.2
   rw [hF'.1] at k4
   have hlen:ci.length=(A.ty fields[f].type).size:=by rw [Qq _ k4,(Qt g2).1,q1]
   have hex:(cs.toArray.extract fields[f].offset (fields[f].offset + (A.ty fields[f].type).size))=ci.toArray:=by
    apply Array.toList_inj.1
    rw [Array.toList_extract]
    simp only [List.extract]
    rw [q4,g3,← k3,k1,← hlen]
    simp
   refine Jo.pure hc hs (vv:=Ud (Qr (A.ty fields[f].type)) ci) ?_ ?_
   ·simp only [execOp,h,e1,Instr.field,Sem.run_bind,QO hd,Result.andThen_ok]
    simp only [Array.getElem?_eq_getElem hlt]
    simp only [Sem.run_bind,asAgg,Sem.run_pure,Result.andThen_ok,part,YE (HT _ q2)]
    cases hA:Qr (A.ty fields[f].type) with
    | true=>
     simp only [if_true,Sem.run_bind,H5 (HT _ q2),Result.andThen_ok,Sem.run_pure,hex]
     rfl
    | false=>
     have:=U7 hA
     rw [this] at hlen
     match ci,hlen with
     | [q],_=>
      have hq:cs[fields[f].offset]?=some q:=by rw [k1,q4,g3,← k3];simp
      simp [hq,Ud]
   ·rw [Wh g2]
    refine ⟨ci,k4,?_⟩
    unfold Qf
    rw [(Qt g2).2,q1]
    cases hA:Qr (A.ty fields[f].type) with
    | true=>rfl
    | false=>
     have:=U7 hA
     rw [this] at hlen
     match ci,hlen with
     | [q],_=>rfl
  ·simp at hv
 ·simp at hv
theorem MM {E:Env} {e:Ty} {Ad:Option Addr} {cap:Nat} {l:List D} {F:List Nat} {i:Nat} (hp:e.plain=true) (h:UI false E.w (DIn false E.w e) e.size Ad cap l F) (hS:∀ b ∈ F,E.Sb e b) (hi:i<l.length) :
  ∃ ad,Ad=some ad∧InV E (.rp (dec false e (l.getD i (.int 0)))) [.pointer (some (ad.add (i * e.size)))] []:=by
 rcases h with ⟨h1,_⟩ | ⟨ad,cs,F',h1,h2,h3,h4,h5,h6,_⟩
 ·subst h1;simp at hi
 ·refine ⟨ad,h1,?_⟩
  obtain ⟨c1,c,c2,F1,Fi,F2,e1,e2,e3,e4,e5⟩:=U4 (fun d c G hd=>Qn e hd) h2 hi
  subst e1
  unfold InV
  refine ⟨rfl,_,c,rfl,Xe e hp (fun b hb=>hS b (by rw [h4,e2];simp [hb])) e4,?_,by rw [Q1];exact (hS _ (by rw [h4];simp)).1⟩
  have:=QK (L:=.mem ad) (w:=E.w) (c1:=c1) (c:=c) (c2:=c2) h3
  rw [e3] at this
  exact this
theorem MN (HT:JN P A.ty) (hc:JX w bl G w0 F0) (hs:Jy (Ja w bl G []) sl a) {t:TypeId} {x i:Operand} {co:List Jk} {v:V} {b:BL} (h:o.op=.indexAddr t x i)
  (hv:CE (A.ty t) bl (opd sl x) (opd sl i)=some (co,v,b)) (hk:∀ k ∈ co,k.ok):Jo P w0 F0 sl a w o v b:=by
 have hx:=JJ hs x
 have hi:=JJ hs i
 unfold CE at hv
 split at hv
 ·rename_i n hn
  obtain ⟨ki,hie⟩:=HB hn hi
  split at hv
  ·rename_i e hty
   obtain ⟨d,hd,hdk⟩:=(HT t (by rw [hty];simp)).desc
   rw [hty] at hdk
   obtain ⟨te,rfl,hte,hne⟩:=Us hdk
   have hTe:=HT te (by rw [hte];exact hne)
   have run:∀ (ad:Addr) (len cap:Nat),a.eval x=.slice (some ad) len cap→0≤n∧n<len→(execOp a.eval o).run P w=.ok (.value (.pointer (some (ad.add (n.toNat * e.size))))) w:=by
    intro ad len cap he hb
    simp only [execOp,h,he,hie,Instr.indexAt,asIntOf,Sem.run_bind,Sem.run_pure,QO hd,Result.andThen_ok]
    simp only [hb,and_self,if_true,Sem.run_bind,H5 hTe,Result.andThen_ok,Sem.run_pure,hte]
   split at hv
   ·rename_i e' l hxe
    split at hv
    ·rename_i hbeq
     have hee:=Ty.beq_eq _ _ hbeq
     subst hee
     simp only [oj,pj] at hv
     obtain ⟨rfl,rfl,rfl⟩:=hv
     have hb:0≤n∧n<l.length:=hk (.ix n l.length) (by simp)
     rw [hxe] at hx
     have hx':=(JM rfl (by simp) (by simp)).1 hx
     unfold InV at hx'
     obtain ⟨_,hp,Ad,cap,F',h1,h2,h3⟩:=hx'
     simp only [List.cons.injEq,and_true] at h1
     obtain ⟨ad,hA,hrp⟩:=MM (E:=Ja w bl G []) (i:=n.toNat) hp h2 h3 (by omega)
     subst hA
     exact Jo.pure hc hs (run ad _ _ h1 hb) ((JM rfl (by simp) (by simp)).2 hrp)
    ·simp at hv
   ·rename_i s p e1 hxe
    split at hv
    ·rename_i c' e' l hg
     split at hv
     ·rename_i hbeq
      have hee:=Ty.beq_eq _ _ hbeq
      subst hee
      simp only [oj,pj] at hv
      obtain ⟨rfl,rfl,rfl⟩:=hv
      have hk1:∀ k ∈ c',k.ok:=fun k hk'=>hk k (by rw [Ju];exact .inl hk')
      have hb:0≤n∧n<l.length:=hk (.ix n l.length) (by rw [Ju];simp)
      rw [hxe] at hx
      obtain ⟨c0,rc,F,i1,i2,i3,Lx,csx,Fx,i4,i5,i6,i7,i8,i9⟩:=Uy hc hg hk1
      have hh:=H6 hx i1 i2 i4 rfl
      unfold InV at i5
      obtain ⟨hp,Ad,cap,h1,h2⟩:=i5
      rw [h1] at i6
      rw [show (Ja w bl G []).w=w from rfl,JL i6] at hh
      simp only [oj] at hh
      rcases h2 with ⟨g1,_⟩ | ⟨ad,cs,F',g1,g2,g3,g4,g5,g6,_⟩
      ·subst g1;simp at hb;omega
      ·subst g1
       refine Jo.pure hc hs (run ad _ _ hh.symm hb) ?_
       rw [JM rfl (by simp) (by simp)]
       unfold InV
       refine ⟨rfl,⟨_,rfl⟩,fun c1 rc1 F1 k1 k2 z L hz=>?_⟩
       rw [show (Ja w bl G []).bl=bl from rfl,i1] at k1;cases k1
       rw [show (Ja w bl G []).G=G from rfl,i2] at k2;cases k2
       rw [Qd,U8,show (Ja w bl G []).w=w from rfl,i4] at hz
       have hlt:n.toNat<l.length:=by omega
       simp only [ob,Jf,hlt,if_true,show (Ja w bl G []).w=w from rfl,JL i6,oj,pj] at hz
       exact ⟨_,hz.2.symm,rfl⟩
     ·simp at hv
    ·unfold W7 at hv
     split at hv
     ·split at hv
      ·rename_i e2 l i0 hlk
       split at hv
       ·rename_i hbeq
        have hee:=Ty.beq_eq _ _ hbeq
        subst hee
        simp only [oj,pj] at hv
        obtain ⟨rfl,rfl,rfl⟩:=hv
        have hb:0≤n∧n<l.length:=hk (.ix n l.length) (by simp)
        rw [hxe] at hx
        obtain ⟨rc,F,F1,g1,g2,g3,g4,g5⟩:=hc.ok.root s _ hlk
        have hh:=H6 hx hlk g1 rfl rfl
        unfold InV at g2
        obtain ⟨hi0,hp,ad,cap,c1,v0,c2,K1,K2,hcs,_⟩:=g2
        have hhd:(Ji.reg rc).head w=some (.slice (some ad) l.length cap):=by rw [hcs];rfl
        rw [show (Ja w bl G []).w=w from rfl,hhd] at hh
        simp only [oj] at hh
        refine Jo.pure hc hs (run ad _ _ hh.symm hb) ?_
        rw [JM rfl (by simp) (by simp)]
        unfold InV
        refine ⟨rfl,⟨_,rfl⟩,fun c1' rc1 F1' k1 k2 z L hz=>?_⟩
        rw [show (Ja w bl G []).bl=bl from rfl,hlk] at k1;cases k1
        rw [show (Ja w bl G []).G=G from rfl,g1] at k2;cases k2
        have hlt:n.toNat<l.length:=by omega
        simp only [Jf,hlt,if_true,show (Ja w bl G []).w=w from rfl,hhd,oj,pj] at hz
        exact ⟨_,hz.2.symm,rfl⟩
       ·simp at hv
      ·simp at hv
     ·simp at hv
   ·rename_i s p off len e1 hxe
    split at hv
    ·rename_i c' e' l hg
     split at hv
     ·rename_i hbeq
      rw [Je] at hbeq
      have hee:=Ty.beq_eq _ _ hbeq.1
      have hee1:=Ty.beq_eq _ _ hbeq.2
      subst hee;subst hee1
      simp only [oj,pj] at hv
      obtain ⟨rfl,rfl,rfl⟩:=hv
      have hk1:∀ k ∈ c',k.ok:=fun k hk'=>hk k (by rw [Ju];exact .inl hk')
      have hb:0≤n∧n<len:=hk (.ix n len) (by rw [Ju];simp)
      have hb2:off + len≤l.length:=hk (.le (off + len) l.length) (by rw [Ju];simp)
      rw [hxe] at hx
      obtain ⟨c0,rc,F,i1,i2,i3,Lx,csx,Fx,i4,i5,i6,i7,i8,i9⟩:=Uy hc hg hk1
      obtain ⟨Ah,nn,k,A',h3,h4,h5,h6⟩:=Wi hx i1 i2 i4 rfl
      unfold InV at i5
      obtain ⟨hp,Ad,cap,h1,h2⟩:=i5
      rw [h1] at i6
      rw [show (Ja w bl G []).w=w from rfl,JL i6] at h3
      simp only [oj,Value.slice.injEq] at h3
      obtain ⟨rfl,rfl,rfl⟩:=h3
      have hoc:off<cap:=by omega
      obtain ⟨ad,g1,g2⟩:=h6 hoc
      subst g1;subst g2
      refine Jo.pure hc hs (run _ _ _ h5 hb) ?_
      rw [JM rfl (by simp) (by simp)]
      unfold InV
      refine ⟨rfl,⟨_,rfl⟩,fun c1 rc1 F1 k1 k2 z L hz=>?_⟩
      rw [show (Ja w bl G []).bl=bl from rfl,i1] at k1;cases k1
      rw [show (Ja w bl G []).G=G from rfl,i2] at k2;cases k2
      rw [Qd,U8,show (Ja w bl G []).w=w from rfl,i4] at hz
      have hlt:off + n.toNat<l.length:=by omega
      simp only [ob,Jf,hlt,if_true,show (Ja w bl G []).w=w from rfl,JL i6,oj,pj] at hz
      exact ⟨_,hz.2.symm,by rw [Hh,Nat.add_mul]⟩
     ·simp at hv
    ·simp at hv
   ·simp at hv
  ·rename_i m e hty
   obtain ⟨d,hd,hdk⟩:=(HT t (by rw [hty];simp)).desc
   rw [hty] at hdk
   obtain ⟨te,rfl,hte,hne⟩:=Mu hdk
   have hTe:=HT te (by rw [hte];exact hne)
   have run:∀ (ad:Addr),a.eval x=.pointer (some ad)→0≤n∧n<m→(execOp a.eval o).run P w=.ok (.value (.pointer (some (ad.add (n.toNat * e.size))))) w:=by
    intro ad he hb
    simp only [execOp,h,he,hie,Instr.indexAt,asIntOf,Sem.run_bind,Sem.run_pure,QO hd,Result.andThen_ok,Instr.sureAddr]
    simp only [hb,and_self,if_true,Sem.run_bind,H5 hTe,Result.andThen_ok,Sem.run_pure,hte]
   split at hv
   ·rename_i s p hxe
    split at hv
    ·rename_i c' m' e' l hg
     split at hv
     ·rename_i hbeq
      rw [Je] at hbeq
      have hee:=Ty.beq_eq _ _ hbeq.2
      have hmm:=Nat.eq_of_beq_eq_true hbeq.1
      subst hee;subst hmm
      simp only [oj,pj] at hv
      obtain ⟨rfl,rfl,rfl⟩:=hv
      have hk1:∀ k ∈ c',k.ok:=fun k hk'=>hk k (by rw [Ju];exact .inl hk')
      have hb:0≤n∧n<m:=hk (.ix n m) (by rw [Ju];simp)
      rw [hxe] at hx
      obtain ⟨c0,rc,F,i1,i2,i3,Lx,csx,Fx,i4,i5,i6,i7,i8,i9⟩:=Uy hc hg hk1
      obtain ⟨ad,e1,e2⟩:=C7 hx i1 i2 i4
      subst e1
      unfold InV at i5
      refine Jo.pure hc hs (run ad e2 hb) ?_
      rw [JM rfl (by simp) (by simp)]
      unfold InV
      refine ⟨rfl,⟨_,rfl⟩,fun c1 rc1 F1 k1 k2 z L hz=>?_⟩
      rw [show (Ja w bl G []).bl=bl from rfl,i1] at k1;cases k1
      rw [show (Ja w bl G []).G=G from rfl,i2] at k2;cases k2
      rw [Qd,U8,show (Ja w bl G []).w=w from rfl,i4] at hz
      have hlt:n.toNat<l.length:=by rw [i5.1];omega
      simp only [ob,Jf,hlt,if_true,Ji.shift,oj,pj] at hz
      exact ⟨_,hz.2.symm,rfl⟩
     ·simp at hv
    ·simp at hv
   ·rename_i m' e' l hxe
    split at hv
    ·rename_i hbeq
     rw [Je] at hbeq
     have hee:=Ty.beq_eq _ _ hbeq.2
     have hmm:=Nat.eq_of_beq_eq_true hbeq.1
     subst hee;subst hmm
     simp only [oj,pj] at hv
     obtain ⟨rfl,rfl,rfl⟩:=hv
     have hb:0≤n∧n<m:=hk (.ix n m) (by simp)
     rw [hxe] at hx
     have hx':=(JM rfl (by simp) (by simp)).1 hx
     unfold InV at hx'
     obtain ⟨_,ad,cs',h1,h2,h3,h4⟩:=hx'
     simp only [List.cons.injEq,and_true] at h1
     unfold InV at h2
     obtain ⟨hn',hfl,hr⟩:=h2
     obtain ⟨c1,c,c2,F1,Fi,F2,e1,e2,e3,e4,e5⟩:=U4 (fun d c G hd=>Qn e hd) hr (j:=n.toNat) (by rw [hn'];omega)
     subst e1
     have hF:=List.append_eq_nil_iff.1 e2.symm
     have hF':=List.append_eq_nil_iff.1 hF.2
     rw [hF'.1] at e4
     refine Jo.pure hc hs (run ad h1 hb) ?_
     rw [JM rfl (by simp) (by simp)]
     unfold InV
     refine ⟨rfl,_,c,rfl,Xe e (Hi e hfl) (F:=[]) (by simp) (OA e e4),?_,by rw [Q1];exact h4⟩
     have:=QK (L:=.mem ad) (w:=w) (c1:=c1) (c:=c) (c2:=c2) h3
     rw [e3] at this
     exact this
    ·simp at hv
   ·simp at hv
  ·simp at hv
 ·simp at hv
end
end Go.Rai
namespace Go.Rai
variable [Inhabited Qk]
section
variable {P:Program} {A:Ann} {w w0:World} {F0:List Nat} {sl:List V} {a:Act} {bl:BL} {G:GT} {o:Oper}
theorem H7 {E:Env} (hs:Jy E sl a) (x:Option Operand) {v:V} (h:QT sl x=some v):∃ y,x=some y∧Val E v (a.eval y) []:=by
 cases x with
 | none=>simp [QT] at h
 | some y=>simp only [QT,oj] at h;subst h;exact ⟨y,rfl,JJ hs y⟩
theorem Wk {E:Env} (hs:Jy E sl a) {n m:Nat} {lo hi:Option Operand} {c:List Jk} {l h:Nat} (hv:Cj n (QT sl lo) (QT sl hi)=some (c,l,h)) (hk:∀ k ∈ c,k.ok) (hm:n≤m) (b:Bool) :
  (Instr.sliceBounds b n m (lo.map a.eval) (hi.map a.eval) none).run P w=.ok (l,h,m) w∧l≤h∧h≤n:=by
 unfold Cj at hv
 split at hv
 ·rename_i e1 e2
  simp only [oj,pj] at hv
  obtain ⟨rfl,rfl,rfl⟩:=hv
  cases lo with
  | some _=>simp [QT] at e1
  | none=>cases hi with
   | some _=>simp [QT] at e2
   | none=>exact ⟨by simp [Instr.sliceBounds],by omega,by omega⟩
 ·rename_i v e1 e2
  split at hv
  ·rename_i i hi'
   simp only [oj,pj] at hv
   obtain ⟨rfl,rfl,rfl⟩:=hv
   obtain ⟨y,rfl,hy⟩:=H7 hs lo e1
   obtain ⟨kk,hy⟩:=HB hi' hy
   have hb:0≤i∧i≤(n:Int)∧(n:Int)≤n:=hk (.bd i n n) (by simp)
   cases hi with
   | some _=>simp [QT] at e2
   | none=>exact ⟨by simp [Instr.sliceBounds,Instr.sliceBound,asIntOf,hy,hb.1,hb.2.1],by omega,by omega⟩
  ·simp at hv
 ·rename_i v e1 e2
  split at hv
  ·rename_i i hi'
   simp only [oj,pj] at hv
   obtain ⟨rfl,rfl,rfl⟩:=hv
   obtain ⟨y,rfl,hy⟩:=H7 hs hi e2
   obtain ⟨kk,hy⟩:=HB hi' hy
   have hb:(0:Int)≤0∧0≤i∧i≤n:=hk (.bd 0 i n) (by simp)
   have hb2:i≤(m:Int):=by omega
   cases lo with
   | some _=>simp [QT] at e1
   | none=>exact ⟨by simp [Instr.sliceBounds,Instr.sliceBound,asIntOf,hy,hb.2.1,hb2],by omega,by omega⟩
  ·simp at hv
 ·rename_i v1 v2 e1 e2
  split at hv
  ·rename_i i j hi' hj'
   simp only [oj,pj] at hv
   obtain ⟨rfl,rfl,rfl⟩:=hv
   obtain ⟨y,rfl,hy⟩:=H7 hs lo e1
   obtain ⟨z,rfl,hz⟩:=H7 hs hi e2
   obtain ⟨kk,hy⟩:=HB hi' hy
   obtain ⟨kk2,hz⟩:=HB hj' hz
   have hb:0≤i∧i≤j∧j≤n:=hk (.bd i j n) (by simp)
   have hb2:j≤(m:Int):=by omega
   have hb3:0≤j:=by omega
   have hb4:i≤max j 0:=by omega
   exact ⟨by simp [Instr.sliceBounds,Instr.sliceBound,asIntOf,hy,hz,hb.1,hb3,hb2,hb4],by omega,by omega⟩
  ·simp at hv
theorem MO {E:Env} (hs:Jy E sl a) {n n' m:Nat} {lo hi:Option Operand} {z:V} {c:List Jk} {l h:Nat} (hz:QT sl hi=some z) (hv:Cj n' (QT sl lo) (some z)=some (c,l,h)) (hk:∀ k ∈ c,k.ok) (hm:n'≤m) (b:Bool) :
  (Instr.sliceBounds b n m (lo.map a.eval) (hi.map a.eval) none).run P w=.ok (l,h,m) w∧l≤h∧h≤n':=by
 obtain ⟨y,rfl,hy⟩:=H7 hs hi hz
 unfold Cj at hv
 split at hv
 ·rename_i e1 e2
  cases e2
 ·rename_i v e1 e2
  cases e2
 ·rename_i v e1 e2
  cases e2
  split at hv
  ·rename_i i hi'
   simp only [oj,pj] at hv
   obtain ⟨rfl,rfl,rfl⟩:=hv
   obtain ⟨kk,hy⟩:=HB hi' hy
   have hb:(0:Int)≤0∧0≤i∧i≤n':=hk (.bd 0 i n') (by simp)
   have hb2:i≤(m:Int):=by omega
   cases lo with
   | some _=>simp [QT] at e1
   | none=>exact ⟨by simp [Instr.sliceBounds,Instr.sliceBound,asIntOf,hy,hb.2.1,hb2],by omega,by omega⟩
  ·simp at hv
 ·rename_i v1 v2 e1 e2
  cases e2
  split at hv
  ·rename_i i j hi' hj'
   simp only [oj,pj] at hv
   obtain ⟨rfl,rfl,rfl⟩:=hv
   obtain ⟨x,rfl,hx⟩:=H7 hs lo e1
   obtain ⟨kk,hx⟩:=HB hi' hx
   obtain ⟨kk2,hy⟩:=HB hj' hy
   have hb:0≤i∧i≤j∧j≤n':=hk (.bd i j n') (by simp)
   have hb2:j≤(m:Int):=by omega
   have hb3:0≤j:=by omega
   have hb4:i≤max j 0:=by omega
   exact ⟨by simp [Instr.sliceBounds,Instr.sliceBound,asIntOf,hx,hy,hb.1,hb3,hb2,hb4],by omega,by omega⟩
  ·simp at hv
theorem MP {E:Env} (hs:Jy E sl a) {n cap len:Nat} {lo hi mx:Option Operand} {x y z:V} {l h m:Int} (hx:QT sl lo=some x) (hy:QT sl hi=some y) (hz:QT sl mx=some z)
  (hl:Uv x=some l) (hh:Uv y=some h) (hm:Uv z=some m) (h1:0≤l∧l≤h∧h≤len) (h2:0≤h∧h≤m∧m≤len) (hc:len≤cap) :
  (Instr.sliceBounds true n cap (lo.map a.eval) (hi.map a.eval) (mx.map a.eval)).run P w=.ok (l.toNat,h.toNat,m.toNat) w:=by
 obtain ⟨ox,rfl,vx⟩:=H7 hs lo hx
 obtain ⟨oy,rfl,vy⟩:=H7 hs hi hy
 obtain ⟨oz,rfl,vz⟩:=H7 hs mx hz
 obtain ⟨k1,vx⟩:=HB hl vx
 obtain ⟨k2,vy⟩:=HB hh vy
 obtain ⟨k3,vz⟩:=HB hm vz
 have a1:m≤(cap:Int):=by omega
 have a2:0≤m:=by omega
 have a3:h≤max m 0:=by omega
 have a4:l≤max h 0:=by omega
 simp [Instr.sliceBounds,Instr.sliceBound,asIntOf,vx,vy,vz,a1,a2,a3,a4,h1.1,h2.1]
theorem T4 {Ad:Option Addr} {cap l sz:Nat} (h:l<cap→∃ a,Ad=some a):l<cap→∃ a,Ad=some a∧(if cap=l then Ad else Ad.map (·.add (l * sz)))=some (a.add (l * sz)):=by
 intro hl
 obtain ⟨a,ha⟩:=h hl
 exact ⟨a,ha,by rw [if_neg (by omega),ha];rfl⟩
theorem Xr {o:Bool} {w:World} {R:D→List Value→List Nat→Prop} {sz:Nat} {A:Option Addr} {c:Nat} {l:List D} {F:List Nat} (h:UI o w R sz A c l F):l.length≤c:=by
 rcases h with ⟨g1,g2,_⟩ | ⟨_,_,_,_,_,_,_,g5,_⟩
 ·subst g1;simp
 ·exact g5
theorem T5 {v:V} (h:W5 v=true) {E:Env} {u:Value} (hv:Val E v u []):∃ k,u=.int k 0:=by
 unfold W5 at h
 split at h
 ·rename_i k n
  split at h
  ·rename_i m
   have:=Nat.eq_of_beq_eq_true h
   subst this
   exact ⟨k,(Qg.1 hv).1⟩
  ·simp at h
 ·simp at h
theorem MQ (HT:JN P A.ty) (hc:JX w bl G w0 F0) (hs:Jy (Ja w bl G []) sl a) {t:TypeId} {x:Operand} {lo hi mx:Option Operand} {co:List Jk} {v:V} {b:BL} (h:o.op=.slice t x lo hi mx)
  (hv:O6 (A.ty t) bl (opd sl x) (QT sl lo) (QT sl hi) (QT sl mx)=some (co,v,b)) (hk:∀ k ∈ co,k.ok):Jo P w0 F0 sl a w o v b:=by
 have hx:=JJ hs x
 have slc:∀ te (l hh m:Nat) Ad n cap,P.underlying t=some (.slice te)→U6 P A.ty te→a.eval x=.slice Ad n cap→(Instr.sliceBounds true n cap (lo.map a.eval) (hi.map a.eval) (mx.map a.eval)).run P w=.ok (l,hh,m) w →
   (execOp a.eval o).run P w=.ok (.value (.slice (if m=l then Ad else Ad.map (·.add (l * (A.ty te).size))) (hh - l) (m - l))) w:=by
  intro te l hh m Ad n cap hd hT he hb
  simp only [execOp,h,he,Instr.sliceAt,Sem.run_bind,QO hd,Result.andThen_ok,Instr.slice]
  simp [hb,H5 hT]
 unfold O6 at hv
 split at hv
 ·rename_i m hm
  split at hv
  ·rename_i hv' e1 e2
   split at hv
   ·rename_i hz
    simp only [Je] at hz
    obtain ⟨hzt,hzm,hzh⟩:=hz
    obtain ⟨ym,rfl,hym⟩:=H7 hs mx hm
    obtain ⟨yh,rfl,hyh⟩:=H7 hs hi e2
    obtain ⟨k1,hym⟩:=T5 hzm hym
    obtain ⟨k2,hyh⟩:=T5 hzh hyh
    obtain ⟨e,hty⟩:∃ e,A.ty t=.slice e:=by cases hq:A.ty t<;>simp [hq,UF] at hzt;exact ⟨_,rfl⟩
    obtain ⟨d,hd,hdk⟩:=(HT t (by rw [hty];simp)).desc
    rw [hty] at hdk
    obtain ⟨te,rfl,hte,hne⟩:=Us hdk
    have hT:=HT te (by rw [hte];exact hne)
    have hlo:lo=none:=by
     cases lo with
     | none=>rfl
     | some _=>simp [QT] at e1
    subst hlo
    have hbd:∀ n cap,(Instr.sliceBounds true n cap (Option.map a.eval none) (Option.map a.eval (some yh)) (Option.map a.eval (some ym))).run P w=.ok (0,0,0) w:=by
     intro n cap
     simp [Instr.sliceBounds,Instr.sliceBound,asIntOf,hym,hyh]
    split at hv
    ·rename_i u hu
     simp only [oj,pj] at hv
     obtain ⟨rfl,rfl,rfl⟩:=hv
     have fin:∀ Ad n cap,a.eval x=.slice Ad n cap→∀ e',u=.emp e'→Jo P w0 F0 sl a w o u bl:=by
      intro Ad n cap he e' hue
      subst hue
      refine Jo.pure hc hs (slc te 0 0 0 Ad n cap hd hT he (hbd n cap)) ?_
      rw [JM rfl (by simp) (by simp)]
      unfold InV
      exact ⟨⟨Ad,by simp⟩,rfl⟩
     unfold Ti at hu
     split at hu<;>(try simp only [oj] at hu)<;>(try subst hu)
     ·rename_i hxe
      rw [hxe] at hx
      have hx':=(JM rfl (by simp) (by simp)).1 hx
      unfold InV at hx'
      simp only [List.cons.injEq,and_true] at hx'
      refine Jo.pure hc hs (slc te 0 0 0 none 0 0 hd hT hx' (hbd 0 0)) ?_
      rw [JM rfl (by simp) (by simp)]
      unfold InV
      exact ⟨by simp,rfl⟩
     ·rename_i e' hxe
      rw [hxe] at hx
      have hx':=(JM rfl (by simp) (by simp)).1 hx
      unfold InV at hx'
      obtain ⟨⟨Ad,hx'⟩,_⟩:=hx'
      simp only [List.cons.injEq,and_true] at hx'
      exact fin _ _ _ hx' _ rfl
     ·rename_i e' l hxe
      rw [hxe] at hx
      have hx':=(JM rfl (by simp) (by simp)).1 hx
      unfold InV at hx'
      obtain ⟨_,_,Ad,cap,F',hx',_⟩:=hx'
      simp only [List.cons.injEq,and_true] at hx'
      exact fin _ _ _ hx' _ rfl
     ·rename_i s p e' hxe
      rw [hxe] at hx
      have hx':=(JM rfl (by simp) (by simp)).1 hx
      unfold InV at hx'
      obtain ⟨_,⟨Ad,n,k,hx'⟩,_⟩:=hx'
      simp only [List.cons.injEq,and_true] at hx'
      exact fin _ _ _ hx' _ rfl
     ·rename_i s p off len e' hxe
      rw [hxe] at hx
      have hx':=(JM rfl (by simp) (by simp)).1 hx
      unfold InV at hx'
      obtain ⟨_,⟨Ad,k,hx',_⟩,_⟩:=hx'
      simp only [List.cons.injEq,and_true] at hx'
      exact fin _ _ _ hx' _ rfl
     ·simp at hu
    ·simp at hv
   ·simp at hv
  ·rename_i xl xh e1 e2
   split at hv
   ·rename_i hst
    split at hv
    ·rename_i l hl
     split at hv
     ·rename_i hh' hhi
      split at hv
      ·rename_i m' hmi
       split at hv
       ·rename_i s p e0 hxe
        split at hv
        ·rename_i c' e xs hg
         split at hv
         ·rename_i hfit
          simp only [oj,pj] at hv
          obtain ⟨rfl,rfl,rfl⟩:=hv
          obtain ⟨e',hty,hee⟩:∃ e',A.ty t=.slice e'∧e'=e:=by
           cases hq:A.ty t<;>simp [hq,Jq] at hfit
           exact ⟨_,rfl,Ty.beq_eq _ _ hfit⟩
          subst hee
          obtain ⟨d,hd,hdk⟩:=(HT t (by rw [hty];simp)).desc
          rw [hty] at hdk
          obtain ⟨te,rfl,hte,hne⟩:=Us hdk
          have hk1:∀ k ∈ c',k.ok:=fun k hk'=>hk k (by rw [Ju];exact .inl hk')
          have q1:0≤l∧l≤hh'∧hh'≤(xs.length:Int):=hk (.bd l hh' xs.length) (by rw [Ju];exact .inr (by simp))
          have q2:0≤hh'∧hh'≤m'∧m'≤(xs.length:Int):=hk (.bd hh' m' xs.length) (by rw [Ju];exact .inr (by simp))
          rw [hxe] at hx
          obtain ⟨c0,rc,F,i1,i2,i3,Lx,csx,Fx,i4,i5,i6,i7,i8,i9⟩:=Uy hc hg hk1
          have hh2:=H6 hx i1 i2 i4 rfl
          unfold InV at i5
          obtain ⟨hp,Ad,cap,h1,h2⟩:=i5
          rw [h1] at i6
          rw [show (Ja w bl G []).w=w from rfl,JL i6] at hh2
          simp only [oj] at hh2
          have hcap:xs.length≤cap:=Xr h2
          exact Jo.pure hc hs (slc te _ _ _ Ad _ cap hd (HT te (by rw [hte];exact hne)) hh2.symm (MP hs e1 e2 hm hl hhi hmi q1 q2 hcap)) Cq
         ·simp at hv
        ·simp at hv
       ·simp at hv
      ·simp at hv
     ·simp at hv
    ·simp at hv
   ·simp at hv
  ·simp at hv
 ·rename_i hmx
  have hmx':mx=none:=by
   cases mx with
   | none=>rfl
   | some _=>simp [QT] at hmx
  subst hmx'
  split at hv
  ·rename_i s hxe
   split at hv
   ·rename_i hty
    split at hv
    ·rename_i c l hh hb
     simp only [oj,pj] at hv
     obtain ⟨rfl,rfl,rfl⟩:=hv
     obtain ⟨d,hd,hdk⟩:=(HT t (by rw [hty];simp)).desc
     rw [hty] at hdk
     have:=CK hdk;subst this
     rw [hxe] at hx
     obtain ⟨hx,_⟩:=HA.1 hx
     obtain ⟨hrun,h1,h2⟩:=Wk (P:=P) (w:=w) hs hb hk (Nat.le_refl _) false
     refine Jo.pure hc hs (vv:=.string (s.extract l hh)) ?_ (HA.2 ⟨rfl,rfl⟩)
     simp only [execOp,h,hx,Instr.sliceAt,Sem.run_bind,QO hd,Result.andThen_ok,Instr.slice]
     simp [hrun]
    ·simp at hv
   ·simp at hv
  ·rename_i hxe
   split at hv
   ·rename_i hst
    split at hv
    ·rename_i c l hh hb
     simp only [oj,pj] at hv
     obtain ⟨rfl,rfl,rfl⟩:=hv
     obtain ⟨e,hty⟩:∃ e,A.ty t=.slice e:=by cases hq:A.ty t<;>simp [hq,UF] at hst;exact ⟨_,rfl⟩
     obtain ⟨d,hd,hdk⟩:=(HT t (by rw [hty];simp)).desc
     rw [hty] at hdk
     obtain ⟨te,rfl,hte,hne⟩:=Us hdk
     rw [hxe] at hx
     have hx':=(JM rfl (by simp) (by simp)).1 hx
     unfold InV at hx'
     simp only [List.cons.injEq,and_true] at hx'
     obtain ⟨hrun,hl1,hl2⟩:=Wk (P:=P) (w:=w) hs hb hk (Nat.le_refl 0) true
     have hl0:l=0:=by omega
     have hh0:hh=0:=by omega
     subst hl0 hh0
     refine Jo.pure hc hs (slc te 0 0 0 none 0 0 hd (HT te (by rw [hte];exact hne)) hx' hrun) ?_
     rw [JM rfl (by simp) (by simp)]
     unfold InV
     exact ⟨by simp,rfl⟩
    ·simp at hv
   ·simp at hv
  ·rename_i e xs hxe
   split at hv
   ·rename_i hfit
    split at hv
    ·rename_i c l hh hb
     simp only [oj,pj] at hv
     obtain ⟨rfl,rfl,rfl⟩:=hv
     obtain ⟨e',hty,hee⟩:∃ e',A.ty t=.slice e'∧e'=e:=by
      rw [hxe] at hfit
      cases hq:A.ty t<;>simp [hq,Jq] at hfit
      exact ⟨_,rfl,Ty.beq_eq _ _ hfit⟩
     subst hee
     obtain ⟨d,hd,hdk⟩:=(HT t (by rw [hty];simp)).desc
     rw [hty] at hdk
     obtain ⟨te,rfl,hte,hne⟩:=Us hdk
     rw [hxe] at hx
     have hx':=(JM rfl (by simp) (by simp)).1 hx
     unfold InV at hx'
     obtain ⟨_,hp,Ad,cap,F',h1,h2,h3⟩:=hx'
     simp only [List.cons.injEq,and_true] at h1
     have hcap:xs.length≤cap:=Xr h2
     obtain ⟨hrun,hl1,hl2⟩:=Wk (P:=P) (w:=w) hs hb hk hcap true
     have hAd:l<cap→∃ a,Ad=some a:=by
      intro hl
      rcases h2 with ⟨_,g2,_⟩ | ⟨ad,_,_,g1,_⟩
      ·omega
      ·exact ⟨ad,g1⟩
     obtain ⟨F'',k1,k2,_⟩:=Xq (off:=l) (len:=hh - l) (fun d c G hd=>Qn _ hd) h2 (by omega) (T4 hAd)
     refine Jo.pure hc hs (slc te l hh cap Ad _ cap hd (HT te (by rw [hte];exact hne)) h1 hrun) ?_
     rw [JM rfl (by simp) (by simp)]
     unfold InV
     refine ⟨rfl,hp,_,_,F'',?_,k1,fun b hb=>h3 b (k2 b hb)⟩
     simp [hte];omega
    ·simp at hv
   ·simp at hv
  ·rename_i s p e1 hxe
   split at hv
   ·rename_i c' e xs hg
    split at hv
    ·rename_i hfit
     split at hv
     ·rename_i c l hh hb
      simp only [oj,pj] at hv
      obtain ⟨rfl,rfl,rfl⟩:=hv
      obtain ⟨e',hty,hee⟩:∃ e',A.ty t=.slice e'∧e'=e:=by
       cases hq:A.ty t<;>simp [hq,Jq] at hfit
       exact ⟨_,rfl,Ty.beq_eq _ _ hfit⟩
      subst hee
      obtain ⟨d,hd,hdk⟩:=(HT t (by rw [hty];simp)).desc
      rw [hty] at hdk
      obtain ⟨te,rfl,hte,hne⟩:=Us hdk
      have hk1:∀ k ∈ c',k.ok:=fun k hk'=>hk k (by rw [Ju];exact .inl hk')
      have hk2:∀ k ∈ c,k.ok:=fun k hk'=>hk k (by rw [Ju];exact .inr hk')
      rw [hxe] at hx
      obtain ⟨c0,rc,F,i1,i2,i3,Lx,csx,Fx,i4,i5,i6,i7,i8,i9⟩:=Uy hc hg hk1
      have hh2:=H6 hx i1 i2 i4 rfl
      unfold InV at i5
      obtain ⟨hp,Ad,cap,h1,h2⟩:=i5
      rw [h1] at i6
      rw [show (Ja w bl G []).w=w from rfl,JL i6] at hh2
      simp only [oj] at hh2
      have hcap:xs.length≤cap:=Xr h2
      obtain ⟨hrun,hl1,hl2⟩:=Wk (P:=P) (w:=w) hs hb hk2 hcap true
      have hAd:l<cap→∃ a,Ad=some a:=by
       intro hl
       rcases h2 with ⟨_,g2,_⟩ | ⟨ad,_,_,g1,_⟩
       ·omega
       ·exact ⟨ad,g1⟩
      refine Jo.pure hc hs (slc te l hh cap Ad _ cap hd (HT te (by rw [hte];exact hne)) hh2.symm hrun) ?_
      rw [JM rfl (by simp) (by simp)]
      unfold InV
      refine ⟨rfl,⟨_,_,rfl,by omega⟩,fun c1 rc1 F1 k1 k2 z L hz ho=>?_⟩
      rw [show (Ja w bl G []).bl=bl from rfl,i1] at k1;cases k1
      rw [show (Ja w bl G []).G=G from rfl,i2] at k2;cases k2
      rw [show (Ja w bl G []).w=w from rfl,i4] at hz;cases hz
      exact ⟨Ad,xs.length,cap,_,JL i6,by omega,rfl,by rw [hte];exact T4 hAd⟩
     ·simp at hv
    ·simp at hv
   ·simp at hv
  ·rename_i s p off len e1 hxe
   split at hv
   ·rename_i hfit
    split at hv
    ·rename_i hhi
     split at hv
     ·rename_i c l hh hb
      simp only [oj,pj] at hv
      obtain ⟨rfl,rfl,rfl⟩:=hv
      obtain ⟨e',hty,hee⟩:∃ e',A.ty t=.slice e'∧e'=e1:=by
       rw [hxe] at hfit
       cases hq:A.ty t<;>simp [hq,Jq] at hfit
       exact ⟨_,rfl,Ty.beq_eq _ _ hfit⟩
      subst hee
      obtain ⟨d,hd,hdk⟩:=(HT t (by rw [hty];simp)).desc
      rw [hty] at hdk
      obtain ⟨te,rfl,hte,hne⟩:=Us hdk
      rw [hxe] at hx
      have hx':=(JM rfl (by simp) (by simp)).1 hx
      unfold InV at hx'
      obtain ⟨_,⟨Ad,k,h1,h2⟩,h3⟩:=hx'
      simp only [List.cons.injEq,and_true] at h1
      obtain ⟨hrun,hl1,hl2⟩:=Wk (P:=P) (w:=w) (lo:=lo) (hi:=hi) hs (by rw [hhi];exact hb) hk h2 true
      refine Jo.pure hc hs (slc te l hh k Ad _ k hd (HT te (by rw [hte];exact hne)) h1 hrun) ?_
      rw [JM rfl (by simp) (by simp)]
      unfold InV
      refine ⟨rfl,⟨_,_,rfl,by omega⟩,fun c1 rc1 F1 k1 k2 z L hz ho=>?_⟩
      obtain ⟨A0,n0,k0,A',g1,g2,g3,g4⟩:=h3 c1 rc1 F1 k1 k2 z L hz ho
      rw [h1] at g3
      simp only [List.cons.injEq,Value.slice.injEq,and_true] at g3
      obtain ⟨rfl,_,rfl⟩:=g3
      refine ⟨A0,n0,k0,_,g1,by omega,by rw [Nat.sub_sub],fun hlt=>?_⟩
      obtain ⟨ad,q1,q2⟩:=g4 (by omega)
      refine ⟨ad,q1,?_⟩
      rw [if_neg (by omega),q2,hte]
      simp only [Option.map_some,Hh,Nat.add_mul]
     ·simp at hv
    ·rename_i zhi hhi
     split at hv
     ·rename_i c' ee xs hg
      split at hv
      ·rename_i hbe
       split at hv
       ·rename_i c l hh hb
        simp only [oj,pj] at hv
        obtain ⟨rfl,rfl,rfl⟩:=hv
        obtain ⟨e',hty,hee⟩:∃ e',A.ty t=.slice e'∧e'=e1:=by
         rw [hxe] at hfit
         cases hq:A.ty t<;>simp [hq,Jq] at hfit
         exact ⟨_,rfl,Ty.beq_eq _ _ hfit⟩
        subst hee
        obtain ⟨d,hd,hdk⟩:=(HT t (by rw [hty];simp)).desc
        rw [hty] at hdk
        obtain ⟨te,rfl,hte,hne⟩:=Us hdk
        rw [hxe] at hx
        have hx':=(JM rfl (by simp) (by simp)).1 hx
        unfold InV at hx'
        obtain ⟨_,⟨Ad,k,h1,h2⟩,h3⟩:=hx'
        have hk1:∀ k ∈ c',k.ok:=fun k hk'=>hk k (by rw [Ju];exact .inl hk')
        have hk2:∀ k ∈ c,k.ok:=fun k hk'=>hk k (by rw [Ju];exact .inr hk')
        obtain ⟨c0,rc,F,i1,i2,i3,Lx,csx,Fx,i4,i5,i6,i7,i8,i9⟩:=Uy hc hg hk1
        have hcapk:xs.length - off≤k:=by
         obtain ⟨A0,n0,k0,A',g1,g2,g3,g4⟩:=h3 c0 rc F i1 i2 _ Lx i4 rfl
         unfold InV at i5
         obtain ⟨hp,Ad1,cap,z1,z2⟩:=i5
         rw [z1] at i6
         rw [show (Ja w bl G []).w=w from rfl,JL i6] at g1
         have hcap:xs.length≤cap:=Xr z2
         rw [h1] at g3
         simp only [oj,List.cons.injEq,Value.slice.injEq,and_true] at g1 g3
         omega
        simp only [List.cons.injEq,and_true] at h1
        obtain ⟨hrun,hl1,hl2⟩:=MO (P:=P) (w:=w) (n:=len) hs hhi hb hk2 hcapk true
        refine Jo.pure hc hs (slc te l hh k Ad _ k hd (HT te (by rw [hte];exact hne)) h1 hrun) ?_
        rw [JM rfl (by simp) (by simp)]
        unfold InV
        refine ⟨rfl,⟨_,_,rfl,by omega⟩,fun c1 rc1 F1 k1 k2 z L hz ho=>?_⟩
        obtain ⟨A0,n0,k0,A',g1,g2,g3,g4⟩:=h3 c1 rc1 F1 k1 k2 z L hz ho
        rw [h1] at g3
        simp only [List.cons.injEq,Value.slice.injEq,and_true] at g3
        obtain ⟨rfl,_,rfl⟩:=g3
        refine ⟨A0,n0,k0,_,g1,by omega,by rw [Nat.sub_sub],fun hlt=>?_⟩
        obtain ⟨ad,q1,q2⟩:=g4 (by omega)
        refine ⟨ad,q1,?_⟩
        rw [if_neg (by omega),q2,hte]
        simp only [Option.map_some,Hh,Nat.add_mul]
       ·simp at hv
      ·simp at hv
     ·simp at hv
   ·simp at hv
  ·simp at hv
theorem MR {E:Env} {op:BinOp} {t:TypeId} {x y:Operand} {ty:TypeId} {k:IntKind} {p q:Int} {c:List Jk} {v:V} (h:o.op=.binOp op t x y ty) (hx:a.eval x=.int k p)
  (hy:a.eval y=.int k q) (hv:Ol op k p q=some (c,v)) (hk:∀ k ∈ c,k.ok):∃ vv,(execOp a.eval o).run P w=.ok (.value vv) w∧Val E v vv []:=by
 unfold Ol at hv
 split at hv<;>simp only [oj,pj] at hv<;>obtain ⟨rfl,rfl⟩:=hv
 ·exact ⟨_,by simp [execOp,h,hx,hy,eqGuard,binOp,Op.intArith],Qg.2 ⟨rfl,rfl⟩⟩
 ·exact ⟨_,by simp [execOp,h,hx,hy,eqGuard,binOp,Op.intArith],Qg.2 ⟨rfl,rfl⟩⟩
 ·exact ⟨_,by simp [execOp,h,hx,hy,eqGuard,binOp,Op.intArith],Qg.2 ⟨rfl,rfl⟩⟩
 ·have hb:q ≠ 0:=hk (.nz q) (by simp)
  exact ⟨_,by simp [execOp,h,hx,hy,eqGuard,binOp,Op.intDiv,hb],Qg.2 ⟨rfl,rfl⟩⟩
 ·have hb:q ≠ 0:=hk (.nz q) (by simp)
  exact ⟨_,by simp [execOp,h,hx,hy,eqGuard,binOp,Op.intDiv,hb],Qg.2 ⟨rfl,rfl⟩⟩
 ·exact ⟨_,by simp [execOp,h,hx,hy,eqGuard,binOp,Op.intBits],Qg.2 ⟨rfl,rfl⟩⟩
 ·exact ⟨_,by simp [execOp,h,hx,hy,eqGuard,binOp,Op.intBits],Qg.2 ⟨rfl,rfl⟩⟩
 ·exact ⟨_,by simp [execOp,h,hx,hy,eqGuard,binOp,Op.intBits],Qg.2 ⟨rfl,rfl⟩⟩
 ·exact ⟨_,by simp [execOp,h,hx,hy,eqGuard,binOp,Op.intBits],Qg.2 ⟨rfl,rfl⟩⟩
 ·have hb:0≤q:=hk (.nn q) (by simp)
  have hb':¬ q<0:=by omega
  exact ⟨_,by simp [execOp,h,hx,hy,eqGuard,binOp,Op.shift,hb'],Qg.2 ⟨rfl,rfl⟩⟩
 ·have hb:0≤q:=hk (.nn q) (by simp)
  have hb':¬ q<0:=by omega
  exact ⟨_,by simp [execOp,h,hx,hy,eqGuard,binOp,Op.shift,hb'],Qg.2 ⟨rfl,rfl⟩⟩
 ·exact ⟨.bool (decide (p=q)),by simp [execOp,h,hx,hy,eqGuard,binOp,Op.intCmp];rw [Bool.eq_iff_iff];simp,QL.2 ⟨rfl,rfl⟩⟩
 ·exact ⟨.bool (!decide (p=q)),by simp [execOp,h,hx,hy,eqGuard,binOp,Op.intCmp];rw [Bool.eq_iff_iff];simp,QL.2 ⟨rfl,rfl⟩⟩
 ·exact ⟨_,by simp [execOp,h,hx,hy,eqGuard,binOp,Op.intCmp],QL.2 ⟨rfl,rfl⟩⟩
 ·exact ⟨_,by simp [execOp,h,hx,hy,eqGuard,binOp,Op.intCmp],QL.2 ⟨rfl,rfl⟩⟩
 ·exact ⟨_,by simp [execOp,h,hx,hy,eqGuard,binOp,Op.intCmp],QL.2 ⟨rfl,rfl⟩⟩
 ·exact ⟨_,by simp [execOp,h,hx,hy,eqGuard,binOp,Op.intCmp],QL.2 ⟨rfl,rfl⟩⟩
end
end Go.Rai
namespace Go.Rai
variable [Inhabited Qk]
section
variable {P:Program} {A:Ann} {w w0:World} {F0:List Nat} {sl:List V} {a:Act} {bl:BL} {G:GT} {o:Oper}
theorem T6 {T:TypeId→Ty} {t:TypeId} {xs:Array Value} {off:Nat} {ci c2:List Value} (ht:U6 P T t) (h:xs.toList.drop off=ci ++ c2) (hl:ci.length=(T t).size) :
  (part t xs off).run P w=.ok (Ud (Qr (T t)) ci) w:=by
 simp only [part,Sem.run_bind,YE ht,Result.andThen_ok]
 cases hA:Qr (T t) with
 | true=>
  simp only [if_true,Sem.run_bind,H5 ht,Result.andThen_ok,Sem.run_pure]
  have hex:xs.extract off (off + (T t).size)=ci.toArray:=by
   apply Array.toList_inj.1
   rw [Array.toList_extract]
   simp only [List.extract]
   rw [h,← hl]
   simp
  rw [hex];rfl
 | false=>
  have:=U7 hA
  rw [this] at hl
  match ci,hl with
  | [q],_=>
   have hq:xs.toList[off]?=some q:=by
    have:=congrArg (fun l=>l[0]?) h
    simpa using this
   have hq':xs[off]?=some q:=by simpa using hq
   simp [hq',Ud]
theorem T7 {E:Env} {t:Ty} {x:V} {ci:List Value} {F:List Nat} (h:Jq t x=true) (hi:InV E x ci F):Val E x (Ud (Qr t) ci) F:=by
 rw [Wh h]
 refine ⟨ci,hi,?_⟩
 unfold Qf
 rw [(Qt h).2]
 cases hA:Qr t with
 | true=>rfl
 | false=>
  have hl:ci.length=1:=by rw [Qq _ hi,(Qt h).1,U7 hA]
  match ci,hl with
  | [q],_=>rfl
theorem MS (x y:ByteArray):(x == y)=(x.toList == y.toList):=beq_toListBytes x y
theorem T8 (HT:JN P A.ty) (E:Env):∀ n,
  (∀ {t:TypeId} {x y:V} {r:Bool} {d:Nat} {vx vy:Value},eqV n x y=some r→Jq (A.ty t) x=true→Jq (A.ty t) y=true→Val E x vx []→Val E y vy []→n≤d→(Op.equalIn d t vx vy).run P w=.ok r w) ∧
  (∀ {as bs:List V} {r:Bool} {d off:Nat} {fs:List Field} {ts:List Ty} {xs ys:Array Value} {cs ds:List Value},V5 n as bs=some r→JI ts as=true→JI ts bs=true→fs.length=ts.length →
   (∀ j f, fs[j]? = some f → ts[j]? = some (A.ty f.type) ∧ A.ty f.type ≠ .other ∧ f.offset = off + Ty.sizes (ts.take j) ∧ f.name ≠ "_") →
   Jj E as cs []→Jj E bs ds []→xs.toList.drop off=cs→ys.toList.drop off=ds→n≤d→(Op.eqFields d xs ys fs).run P w=.ok r w)
 | 0=>⟨fun h=>by simp [eqV] at h,fun h=>by simp [V5] at h⟩
 | n + 1=>by
  obtain ⟨ih1,ih2⟩:=T8 HT E n
  constructor
  ·intro t x y r d vx vy h fx fy hx hy hd
   obtain ⟨d,rfl⟩:∃ d',d=d' + 1:=⟨d - 1,by omega⟩
   have hne:=Cs fx
   obtain ⟨ds,hds,hdk⟩:=(HT t hne).desc
   unfold eqV at h
   split at h
   ·rename_i k p k' q
    split at h
    ·rename_i hk
     have:=UC hk;subst this
     simp only [oj] at h;subst h
     obtain ⟨rfl,_⟩:=Qg.1 hx
     obtain ⟨rfl,_⟩:=Qg.1 hy
     cases hty:A.ty t<;>rw [hty] at fx<;>simp [Jq] at fx
     rw [hty] at hdk
     have:=OF hdk;subst this
     rw [run_equalIn_int w d t k _ p q hds]
     congr 1
    ·simp at h
   ·rename_i p q
    simp only [oj] at h;subst h
    obtain ⟨rfl,_⟩:=QL.1 hx
    obtain ⟨rfl,_⟩:=QL.1 hy
    cases hty:A.ty t<;>rw [hty] at fx<;>simp [Jq] at fx
    rw [hty] at hdk
    have:=YD hdk;subst this
    exact run_equalIn_bool w d t p q hds
   ·rename_i p q
    simp only [oj] at h;subst h
    obtain ⟨rfl,_⟩:=HA.1 hx
    obtain ⟨rfl,_⟩:=HA.1 hy
    cases hty:A.ty t<;>rw [hty] at fx<;>simp [Jq] at fx
    rw [hty] at hdk
    have:=CK hdk;subst this
    rw [run_equalIn_string w d t p q hds,MS]
   ·rename_i as bs
    obtain ⟨cs,rfl,hc⟩:=We.1 hx
    obtain ⟨es,rfl,he⟩:=We.1 hy
    obtain ⟨ts,hty⟩:∃ ts,A.ty t=.struct ts:=by cases hty:A.ty t<;>rw [hty] at fx<;>simp [Jq] at fx;exact ⟨_,rfl⟩
    have hst:=((HT t hne).eqs (by rw [hty];rfl)).2
    rw [hty] at hdk fx fy
    obtain ⟨fields,rfl,hsize,hfs⟩:=Vo hdk
    have hfo:P.fieldsOf t=fields:=by simp [Program.fieldsOf,hds]
    rw [run_equalIn_struct w d t _ _ (by rw [hfo];exact hds) hst,hfo]
    unfold Jq at fx fy
    refine ih2 (off:=0) (ts:=ts) h fx fy (by simpa using hsize) ?_ hc he (by simp) (by simp) (by omega)
    intro j f hj
    obtain ⟨q1,q2,q3,q4,q5⟩:=hfs j f (by simpa using hj)
    exact ⟨q1,q2,by simpa using q4,q5⟩
   ·simp at h
  ·intro as bs r d off fs ts xs ys cs ds h fx fy hlen hfs hx hy ex ey hd
   rcases as with _ | ⟨x,as⟩<;>rcases bs with _ | ⟨y,bs⟩<;>simp only [V5] at h
   ·simp only [oj] at h;subst h
    have:fs=[]:=by
     cases ts with
     | nil=>simpa using hlen
     | cons _ _=>simp [JI] at fx
    subst this
    simp [Op.eqFields]
   ·cases h
   ·cases h
   ·split at h
    ·rename_i rx hrx
     split at h
     ·rename_i ry hry
      simp only [oj] at h;subst h
      cases ts with
      | nil=>simp [JI] at fx
      | cons t ts=>
       cases fs with
       | nil=>simp at hlen
       | cons f fs=>
        unfold JI at fx fy
        rw [Je] at fx fy
        obtain ⟨q1,q2,q3,q4⟩:=hfs 0 f rfl
        simp only [List.getElem?_cons_zero,oj] at q1
        simp only [List.take_zero,Ty.sizes,Nat.add_zero] at q3
        unfold Jj at hx hy
        obtain ⟨c1,c2,F1,F2,e1,e2,k1,k2⟩:=hx
        obtain ⟨d1,d2,G1,G2,f1,f2,l1,l2⟩:=hy
        obtain ⟨rfl,rfl⟩:=List.append_eq_nil_iff.1 e2.symm
        obtain ⟨rfl,rfl⟩:=List.append_eq_nil_iff.1 f2.symm
        have z1:c1.length=(A.ty f.type).size:=by rw [Qq _ k1,(Qt fx.1).1,q1]
        have z2:d1.length=(A.ty f.type).size:=by rw [Qq _ l1,(Qt fy.1).1,q1]
        have p1:(part f.type xs f.offset).run P w=.ok (Ud (Qr (A.ty f.type)) c1) w:=T6 (HT _ q2) (by rw [q3,ex,e1]) z1
        have p2:(part f.type ys f.offset).run P w=.ok (Ud (Qr (A.ty f.type)) d1) w:=T6 (HT _ q2) (by rw [q3,ey,f1]) z2
        have fx1:Jq (A.ty f.type) x=true:=by rw [← q1];exact fx.1
        have fy1:Jq (A.ty f.type) y=true:=by rw [← q1];exact fy.1
        have he:=ih1 (t:=f.type) (d:=d) hrx fx1 fy1 (T7 fx1 k1) (T7 fy1 l1) (by omega)
        have hr:=ih2 (off:=off + t.size) (ts:=ts) (fs:=fs) (xs:=xs) (ys:=ys) (d:=d) hry fx.2 fy.2 (by simpa using hlen) (by
          intro j f' hj
          obtain ⟨g1,g2,g3,g4⟩:=hfs (j + 1) f' (by simpa using hj)
          exact ⟨by simpa using g1,g2,by rw [g3];simp [Ty.sizes];omega,g4⟩) k2 l2 (by rw [← List.drop_drop,ex,e1,q1,← z1];simp) (by rw [← List.drop_drop,ey,f1,q1,← z2];simp) (by omega)
        simp only [Op.eqFields]
        rw [if_pos q4]
        simp only [Sem.run_bind,p1,p2,he,Result.andThen_ok]
        cases rx
        ·simp
        ·simp [hr]
     ·simp at h
    ·simp at h
end
end Go.Rai
namespace Go.Rai
variable [Inhabited Qk]
section
variable {P:Program} {A:Ann} {w w0:World} {F0:List Nat} {sl:List V} {a:Act} {bl:BL} {G:GT} {o:Oper}
theorem OH {E:Env} {v:Value} {F:List Nat}:Val E .nilsl v F ↔ v=.slice none 0 0∧F=[]:=by
 rw [JM rfl (by simp) (by simp)];unfold InV;simp
theorem YK {E:Env} {v:Value} {F:List Nat}:Val E .nilptr v F ↔ v=.pointer none∧F=[]:=by
 rw [JM rfl (by simp) (by simp)];unfold InV;simp
theorem YL {E:Env} {v:Value} {F:List Nat}:Val E .nilfn v F ↔ v=.nilFunc∧F=[]:=by
 rw [JM rfl (by simp) (by simp)];unfold InV;simp
theorem Ut {α:Type} {c:Bool} {x:Rai.G α} {r:List Jk × α} (h:J1 c x=some r):c=true∧x=some r:=by
 cases c<;>simp [J1] at h
 exact ⟨rfl,h⟩
theorem T9 (hc:JX w bl G w0 F0) {v:V} {vv:Value} (hv:Val (Ja w bl G []) v vv []) {c:List Jk} {r:Bool} (he:Om bl v=some (c,r)) (hk:∀ k ∈ c,k.ok) :
  ∃ Ad n cap,vv=.slice Ad n cap∧Ad.isNone=r:=by
 unfold Om at he
 split at he
 ·simp only [oj,pj] at he
  obtain ⟨rfl,rfl⟩:=he
  obtain ⟨rfl,_⟩:=OH.1 hv
  exact ⟨_,_,_,rfl,rfl⟩
 ·split at he
  ·rename_i c' e l hel
   simp only [oj,pj] at he
   obtain ⟨rfl,rfl⟩:=he
   obtain ⟨Ad,cap,F,h1,h2,_⟩:=Wj hc hv hel (fun k hk'=>hk k (by rw [Ju];exact .inl hk'))
   have hb:1≤l.length:=hk (.le 1 l.length) (by rw [Ju];simp)
   refine ⟨_,_,_,h1,?_⟩
   rcases h2 with ⟨g,_⟩ | ⟨ad,_,_,g,_⟩
   ·subst g;simp at hb
   ·rw [g];rfl
  ·simp at he
theorem Sa {E:Env} {v:V} {vv:Value} (hv:Val E v vv []) {c:List Jk} {r:Bool} (he:WZ v=some (c,r)) :
  ∃ Ad,vv=.pointer Ad∧Ad.isNone=r:=by
 unfold WZ at he
 split at he<;>(try simp only [oj,pj] at he)<;>(try obtain ⟨_,rfl⟩:=he)
 ·obtain ⟨rfl,_⟩:=YK.1 hv
  exact ⟨_,rfl,rfl⟩
 ·have h':=(JM rfl (by simp) (by simp)).1 hv
  unfold InV at h'
  obtain ⟨_,⟨ad,h⟩,_⟩:=h'
  simp only [List.cons.injEq,and_true] at h
  exact ⟨_,h,rfl⟩
 ·have h':=(JM rfl (by simp) (by simp)).1 hv
  unfold InV at h'
  obtain ⟨_,ad,_,h,_⟩:=h'
  simp only [List.cons.injEq,and_true] at h
  exact ⟨_,h,rfl⟩
theorem Sc {E:Env} {v:V} {vv:Value} (hv:Val E v vv []) {c:List Jk} {r:Bool} (he:W0 v=some (c,r)) :
  (r=true∧vv=.nilFunc) ∨ (r=false∧∃ x y z,vv=.func x y z):=by
 unfold W0 at he
 split at he<;>(try simp only [oj,pj] at he)<;>(try obtain ⟨_,rfl⟩:=he)
 ·obtain ⟨rfl,_⟩:=YL.1 hv
  exact .inl ⟨rfl,rfl⟩
 ·have h':=(JM rfl (by simp) (by simp)).1 hv
  unfold InV at h'
  obtain ⟨vals,h,_⟩:=h'
  simp only [List.cons.injEq,and_true] at h
  exact .inr ⟨rfl,_,_,_,h⟩
def Vq:Value→Bool
 | .bool _=>true
 | .agg _=>true
 | .slice _ _ _=>true
 | .pointer _=>true
 | .nilFunc=>true
 | .func _ _ _=>true
 | _=>false
def H8 (op:BinOp) (r:Bool):Bool:=match op with | .eql=>r | _=>!r
theorem YM {t ty:TypeId} {x y:Operand} {r:Bool} {op:BinOp} (h:o.op=.binOp op t x y ty) (hop:op=.eql ∨ op=.neq) (hg:∀ p,a.eval x=.agg p→P.eqGuardType P.depth t=false)
  (hp:Vq (a.eval x)=true) (he:(Op.equalIn 10000 t (a.eval x) (a.eval y)).run P w=.ok r w) :
  (execOp a.eval o).run P w=.ok (.value (.bool (H8 op r))) w:=by
 have hgd:(eqGuard op t x y (a.eval x) (a.eval y)).run P w=.ok () w:=by
  generalize a.eval x=p at *
  generalize a.eval y=q at *
  unfold eqGuard
  rcases hop with rfl | rfl<;>cases p<;>simp [Vq] at hp<;>(try simp)<;>cases q<;>simp [hg _ rfl]
 simp only [execOp,h,Sem.run_bind,hgd,Result.andThen_ok]
 generalize a.eval x=p at *
 generalize a.eval y=q at *
 rcases hop with rfl | rfl
 ·cases p<;>simp [Vq] at hp<;>simp [binOp,Op.equal,Op.maxDepth,he,H8]
 ·cases p<;>simp [Vq] at hp<;>simp [binOp,Op.equal,Op.maxDepth,he,H8]
theorem Vr {op:BinOp} {g:Rai.G Bool} {c:List Jk} {v:V} (h:CX op g=some (c,v)):∃ r,g=some (c,r)∧(op=.eql ∨ op=.neq)∧v=.bool (H8 op r):=by
 unfold CX at h
 split at h
 ·rename_i c' r
  cases op<;>simp at h<;>obtain ⟨rfl,rfl⟩:=h
  ·exact ⟨r,rfl,.inl rfl,rfl⟩
  ·exact ⟨r,rfl,.inr rfl,by cases r<;>rfl⟩
 ·simp at h
theorem Wl (HT:JN P A.ty) {t:TypeId} (h:UF (A.ty t)=true):∃ te,P.underlying t=some (.slice te):=by
 obtain ⟨e,hty⟩:∃ e,A.ty t=.slice e:=by cases hq:A.ty t<;>simp [hq,UF] at h;exact ⟨_,rfl⟩
 obtain ⟨d,hd,hdk⟩:=(HT t (by rw [hty];simp)).desc
 rw [hty] at hdk
 obtain ⟨te,rfl,_⟩:=Us hdk
 exact ⟨te,hd⟩
theorem Sd (HT:JN P A.ty) {t:TypeId} (h:W1 (A.ty t)=true):∃ te,P.underlying t=some (.pointer te):=by
 have hty:A.ty t=.ptr:=by cases hq:A.ty t<;>simp [hq,W1] at h;rfl
 obtain ⟨d,hd,hdk⟩:=(HT t (by rw [hty];simp)).desc
 rw [hty] at hdk
 obtain ⟨te,rfl⟩:=Mv hdk
 exact ⟨te,hd⟩
theorem Se (HT:JN P A.ty) {t:TypeId} (h:W2 (A.ty t)=true):∃ x y z,P.underlying t=some (.func x y z):=by
 have hty:A.ty t=.fn:=by cases hq:A.ty t<;>simp [hq,W2] at h;rfl
 obtain ⟨d,hd,hdk⟩:=(HT t (by rw [hty];simp)).desc
 rw [hty] at hdk
 obtain ⟨x,y,z,rfl⟩:=Mw hdk
 exact ⟨x,y,z,hd⟩
theorem MT {E:Env} {x y:V} {r:Bool} {t:Ty} {vx:Value} {n:Nat} (h:eqV n x y=some r) (hi:∀ k n k' m,¬ (x=.int k n∧y=.int k' m)) (hs:∀ p q,¬ (x=.str p∧y=.str q)) (hv:Val E x vx []) :
  Vq vx=true∧(∀ p,vx=.agg p→∃ vs,x=.agg vs):=by
 cases n with
 | zero=>simp [eqV] at h
 | succ n=>
  unfold eqV at h
  split at h
  ·exact absurd ⟨rfl,rfl⟩ (hi _ _ _ _)
  ·obtain ⟨rfl,_⟩:=QL.1 hv;exact ⟨rfl,by simp⟩
  ·exact absurd ⟨rfl,rfl⟩ (hs _ _)
  ·obtain ⟨_,rfl,_⟩:=We.1 hv;exact ⟨rfl,fun p hp=>⟨_,rfl⟩⟩
  ·simp at h
theorem MU (HT:JN P A.ty) (hc:JX w bl G w0 F0) (hs:Jy (Ja w bl G []) sl a) {op:BinOp} {t ty:TypeId} {x y:Operand} {c:List Jk} {v:V} (h:o.op=.binOp op t x y ty)
  (hv:O3 (A.ty t) bl op (opd sl x) (opd sl y)=some (c,v)) (hk:∀ k ∈ c,k.ok):Jo P w0 F0 sl a w o v bl:=by
 have hx:=JJ hs x
 have hy:=JJ hs y
 have nilx:∀ r,(op=.eql ∨ op=.neq)→v=.bool (H8 op r)→Vq (a.eval x)=true→(∀ p,a.eval x ≠ .agg p)→(Op.equalIn 10000 t (a.eval x) (a.eval y)).run P w=.ok r w→Jo P w0 F0 sl a w o v bl:=by
  intro r hop hvv hp hag he
  exact Jo.pure hc hs (YM h hop (fun p hp'=>absurd hp' (hag p)) hp he) (by rw [hvv];exact QL.2 ⟨rfl,rfl⟩)
 unfold O3 at hv
 split at hv
 ·rename_i k p k' q hxe hye
  rw [hxe] at hx;rw [hye] at hy
  obtain ⟨hx,_⟩:=Qg.1 hx
  obtain ⟨hy,_⟩:=Qg.1 hy
  split at hv
  ·rename_i hkk
   have:=UC hkk;subst this
   obtain ⟨vv,h1,h2⟩:=MR (P:=P) (w:=w) (E:=Ja w bl G []) h hx hy hv hk
   exact Jo.pure hc hs h1 h2
  ·split at hv
   ·simp only [Ol,oj,pj] at hv
    obtain ⟨rfl,rfl⟩:=hv
    have hb:0≤q:=hk (.nn q) (by simp)
    have hb':¬ q<0:=by omega
    exact Jo.pure hc hs (vv:=.int k (k.wrap (p * 2 ^ min q.toNat k.bits))) (by simp [execOp,h,hx,hy,eqGuard,binOp,Op.shift,hb']) (Qg.2 ⟨rfl,rfl⟩)
   ·simp only [Ol,oj,pj] at hv
    obtain ⟨rfl,rfl⟩:=hv
    have hb:0≤q:=hk (.nn q) (by simp)
    have hb':¬ q<0:=by omega
    exact Jo.pure hc hs (vv:=.int k (p.fdiv (2 ^ min q.toNat k.bits))) (by simp [execOp,h,hx,hy,eqGuard,binOp,Op.shift,hb']) (Qg.2 ⟨rfl,rfl⟩)
   ·simp at hv
 ·rename_i p q hxe hye
  rw [hxe] at hx;rw [hye] at hy
  obtain ⟨hx,_⟩:=HA.1 hx
  obtain ⟨hy,_⟩:=HA.1 hy
  unfold Tg at hv
  split at hv<;>(try simp only [oj,pj] at hv)<;>(try obtain ⟨rfl,rfl⟩:=hv)
  ·have hb:p.size + q.size≤4294967296:=hk (.sz _ _) (by simp)
   have hb':¬ ((p.size + q.size:Nat):Int) > IntKind.i64.max:=by simp [IntKind.max,IntKind.bits,IntKind.signed];omega
   exact Jo.pure hc hs (vv:=.string (p ++ q)) (by simp only [execOp,h,hx,hy,eqGuard,binOp,Op.stringOp];rw [if_neg hb'];simp) (HA.2 ⟨rfl,rfl⟩)
  ·exact Jo.pure hc hs (vv:=.bool _) (by simp [execOp,h,hx,hy,eqGuard,binOp,Op.stringOp]) (QL.2 ⟨rfl,rfl⟩)
  ·exact Jo.pure hc hs (vv:=.bool _) (by simp [execOp,h,hx,hy,eqGuard,binOp,Op.stringOp]) (QL.2 ⟨rfl,rfl⟩)
  ·exact Jo.pure hc hs (vv:=.bool _) (by simp [execOp,h,hx,hy,eqGuard,binOp,Op.stringOp]) (QL.2 ⟨rfl,rfl⟩)
  ·exact Jo.pure hc hs (vv:=.bool _) (by simp [execOp,h,hx,hy,eqGuard,binOp,Op.stringOp]) (QL.2 ⟨rfl,rfl⟩)
  ·exact Jo.pure hc hs (vv:=.bool _) (by simp [execOp,h,hx,hy,eqGuard,binOp,Op.stringOp]) (QL.2 ⟨rfl,rfl⟩)
  ·exact Jo.pure hc hs (vv:=.bool _) (by simp [execOp,h,hx,hy,eqGuard,binOp,Op.stringOp]) (QL.2 ⟨rfl,rfl⟩)
 ·have hxe:opd sl x=.nilsl:=by assumption
  obtain ⟨ht,hv⟩:=Ut hv
  obtain ⟨r,h1,h2,h3⟩:=Vr hv
  obtain ⟨te,hd⟩:=Wl HT ht
  rw [hxe] at hx
  obtain ⟨hx,_⟩:=OH.1 hx
  obtain ⟨Ad,n,cap,g1,g2⟩:=T9 hc hy h1 hk
  refine nilx r h2 h3 (by rw [hx];rfl) (by rw [hx];simp) ?_
  rw [hx,g1,Op.equalIn]
  simp [QO hd,g2]
 ·have hye:opd sl y=.nilsl:=by assumption
  obtain ⟨ht,hv⟩:=Ut hv
  obtain ⟨r,h1,h2,h3⟩:=Vr hv
  obtain ⟨te,hd⟩:=Wl HT ht
  rw [hye] at hy
  obtain ⟨hy,_⟩:=OH.1 hy
  obtain ⟨Ad,n,cap,g1,g2⟩:=T9 hc hx h1 hk
  refine nilx r h2 h3 (by rw [g1];rfl) (by rw [g1];simp) ?_
  rw [hy,g1,Op.equalIn]
  cases Ad<;>simp [QO hd,← g2]
 ·have hxe:opd sl x=.nilptr:=by assumption
  obtain ⟨ht,hv⟩:=Ut hv
  obtain ⟨r,h1,h2,h3⟩:=Vr hv
  obtain ⟨te,hd⟩:=Sd HT ht
  rw [hxe] at hx
  obtain ⟨hx,_⟩:=YK.1 hx
  obtain ⟨Ad,g1,g2⟩:=Sa hy h1
  refine nilx r h2 h3 (by rw [hx];rfl) (by rw [hx];simp) ?_
  rw [hx,g1,Op.equalIn]
  simp [QO hd,g2]
 ·have hye:opd sl y=.nilptr:=by assumption
  obtain ⟨ht,hv⟩:=Ut hv
  obtain ⟨r,h1,h2,h3⟩:=Vr hv
  obtain ⟨te,hd⟩:=Sd HT ht
  rw [hye] at hy
  obtain ⟨hy,_⟩:=YK.1 hy
  obtain ⟨Ad,g1,g2⟩:=Sa hx h1
  refine nilx r h2 h3 (by rw [g1];rfl) (by rw [g1];simp) ?_
  rw [hy,g1,Op.equalIn]
  cases Ad<;>simp [QO hd,← g2]
 ·have hxe:opd sl x=.nilfn:=by assumption
  obtain ⟨ht,hv⟩:=Ut hv
  obtain ⟨r,h1,h2,h3⟩:=Vr hv
  obtain ⟨_,_,_,hd⟩:=Se HT ht
  rw [hxe] at hx
  obtain ⟨hx,_⟩:=YL.1 hx
  rcases Sc hy h1 with ⟨g1,g2⟩ | ⟨g1,_,_,_,g2⟩
  ·refine nilx r h2 h3 (by rw [hx];rfl) (by rw [hx];simp) ?_
   rw [hx,g2,Op.equalIn]
   simp [QO hd,g1]
  ·refine nilx r h2 h3 (by rw [hx];rfl) (by rw [hx];simp) ?_
   rw [hx,g2,Op.equalIn]
   simp [QO hd,g1]
 ·have hye:opd sl y=.nilfn:=by assumption
  obtain ⟨ht,hv⟩:=Ut hv
  obtain ⟨r,h1,h2,h3⟩:=Vr hv
  obtain ⟨_,_,_,hd⟩:=Se HT ht
  rw [hye] at hy
  obtain ⟨hy,_⟩:=YL.1 hy
  rcases Sc hx h1 with ⟨g1,g2⟩ | ⟨g1,_,_,_,g2⟩
  ·refine nilx r h2 h3 (by rw [g2];rfl) (by rw [g2];simp) ?_
   rw [hy,g2,Op.equalIn]
   simp [QO hd,g1]
  ·refine nilx r h2 h3 (by rw [g2];rfl) (by rw [g2];simp) ?_
   rw [hy,g2,Op.equalIn]
   simp [QO hd,g1]
 ·have hni:∀ (k:IntKind) (a:Int) (k':IntKind) (c:Int),opd sl x=V.int k a→opd sl y=V.int k' c→False:=by assumption
  have hns:∀ (s t:ByteArray),opd sl x=V.str s→opd sl y=V.str t→False:=by assumption
  obtain ⟨ht,hv⟩:=Ut hv
  rw [Je] at ht
  have key:∀ r,eqV 30 (opd sl x) (opd sl y)=some r→(op=.eql ∨ op=.neq)→v=.bool (H8 op r)→Jo P w0 F0 sl a w o v bl:=by
   intro r hr hop hvv
   obtain ⟨g1,g2⟩:=MT (t:=A.ty t) hr (fun k n k' m hq=>hni k n k' m hq.1 hq.2) (fun p q hq=>hns p q hq.1 hq.2) hx
   have he:=(T8 (w:=w) HT (Ja w bl G []) 30).1 (d:=10000) hr ht.1 ht.2 hx hy (by omega)
   refine Jo.pure hc hs (YM h hop (fun p hp=>?_) g1 he) (by rw [hvv];exact QL.2 ⟨rfl,rfl⟩)
   obtain ⟨vs,hvs⟩:=g2 p hp
   have:Qr (A.ty t)=true:=by rw [← (Qt ht.1).2,hvs];rfl
   exact ((HT t (Cs ht.1)).eqs this).1
  cases hq:eqV 30 (opd sl x) (opd sl y) with
  | none=>rw [hq] at hv;cases op<;>simp at hv
  | some r=>
   rw [hq] at hv
   cases op<;>simp at hv<;>obtain ⟨rfl,rfl⟩:=hv
   ·exact key r hq (.inl rfl) rfl
   ·exact key r hq (.inr rfl) rfl
end
end Go.Rai
namespace Go.Rai
variable [Inhabited Qk]
theorem OI {R:D→List Value→List Nat→Prop} {d:D} {c:List Value} (h:R d c []):∀ n,Row R (List.replicate n d) (JW n c) []
 | 0=>⟨rfl,rfl⟩
 | n + 1=>⟨c,JW n c,[],[],rfl,rfl,h,OI h n⟩
mutual
theorem Ct {o:Bool} {w:World}:∀ (t:Ty),t.plain=true→DIn o w t (QQ t) (JF t) []
 | .int k,_=>by unfold DIn;exact ⟨rfl,rfl⟩
 | .bool,_=>by unfold DIn;exact ⟨rfl,rfl⟩
 | .str,_=>by unfold DIn;exact ⟨rfl,rfl⟩
 | .struct ts,h=>by
  unfold Ty.plain at h
  unfold DIn
  exact Sf ts [] h
 | .slice e,h=>by
  unfold DIn
  exact ⟨none,0,rfl,.inl ⟨rfl,rfl,rfl⟩⟩
 | .arr n e,h=>by
  unfold Ty.plain at h
  unfold DIn
  exact ⟨by simp [QQ,D.items],by unfold QQ JF D.items;exact OI (Ct e (Hi e h)) n⟩
 | .ptr,h=>by simp [Ty.plain] at h
 | .fn,h=>by simp [Ty.plain] at h
 | .imap,h=>by simp [Ty.plain] at h
 | .other,h=>by simp [Ty.plain] at h
theorem Sf {o:Bool} {w:World}:∀ (ts:List Ty) (pre:List D),Ty.plains ts=true→Qx o w ts pre.length (.node (pre ++ O1 ts)) (H4 ts) []
 | [],_,_=>by unfold Qx;exact ⟨rfl,rfl⟩
 | t :: ts,pre,h=>by
  unfold Ty.plains at h
  rw [Je] at h
  unfold Qx H4
  refine ⟨JF t,H4 ts,[],[],rfl,rfl,?_,?_⟩
  ·have:D.fld (.node (pre ++ O1 (t :: ts))) pre.length=QQ t:=by simp [D.fld,D.items,O1]
   rw [this]
   exact Ct t h.1
  ·have:=Sf (o:=o) (w:=w) ts (pre ++ [QQ t]) h.2
   simpa [O1] using this
end
mutual
theorem Wm {E:Env}:∀ (t:Ty),zok t=true→InV E (Ug t) (JF t) []
 | .int k,_=>by unfold Ug InV;exact ⟨rfl,rfl⟩
 | .bool,_=>by unfold Ug InV;exact ⟨rfl,rfl⟩
 | .str,_=>by unfold Ug InV;exact ⟨rfl,rfl⟩
 | .struct ts,h=>by
  unfold zok at h
  unfold Ug InV
  exact YN ts h
 | .slice e,h=>by unfold Ug InV;exact ⟨rfl,rfl⟩
 | .arr n e,h=>by
  unfold zok at h
  unfold Ug InV
  exact ⟨by simp,h,OI (Ct e (Hi e h)) n⟩
 | .ptr,h=>by unfold Ug InV;exact ⟨rfl,rfl⟩
 | .fn,h=>by unfold Ug InV;exact ⟨rfl,rfl⟩
 | .imap,h=>by simp [zok] at h
 | .other,h=>by simp [zok] at h
theorem YN {E:Env}:∀ (ts:List Ty),CW ts=true→Jj E (HZ ts) (H4 ts) []
 | [],_=>by unfold HZ Jj;exact ⟨rfl,rfl⟩
 | t :: ts,h=>by
  unfold CW at h
  rw [Je] at h
  unfold HZ Jj H4
  exact ⟨JF t,H4 ts,[],[],rfl,rfl,Wm t h.1,YN ts h.2⟩
end
mutual
theorem Xs:∀ (t:Ty),zok t=true→Jq t (Ug t)=true
 | .int k,_=>by simp [Ug,Jq,Xb]
 | .bool,_=>rfl
 | .str,_=>rfl
 | .struct ts,h=>by
  unfold zok at h
  unfold Ug Jq
  exact YO ts h
 | .slice e,h=>rfl
 | .arr n e,h=>by
  unfold zok at h
  unfold Ug Jq
  rw [Je]
  exact ⟨Nat.beq_refl n,Ty.beq_refl e (Hi e h)⟩
 | .ptr,h=>rfl
 | .fn,h=>rfl
 | .imap,h=>by simp [zok] at h
 | .other,h=>by simp [zok] at h
theorem YO:∀ (ts:List Ty),CW ts=true→JI ts (HZ ts)=true
 | [],_=>rfl
 | t :: ts,h=>by
  unfold CW at h
  rw [Je] at h
  unfold HZ JI
  rw [Je]
  exact ⟨Xs t h.1,YO ts h.2⟩
end
mutual
theorem MV:∀ (t:Ty),Jd (Ug t)=[]
 | .struct ts=>by unfold Ug;simp [Jd,Sg ts]
 | .int _=>rfl
 | .bool=>rfl
 | .str=>rfl
 | .slice _=>rfl
 | .arr _ _=>rfl
 | .ptr=>rfl
 | .fn=>rfl
 | .imap=>rfl
 | .other=>rfl
theorem Sg:∀ (ts:List Ty),Jl (HZ ts)=[]
 | []=>rfl
 | t :: ts=>by unfold HZ;simp [Jl,MV t,Sg ts,cat]
end
structure JK (w:World) (bl:BL) (G:GT) (X:List Nat) (w0:World) (F0:List Nat):Prop where
 ok:Ok w bl G X
 frame:∀ b,b<w0.heap.size→b ∉ F0→w.heap[b]?=w0.heap[b]?
 own:∀ b,Uk bl G X b→b ∈ F0 ∨ w0.heap.size≤b
 size:w0.heap.size≤w.heap.size
 os:w.os=w0.os
 tape:w.tape=w0.tape
 output:w.output=w0.output
section
variable {P:Program} {A:Ann} {w w' w0:World} {F0:List Nat} {sl:List V} {a:Act} {bl:BL} {G:GT} {o:Oper} {X:List Nat}
theorem JX.x (h:JX w bl G w0 F0):JK w bl G [] w0 F0:=⟨h.ok,h.frame,h.own,h.size,h.os,h.tape,h.output⟩
theorem JK.c (h:JK w bl G [] w0 F0):JX w bl G w0 F0:=⟨h.ok,h.frame,h.own,h.size,h.os,h.tape,h.output⟩
theorem JK.drop (h:JK w bl G X w0 F0) {s:Nat} {c:V} (hc:Jb bl s=some c) :
  ∃ rc F Fc,G s=some (rc,F)∧Fc.Perm F∧InV (Ja w (Qj bl s) G (Fc ++ X)) c rc Fc∧JK w (Qj bl s) G (Fc ++ X) w0 F0∧Jx (Ja w bl G X) (Ja w (Qj bl s) G (Fc ++ X)) (fun _=>False):=by
 obtain ⟨rc,F,Fc,g1,g2,g3,g4,g5,g6,g7⟩:=h.ok.drop hc
 refine ⟨rc,F,Fc,g1,g2,g5,⟨g6,h.frame,?_,h.size,h.os,h.tape,h.output⟩,g7⟩
 intro b ho
 refine h.own b ?_
 rcases ho with h1 | ⟨t,ct,rct,Ft,h1,h2,h3⟩
 ·rcases List.mem_append.1 h1 with h1 | h1
  ·exact .inr ⟨s,c,rc,F,hc,g1,(g2.mem_iff).1 h1⟩
  ·exact .inl h1
 ·rw [Ur] at h1
  by_cases hts:t=s
  ·simp [hts] at h1
  ·simp only [hts,if_false] at h1
   exact .inr ⟨t,ct,rct,Ft,h1,h2,h3⟩
theorem JK.add {F:List Nat} (h:JK w bl G (F ++ X) w0 F0) {d:Nat} {x:V} {rc:List Value} (hd:Jb bl d=none) (hm:∀ s c,Jb bl s=some c→d ∉ Jd c) (hx:InV (Ja w bl G (F ++ X)) x rc F) (hdx:d ∉ Jd x) :
  JK w (Jp bl d x) (fun t=>if t=d then some (rc,F) else G t) X w0 F0∧Jx (Ja w bl G (F ++ X)) (Ja w (Jp bl d x) (fun t=>if t=d then some (rc,F) else G t) X) (fun s=>s=d):=by
 obtain ⟨g1,g2⟩:=h.ok.add hd hm hx hdx
 refine ⟨⟨g1,h.frame,?_,h.size,h.os,h.tape,h.output⟩,g2⟩
 intro b ho
 refine h.own b ?_
 rcases ho with h1 | ⟨t,ct,rct,Ft,h1,h2,h3⟩
 ·exact .inl (by simp [h1])
 ·rw [JG] at h1
  by_cases htd:t=d
  ·subst htd
   simp only [if_true,oj,pj] at h2
   obtain ⟨_,rfl⟩:=h2
   exact .inl (by simp [h3])
  ·simp only [htd,if_false] at h1 h2
   exact .inr ⟨t,ct,rct,Ft,h1,h2,h3⟩
theorem JK.world (h:JK w bl G X w0 F0) {X':List Nat} (hsz:w.heap.size≤w'.heap.size) (hmem:∀ b,b<w.heap.size→b ∉ X→w'.heap[b]?=w.heap[b]?)
  (hnd:X'.Nodup) (hx:∀ b ∈ X',b<w'.heap.size∧(b ∈ X ∨ w.heap.size≤b)) (hos:w'.os=w.os) (ht:w'.tape=w.tape) (hou:w'.output=w.output) :
  JK w' bl G X' w0 F0∧Jx (Ja w bl G X) (Ja w' bl G X') (fun _=>False):=by
 obtain ⟨g1,g2⟩:=h.ok.world hsz hmem hnd hx
 refine ⟨⟨g1,?_,?_,Nat.le_trans h.size hsz,hos.trans h.os,ht.trans h.tape,hou.trans h.output⟩,g2⟩
 ·intro b hb hbF
  rw [hmem b (Nat.lt_of_lt_of_le hb h.size) (fun hbX=>?_),h.frame b hb hbF]
  rcases h.own b (.inl hbX) with h1 | h1
  ·exact hbF h1
  ·omega
 ·intro b ho
  rcases ho with h1 | h1
  ·rcases (hx b h1).2 with h2 | h2
   ·exact h.own b (.inl h2)
   ·exact .inr (Nat.le_trans h.size h2)
  ·exact h.own b (.inr h1)
theorem JK.alloc (h:JK w bl G X w0 F0) (ob:Obj) :
  JK (w.alloc ob) bl G (w.heap.size :: X) w0 F0∧Jx (Ja w bl G X) (Ja (w.alloc ob) bl G (w.heap.size :: X)) (fun _=>False):=by
 refine h.world (by simp) (fun b hb _=>Go.RowKit.Below.heap_alloc w ob b hb) (List.nodup_cons.2 ⟨fun hm=>?_,h.ok.xnd⟩) ?_ rfl rfl rfl
 ·have:=h.ok.xlt _ hm;omega
 ·intro b hb
  rcases List.mem_cons.1 hb with rfl | hb
  ·exact ⟨by simp,.inr (Nat.le_refl _)⟩
  ·exact ⟨by have:=h.ok.xlt b hb;simp;omega,.inl hb⟩
theorem JK.drew (h:JK w bl G X w0 F0):JK w.drew bl G X w0 F0∧Jx (Ja w bl G X) (Ja w.drew bl G X) (fun _=>False):=
 h.world (Nat.le_refl _) (fun _ _ _=>rfl) h.ok.xnd (fun b hb=>⟨h.ok.xlt b hb,.inl hb⟩) rfl rfl rfl
theorem Wn {w:World} {cs:List Value} {t:TypeId} {r:List Value}:QG (w.alloc (.cells (cs ++ r).toArray t)) ⟨w.heap.size,0,none⟩ cs:=by
 intro j v hj
 rw [Addr.add_lit,Nat.zero_add,World.cell?_alloc_new]
 simp only [List.getElem?_toArray]
 rw [List.getElem?_append_left (List.getElem?_eq_some_iff.1 hj).1,hj]
theorem Vs {w:World} {cs:List Value} {t:TypeId}:QJ (w.alloc (.cells cs.toArray t)) ⟨w.heap.size,0,none⟩ cs.length:=by
 intro j hj
 rw [Addr.add_lit,Nat.zero_add]
 refine ⟨⟨cs[j],?_⟩,?_⟩
 ·rw [World.cell?_alloc_new];simp [hj]
 ·simp
theorem OJ {F:List Nat} (h:JK w bl G (F ++ X) w0 F0) (hs:Jy (Ja w bl G (F ++ X)) sl a) {d:Option Nat} {x:V} {cs:List Value} {v:Value} {b':BL} {x':V} (hx:InV (Ja w bl G (F ++ X)) x cs F) (hu:Qf x cs v)
  (hf:fresh sl bl d x=some (x',b')):∃ G',JK w b' G' X w0 F0∧Jy (Ja w b' G' X) sl a∧Val (Ja w b' G' X) x' v []:=by
 unfold fresh at hf
 split at hf
 ·rename_i t
  split at hf
  ·rename_i hun
   simp only [oj,pj] at hf
   obtain ⟨rfl,rfl⟩:=hf
   obtain ⟨u1,u2,u3,u4⟩:=C6 hun
   obtain ⟨g1,g2⟩:=h.add u1 u3 hx u4
   refine ⟨_,g1,hs.goes g2 (fun s hs' hst=>u2 (hst ▸ hs')),?_⟩
   have hb:Jb (Jp bl t x) t=some x:=by rw [JG];simp
   refine Vp (Fv:=F) (E:=Ja w (Jp bl t x) (fun q=>if q=t then some (cs,F) else G q) X) (s:=t) (c0:=x) (rc:=cs) (F:=F) hb (by simp [Ja]) (L:=.reg cs) (by simp [Jf]) ⟨[],by simp⟩ ?_ hu
   exact g2.inV (fun s hs' hst=>u4 (hst ▸ hs')) (fun b _=>rfl) hx
  ·simp at hf
 ·simp at hf
end
end Go.Rai
namespace Go.Rai
variable [Inhabited Qk]
theorem CM {R:D→List Value→List Nat→Prop} (hR:∀ d c F,R d c F→∀ v ∈ c,v.oneCell'=true):∀ {l:List D} {cs:List Value} {F:List Nat},Row R l cs F→∀ v ∈ cs,v.oneCell'=true
 | [],cs,F,h,v,hv=>by obtain ⟨rfl,_⟩:=h;cases hv
 | d :: l,cs,F,⟨c1,c2,F1,F2,e1,e2,h1,h2⟩,v,hv=>by
  subst e1
  rcases List.mem_append.1 hv with h | h
  ·exact hR d c1 F1 h1 v h
  ·exact CM hR h2 v h
mutual
theorem H9 {o:Bool} {w:World}:∀ (t:Ty) {d:D} {cs:List Value} {F:List Nat},DIn o w t d cs F→∀ v ∈ cs,v.oneCell'=true
 | .int k,d,cs,F,h,v,hv=>by unfold DIn at h;obtain ⟨rfl,_⟩:=h;simp at hv;subst hv;rfl
 | .bool,d,cs,F,h,v,hv=>by unfold DIn at h;obtain ⟨rfl,_⟩:=h;simp at hv;subst hv;rfl
 | .str,d,cs,F,h,v,hv=>by unfold DIn at h;obtain ⟨rfl,_⟩:=h;simp at hv;subst hv;rfl
 | .struct ts,d,cs,F,h,v,hv=>by unfold DIn at h;exact Si ts h v hv
 | .arr n e,d,cs,F,h,v,hv=>by unfold DIn at h;exact CM (fun d c F=>H9 e) h.2 v hv
 | .slice e,d,cs,F,h,v,hv=>by unfold DIn at h;obtain ⟨A,c,rfl,_⟩:=h;simp at hv;subst hv;rfl
 | .ptr,d,cs,F,h,v,hv=>by unfold DIn at h;exact h.elim
 | .fn,d,cs,F,h,v,hv=>by unfold DIn at h;exact h.elim
 | .imap,d,cs,F,h,v,hv=>by unfold DIn at h;exact h.elim
 | .other,d,cs,F,h,v,hv=>by unfold DIn at h;exact h.elim
theorem Si {o:Bool} {w:World}:∀ (ts:List Ty) {j:Nat} {d:D} {cs:List Value} {F:List Nat},Qx o w ts j d cs F→∀ v ∈ cs,v.oneCell'=true
 | [],j,d,cs,F,h,v,hv=>by unfold Qx at h;obtain ⟨rfl,_⟩:=h;cases hv
 | t :: ts,j,d,cs,F,h,v,hv=>by
  unfold Qx at h
  obtain ⟨c1,c2,F1,F2,rfl,_,h1,h2⟩:=h
  rcases List.mem_append.1 hv with h | h
  ·exact H9 t h1 v h
  ·exact Si ts h2 v h
end
mutual
theorem Vt {E:Env}:∀ {t:Ty} {x:V} {cs:List Value} {F:List Nat},Jq t x=true→InV E x cs F→∀ v ∈ cs,v.oneCell'=true
 | t,.agg vs,cs,F,h,hi,v,hv=>by
  cases t<;>simp [Jq] at h
  unfold InV at hi
  exact Sj h hi v hv
 | t,.arr n e l,cs,F,h,hi,v,hv=>by unfold InV at hi;exact CM (fun d c F=>H9 e) hi.2.2 v hv
 | t,.int k n,cs,F,h,hi,v,hv=>by unfold InV at hi;obtain ⟨rfl,_⟩:=hi;simp at hv;subst hv;rfl
 | t,.bool k,cs,F,h,hi,v,hv=>by unfold InV at hi;obtain ⟨rfl,_⟩:=hi;simp at hv;subst hv;rfl
 | t,.str k,cs,F,h,hi,v,hv=>by unfold InV at hi;obtain ⟨rfl,_⟩:=hi;simp at hv;subst hv;rfl
 | t,.own e l,cs,F,h,hi,v,hv=>by unfold InV at hi;obtain ⟨_,A,c,rfl,_⟩:=hi;simp at hv;subst hv;rfl
 | t,.rd e l,cs,F,h,hi,v,hv=>by unfold InV at hi;obtain ⟨_,_,A,c,_,rfl,_⟩:=hi;simp at hv;subst hv;rfl
 | t,.lst e l,cs,F,h,hi,v,hv=>by unfold InV at hi;obtain ⟨a,c,_,_,rfl,_⟩:=hi;simp at hv;subst hv;rfl
 | t,.nilsl,cs,F,h,hi,v,hv=>by unfold InV at hi;obtain ⟨rfl,_⟩:=hi;simp at hv;subst hv;rfl
 | t,.emp e,cs,F,h,hi,v,hv=>by unfold InV at hi;obtain ⟨⟨A,rfl⟩,_⟩:=hi;simp at hv;subst hv;rfl
 | t,.obox e,cs,F,h,hi,v,hv=>by unfold InV at hi;obtain ⟨a,_,_,rfl,_⟩:=hi;simp at hv;subst hv;rfl
 | t,.rp e,cs,F,h,hi,v,hv=>by unfold InV at hi;obtain ⟨_,a,_,rfl,_⟩:=hi;simp at hv;subst hv;rfl
 | t,.full s p e,cs,F,h,hi,v,hv=>by unfold InV at hi;obtain ⟨_,⟨a,_,_,rfl⟩,_⟩:=hi;simp at hv;subst hv;rfl
 | t,.sub s p _ _ e,cs,F,h,hi,v,hv=>by unfold InV at hi;obtain ⟨_,⟨a,_,rfl,_⟩,_⟩:=hi;simp at hv;subst hv;rfl
 | t,.ptr s p,cs,F,h,hi,v,hv=>by unfold InV at hi;obtain ⟨_,⟨a,rfl⟩,_⟩:=hi;simp at hv;subst hv;rfl
 | t,.fn f caps,cs,F,h,hi,v,hv=>by unfold InV at hi;obtain ⟨a,rfl,_⟩:=hi;simp at hv;subst hv;rfl
 | t,.nilfn,cs,F,h,hi,v,hv=>by unfold InV at hi;obtain ⟨rfl,_⟩:=hi;simp at hv;subst hv;rfl
 | t,.nilptr,cs,F,h,hi,v,hv=>by unfold InV at hi;obtain ⟨rfl,_⟩:=hi;simp at hv;subst hv;rfl
 | t,.mp _,cs,F,h,hi,v,hv=>by cases t<;>simp [Jq] at h
 | t,.mref _,cs,F,h,hi,v,hv=>by cases t<;>simp [Jq] at h
 | t,.undef,cs,F,h,hi,v,hv=>by cases t<;>simp [Jq] at h
 | t,.void,cs,F,h,hi,v,hv=>by cases t<;>simp [Jq] at h
 | t,.tup _,cs,F,h,hi,v,hv=>by cases t<;>simp [Jq] at h
 | t,.ownh _ _ _,cs,F,h,hi,v,hv=>by cases t<;>simp [Jq] at h
theorem Sj {E:Env}:∀ {ts:List Ty} {xs:List V} {cs:List Value} {F:List Nat},JI ts xs=true→Jj E xs cs F→∀ v ∈ cs,v.oneCell'=true
 | ts,[],cs,F,h,hi,v,hv=>by unfold Jj at hi;obtain ⟨rfl,_⟩:=hi;cases hv
 | ts,x :: xs,cs,F,h,hi,v,hv=>by
  cases ts with
  | nil=>simp [JI] at h
  | cons t ts=>
   unfold JI at h
   rw [Je] at h
   unfold Jj at hi
   obtain ⟨c1,c2,F1,F2,rfl,_,h1,h2⟩:=hi
   rcases List.mem_append.1 hv with h' | h'
   ·exact Vt h.1 h1 v h'
   ·exact Sj h.2 h2 v h'
end
theorem Vu {v:Value} (h:v.oneCell'=true):v.cells=#[v]:=by
 cases v<;>first | rfl | simp [Value.oneCell'] at h
theorem Wo {E:Env} {t:Ty} {x:V} {v:Value} {F:List Nat} (h:Jq t x=true) (hv:Val E x v F):∃ cs,InV E x cs F∧Qf x cs v∧v.cells=cs.toArray∧cs.length=t.size∧∀ u ∈ cs,u.oneCell'=true:=by
 obtain ⟨cs,h1,h2⟩:=(Wh h).1 hv
 refine ⟨cs,h1,h2,?_,by rw [Qq _ h1,(Qt h).1],Vt h h1⟩
 unfold Qf at h2
 split at h2
 ·subst h2;rfl
 ·subst h2
  exact Vu (Vt h h1 v (by simp))
theorem YP (E:Env) {t:Ty} (h:zok t=true):(Ud (Qr t) (JF t)).cells=(JF t).toArray∧(JF t).length=t.size:=by
 have hz:=Wm (E:=E) t h
 have hl:(JF t).length=t.size:=by rw [Qq _ hz,(Qt (Xs t h)).1]
 refine ⟨?_,hl⟩
 unfold Ud
 cases hA:Qr t with
 | true=>rfl
 | false=>
  rw [U7 hA] at hl
  match hq:JF t,hl with
  | [v],_=>
   have:=Vt (Xs t h) hz v (by rw [hq];simp)
   exact Vu this
theorem Sk:∀ (l:List Value) (k off:Nat) (c1 c c2:List Value) (cells:Array Value),cells.toList=c1 ++ (c ++ c2)→c.length=l.length→c1.length=off + k →
  ((l.zipIdx k).foldl (fun cs p=>cs.setIfInBounds (off + p.2) p.1) cells).toList=c1 ++ (l ++ c2)
 | [],k,off,c1,c,c2,cells,h,hl,_=>by
  have:c=[]:=List.eq_nil_of_length_eq_zero (by simpa using hl)
  subst this
  simpa using h
 | x :: l,k,off,c1,c,c2,cells,h,hl,hk=>by
  match c,hl with
  | y :: c,hl=>
   simp only [List.zipIdx_cons,List.foldl_cons]
   have:=Sk l (k + 1) off (c1 ++ [x]) c c2 (cells.setIfInBounds (off + k) x) (by
    rw [Array.toList_setIfInBounds,h,← hk]
    simp) (by simpa using hl) (by simp;omega)
   rw [this]
   simp
theorem MW {v:Value} {cells:Array Value} {off:Nat} {c1 c c2:List Value} (h:cells.toList=c1 ++ (c ++ c2)) (hl:c.length=v.cells.size) (hk:c1.length=off) :
  (v.cells.zipIdx.foldl (fun cs (p:Value × Nat)=>cs.setIfInBounds (off + p.2) p.1) cells).toList=c1 ++ (v.cells.toList ++ c2):=by
 rw [← Array.foldl_toList,Array.toList_zipIdx]
 exact Sk v.cells.toList 0 off c1 c c2 cells h (by simpa using hl) (by simpa using hk)
theorem Sl:∀ {ts:List Ty} {vs:List V} {i:Nat} {t:Ty} {x:V},JI ts vs=true→nth ts i=some t→Jq t x=true→JI ts (JD vs i x)=true
 | [],vs,i,t,x,h,hn,_=>by simp [nth] at hn
 | t :: ts,[],i,_,x,h,_,_=>by simp [JI] at h
 | t :: ts,v :: vs,0,_,x,h,hn,hx=>by
  simp [nth] at hn;subst hn
  unfold JI at h;rw [Je] at h
  unfold JD JI;rw [Je]
  exact ⟨hx,h.2⟩
 | t :: ts,v :: vs,i + 1,_,x,h,hn,hx=>by
  unfold JI at h;rw [Je] at h
  unfold JD JI;rw [Je]
  exact ⟨h.1,Sl (i:=i) h.2 (by simpa [nth] using hn) hx⟩
theorem YQ:∀ {ts:List Ty} {vs:List V} {i:Nat} {t:Ty},JI ts vs=true→nth ts i=some t→∃ x,nth vs i=some x∧Jq t x=true∧Ty.sizes (ts.take i)=Jt (vs.take i)
 | [],vs,i,t,h,hn=>by simp [nth] at hn
 | t :: ts,[],i,_,h,_=>by simp [JI] at h
 | t :: ts,v :: vs,0,_,h,hn=>by
  simp [nth] at hn;subst hn
  unfold JI at h;rw [Je] at h
  exact ⟨v,rfl,h.1,rfl⟩
 | t :: ts,v :: vs,i + 1,_,h,hn=>by
  unfold JI at h;rw [Je] at h
  obtain ⟨x,h1,h2,h3⟩:=YQ (i:=i) h.2 (by simpa [nth] using hn)
  exact ⟨x,by simpa [nth] using h1,h2,by simp [Ty.sizes,Jt,h3,(Qt h.1).1]⟩
theorem Ux.refl_ (E:Env) (s:Nat):Ux E E s:=(Jx.refl_ E (fun _=>False)).al s id
theorem YR {E:Env} {sl:List V} {a:Act} (hs:Jy E sl a) {ts:List Ty} {place:Nat→Option (Nat × Nat)} (hp:∀ i t,nth ts i=some t→place i=some (Ty.sizes (ts.take i),t.size)) :
  ∀ (ps:List (Nat × Operand)) {vs vs':List V} {cells:Array Value},JI ts vs=true→Jj E vs cells.toList []→CZ ts vs (H0 sl ps)=some vs' →
   ∃ cells',Instr.fill place cells (ps.map fun (i,x)=>(i,a.eval x))=some cells'∧JI ts vs'=true∧Jj E vs' cells'.toList []
 | [],vs,vs',cells,hf,hi,h=>by
  simp only [H0,CZ,oj] at h
  subst h
  exact ⟨cells,rfl,hf,hi⟩
 | (i,x) :: ps,vs,vs',cells,hf,hi,h=>by
  simp only [H0,CZ] at h
  split at h
  ·rename_i t ht
   split at h
   ·rename_i hfx
    obtain ⟨old,g1,g2,g3⟩:=YQ hf ht
    obtain ⟨c1,c,c2,F1,Fc,F2,k1,k2,k3,k4,k5⟩:=U3 hi g1
    obtain ⟨rfl,hF⟩:=List.append_eq_nil_iff.1 k2.symm
    obtain ⟨rfl,rfl⟩:=List.append_eq_nil_iff.1 hF
    obtain ⟨cx,q1,q2,q3,q4,q5⟩:=Wo hfx (JJ hs x)
    have hcl:c.length=t.size:=by rw [Qq _ k4,(Qt g2).1]
    have hsz:(a.eval x).cells.size=t.size:=by rw [q3];simpa using q4
    have hcs:cells.size=c1.length + (c.length + c2.length):=by rw [← Array.length_toList,k1];simp
    have hfold:=MW (v:=a.eval x) (off:=Ty.sizes (ts.take i)) k1 (by rw [hcl,hsz]) (by rw [k3,g3])
    have hset:=k5 E (opd sl x) cx [] (Jx.refl_ E (fun _=>False)).le (fun s _=>Ux.refl_ E s) (fun b _=>rfl) (fun b _=>rfl) q1
    rw [q3] at hfold
    simp only [List.append_nil] at hset
    obtain ⟨cells',r1,r2,r3⟩:=YR hs hp ps (Sl hf ht hfx) (by rw [← hfold] at hset;exact hset) h
    refine ⟨cells',?_,r2,r3⟩
    simp only [List.map_cons,Instr.fill,hp i t ht]
    rw [if_neg]
    ·rw [← q3] at r1
     exact r1
    ·have:Ty.sizes (ts.take i)=c1.length:=by rw [g3,k3]
     simp [hsz];omega
   ·simp at h
  ·simp at h
end Go.Rai
namespace Go.Rai
variable [Inhabited Qk]
mutual
theorem Vv {E:Env}:∀ (t:Ty) {v:V} {cs:List Value} {F:List Nat},InV E v cs F→InV E (UN t v) cs F
 | .slice e,v,cs,F,h=>by
  cases v with
  | nilsl=>
   unfold UN
   cases hp:e.plain with
   | false=>exact h
   | true=>
    unfold InV at h ⊢
    obtain ⟨rfl,rfl⟩:=h
    exact ⟨hp,none,0,rfl,.inl ⟨rfl,rfl,rfl⟩⟩
  | emp e'=>
   unfold UN
   cases hp:e.plain with
   | false=>exact h
   | true=>
    unfold InV at h ⊢
    obtain ⟨⟨A,rfl⟩,rfl⟩:=h
    exact ⟨hp,A,0,rfl,.inl ⟨rfl,rfl,rfl⟩⟩
  | _=>exact h
 | .struct fs,v,cs,F,h=>by
  cases v with
  | agg vs=>
   unfold UN
   unfold InV at h ⊢
   exact YS fs h
  | _=>exact h
 | .int _,v,cs,F,h=>by cases v<;>exact h
 | .bool,v,cs,F,h=>by cases v<;>exact h
 | .str,v,cs,F,h=>by cases v<;>exact h
 | .arr _ _,v,cs,F,h=>by cases v<;>exact h
 | .ptr,v,cs,F,h=>by cases v<;>exact h
 | .fn,v,cs,F,h=>by cases v<;>exact h
 | .imap,v,cs,F,h=>by cases v<;>exact h
 | .other,v,cs,F,h=>by cases v<;>exact h
theorem YS {E:Env}:∀ (ts:List Ty) {vs:List V} {cs:List Value} {F:List Nat},Jj E vs cs F→Jj E (CD ts vs) cs F
 | [],vs,cs,F,h=>by cases vs<;>exact h
 | t :: ts,[],cs,F,h=>h
 | t :: ts,v :: vs,cs,F,h=>by
  unfold CD
  unfold Jj at h ⊢
  obtain ⟨c1,c2,F1,F2,e1,e2,h1,h2⟩:=h
  exact ⟨c1,c2,F1,F2,e1,e2,Vv t h1,YS ts h2⟩
end
theorem Sm {E:Env} {t:Ty} {v:V} {cs:List Value} {F:List Nat} (h:InV E v cs F):InV E (Uq t v) cs F:=by
 cases t with
 | struct fs=>exact Vv _ h
 | _=>exact h
section
variable {P:Program} {A:Ann} {w w' w0:World} {F0:List Nat} {sl:List V} {a:Act} {bl:BL} {G:GT} {o:Oper}
theorem HC {c c':List Jk} {x:Option Out} {r:Out} (h:Q8 c x=some (c',r)):c'=c∧x=some r:=by
 unfold Q8 at h
 split at h
 ·simp only [oj,pj] at h;exact ⟨h.1.symm,by rw [h.2]⟩
 ·simp at h
theorem Jy.go0 {E E':Env} (h:Jx E E' (fun _=>False)) (hs:Jy E sl a):Jy E' sl a:=hs.goes h (fun _ _=>id)
theorem Vw (hc:JX w bl G w0 F0) (hs:Jy (Ja w bl G []) sl a) {cs r:List Value} {te:TypeId} {x:V} {v:Value} {x':V} {b':BL} (hu:isA x=false)
  (hx:InV (Ja (w.alloc (.cells (cs ++ r).toArray te)) bl G [w.heap.size]) x [v] [w.heap.size]) (hf:fresh sl bl o.dst x=some (x',b'))
  (hr:(execOp a.eval o).run P w=.ok (.value v) (w.alloc (.cells (cs ++ r).toArray te))):Jo P w0 F0 sl a w o x' b':=by
 obtain ⟨k1,k2⟩:=hc.x.alloc (.cells (cs ++ r).toArray te)
 obtain ⟨G',g1,g2,g3⟩:=OJ (F:=[w.heap.size]) (X:=[]) k1 (hs.go0 k2) (v:=v) hx (by unfold Qf;rw [hu]) hf
 exact ⟨v,_,G',.inl hr,g1.c,g2,g3⟩
theorem Sn {cs:List Value} {te:TypeId} {x:V} {E:Env} (hw:E.w=w.alloc (.cells cs.toArray te)) (hx:InV E x cs []):InV E (.obox x) [.pointer (some ⟨w.heap.size,0,none⟩)] [w.heap.size]:=by
 unfold InV
 refine ⟨_,cs,[],rfl,hx,?_,rfl,by rw [hw];simp,by rw [hw];exact Vs⟩
 rw [hw]
 have:=Wn (w:=w) (cs:=cs) (t:=te) (r:=[])
 rwa [List.append_nil] at this
theorem MX (HT:JN P A.ty) (hc:JX w bl G w0 F0) (hs:Jy (Ja w bl G []) sl a) {t:TypeId} {v:V} {b':BL} (h:o.op=.alloc t) (hz:zok (A.ty t)=true)
  (hf:fresh sl bl o.dst (.obox (Ug (A.ty t)))=some (v,b')):Jo P w0 F0 sl a w o v b':=by
 have hT:=HT t (by intro h';rw [h'] at hz;simp [zok] at hz)
 obtain ⟨hcell,hlen⟩:=YP (Ja w bl G []) hz
 refine Vw (cs:=JF (A.ty t)) (r:=[]) (te:=t) hc hs rfl (Sn (by show World.alloc _ _=_;rw [List.append_nil]) (Wm _ hz)) hf ?_
 simp only [execOp,h,Instr.alloc,Sem.run_bind,Wg hT,Result.andThen_ok]
 simp [newVar,newRow,hcell]
theorem MY (hc:JX w bl G w0 F0) (hs:Jy (Ja w bl G []) sl a) {t:TypeId} {x:Operand} {v:V} {b':BL} (h:o.op=.box t x) (hz:Jq (A.ty t) (opd sl x)=true)
  (hf:fresh sl bl o.dst (.obox (Uq (A.ty t) (opd sl x)))=some (v,b')):Jo P w0 F0 sl a w o v b':=by
 obtain ⟨cs,q1,q2,q3,q4,q5⟩:=Wo hz (JJ hs x)
 obtain ⟨k1,k2⟩:=hc.x.alloc (.cells cs.toArray t)
 refine Vw (cs:=cs) (r:=[]) (te:=t) hc hs rfl (Sn (by show World.alloc _ _=_;rw [List.append_nil]) (by rw [List.append_nil];exact Sm (k2.inV (fun _ _=>id) (fun b hb=>by cases hb) q1))) hf ?_
 simp [execOp,h,Instr.box,newVar,newRow,q3]
theorem So (HT:JN P A.ty):∀ (fs:List Field),(∀ f ∈ fs,A.ty f.type ≠ .other) →
  (fs.mapM fun f=>Prod.mk f.offset <$> sizeOf f.type).run P w=.ok (fs.map fun f=>(f.offset,(A.ty f.type).size)) w
 | [],_=>rfl
 | f :: fs,h=>by
  have hi:=H5 (w:=w) (HT f.type (h f (by simp)))
  have:=So HT fs (fun g hg=>h g (by simp [hg]))
  simp [List.mapM_cons,hi,this]
theorem MZ (HT:JN P A.ty) (hc:JX w bl G w0 F0) (hs:Jy (Ja w bl G []) sl a) {t:TypeId} {ps:Array (Nat × Operand)} {fs:List Ty} {vs:List V} (h:o.op=.build t ps) (hty:A.ty t=.struct fs) (hz:CW fs=true)
  (hv:CZ fs (HZ fs) (H0 sl ps.toList)=some vs):Jo P w0 F0 sl a w o (.agg vs) bl:=by
 have hT:=HT t (by rw [hty];simp)
 obtain ⟨d,hd,hdk⟩:=hT.desc
 rw [hty] at hdk
 obtain ⟨fields,rfl,hsize,hfs⟩:=Vo hdk
 have hzero:(Ud (Qr (A.ty t)) (JF (A.ty t))).cells=(H4 fs).toArray:=by
  rw [hty];rfl
 have hpl:=So (w:=w) HT fields.toList (by
  intro f hf
  obtain ⟨j,hj,rfl⟩:=List.mem_iff_getElem.1 hf
  exact (hfs j _ (by simp)).2.1)
 have hplace:∀ i ty,nth fs i=some ty→(fields.toList.map fun f=>(f.offset,(A.ty f.type).size))[i]?=some (Ty.sizes (fs.take i),ty.size):=by
  intro i ty hi
  rw [Vh] at hi
  have hlt:i<fields.size:=by rw [hsize];exact (List.getElem?_eq_some_iff.1 hi).1
  obtain ⟨q1,q2,q3,q4,q5⟩:=hfs i fields[i] (by simp [hlt])
  rw [hi] at q1
  simp only [oj] at q1
  simp [hlt,q1,q4]
 obtain ⟨cells',r1,r2,r3⟩:=YR (place:=fun i=>(fields.toList.map fun f=>(f.offset,(A.ty f.type).size))[i]?) hs hplace ps.toList (cells:=(H4 fs).toArray) (YO fs hz) (by simpa using YN fs hz) hv
 refine Jo.pure hc hs (vv:=.agg cells') ?_ (We.2 ⟨cells'.toList,by simp,r3⟩)
 have hpl':(fields.mapM fun f=>Prod.mk f.offset <$> sizeOf f.type).run P w=.ok (fields.toList.map fun f=>(f.offset,(A.ty f.type).size)).toArray w:=by
  rw [Array.mapM_eq_mapM_toList]
  simp only [Sem.run_map,hpl]
  simp
 simp only [execOp,h,Instr.build,Sem.run_bind,Wg hT,Result.andThen_ok,QO hd,hzero]
 have r1':Instr.fill (fun x=>Option.map (fun f=>(f.offset,(A.ty f.type).size)) fields[x]?) (H4 fs).toArray (List.map (fun x=>(x.fst,a.eval x.snd)) ps.toList)=some cells':=by simpa using r1
 simp [hpl',r1']
theorem M0 (HT:JN P A.ty) (hc:JX w bl G w0 F0) (hs:Jy (Ja w bl G []) sl a) {t:TypeId} {ps:Array (Nat × Operand)} {n:Nat} {e:Ty} (h:o.op=.build t ps) (hty:A.ty t=.arr n e) (hz:e.flat=true) (hps:ps.toList=[]):Jo P w0 F0 sl a w o (.arr n e (List.replicate n (QQ e))) bl:=by
 have hT:=HT t (by rw [hty];simp)
 obtain ⟨d,hd,hdk⟩:=hT.desc
 rw [hty] at hdk
 obtain ⟨te,rfl,hte,hne⟩:∃ te,d=.array n te∧A.ty te=e∧e ≠ .other:=by
  cases d<;>simp only [Hm] at hdk
  rename_i n' te
  exact ⟨te,by rw [hdk.1],hdk.2.1,hdk.2.2⟩
 have hTe:=HT te (by rw [hte];exact hne)
 have hzok:zok (.arr n e)=true:=by unfold zok;exact hz
 obtain ⟨hcell,hlen⟩:=YP (Ja w bl G []) hzok
 have hps':ps=#[]:=by apply Array.toList_inj.1;rw [hps]
 have hin:=Wm (E:=Ja w bl G []) (.arr n e) hzok
 refine Jo.pure hc hs (vv:=.agg (JF (.arr n e)).toArray) ?_ ⟨JF (.arr n e),hin,rfl⟩
 simp only [execOp,h,hps',Instr.build,Sem.run_bind,Wg hT,hty,Result.andThen_ok,QO hd,H5 hTe]
 simp [Instr.fill,hcell]
theorem Sp {E:Env} {e:Ty} (hz:zok e=true):∀ n,Jj E (rep n (Ug e)) (JW n (JF e)) []∧JI (rep n e) (rep n (Ug e))=true
 | 0=>⟨by unfold rep JW Jj;exact ⟨rfl,rfl⟩,rfl⟩
 | n + 1=>by
  obtain ⟨h1,h2⟩:=Sp hz n
  refine ⟨?_,?_⟩
  ·unfold rep JW Jj
   exact ⟨_,_,[],[],rfl,rfl,Wm e hz,h1⟩
  ·unfold rep JI
   rw [Je]
   exact ⟨Xs e hz,h2⟩
theorem Sq {e:Ty}:∀ {n i:Nat} {t:Ty},nth (rep n e) i=some t→t=e∧Ty.sizes ((rep n e).take i)=i * e.size
 | 0,i,t,h=>by simp [rep,nth] at h
 | n + 1,0,t,h=>by simp [rep,nth] at h;exact ⟨h.symm,by simp [Ty.sizes]⟩
 | n + 1,i + 1,t,h=>by
  obtain ⟨h1,h2⟩:=Sq (n:=n) (i:=i) (by simpa [rep,nth] using h)
  refine ⟨h1,?_⟩
  simp only [rep,List.take_succ_cons,Ty.sizes,h2,Nat.add_mul,Nat.one_mul]
  omega
theorem Sr {e:Ty}:∀ (n:Nat),Ty.sizes (rep n e)=n * e.size
 | 0=>by simp [rep,Ty.sizes]
 | n + 1=>by simp only [rep,Ty.sizes,Sr n,Nat.add_mul,Nat.one_mul];omega
theorem Ss {cs:List Value} {s:Nat} (hs:cs.length=s):∀ (n i:Nat),i<n * s→(JW n cs)[i]?=cs[i % s]?
 | 0,i,h=>by simp at h
 | n + 1,i,h=>by
  unfold JW
  by_cases hi:i<s
  ·rw [List.getElem?_append_left (by omega),Nat.mod_eq_of_lt hi]
  ·rw [List.getElem?_append_right (by omega),Ss hs n (i - cs.length) (by rw [hs];rw [Nat.add_mul] at h;omega),hs]
   congr 1
   rw [Nat.mod_eq_sub_mod (by omega:s≤i)]
theorem Vx {cs:List Value}:∀ (n:Nat),(JW n cs).length=n * cs.length
 | 0=>by simp [JW]
 | n + 1=>by unfold JW;rw [List.length_append,Vx n,Nat.add_mul];omega
theorem Wp {cs:List Value} {n s:Nat} (hs:cs.length=s):((Array.range (n * s)).map (cs.toArray[· % cs.toArray.size]!))=(JW n cs).toArray:=by
 apply Array.ext
 ·simp [Vx,hs]
 ·intro i h1 h2
  have hi:i<n * s:=by simpa using h1
  have hs0:0<s:=by exact Nat.pos_of_ne_zero (fun h=>by subst h;simp at hi)
  have hlt:i % s<cs.length:=by rw [hs];exact Nat.mod_lt _ hs0
  have hg:=Ss hs n i hi
  simp only [Array.getElem_map,Array.getElem_range,List.size_toArray,hs,List.getElem_toArray]
  have e2:(JW n cs)[i]?=some (cs[i % s]):=by rw [hg];simp [hlt]
  have hlt2:i<(JW n cs).length:=by simpa using h2
  rw [List.getElem?_eq_getElem hlt2] at e2
  simp only [oj] at e2
  rw [e2]
  simp [hlt]
theorem Su:∀ {n:Nat} {e:Ty} {vs:List V},JI (rep n e) vs=true→vs.length=n
 | 0,e,vs,h=>by cases vs<;>simp [rep,JI] at h;rfl
 | n + 1,e,vs,h=>by
  cases vs with
  | nil=>simp [rep,JI] at h
  | cons v vs=>
   simp only [rep,JI,Je] at h
   simp [Su h.2]
mutual
theorem Xt:∀ {t:Ty} {x:V},t.flat=true→Jq t x=true→shp t x=true
 | .int k,x,_,h=>by cases x<;>simp [Jq] at h;simpa [shp] using h
 | .bool,x,_,h=>by cases x<;>simp [Jq] at h;rfl
 | .str,x,_,h=>by cases x<;>simp [Jq] at h;rfl
 | .struct ts,x,hf,h=>by
  cases x<;>simp [Jq] at h
  unfold Ty.flat at hf
  unfold shp
  exact Sv hf h
 | .arr n e,x,hf,h=>by
  cases x<;>simp [Jq] at h
  unfold shp;exact h
 | .slice e,x,hf,h=>by simp [Ty.flat] at hf
 | .ptr,x,hf,h=>by simp [Ty.flat] at hf
 | .fn,x,hf,h=>by simp [Ty.flat] at hf
 | .imap,x,hf,h=>by simp [Ty.flat] at hf
 | .other,x,hf,h=>by simp [Ty.flat] at hf
theorem Sv:∀ {ts:List Ty} {xs:List V},Ty.flats ts=true→JI ts xs=true→Qw ts xs=true
 | [],xs,_,h=>by cases xs<;>simp [JI] at h;rfl
 | t :: ts,xs,hf,h=>by
  cases xs with
  | nil=>simp [JI] at h
  | cons x xs=>
   unfold Ty.flats at hf;rw [Je] at hf
   unfold JI at h;rw [Je] at h
   unfold Qw;rw [Je]
   exact ⟨Xt hf.1 h.1,Sv hf.2 h.2⟩
end
theorem Sw {E:Env} {e:Ty} (hf:e.flat=true):∀ {n:Nat} {vs:List V} {cs:List Value} {F:List Nat},JI (rep n e) vs=true→Jj E vs cs F→Row (DIn true E.w e) (Un vs) cs F
 | 0,vs,cs,F,h,hi=>by
  cases vs<;>simp [rep,JI] at h
  unfold Jj at hi
  exact hi
 | n + 1,vs,cs,F,h,hi=>by
  cases vs with
  | nil=>simp [rep,JI] at h
  | cons v vs=>
   simp only [rep,JI,Je] at h
   unfold Jj at hi
   obtain ⟨c1,c2,F1,F2,e1,e2,h1,h2⟩:=hi
   exact ⟨c1,c2,F1,F2,e1,e2,Vg e (Xt hf h.1) h1,Sw hf h.2 h2⟩
theorem Wq:∀ (vs:List V),(Un vs).length=vs.length
 | []=>rfl
 | v :: vs=>by simp [Un,Wq vs]
theorem Sx {cs:List Value} {te:TypeId} {e:Ty} {l:List D} {E:Env} {n:Nat} (hp:e.plain=true) (hw:E.w=w.alloc (.cells cs.toArray te)) (hx:Row (DIn true E.w e) l cs []) (hl:l.length=n):InV E (.own e l) [.slice (some ⟨w.heap.size,0,none⟩) n n] [w.heap.size]:=by
 unfold InV
 subst hl
 refine ⟨hp,_,_,rfl,.inr ⟨_,cs,[],rfl,hx,?_,rfl,Nat.le_refl _,by rw [hw];simp,fun _=>?_⟩⟩
 ·rw [hw]
  have:=Wn (w:=w) (cs:=cs) (t:=te) (r:=[])
  rwa [List.append_nil] at this
 ·have:=Hj (fun d c G hd=>Qn e hd) hx
  rw [← this,hw]
  exact Vs
theorem M3 (HT:JN P A.ty) (hc:JX w bl G w0 F0) (hs:Jy (Ja w bl G []) sl a) {t:TypeId} {n:Nat} {ps:Array (Nat × Operand)} {e:Ty} {vs:List V} {c:List Jk} {v:V} {b':BL} (h:o.op=.buildSlice t n ps) (hty:A.ty t=.slice e)
  (hz:zok e=true) (hn:n≤256) (hv:CZ (rep n e) (rep n (Ug e)) (H0 sl ps.toList)=some vs) (hb:V6 e sl bl o.dst n vs=some (c,v,b')):Jo P w0 F0 sl a w o v b':=by
 obtain ⟨d,hd,hdk⟩:=(HT t (by rw [hty];simp)).desc
 rw [hty] at hdk
 obtain ⟨te,rfl,hte,hne⟩:=Us hdk
 have hT:=HT te (by rw [hte];exact hne)
 obtain ⟨i,z,hi,hsz,hiz,hby,hsmall,hzv⟩:=hT.info
 obtain ⟨hcell,hlen⟩:=YP (Ja w bl G []) (by rw [← hte] at hz;exact hz)
 rw [hte] at hcell hlen hsmall
 obtain ⟨hr1,hr2⟩:=Sp (E:=Ja w bl G []) hz n
 obtain ⟨cells',r1,r2,r3⟩:=YR (place:=fun i=>some (i * e.size,e.size)) hs (fun i t' hi'=>by obtain ⟨g1,g2⟩:=Sq hi';rw [g1,g2]) ps.toList (cells:=(JW n (JF e)).toArray) hr2 (by simpa using hr1) hv
 have r1':Instr.fill (fun i=>some (i * e.size,e.size)) (JW n (JF e)).toArray (List.map (fun x=>(x.fst,a.eval x.snd)) ps.toList)=some cells':=by simpa using r1
 have hle:¬ (16777216<n * e.size):=by
  have:n * e.size≤256 * 65536:=Nat.mul_le_mul hn hsmall
  omega
 have hrun:(execOp a.eval o).run P w=.ok (.value (.slice (some ⟨w.heap.size,0,none⟩) n n)) (w.alloc (.cells cells' te)):=by
  simp only [execOp,h,Instr.buildSlice,Sem.run_bind,QO hd,Result.andThen_ok,H5 hT,hte]
  by_cases hz0:n * e.size=0
  ·have:JW n (JF e)=[]:=List.eq_nil_of_length_eq_zero (by rw [Vx,hlen];exact hz0)
   rw [this] at r1'
   simp [hle,hz0,newRow,r1',Array.range_zero']
  ·have hm:=Wp (n:=n) hlen
   have hm:Array.map (fun x=>(JF e)[x % (JF e).length]?.getD default) (Array.range (n * e.size))=(JW n (JF e)).toArray:=by simpa using hm
   have hzr:(zeroValue te).run P w=.ok (Ud (Qr e) (JF e)) w:=by have:=Wg (w:=w) hT;rwa [hte] at this
   simp [hle,hz0,newRow,hzr,hcell,hm,r1']
 have hcells:cells'=(cells'.toList ++ []).toArray:=by simp
 rw [hcells] at hrun
 have hrow:∀ (E:Env),Jx (Ja w bl G []) E (fun _=>False)→Jj E vs cells'.toList []:=fun E hE=>by
  exact HN hE.le vs (fun s _=>hE.al s id) (fun b hb=>by cases hb) r3
 have hk2:=(hc.x.alloc (.cells (cells'.toList ++ []).toArray te)).2
 have hlv:=Su r2
 unfold V6 at hb
 have hflat:e.flat=true→fresh sl bl o.dst (.own e (Un vs))=some (v,b')→Jo P w0 F0 sl a w o v b':=by
  intro hf hfr
  refine Vw (cs:=cells'.toList) (r:=[]) (te:=te) hc hs rfl ?_ hfr hrun
  refine Sx (te:=te) (cs:=cells'.toList) (Hi e hf) (by show World.alloc _ _=_;rw [List.append_nil]) (Sw hf r2 (hrow _ hk2)) (by rw [Wq,hlv])
 split at hb
 ·rename_i hf
  exact hflat hf (HC hb).2
 ·split at hb
  ·split at hb
   ·rename_i hp
    have hfr:=(HC hb).2
    refine Vw (cs:=cells'.toList) (r:=[]) (te:=te) hc hs rfl ?_ hfr hrun
    have hvs:vs=[]:=List.eq_nil_of_length_eq_zero hlv
    have hcl:cells'.toList=[]:=by
     have:=hrow _ hk2
     rw [hvs] at this
     unfold Jj at this
     exact this.1
    rw [hcl]
    exact Sx (te:=te) (cs:=[]) hp rfl ⟨rfl,rfl⟩ rfl
   ·simp at hb
  ·rename_i hn0
   have hfr:=(HC hb).2
   refine Vw (cs:=cells'.toList) (r:=[]) (te:=te) hc hs rfl ?_ hfr hrun
   have hin:=hrow _ hk2
   have hcl:cells'.toList.length=n * e.size:=by rw [CJ _ hin,YF r2,Sr]
   unfold InV
   refine ⟨_,_,cells'.toList,[],by rw [hlv],by omega,trivial,hin,?_,rfl,?_,?_,?_⟩
   ·exact Wn
   ·show _<(World.alloc _ _).heap.size;simp
   ·have:=Vs (w:=w) (cs:=cells'.toList ++ []) (t:=te)
    rw [List.append_nil] at this ⊢
    rw [← hcl];exact this
   ·have:=Vs (w:=w) (cs:=cells'.toList ++ []) (t:=te)
    rw [List.append_nil] at this ⊢
    rw [← CJ _ hin];exact this
end
end Go.Rai
namespace Go.Rai
variable [Inhabited Qk]
section
variable {P:Program} {A:Ann} {w w' w0:World} {F0:List Nat} {sl:List V} {a:Act} {bl:BL} {G:GT} {o:Oper}
theorem Sy (cs:List Value):∀ (m n:Nat),JW (m + n) cs=JW m cs ++ JW n cs
 | 0,n=>by rw [Nat.zero_add];rfl
 | m + 1,n=>by
  rw [show m + 1 + n=(m + n) + 1 by omega]
  show cs ++ JW (m + n) cs=(cs ++ JW m cs) ++ JW n cs
  rw [Sy cs m n,List.append_assoc]
theorem YT {cs r:List Value} {te:TypeId} {e:Ty} {l:List D} {E:Env} {c:Nat} {w1:World} {F:List Nat} (hp:e.plain=true) (hw:E.w=w1.alloc (.cells (cs ++ r).toArray te)) (hx:Row (DIn true E.w e) l cs F) (hl:l.length≤c) (hc:cs.length + r.length=c * e.size) :
  InV E (.own e l) [.slice (some ⟨w1.heap.size,0,none⟩) l.length c] (w1.heap.size :: F):=by
 unfold InV
 refine ⟨hp,_,_,rfl,.inr ⟨_,cs,F,rfl,hx,?_,rfl,hl,by rw [hw];simp,fun _=>?_⟩⟩
 ·rw [hw];exact Wn
 ·rw [hw,← hc,← List.length_append];exact Vs
theorem M4 (HT:JN P A.ty) (hc:JX w bl G w0 F0) (hs:Jy (Ja w bl G []) sl a) {t:TypeId} {l c:Operand} {ln cn:Int} {e:Ty} {v:V} {b':BL} (h:o.op=.makeSlice t l c) (hty:A.ty t=.slice e)
  (hp:e.plain=true) (hl:Uv (opd sl l)=some ln) (hcn:Uv (opd sl c)=some cn) (hk:Jk.ok (.mk ln cn)) (hf:fresh sl bl o.dst (.own e (List.replicate ln.toNat (QQ e)))=some (v,b')):Jo P w0 F0 sl a w o v b':=by
 obtain ⟨d,hd,hdk⟩:=(HT t (by rw [hty];simp)).desc
 rw [hty] at hdk
 obtain ⟨te,rfl,hte,hne⟩:=Us hdk
 have hT:=HT te (by rw [hte];exact hne)
 obtain ⟨i,z,hi,hsz,hiz,hby,hsmall,hzv⟩:=hT.info
 obtain ⟨kl,hlv⟩:=HB hl (JJ hs l)
 obtain ⟨kc,hcv⟩:=HB hcn (JJ hs c)
 obtain ⟨k1,k2,k3⟩:0≤ln∧ln≤cn∧cn≤4294967296:=hk
 rw [hte] at hsz hzv hsmall
 have hzlen:(JF e).length=e.size:=Qn e (Ct (o:=true) (w:=w) e hp)
 have hzc:z.cells=(JF e).toArray:=by
  rw [hzv]
  unfold Ud
  cases hA:Qr e with
  | true=>rfl
  | false=>
   have h1:=U7 hA
   rw [h1] at hzlen
   match hq:JF e,hzlen with
   | [u],_=>
    exact Vu (H9 e (Ct (o:=true) (w:=w) e hp) u (by rw [hq];simp))
 have hbytes:(i.bytes:Int) * cn≤281474976710656:=by
  have h1:(i.bytes:Int) * cn≤32768 * 4294967296:=Int.mul_le_mul (by omega) k3 (by omega) (by omega)
  omega
 have hr:=run_make (P:=P) w t te i z hd hi hiz kl kc ln cn k1 k2 hbytes (by omega)
 have hcells:madeCells z.cells (cn.toNat * i.size)=(JW ln.toNat (JF e) ++ JW (cn.toNat - ln.toNat) (JF e)).toArray:=by
  have:=Wp (n:=cn.toNat) hzlen
  rw [← Sy,show ln.toNat + (cn.toNat - ln.toNat)=cn.toNat by omega,← this,hsz,hzc]
  rfl
 rw [hcells] at hr
 refine Vw (v:=.slice (some ⟨w.heap.size,0,none⟩) ln.toNat cn.toNat) (cs:=JW ln.toNat (JF e)) (r:=JW (cn.toNat - ln.toNat) (JF e)) (te:=te) hc hs rfl ?_ hf (by simp only [execOp,h,hlv,hcv,Sem.run_bind,hr,Result.andThen_ok,Sem.run_pure])
 have:=YT (te:=te) (cs:=JW ln.toNat (JF e)) (r:=JW (cn.toNat - ln.toNat) (JF e)) (l:=List.replicate ln.toNat (QQ e)) (c:=cn.toNat) (w1:=w) (F:=[]) (E:=Ja (w.alloc (.cells (JW ln.toNat (JF e) ++ JW (cn.toNat - ln.toNat) (JF e)).toArray te)) bl G [w.heap.size]) hp rfl
  (OI (Ct e hp) _) (by simp;omega) (by rw [Vx,Vx,hzlen,← Nat.add_mul];congr 1;omega)
 simpa using this
theorem Hn (b:Nat):∀ (vs:List Value) (off:Nat) (w:World),(w.setCells b off vs).heap.size=w.heap.size
 | [],_,_=>rfl
 | v :: r,off,w=>by simp [World.setCells,Hn b r]
theorem HP (b k:Nat) (h:k ≠ b):∀ (vs:List Value) (off:Nat) (w:World),(w.setCells b off vs).heap[k]?=w.heap[k]?
 | [],_,_=>rfl
 | v :: r,off,w=>by
  rw [World.setCells,HP b k h r]
  exact Go.RowKit.Below.heap_setCell w ⟨b,off,none⟩ v k h
theorem Sz (b:Nat) (ad:Addr):∀ (vs:List Value) (off:Nat) (w:World),(w.setCells b off vs).frozen? ad=w.frozen? ad
 | [],_,_=>rfl
 | v :: r,off,w=>by rw [World.setCells,Sz b ad r,World.frozen?_setCell]
theorem Wr (b:Nat) (ad:Addr):∀ (vs:List Value) (off:Nat) (w:World),(ad.block ≠ b ∨ ad.off<off ∨ off + vs.length≤ad.off)→(w.setCells b off vs).cell? ad=w.cell? ad
 | [],_,_,_=>rfl
 | v :: r,off,w,h=>by
  rw [World.setCells,Wr b ad r (off + 1) _ (by simp at h;omega)]
  rw [World.cell?_setCell_other]
  intro h'
  subst h'
  simp at h
  omega
theorem YU (b:Nat):∀ (vs:List Value) (off:Nat) (w:World) (j:Nat) (v:Value),(∀ k,k<vs.length→∃ u,w.cell? ⟨b,off + k,none⟩=some u)→vs[j]?=some v→(w.setCells b off vs).cell? ⟨b,off + j,none⟩=some v
 | [],_,_,_,_,_,h=>by simp at h
 | u :: r,off,w,0,v,hc,h=>by
  simp at h;subst h
  rw [World.setCells,Wr b _ r (off + 1) _ (by simp)]
  obtain ⟨x,hx⟩:=hc 0 (by simp)
  exact World.cell?_setCell_same w _ _ hx
 | u :: r,off,w,j + 1,v,hc,h=>by
  rw [World.setCells,show off + (j + 1)=(off + 1) + j by omega]
  refine YU b r (off + 1) _ j v ?_ (by simpa using h)
  intro k hk
  rw [World.cell?_setCell_other]
  ·obtain ⟨x,hx⟩:=hc (k + 1) (by simp;omega)
   exact ⟨x,by rw [show off + 1 + k=off + (k + 1) by omega];exact hx⟩
  ·intro h';simp at h';omega
theorem OK (b:Nat):∀ (vs:List Value) (off:Nat) (w:World),(w.setCells b off vs).os=w.os∧(w.setCells b off vs).tape=w.tape∧(w.setCells b off vs).output=w.output
 | [],_,_=>⟨rfl,rfl,rfl⟩
 | v :: r,off,w=>by rw [World.setCells];exact OK b r _ _
mutual
theorem Ws:∀ {t:Ty} {x:V},shp t x=true→Jq t x=true
 | .int k,x,h=>by cases x<;>simp [shp] at h;simpa [Jq] using h
 | .bool,x,h=>by cases x<;>simp [shp] at h;rfl
 | .str,x,h=>by cases x<;>simp [shp] at h;rfl
 | .struct ts,x,h=>by cases x<;>simp [shp] at h;unfold Jq;exact SA h
 | .slice e,x,h=>by cases x<;>simp [shp] at h;simpa [Jq] using h
 | .arr n e,x,h=>by cases x<;>simp [shp] at h;simpa [Jq] using h
 | .ptr,x,h=>by cases x<;>simp [shp] at h
 | .fn,x,h=>by cases x<;>simp [shp] at h
 | .imap,x,h=>by cases x<;>simp [shp] at h
 | .other,x,h=>by cases x<;>simp [shp] at h
theorem SA:∀ {ts:List Ty} {xs:List V},Qw ts xs=true→JI ts xs=true
 | [],xs,h=>by cases xs<;>simp [Qw] at h;rfl
 | t :: ts,xs,h=>by
  cases xs with
  | nil=>simp [Qw] at h
  | cons x xs=>
   unfold Qw at h;rw [Je] at h
   unfold JI;rw [Je]
   exact ⟨Ws h.1,SA h.2⟩
end
mutual
theorem Wt:∀ (t:Ty) (d:D),t.flat=true→U1 (dec true t d)=true
 | .int _,_,_=>rfl
 | .bool,_,_=>rfl
 | .str,_,_=>rfl
 | .struct ts,d,h=>by
  unfold Ty.flat at h
  unfold dec U1
  exact SB ts 0 d h
 | .arr _ _,_,_=>rfl
 | .slice e,d,h=>by simp [Ty.flat] at h
 | .ptr,d,h=>by simp [Ty.flat] at h
 | .fn,d,h=>by simp [Ty.flat] at h
 | .imap,d,h=>by simp [Ty.flat] at h
 | .other,d,h=>by simp [Ty.flat] at h
theorem SB:∀ (ts:List Ty) (j:Nat) (d:D),Ty.flats ts=true→Oo (Uz true ts j d)=true
 | [],_,_,_=>rfl
 | t :: ts,j,d,h=>by
  unfold Ty.flats at h;rw [Je] at h
  unfold Uz Oo;rw [Je]
  exact ⟨Wt t _ h.1,SB ts _ d h.2⟩
end
theorem M5 {x:V} (h:U1 x=true):QB x=false:=by
 cases x<;>first | rfl | simp [U1] at h
theorem YV:∀ {vs:List V} {j:Nat} {x:V},Oo vs=true→nth vs j=some x→U1 x=true
 | [],j,x,_,h=>by simp [nth] at h
 | v :: vs,0,x,hs,h=>by
  simp [nth] at h;subst h
  unfold Oo at hs;rw [Je] at hs
  exact hs.1
 | v :: vs,j + 1,x,hs,h=>by
  unfold Oo at hs;rw [Je] at hs
  exact YV (j:=j) hs.2 (by simpa [nth] using h)
theorem Xu {E E':Env}:∀ (q:List Nat) {t:Ty} {x y:V} {L L':Ji} {x':V} {cs cs':List Value} {F F':List Nat},Jq t x=true→Jq t y=true→U1 x=true→U1 y=true→InV E x cs F→InV E' y cs' F' →
  Jf E.w x L q=some (x',L')→∃ y',Jf E'.w y L q=some (y',L')∧QB x'=false
 | [],t,x,y,L,L',x',cs,cs',F,F',fx,fy,sx,sy,ix,iy,h=>by
  simp only [Jf,oj,pj] at h
  obtain ⟨rfl,rfl⟩:=h
  exact ⟨y,rfl,M5 sx⟩
 | j :: q,t,x,y,L,L',x',cs,cs',F,F',fx,fy,sx,sy,ix,iy,h=>by
  cases x with
  | agg vs=>
   cases t<;>simp [Jq] at fx
   rename_i ts
   cases y<;>simp [Jq] at fy
   rename_i us
   simp only [Jf] at h ⊢
   cases hj:nth vs j with
   | none=>rw [hj] at h;simp at h
   | some xj=>
    rw [hj] at h
    obtain ⟨tj,g1,g2,g3⟩:=Xo fx hj
    obtain ⟨yj,k1,k2,k3⟩:=YQ fy (by rw [Vh];exact g1)
    rw [k1]
    unfold InV at ix iy
    unfold U1 at sx sy
    obtain ⟨_,_,_,_,_,_,_,_,_,e4,_⟩:=U3 ix hj
    obtain ⟨_,_,_,_,_,_,_,_,_,f4,_⟩:=U3 iy k1
    rw [← g3,k3] at h
    exact Xu q g2 k2 (YV sx hj) (YV sy k1) e4 f4 h
  | arr n e l=>
   cases t<;>simp [Jq] at fx
   rename_i m e'
   cases y<;>simp [Jq] at fy
   rename_i n2 e2 l2
   rw [Je] at fx fy
   have q1:=Nat.eq_of_beq_eq_true fx.1;have q2:=Nat.eq_of_beq_eq_true fy.1
   have q3:=Ty.beq_eq _ _ fx.2;have q4:=Ty.beq_eq _ _ fy.2
   subst q1;subst q2;subst q3;subst q4
   unfold InV at ix iy
   obtain ⟨hl,hf,hr⟩:=ix
   obtain ⟨hl2,_,hr2⟩:=iy
   simp only [Jf] at h ⊢
   split at h
   ·rename_i hjl
    rw [if_pos (by omega)]
    have hp:=Hi _ hf
    obtain ⟨_,_,_,_,_,_,_,_,_,e4,_⟩:=U4 (fun d c G hd=>Qn _ hd) hr hjl
    obtain ⟨_,_,_,_,_,_,_,_,_,f4,_⟩:=U4 (fun d c G hd=>Qn _ hd) hr2 (show j<l2.length by omega)
    exact Xu q (Ws (Vf _ _ hp)) (Ws (Vf _ _ hp)) (Wt _ _ hf) (Wt _ _ hf) (UR _ hp e4) (UR _ hp f4) h
   ·simp at h
  | _=>first | (simp [U1] at sx;done) | simp [Jf] at h
mutual
theorem YW:∀ {t t':Ty} {x:V},shp t x=true→shp t' x=true→t=t'
 | t,t',.int k n,h,h'=>by cases t<;>simp [shp] at h;cases t'<;>simp [shp] at h';rw [UC h,UC h']
 | t,t',.bool b,h,h'=>by cases t<;>simp [shp] at h;cases t'<;>simp [shp] at h';rfl
 | t,t',.str s,h,h'=>by cases t<;>simp [shp] at h;cases t'<;>simp [shp] at h';rfl
 | t,t',.agg vs,h,h'=>by
  cases t<;>simp [shp] at h
  cases t'<;>simp [shp] at h'
  rw [SC h h']
 | t,t',.own e l,h,h'=>by cases t<;>simp [shp] at h;cases t'<;>simp [shp] at h';rw [Ty.beq_eq _ _ h,Ty.beq_eq _ _ h']
 | t,t',.arr n e l,h,h'=>by
  cases t<;>simp [shp] at h
  cases t'<;>simp [shp] at h'
  rw [Je] at h h'
  rw [Nat.eq_of_beq_eq_true h.1,Nat.eq_of_beq_eq_true h'.1,Ty.beq_eq _ _ h.2,Ty.beq_eq _ _ h'.2]
 | t,t',.undef,h,h'=>by cases t<;>simp [shp] at h
 | t,t',.void,h,h'=>by cases t<;>simp [shp] at h
 | t,t',.rd _ _,h,h'=>by cases t<;>simp [shp] at h
 | t,t',.lst _ _,h,h'=>by cases t<;>simp [shp] at h
 | t,t',.nilsl,h,h'=>by cases t<;>simp [shp] at h
 | t,t',.emp _,h,h'=>by cases t<;>simp [shp] at h
 | t,t',.obox _,h,h'=>by cases t<;>simp [shp] at h
 | t,t',.rp _,h,h'=>by cases t<;>simp [shp] at h
 | t,t',.full _ _ _,h,h'=>by cases t<;>simp [shp] at h
 | t,t',.sub _ _ _ _ _,h,h'=>by cases t<;>simp [shp] at h
 | t,t',.ptr _ _,h,h'=>by cases t<;>simp [shp] at h
 | t,t',.fn _ _,h,h'=>by cases t<;>simp [shp] at h
 | t,t',.nilfn,h,h'=>by cases t<;>simp [shp] at h
 | t,t',.nilptr,h,h'=>by cases t<;>simp [shp] at h
 | t,t',.mp _,h,h'=>by cases t<;>simp [shp] at h
 | t,t',.mref _,h,h'=>by cases t<;>simp [shp] at h
 | t,t',.tup _,h,h'=>by cases t<;>simp [shp] at h
 | t,t',.ownh _ _ _,h,h'=>by cases t<;>simp [shp] at h
theorem SC:∀ {ts ts':List Ty} {xs:List V},Qw ts xs=true→Qw ts' xs=true→ts=ts'
 | ts,ts',[],h,h'=>by cases ts<;>simp [Qw] at h;cases ts'<;>simp [Qw] at h';rfl
 | ts,ts',x :: xs,h,h'=>by
  cases ts<;>simp [Qw] at h
  cases ts'<;>simp [Qw] at h'
  rw [Je] at h h'
  rw [YW h.1 h'.1,SC h.2 h'.2]
end
end
end Go.Rai
namespace Go.Rai
variable [Inhabited Qk]
theorem Cu (E:Env):∀ (p:List Nat) (v:V) (cs:List Value) (F:List Nat) (L:Ji) (x:V) (a:Addr),InV E v cs F→L.holds E.w cs→(∀ b,L=.mem b→QJ E.w b (vsz v))→Jf E.w v L p=some (x,.mem a)→QJ E.w a (vsz x)
 | [],v,cs,F,L,x,a,hv,hL,hu,h=>by
  simp only [Jf,oj,pj] at h
  obtain ⟨rfl,rfl⟩:=h
  exact hu a rfl
 | j :: p,v,cs,F,L,x,a,hv,hL,hu,h=>by
  cases v with
  | agg vs=>
   simp only [Jf] at h
   cases hj:nth vs j with
   | none=>rw [hj] at h;simp at h
   | some xj=>
    rw [hj] at h
    unfold InV at hv
    obtain ⟨c1,ci,c2,F1,F0,F2,e1,e2,e3,e4,e5⟩:=U3 hv hj
    subst e1
    refine Cu E p xj ci F0 _ x a e4 (by rw [← e3];exact QK hL) ?_ h
    intro b hb
    cases L with
    | reg _=>simp [Ji.shift] at hb
    | mem b0=>
     simp only [Ji.shift,Ji.mem.injEq] at hb
     subst hb
     exact CL (hu b0 rfl) (by have:=Vi hj;show _≤Jt vs;omega)
  | own e l=>
   simp only [Jf] at h
   split at h
   ·rename_i hjl
    unfold InV at hv
    obtain ⟨hp,A,cc,hcs,hsl⟩:=hv
    have hhd:L.head E.w=some (.slice A l.length cc):=JL (by rw [← hcs];exact hL)
    rw [hhd] at h
    rcases hsl with ⟨h0,_⟩ | ⟨ad,cs0,F',hA,hr,hc',hf,hlc,hb,ho⟩
    ·subst h0;simp at hjl
    ·subst hA
     obtain ⟨c1,c',c2,F1,F0,F2,e1,e2,e3,e4,e5⟩:=U4 (fun d c G hd=>Qn e hd) hr hjl
     subst e1
     have hst:=QK (L:=.mem ad) (w:=E.w) (c1:=c1) (c:=c') (c2:=c2) hc'
     rw [e3] at hst
     refine Cu E p _ c' F0 (.mem (ad.add (j * e.size))) x a (UR e hp e4) hst ?_ h
     intro b hb'
     cases hb'
     refine CL (ho rfl) ?_
     rw [Vl e _ hp]
     have:(j + 1) * e.size≤cc * e.size:=Nat.mul_le_mul_right _ (by omega)
     rw [Nat.add_mul,Nat.one_mul] at this
     exact this
   ·simp at h
  | ownh e l i=>
   simp only [Jf] at h
   split at h
   ·rename_i hjl
    unfold InV at hv
    obtain ⟨hi,hp,ad,cc,c1,v0,c2,F1,F2,hcs,h2,h3,hc',hf,hlc,hb,ho⟩:=hv
    have hhd:L.head E.w=some (.slice (some ad) l.length cc):=JL (by rw [← hcs];exact hL)
    rw [hhd] at h
    obtain ⟨c',F0,pre,post,g1,g2,g3,g4⟩:=TR (v:=v0) hp h2 h3 hi hjl
    rw [g3] at hc'
    have hst:=QK (L:=.mem ad) (w:=E.w) (c1:=pre) (c:=c') (c2:=post) hc'
    rw [g4] at hst
    refine Cu E p _ c' F0 (.mem (ad.add (j * (Ty.slice e).size))) x a g1 hst ?_ h
    intro b hb'
    cases hb'
    refine CL ho ?_
    have hvz:vsz (if j=i then .undef else dec true (.slice e) (l.getD j (.int 0)))=1:=by
     split<;>rfl
    rw [hvz]
    simp only [Ty.size]
    omega
   ·simp at h
  | arr n e l=>
   simp only [Jf] at h
   split at h
   ·rename_i hjl
    unfold InV at hv
    obtain ⟨hl,hf,hr⟩:=hv
    obtain ⟨c1,c',c2,F1,F0,F2,e1,e2,e3,e4,e5⟩:=U4 (fun d c G hd=>Qn e hd) hr hjl
    subst e1
    refine Cu E p _ c' F0 _ x a (UR e (Hi e hf) e4) (by rw [← e3];exact QK hL) ?_ h
    intro b hb
    cases L with
    | reg _=>simp [Ji.shift] at hb
    | mem b0=>
     simp only [Ji.shift,Ji.mem.injEq] at hb
     subst hb
     refine CL (hu b0 rfl) ?_
     rw [Vl e _ (Hi e hf)]
     unfold vsz
     have:(j + 1) * e.size≤n * e.size:=Nat.mul_le_mul_right _ (by omega)
     rw [Nat.add_mul,Nat.one_mul] at this
     exact this
   ·simp at h
  | lst e vs=>
   simp only [Jf] at h
   cases hj:nth vs j with
   | none=>rw [hj] at h;simp at h
   | some xj=>
    rw [hj] at h
    unfold InV at hv
    obtain ⟨ad,cc,cs',F',hcs,hlc,hsz,hin,hc',hf,hb,ho⟩:=hv
    have hhd:L.head E.w=some (.slice (some ad) vs.length cc):=JL (by rw [← hcs];exact hL)
    rw [hhd] at h
    obtain ⟨c1,ci,c2,F1,F0,F2,e1,e2,e3,e4,e5⟩:=U3 hin hj
    subst e1
    have hst:=QK (L:=.mem ad) (w:=E.w) (c1:=c1) (c:=ci) (c2:=c2) hc'
    rw [e3] at hst
    refine Cu E p xj ci F0 (.mem (ad.add (Jt (vs.take j)))) x a e4 hst ?_ h
    intro b hb'
    cases hb'
    exact CL ho.2 (Vi hj)
  | obox y=>
   simp only [Jf] at h
   unfold InV at hv
   obtain ⟨ad,cs',F',hcs,hin,hc',hf,hb,ho⟩:=hv
   have hhd:L.head E.w=some (.pointer (some ad)):=JL (by rw [← hcs];exact hL)
   rw [hhd] at h
   refine Cu E p y cs' F' (.mem ad) x a hin hc' ?_ h
   intro b hb'
   cases hb'
   rw [← Qq y hin]
   exact ho
  | fn f caps=>
   simp only [Jf] at h
   cases hj:nth caps j with
   | none=>rw [hj] at h;simp at h
   | some xj=>
    rw [hj] at h
    unfold InV at hv
    obtain ⟨vals,hcs,hin,_⟩:=hv
    have hhd:L.head E.w=some (.func (.func f) #[] vals):=JL (by rw [← hcs];exact hL)
    rw [hhd] at h
    obtain ⟨c1,ci,c2,F1,F0,F2,e1,e2,e3,e4,e5⟩:=U3 hin hj
    refine Cu E p xj ci F0 _ x a e4 ?_ (fun b hb=>by cases hb) h
    exact ⟨c2,by rw [e1,← e3];simp⟩
  | _=>simp [Jf] at h
section
variable {P:Program} {A:Ann} {w w' w0:World} {F0:List Nat} {sl:List V} {a:Act} {bl:BL} {G:GT} {o:Oper}
theorem C8 {ad:Addr} (h:ad.spot=none) (k:Nat):ad.add k=⟨ad.block,ad.off + k,none⟩:=by
 cases ad
 simp only at h
 subst h
 exact Addr.add_lit _ _ _
theorem Vy {ad:Addr} {n:Nat} {cs:List Value} (hsp:n ≠ 0→ad.spot=none) (hu:QJ w ad n) (hl:cs.length=n):US w (w.setCells ad.block ad.off cs) (.mem ad) n:=by
 intro b hb hs
 refine ⟨fun h=>?_,Sz _ _ _ _ _,?_⟩
 ·exact Wr _ _ _ _ _ (by rw [hl];omega)
 ·rintro ⟨v,hv⟩
  by_cases hin:ad.off≤b.off∧b.off<ad.off + n
  ·have hbe:b=⟨ad.block,ad.off + (b.off - ad.off),none⟩:=by
    cases b;simp_all
   have hlt:b.off - ad.off<cs.length:=by omega
   obtain ⟨q,hq⟩:∃ q,cs[b.off - ad.off]?=some q:=⟨_,List.getElem?_eq_getElem hlt⟩
   refine ⟨q,?_⟩
   have:(w.setCells ad.block ad.off cs).cell? ⟨ad.block,ad.off + (b.off - ad.off),none⟩=some q:=by
    refine YU _ _ _ _ _ _ (fun k hk=>?_) hq
    obtain ⟨⟨u,hu1⟩,_⟩:=hu k (by omega)
    have hsp':=hsp (by omega)
    have:ad.add k=⟨ad.block,ad.off + k,none⟩:=C8 hsp' k
    exact ⟨u,by rw [← this];exact hu1⟩
   rw [hbe]
   exact this
  ·exact ⟨v,by rw [Wr _ _ _ _ _ (by rw [hl];omega)];exact hv⟩
theorem Vz {ad:Addr} {cs:List Value} (hsp:cs.length ≠ 0→ad.spot=none) (hu:QJ w ad cs.length):QG (w.setCells ad.block ad.off cs) ad cs:=by
 intro j v hj
 have hlt:=(List.getElem?_eq_some_iff.1 hj).1
 have hsp':=hsp (by omega)
 have hadd:∀ k,ad.add k=⟨ad.block,ad.off + k,none⟩:=C8 (by first | exact hsp' | exact hsp)
 rw [hadd]
 refine YU _ _ _ _ _ _ (fun k hk=>?_) hj
 obtain ⟨⟨u,hu1⟩,_⟩:=hu k hk
 exact ⟨u,by rw [← hadd];exact hu1⟩
theorem U9 {ad:Addr} {n:Nat} (hu:QJ w ad n):n ≠ 0→ad.spot=none:=by
 intro hn
 obtain ⟨⟨u,hu1⟩,_⟩:=hu 0 (by omega)
 have:=Xj hu1
 cases h:ad.spot with
 | none=>rfl
 | some s=>unfold Addr.add at this;simp [h] at this
theorem Xv {ad:Addr} {cs:List Value} {t:TypeId} {v:Value} (hT:U6 P A.ty t) (hu:QJ w ad cs.length) (hl:cs.length=(A.ty t).size) (hv:v.cells=cs.toArray) (h1:∀ u ∈ cs,u.oneCell'=true) (hz:cs.length ≠ 0) :
  (Instr.storeAt t (.pointer (some ad)) v).run P w=.ok () (w.setCells ad.block ad.off cs):=by
 have hsp:ad.spot=none:=U9 hu hz
 have hadd:∀ k,ad.add k=⟨ad.block,ad.off + k,none⟩:=C8 (by first | exact hsp' | exact hsp)
 have had:ad=⟨ad.block,ad.off,none⟩:=by cases ad;simp_all
 have:=run_storeCells_cells (P:=P) ad.block ad.off cs 0 w (fun j hj=>by
   obtain ⟨⟨u,hu1⟩,_⟩:=hu j hj
   rw [Nat.add_zero,← hadd,hu1];rfl) (fun j hj=>by rw [Nat.add_zero,← hadd];exact (hu j hj).2) h1
 rw [← had,Nat.add_zero] at this
 simp only [Instr.storeAt,Instr.sureAddr,Sem.run_bind,Sem.run_pure,Result.andThen_ok,storeVar,H5 hT]
 rw [if_neg (by rw [hv];simpa using hl)]
 rw [hv]
 exact this
theorem JK.modifyN {X:List Nat} (h:JK w bl G X w0 F0) {s:Nat} {c:V} {rc:List Value} {F:List Nat} {p:List Nat} {x:V} {Lx:Ji}
  (hc:Jb bl s=some c) (hg:G s=some (rc,F)) (hl:Jf w c (.reg rc) p=some (x,Lx)) (hgt:(c.get p).isSome=true) :
  ∃ csx Fx Fr,InV (Ja w bl G X) x csx Fx∧Lx.holds w csx∧F.Perm (Fr ++ Fx) ∧
   ((∃ a,Lx=.mem a∧a.block ∈ Fr) ∨ (∃ ds,Lx=.reg ds)) ∧
   ∀ (w':World) (y:V) (csy:List Value) (Fy X':List Nat) (N:Nat→Prop),(∀ t,N t→t=s)→(N s→∀ t ct,Jb bl t=some ct→s ∉ Jd ct) →
    vsz y=vsz x→(c.outer p=false→∀ t,shp t x=true→shp t y=true) →
    w.heap.size≤w'.heap.size →
    (∀ b,b<w.heap.size→b ∉ Fx→b ∉ X→(∀ a,Lx=.mem a→b ≠ a.block)→w'.heap[b]?=w.heap[b]?) →
    (∀ b ∈ X,b ∈ X' ∨ b ∈ Fy ∨ True) →
    US w w' Lx (vsz x)→Lx.holds w' csy→((∃ ds,Lx=.reg ds)→csy=csx) →
    (Fy ++ X').Nodup→(∀ b ∈ Fy ++ X',b<w'.heap.size∧(b ∈ Fx ∨ b ∈ X ∨ w.heap.size≤b)) →
    (¬ N s→Uj w w' x y Lx)→w'.os=w.os→w'.tape=w.tape→w'.output=w.output →
    (∀ b,b<w.heap.size→b ∉ Fx→(∀ a,Lx=.mem a→b ≠ a.block)→w'.heap[b]?=w.heap[b]?) →
    (Le (Ja w bl G X) { Ja w' (Jp bl s (c.set p y)) (fun t=>if t=s then some (rc,Fr ++ Fy) else G t) X' with bl:=[] }→InV { Ja w' (Jp bl s (c.set p y)) (fun t=>if t=s then some (rc,Fr ++ Fy) else G t) X' with bl:=[] } y csy Fy) →
    (Jx (Ja w bl G X) (Ja w' (Jp bl s (c.set p y)) (fun t=>if t=s then some (rc,Fr ++ Fy) else G t) X') N→InV (Ja w' (Jp bl s (c.set p y)) (fun t=>if t=s then some (rc,Fr ++ Fy) else G t) X') y csy Fy) →
    JK w' (Jp bl s (c.set p y)) (fun t=>if t=s then some (rc,Fr ++ Fy) else G t) X' w0 F0 ∧
    Jx (Ja w bl G X) (Ja w' (Jp bl s (c.set p y)) (fun t=>if t=s then some (rc,Fr ++ Fy) else G t) X') N∧(∀ al m,Q5 al m w w' x y Lx→Q5 al (m + p.length) w w' c (c.set p y) (.reg rc)):=by
 obtain ⟨csx,Fx,Fr,m1,m2,m3,m4,m5⟩:=h.ok.modifyN hc hg hl hgt
 refine ⟨csx,Fx,Fr,m1,m2,m3,m4,?_⟩
 intro w' y csy Fy X' N hN hno h1 h2 h3 _ _ h5 h6 h7 h8 h9 h10 ho ht hou h4 h11 h12
 obtain ⟨k1,k2,k3⟩:=m5 w' y csy Fy X' N hN hno h1 h2 h3 h4 h5 h6 h7 h8 h9 h10 h11 h12
 refine ⟨⟨k1,?_,?_,Nat.le_trans h.size h3,ho.trans h.os,ht.trans h.tape,hou.trans h.output⟩,k2,k3⟩
 ·intro b hb hbF
  have hno:¬ Uk bl G X b:=fun how=>by
   rcases h.own b how with q | q
   ·exact hbF q
   ·omega
  rw [h4 b (Nat.lt_of_lt_of_le hb h.size) (fun hx=>hno (.inr ⟨s,c,rc,F,hc,hg,(m3.mem_iff).2 (by simp [hx])⟩)) ?_,h.frame b hb hbF]
  intro ad had hba
  subst hba
  rcases m4 with ⟨a',ha',hin⟩ | ⟨ds,hds⟩
  ·rw [had] at ha';cases ha'
   exact hno (.inr ⟨s,c,rc,F,hc,hg,(m3.mem_iff).2 (by simp [hin])⟩)
  ·rw [had] at hds;cases hds
 ·intro b hbo
  have key:b ∈ Fy ++ X'→b ∈ F0 ∨ w0.heap.size≤b:=by
   intro hm
   rcases (h9 b hm).2 with q | q | q
   ·exact h.own b (.inr ⟨s,c,rc,F,hc,hg,(m3.mem_iff).2 (by simp [q])⟩)
   ·exact h.own b (.inl q)
   ·exact .inr (Nat.le_trans h.size q)
  rcases hbo with q | ⟨t,ct,rct,Ft,q1,q2,q3⟩
  ·exact key (by simp [q])
  ·by_cases hts:t=s
   ·subst hts
    simp only [if_true,oj,pj] at q2
    obtain ⟨_,rfl⟩:=q2
    rcases List.mem_append.1 q3 with q | q
    ·exact h.own b (.inr ⟨t,c,rc,F,hc,hg,(m3.mem_iff).2 (by simp [q])⟩)
    ·exact key (by simp [q])
   ·rw [JG] at q1
    simp only [hts,if_false] at q1 q2
    exact h.own b (.inr ⟨t,ct,rct,Ft,q1,q2,q3⟩)
theorem JK.modify {X:List Nat} (h:JK w bl G X w0 F0) {s:Nat} {c:V} {rc:List Value} {F:List Nat} {p:List Nat} {x:V} {Lx:Ji}
  (hc:Jb bl s=some c) (hg:G s=some (rc,F)) (hl:Jf w c (.reg rc) p=some (x,Lx)) (hgt:(c.get p).isSome=true) :
  ∃ csx Fx Fr,InV (Ja w bl G X) x csx Fx∧Lx.holds w csx∧F.Perm (Fr ++ Fx) ∧
   ((∃ a,Lx=.mem a∧a.block ∈ Fr) ∨ (∃ ds,Lx=.reg ds)) ∧
   ∀ (w':World) (y:V) (csy:List Value) (Fy X':List Nat),
    vsz y=vsz x→(c.outer p=false→∀ t,shp t x=true→shp t y=true) →
    w.heap.size≤w'.heap.size →
    (∀ b,b<w.heap.size→b ∉ Fx→b ∉ X→(∀ a,Lx=.mem a→b ≠ a.block)→w'.heap[b]?=w.heap[b]?) →
    (∀ b ∈ X,b ∈ X' ∨ b ∈ Fy ∨ True) →
    US w w' Lx (vsz x)→Lx.holds w' csy→((∃ ds,Lx=.reg ds)→csy=csx) →
    (Fy ++ X').Nodup→(∀ b ∈ Fy ++ X',b<w'.heap.size∧(b ∈ Fx ∨ b ∈ X ∨ w.heap.size≤b)) →
    Uj w w' x y Lx→w'.os=w.os→w'.tape=w.tape→w'.output=w.output →
    (∀ b,b<w.heap.size→b ∉ Fx→(∀ a,Lx=.mem a→b ≠ a.block)→w'.heap[b]?=w.heap[b]?) →
    (Le (Ja w bl G X) { Ja w' (Jp bl s (c.set p y)) (fun t=>if t=s then some (rc,Fr ++ Fy) else G t) X' with bl:=[] }→InV { Ja w' (Jp bl s (c.set p y)) (fun t=>if t=s then some (rc,Fr ++ Fy) else G t) X' with bl:=[] } y csy Fy) →
    (Jx (Ja w bl G X) (Ja w' (Jp bl s (c.set p y)) (fun t=>if t=s then some (rc,Fr ++ Fy) else G t) X') (fun _=>False)→InV (Ja w' (Jp bl s (c.set p y)) (fun t=>if t=s then some (rc,Fr ++ Fy) else G t) X') y csy Fy) →
    JK w' (Jp bl s (c.set p y)) (fun t=>if t=s then some (rc,Fr ++ Fy) else G t) X' w0 F0 ∧
    Jx (Ja w bl G X) (Ja w' (Jp bl s (c.set p y)) (fun t=>if t=s then some (rc,Fr ++ Fy) else G t) X') (fun _=>False):=by
 obtain ⟨csx,Fx,Fr,m1,m2,m3,m4,m5⟩:=h.modifyN hc hg hl hgt
 refine ⟨csx,Fx,Fr,m1,m2,m3,m4,?_⟩
 intro w' y csy Fy X' h1 h2 h3 h3' h3'' h5 h6 h7 h8 h9 h10 ho ht hou h4 h11 h12
 obtain ⟨k1,k2,_⟩:=m5 w' y csy Fy X' (fun _=>False) (fun _=>False.elim) (fun h=>h.elim) h1 h2 h3 h3' h3'' h5 h6 h7 h8 h9 (fun _=>h10) ho ht hou h4 h11 h12
 exact ⟨k1,k2⟩
theorem M6 (HT:JN P A.ty) (hc:JX w bl G w0 F0) (hs:Jy (Ja w bl G []) sl a) {t:TypeId} {x y:Operand} {co:List Jk} {v:V} {b:BL} (h:o.op=.store t x y) (hpos:(A.ty t).size ≠ 0)
  (hv:O8 (A.ty t) bl (opd sl x) (opd sl y)=some (co,v,b)) (hk:∀ k ∈ co,k.ok):Jo P w0 F0 sl a w o v b:=by
 have hx:=JJ hs x
 unfold O8 at hv
 split at hv
 ·rename_i s p hxe
  split at hv
  ·rename_i c hl
   split at hv
   ·rename_i cs z hg
    split at hv
    ·rename_i hfit
     split at hv
     ·rename_i hsim
      simp only [oj,pj] at hv
      obtain ⟨rfl,rfl,rfl⟩:=hv
      rw [Je] at hfit hsim
      rw [Je] at hsim
      obtain ⟨⟨hsz,hsy⟩,hout⟩:=hsim
      rw [Co] at hout
      have hT:=HT t (Cs hfit.1)
      rw [hxe] at hx
      obtain ⟨c0,rc,F,i1,i2,i3,Lx,csx,Fx,i4,i5,i6,i7,i8,i9⟩:=Uy hc (bl:=bl) (p:=p) (s:=s) (c:=cs) (x:=z) (by unfold JS;rw [hl];exact hg) hk
      rw [hl] at i1;simp only [oj] at i1;subst i1
      obtain ⟨ad,rfl,hpx⟩:=C7 hx (E:=Ja w bl G []) hl i2 i4
      obtain ⟨rc',F',F1,g1,g2,g3,g4,g5⟩:=hc.ok.root s c hl
      rw [i2] at g1;simp only [oj,pj] at g1;obtain ⟨rfl,rfl⟩:=g1
      have hunf:=Cu (Ja w bl G []) p c rc F1 (.reg rc) z ad g2 ⟨[],by simp⟩ (fun b hb=>by cases hb) i4
      obtain ⟨csy,q1,q2,q3,q4,q5⟩:=Wo hfit.2 (JJ hs y)
      have hzs:vsz z=(A.ty t).size:=(Qt hfit.1).1
      rw [hzs] at hunf
      rw [← q4] at hunf
      have hunf':QJ w ad csy.length:=hunf
      have hrun:=Xv (w:=w) hT hunf' q4 q3 q5 (by rw [q4];exact hpos)
      obtain ⟨csx2,Fx2,Fr,m1,m2,m3,m4,m5⟩:=hc.x.modify hl i2 i4 (by rw [hg];rfl)
      obtain ⟨e1,e2,e3⟩:=OK ad.block csy ad.off w
      have hmem:∀ b,b<w.heap.size→b ∉ Fx2→(∀ a,Ji.mem ad=.mem a→b ≠ a.block)→(w.setCells ad.block ad.off csy).heap[b]?=w.heap[b]?:=
       fun b hb hbF hba=>HP _ _ (fun e=>hba ad rfl e) _ _ _
      obtain ⟨p1,p2⟩:=m5 (w.setCells ad.block ad.off csy) (opd sl y) csy [] [] (by rw [hzs,(Qt hfit.2).1])
       (by
        intro ho t' ht'
        rcases hout with h1 | h1
        ·rw [ho] at h1;cases h1
        ·rw [← YW (Xt h1 hfit.1) ht']
         exact Xt h1 hfit.2)
       (by rw [Hn];exact Nat.le_refl _)
       (fun b hb hbF _ hba=>hmem b hb hbF hba)
       (fun _ _=>.inr (.inr trivial))
       (by rw [hzs,← q4];exact Vy (U9 hunf') hunf' rfl)
       (Vz (U9 hunf') hunf')
       (by rintro ⟨ds,hd⟩;cases hd)
       (by simp) (by intro b hb;simp at hb)
       (by
        intro q x' L' hq
        obtain ⟨y',r1,r2⟩:=Xu (E:=⟨w.setCells ad.block ad.off csy,fun b=>b<w.heap.size∧¬ Uk bl G [] b,Kept.K,[],G⟩) (E':=Ja w bl G []) (cs:=csy) (F:=[]) q hfit.2 hfit.1 hsy hsz (by
          refine U2 (E:=Ja w bl G []) (E':=⟨w.setCells ad.block ad.off csy,fun b=>b<w.heap.size∧¬ Uk bl G [] b,Kept.K,[],G⟩) ⟨fun b hb=>⟨hb,?_⟩,by show _≤(World.setCells _ _ _ _).heap.size;rw [Hn];exact Nat.le_refl _,fun _ _ h=>h⟩ _ (fun s' _ c' rc' F' hlk=>by simp [Jb] at hlk) (fun b hb=>by cases hb) q1
          refine HP _ _ (fun e=>hb.2 ?_) _ _ _
          subst e
          rcases m4 with ⟨a',ha',hin⟩ | ⟨ds,hds⟩
          ·cases ha'
           exact .inr ⟨s,c,rc,F,hl,i2,(m3.mem_iff).2 (by simp [hin])⟩
          ·cases hds) i5 hq
        exact ⟨y',r1,fun ho=>by rw [r2] at ho;cases ho⟩) e1 e2 e3 hmem
       (fun hle=>U2 hle _ (fun s' _ c' rc' F' hlk=>by simp [Jb] at hlk) (fun b hb=>by cases hb) q1)
       (fun hgo=>hgo.inV (fun _ _=>id) (fun b hb=>by cases hb) q1)
      refine ⟨undef,_,_,.inr ⟨?_,rfl⟩,p1.c,hs.go0 p2,OE.2 ⟨rfl,rfl⟩⟩
      simp only [execOp,h,hpx,Sem.run_bind,hrun,Result.andThen_ok,Sem.run_pure]
     ·simp at hv
    ·simp at hv
   ·simp at hv
  ·simp at hv
 ·simp at hv
end
end Go.Rai
namespace Go.Rai
variable [Inhabited Qk]
section
variable {P:Program} {A:Ann} {w w' w0:World} {F0:List Nat} {sl:List V} {a:Act} {bl b':BL} {G:GT} {o:Oper} {X:List Nat}
theorem JK.sub (h:JK w bl G X w0 F0) {X':List Nat} (hnd:X'.Nodup) (hx:∀ b ∈ X',b ∈ X):JK w bl G X' w0 F0∧Jx (Ja w bl G X) (Ja w bl G X') (fun _=>False):=
 h.world (Nat.le_refl _) (fun _ _ _=>rfl) hnd (fun b hb=>⟨h.ok.xlt b (hx b hb),.inl (hx b hb)⟩) rfl rfl rfl
theorem JK.perm (h:JK w bl G X w0 F0) {X':List Nat} (hp:X.Perm X'):JK w bl G X' w0 F0∧Jx (Ja w bl G X) (Ja w bl G X') (fun _=>False):=
 h.sub ((hp.nodup_iff).1 h.ok.xnd) (fun b hb=>(hp.mem_iff).2 hb)
theorem Jx.trans {E1 E2 E3:Env} {N:Nat→Prop} (h:Jx E1 E2 N) (k:Jx E2 E3 N):Jx E1 E3 N:=by
 refine ⟨⟨fun b hb=>?_,Nat.le_trans h.le.size k.le.size,fun b h1 h2=>k.le.kept b (h.le.stab b h1).1 (h.le.kept b h1 h2)⟩,fun s hs=>?_⟩
 ·obtain ⟨h1,h2⟩:=h.le.stab b hb
  obtain ⟨k1,k2⟩:=k.le.stab b h1
  exact ⟨k1,k2.trans h2⟩
 ·intro c' rc F' h1 h2
  obtain ⟨c1,F1,g1,g2,g3⟩:=k.al s hs c' rc F' h1 h2
  obtain ⟨c,F,k1,k2,k3⟩:=h.al s hs c1 rc F1 g1 g2
  refine ⟨c,F,k1,k2,fun p x' L hq=>?_⟩
  obtain ⟨x1,r1,r2⟩:=g3 p x' L hq
  obtain ⟨x,q1,q2⟩:=k3 p x1 L r1
  exact ⟨x,q1,fun ho=>⟨(q2 (r2 ho).1).1,(r2 ho).2.trans (q2 (r2 ho).1).2⟩⟩
theorem M7 {v:V} (h:WY v=true):vsz v=1∧QB v=true:=by
 cases v<;>first | exact ⟨rfl,rfl⟩ | simp [WY] at h
theorem C9 (h:JK w bl G X w0 F0) {s:Nat} {p:List Nat} {v:V} (ht:QS bl s p=some (v,b')) :
  ∃ c0 rc F Lv csv Fv G',Jb bl s=some c0∧G s=some (rc,F)∧Jf w c0 (.reg rc) p=some (v,Lv)∧Lv.holds w csv∧(p=[]→csv=rc) ∧
   InV (Ja w b' G' (Fv ++ X)) v csv Fv∧JK w b' G' (Fv ++ X) w0 F0∧Jx (Ja w bl G X) (Ja w b' G' (Fv ++ X)) (fun _=>False):=by
 unfold QS at ht
 split at ht
 ·rename_i c hl
  split at ht
  ·simp only [oj,pj] at ht
   obtain ⟨rfl,rfl⟩:=ht
   obtain ⟨rc,F,Fc,g1,g2,g3,g4,g5⟩:=h.drop hl
   exact ⟨c,rc,F,.reg rc,rc,Fc,G,hl,g1,rfl,⟨[],by simp⟩,fun _=>rfl,g3,g4,g5⟩
  ·rename_i hp
   split at ht
   ·rename_i x hg
    split at ht
    ·rename_i hb
     simp only [oj,pj] at ht
     obtain ⟨rfl,rfl⟩:=ht
     rw [Je] at hb
     obtain ⟨hone,hown⟩:=M7 hb.1
     obtain ⟨rc,F,F1,g1,g2,g3,g4,g5⟩:=h.ok.root s c hl
     obtain ⟨Lx,h6⟩:=HO (Ja w bl G X) p c rc F1 (.reg rc) [] x g2 ⟨[],by simp⟩ hg (fun k hk=>by cases hk)
     obtain ⟨csx,Fx,Fr,m1,m2,m3,m4,m5⟩:=h.modify hl g1 h6 (by rw [hg];rfl)
     have hnd:=(m3.nodup_iff).1 g4
     have hndX:(Fx ++ X).Nodup:=List.nodup_append.2 ⟨(List.nodup_append.1 hnd).2.1,h.ok.xnd,fun a ha b hb hab=>by subst hab;exact (g5 a ((m3.mem_iff).2 (by simp [ha]))).2 hb⟩
     have hcs:∃ v',csx=[v']:=by
      have:=Qq _ m1
      rw [hone] at this
      match csx,this with
      | [v'],_=>exact ⟨v',rfl⟩
     obtain ⟨p1,p2⟩:=m5 w .undef csx [] (Fx ++ X) (by rw [hone];rfl) (fun ho=>by rw [hb.2] at ho;cases ho) (Nat.le_refl _) (fun _ _ _ _ _=>rfl) (fun _ _=>.inr (.inr trivial))
      (by cases Lx with
        | reg _=>exact True.intro
        | mem a=>exact fun b _ _=>⟨fun _=>rfl,rfl,fun h=>h⟩) m2 (fun _=>rfl) (by simpa using hndX)
      (by
       intro b hb
       simp only [List.nil_append,List.mem_append] at hb
       rcases hb with q | q
       ·exact ⟨(g5 b ((m3.mem_iff).2 (by simp [q]))).1,.inl q⟩
       ·exact ⟨h.ok.xlt b q,.inr (.inl q)⟩)
      (by
       intro q x' L' hq
       cases q with
       | nil=>
        simp only [Jf,oj,pj] at hq
        obtain ⟨rfl,rfl⟩:=hq
        exact ⟨x,rfl,fun _=>⟨hown,rfl⟩⟩
       | cons j q=>simp [Jf] at hq) rfl rfl rfl (fun _ _ _ _=>rfl)
      (fun _=>by unfold InV;exact ⟨hcs,rfl⟩) (fun _=>by unfold InV;exact ⟨hcs,rfl⟩)
     refine ⟨c,rc,F,Lx,csx,Fx,_,hl,g1,h6,m2,fun h=>absurd h hp,p2.inV (fun _ _=>id) (fun _ _=>rfl) m1,p1,p2⟩
    ·simp at ht
   ·simp at ht
 ·simp at ht
theorem M8 (h:JK w bl G X w0 F0) {s i:Nat} {e:Ty} {l:List D} (hl:Jb bl s=some (.own (.slice e) l)) (hi:i<l.length) :
  ∃ rc F Lv csv Fv G',G s=some (rc,F)∧Jf w (.own (.slice e) l) (.reg rc) [i]=some (.own e (l.getD i (.int 0)).items,Lv)∧Lv.holds w csv ∧
   InV (Ja w (Jp bl s (.ownh e l i)) G' (Fv ++ X)) (.own e (l.getD i (.int 0)).items) csv Fv∧JK w (Jp bl s (.ownh e l i)) G' (Fv ++ X) w0 F0∧Jx (Ja w bl G X) (Ja w (Jp bl s (.ownh e l i)) G' (Fv ++ X)) (fun _=>False):=by
 obtain ⟨rc,F,F1,g1,g2,g3,g4,g5⟩:=h.ok.root s _ hl
 obtain ⟨csx,Fx,Fr,m1,m2,m3,m4,m5⟩:=h.modify (p:=[]) (x:=.own (.slice e) l) (Lx:=.reg rc) hl g1 rfl rfl
 unfold InV at m1
 obtain ⟨hp,A,cap,hcs,hsl⟩:=m1
 have hhd:(Ji.reg rc).head w=some (.slice A l.length cap):=JL (by rw [← hcs];exact m2)
 rcases hsl with ⟨h0,_⟩ | ⟨ad,cs0,F',hA,hr,hc,hf,hlc,hb,ho⟩
 ·subst h0;simp at hi
 subst hA
 obtain ⟨c1,cr,K1,Kr,y1,y2,y3,y4,y5⟩:=OG (fun d c G hd=>Qn (.slice e) hd) (n:=i) hr (by omega)
 rw [List.drop_eq_getElem_cons hi] at y5
 obtain ⟨c',c2,K0,K2,z1,z2,z3,z4⟩:=y5
 have hgi:l.getD i (.int 0)=l[i]:=by simp [List.getD_eq_getElem?_getD,hi]
 have hown:=UR (E:=Ja w bl G X) (.slice e) hp z3
 have hlen1:c'.length=1:=Qn (.slice e) z3
 obtain ⟨v,rfl⟩:∃ v,c'=[v]:=by
  match c',hlen1 with
  | [v],_=>exact ⟨v,rfl⟩
 have e1:cs0=c1 ++ v :: c2:=by rw [y1,z1];simp
 have e2:F'=K1 ++ (K0 ++ K2):=by rw [y2,z2]
 have hnd:=(m3.nodup_iff).1 g4
 have hFx:Fx.Nodup:=(List.nodup_append.1 hnd).2.1
 have hperm:Fx.Perm ((ad.block :: (K1 ++ K2)) ++ K0):=by
  rw [hf,e2]
  simp only [List.cons_append]
  refine List.Perm.cons _ ?_
  rw [List.append_assoc]
  exact (List.perm_append_comm).append_left K1
 have hnd2:=(hperm.nodup_iff).1 hFx
 have hin:∀ b ∈ Fx,b<w.heap.size∧b ∉ X:=fun b hb=>g5 b ((m3.mem_iff).2 (by simp [hb]))
 have hmem:∀ b,b ∈ (ad.block :: (K1 ++ K2)) ++ (K0 ++ X) ↔ b ∈ Fx ∨ b ∈ X:=by
  intro b
  rw [hperm.mem_iff]
  simp only [List.mem_append]
  constructor
  ·rintro (q | q | q)
   ·exact .inl (.inl q)
   ·exact .inl (.inr q)
   ·exact .inr q
  ·rintro ((q | q) | q)
   ·exact .inl q
   ·exact .inr (.inl q)
   ·exact .inr (.inr q)
 have hndX:((ad.block :: (K1 ++ K2)) ++ (K0 ++ X)).Nodup:=by
  rw [← List.append_assoc]
  exact List.nodup_append.2 ⟨hnd2,h.ok.xnd,fun a ha b hb hab=>by subst hab;exact (hin a ((hperm.mem_iff).2 ha)).2 hb⟩
 have hz:(Ty.slice e).size=1:=rfl
 have hnew:∀ E:Env,E.w=w→InV E (.ownh e l i) csx (ad.block :: (K1 ++ K2)):=by
  intro E hE
  unfold InV
  rw [hE]
  exact ⟨hi,hp,ad,cap,c1,v,c2,K1,K2,hcs,y4,z4,by rw [← e1];exact hc,rfl,hlc,hb,ho rfl⟩
 obtain ⟨p1,p2⟩:=m5 w (.ownh e l i) csx (ad.block :: (K1 ++ K2)) (K0 ++ X) rfl (fun ho=>by simp [V.outer] at ho) (Nat.le_refl _) (fun _ _ _ _ _=>rfl) (fun _ _=>.inr (.inr trivial)) True.intro m2 (fun _=>rfl) hndX
  (by
   intro b hb
   rcases (hmem b).1 hb with q | q
   ·exact ⟨(hin b q).1,.inl q⟩
   ·exact ⟨h.ok.xlt b q,.inr (.inl q)⟩)
  (by
   intro q x' L' hq
   cases q with
   | nil=>
    simp only [Jf,oj,pj] at hq
    obtain ⟨rfl,rfl⟩:=hq
    exact ⟨_,rfl,fun _=>⟨rfl,rfl⟩⟩
   | cons j q=>
    simp only [Jf,hhd] at hq ⊢
    by_cases hj:j<l.length
    ·rw [if_pos hj] at hq ⊢
     by_cases hji:j=i
     ·subst hji
      rw [if_pos rfl] at hq
      cases q with
      | nil=>
       simp only [Jf,oj,pj] at hq
       obtain ⟨rfl,rfl⟩:=hq
       exact ⟨_,rfl,fun _=>⟨rfl,rfl⟩⟩
      | cons k q=>simp [Jf] at hq
     ·rw [if_neg hji] at hq
      exact ⟨x',hq,fun ho=>⟨ho,rfl⟩⟩
    ·rw [if_neg hj] at hq;cases hq) rfl rfl rfl (fun _ _ _ _=>rfl) (fun _=>hnew _ rfl) (fun _=>hnew _ rfl)
 refine ⟨rc,F,.mem (ad.add (i * (Ty.slice e).size)),[v],K0,_,g1,?_,?_,?_,p1,p2⟩
 ·simp only [Jf,hhd,if_pos hi]
  rfl
 ·have:=QK (L:=.mem ad) (w:=w) (c1:=c1) (c:=[v]) (c2:=c2) (by rw [e1] at hc;exact hc)
  rw [y3] at this
  exact this
 ·rw [hgi]
  exact p2.inV (fun _ hs=>by cases hs) (fun _ _=>rfl) hown
theorem M9 (h:JK w bl G X w0 F0) {s:Nat} {p:List Nat} {c:List Jk} {x:V} (hg:JS bl s p=some (c,x)) (hk:∀ k ∈ c,k.ok) :
  ∃ c0 rc F Lv csv Fv,Jb bl s=some c0∧G s=some (rc,F)∧Jf w c0 (.reg rc) p=some (x,Lv)∧Lv.holds w csv ∧
   InV (Ja w (Qj bl s) G (Fv ++ X)) x csv Fv∧JK w (Qj bl s) G (Fv ++ X) w0 F0∧Jx (Ja w bl G X) (Ja w (Qj bl s) G (Fv ++ X)) (fun _=>False):=by
 unfold JS at hg
 split at hg
 ·rename_i c0 hl
  obtain ⟨rc,F,F1,g1,g2,g3,g4,g5⟩:=h.ok.root s c0 hl
  obtain ⟨Lx,h6⟩:=HO (Ja w bl G X) p c0 rc F1 (.reg rc) c x g2 ⟨[],by simp⟩ hg hk
  obtain ⟨csx,Fx,Fr,m1,m2,m3,_,_⟩:=h.modify hl g1 h6 (by rw [hg];rfl)
  obtain ⟨rc',F',Fc,d1,d2,d3,d4,d5⟩:=h.drop hl
  rw [g1] at d1
  cases d1
  have hnd:=(m3.nodup_iff).1 g4
  have hndX:(Fx ++ X).Nodup:=List.nodup_append.2 ⟨(List.nodup_append.1 hnd).2.1,h.ok.xnd,fun a ha b hb hab=>by subst hab;exact (g5 a ((m3.mem_iff).2 (by simp [ha]))).2 hb⟩
  obtain ⟨e1,e2⟩:=d4.sub hndX (fun b hb=>by
   rcases List.mem_append.1 hb with q | q
   ·exact List.mem_append.2 (.inl ((d2.mem_iff).2 ((m3.mem_iff).2 (by simp [q]))))
   ·exact List.mem_append.2 (.inr q))
  exact ⟨c0,rc,F,Lx,csx,Fx,hl,g1,h6,m2,(d5.trans e2).inV (fun _ _=>id) (fun _ _=>rfl) m1,e1,d5.trans e2⟩
 ·simp at hg
end
end Go.Rai
namespace Go.Rai
variable [Inhabited Qk]
mutual
theorem VA:∀ {t:Ty} {x:V},t.plain=true→Jq t x=true→JH x=true→shp t x=true
 | .int k,x,_,h,_=>by cases x<;>simp [Jq] at h;simpa [shp] using h
 | .bool,x,_,h,_=>by cases x<;>simp [Jq] at h;rfl
 | .str,x,_,h,_=>by cases x<;>simp [Jq] at h;rfl
 | .struct ts,x,hf,h,ho=>by
  cases x<;>simp [Jq] at h
  unfold Ty.plain at hf
  unfold JH at ho
  unfold shp
  exact SD hf h ho
 | .arr n e,x,hf,h,ho=>by
  cases x<;>simp [Jq] at h
  unfold shp;exact h
 | .slice e,x,hf,h,ho=>by
  cases x<;>simp [Jq] at h<;>first | (simp [JH] at ho;done) | (unfold shp;exact h)
 | .ptr,x,hf,h,ho=>by simp [Ty.plain] at hf
 | .fn,x,hf,h,ho=>by simp [Ty.plain] at hf
 | .imap,x,hf,h,ho=>by simp [Ty.plain] at hf
 | .other,x,hf,h,ho=>by simp [Ty.plain] at hf
theorem SD:∀ {ts:List Ty} {xs:List V},Ty.plains ts=true→JI ts xs=true→Hc xs=true→Qw ts xs=true
 | [],xs,_,h,_=>by cases xs<;>simp [JI] at h;rfl
 | t :: ts,xs,hf,h,ho=>by
  cases xs with
  | nil=>simp [JI] at h
  | cons x xs=>
   unfold Ty.plains at hf;rw [Je] at hf
   unfold JI at h;rw [Je] at h
   unfold Hc at ho;rw [Je] at ho
   unfold Qw;rw [Je]
   exact ⟨VA hf.1 h.1 ho.1,SD hf.2 h.2 ho.2⟩
end
theorem SE {E:Env} {e:Ty} (hp:e.plain=true):∀ {n:Nat} {vs:List V} {cs:List Value} {F:List Nat},JI (rep n e) vs=true→Hc vs=true→Jj E vs cs F→Row (DIn true E.w e) (Un vs) cs F
 | 0,vs,cs,F,h,_,hi=>by
  cases vs<;>simp [rep,JI] at h
  unfold Jj at hi
  exact hi
 | n + 1,vs,cs,F,h,ho,hi=>by
  cases vs with
  | nil=>simp [rep,JI] at h
  | cons v vs=>
   simp only [rep,JI,Je] at h
   unfold Hc at ho;rw [Je] at ho
   unfold Jj at hi
   obtain ⟨c1,c2,F1,F2,e1,e2,h1,h2⟩:=hi
   exact ⟨c1,c2,F1,F2,e1,e2,Vg e (VA hp h.1 ho.1) h1,SE hp h.2 ho.2 h2⟩
section
variable {P:Program} {A:Ann} {w w' w0:World} {F0:List Nat} {sl:List V} {a:Act} {bl b':BL} {G:GT} {o:Oper} {X:List Nat}
def CN (w:World) (E:Env) (w0:World) (F0 X:List Nat) (b':BL) (Q:Env→List Nat→Prop):Prop:=
 ∃ F' G',JK w b' G' (F' ++ X) w0 F0∧Q (Ja w b' G' (F' ++ X)) F'∧Jx E (Ja w b' G' (F' ++ X)) (fun _=>False)
theorem QU {c c':List Jk} (h:∀ k ∈ cat c c',k.ok):(∀ k ∈ c,k.ok)∧∀ k ∈ c',k.ok:=
 ⟨fun k hk=>h k (by rw [Ju];exact .inl hk),fun k hk=>h k (by rw [Ju];exact .inr hk)⟩
theorem SF:∀ (ts:List Ty) (vs:List V),(CD ts vs).length=vs.length
 | [],vs=>by unfold CD;rfl
 | t :: ts,[]=>by unfold CD;rfl
 | t :: ts,v :: vs=>by unfold CD;simp [SF ts vs]
theorem YX:∀ (n:Nat) {b b':BL} {vs ws:List V} {c:List Jk},Q7 n b vs=some (c,ws,b')→ws.length=vs.length
 | 0,b,b',vs,ws,c,h=>by simp [Q7] at h
 | n + 1,b,b',[],ws,c,h=>by simp [Q7] at h;rw [← h.2.1]
 | n + 1,b,b',v :: vs,ws,c,h=>by
  simp only [Q7] at h
  split at h
  ·split at h
   ·rename_i h2
    simp only [oj,pj] at h
    obtain ⟨_,rfl,_⟩:=h
    simp [YX n h2]
   ·simp at h
  ·simp at h
theorem Oa:∀ n,
  (∀ {bl b':BL} {G:GT} {X F:List Nat} {v v':V} {cs:List Value} {c:List Jk},JK w bl G (F ++ X) w0 F0→InV (Ja w bl G (F ++ X)) v cs F→inl n bl v=some (c,v',b')→(∀ k ∈ c,k.ok) →
   CN w (Ja w bl G (F ++ X)) w0 F0 X b' (fun E F'=>InV E v' cs F')) ∧
  (∀ {bl b':BL} {G:GT} {X F:List Nat} {vs vs':List V} {cs:List Value} {c:List Jk},JK w bl G (F ++ X) w0 F0→Jj (Ja w bl G (F ++ X)) vs cs F→Q7 n bl vs=some (c,vs',b')→(∀ k ∈ c,k.ok) →
   CN w (Ja w bl G (F ++ X)) w0 F0 X b' (fun E F'=>Jj E vs' cs F'))
 | 0=>⟨fun _ _ h=>by simp [inl] at h,fun _ _ h=>by simp [Q7] at h⟩
 | n + 1=>by
  obtain ⟨ih1,ih2⟩:=Oa n
  constructor
  ·intro bl b' G X F v v' cs c hc hv h hk
   unfold inl at h
   split at h
   ·rename_i s p e
    have hv':=hv
    unfold InV at hv'
    obtain ⟨rfl,⟨Ad,m,k,rfl⟩,hal⟩:=hv'
    split at h
    ·rename_i e2 l b1 ht
     simp only [oj,pj] at h
     obtain ⟨rfl,rfl,rfl⟩:=h
     obtain ⟨c0,rc,Fs,Lv,csv,Fv,G',k1,k2,k3,k4,k5,k6,k7,k8⟩:=C9 hc ht
     refine ⟨Fv,G',k7,?_,k8⟩
     obtain ⟨u,g1,g2⟩:=hal c0 rc Fs k1 k2 _ _ k3 rfl
     have hcsv:csv=[u]:=by
      have k6':=k6
      unfold InV at k6'
      obtain ⟨_,A',c',hcs',_⟩:=k6'
      rw [hcs'] at k4
      have:=JL k4
      rw [show (Ja w bl G ([] ++ X)).w=w from rfl,this] at g1
      simp only [oj] at g1
      rw [hcs',g1]
     rw [g2,← hcsv]
     exact k6
    ·rename_i e2 vs b1 ht
     split at h
     ·rename_i c2 ws b2 hin
      split at h
      ·rename_i hall
       simp only [oj,pj] at h
       obtain ⟨rfl,rfl,rfl⟩:=h
       rw [Je] at hall
       rw [Je] at hall
       obtain ⟨hp,how,hfit⟩:=hall
       obtain ⟨c0,rc,Fs,Lv,csv,Fv,G',k1,k2,k3,k4,k5,k6,k7,k8⟩:=C9 hc ht
       obtain ⟨u,g1,g2⟩:=hal c0 rc Fs k1 k2 _ _ k3 rfl
       have k6':=k6
       unfold InV at k6'
       obtain ⟨ad,cc,cs',F',hcs',hlc,hes,hin',hca,hF,hbl,hun⟩:=k6'
       have hu:Value.slice (some ad) vs.length cc=u:=by
        rw [hcs'] at k4
        have:=JL k4
        rw [show (Ja w bl G ([] ++ X)).w=w from rfl,this] at g1
        simpa using g1
       subst hF
       have hpm:(ad.block :: F' ++ ([] ++ X)).Perm (F' ++ (ad.block :: X)):=by
        simp only [List.nil_append,List.cons_append]
        exact (List.perm_middle).symm
       obtain ⟨p1,p2⟩:=k7.perm hpm
       obtain ⟨F2,G2,q1,q2,q3⟩:=ih2 (X:=ad.block :: X) (F:=F') p1 (YS _ (HN p2.le vs (fun s _=>p2.al s id) (fun b _=>rfl) hin')) hin hk
       have hpm2:(F2 ++ (ad.block :: X)).Perm ((ad.block :: F2) ++ X):=by
        simp only [List.cons_append]
        exact List.perm_middle
       obtain ⟨r1,r2⟩:=q1.perm hpm2
       refine ⟨ad.block :: F2,G2,r1,?_,(((k8.trans p2).trans q3)).trans r2⟩
       have hws:ws.length=vs.length:=by rw [YX n hin,SF]
       have hrow:=SE (E:=Ja w b2 G2 (F2 ++ (ad.block :: X))) hp hfit how q2
       rw [g2,← hu]
       unfold InV
       refine ⟨hp,some ad,cc,by rw [Wq,hws],.inr ⟨ad,cs',F2,rfl,hrow,hca,rfl,by rw [Wq,hws];exact hlc,hbl,fun _=>hun.1⟩⟩
      ·simp at h
     ·simp at h
    ·simp at h
    ·split at h
     ·rename_i c2 e2 l hg
      simp only [oj,pj] at h
      obtain ⟨rfl,rfl,rfl⟩:=h
      obtain ⟨c0,rc,Fs,Lv,csv,Fv,k1,k2,k3,k4,k6,k7,k8⟩:=M9 hc hg hk
      refine ⟨Fv,G,k7,?_,k8⟩
      obtain ⟨u,g1,g2⟩:=hal c0 rc Fs k1 k2 _ _ k3 rfl
      have hcsv:csv=[u]:=by
       have k6':=k6
       unfold InV at k6'
       obtain ⟨_,A',c',hcs',_⟩:=k6'
       rw [hcs'] at k4
       have:=JL k4
       rw [show (Ja w bl G ([] ++ X)).w=w from rfl,this] at g1
       simp only [oj] at g1
       rw [hcs',g1]
      rw [g2,← hcsv]
      exact k6
     ·simp at h
   ·rename_i s p off len e
    have hv':=hv
    unfold InV at hv'
    obtain ⟨rfl,⟨Ad,k,rfl,hlk⟩,hal⟩:=hv'
    split at h
    ·rename_i e2 l b1 ht
     split at h
     ·rename_i hbeq
      have hee:=Ty.beq_eq _ _ hbeq
      subst hee
      simp only [oj,pj] at h
      obtain ⟨rfl,rfl,rfl⟩:=h
      have hb:off + len≤l.length:=hk (.le (off + len) l.length) (by simp)
      obtain ⟨c0,rc,Fs,Lv,csv,Fv,G',k1,k2,k3,k4,k5,k6,k7,k8⟩:=C9 hc ht
      obtain ⟨A0,n0,k0,A',g1,g2,g3,g4⟩:=hal c0 rc Fs k1 k2 _ _ k3 rfl
      unfold InV at k6
      obtain ⟨hp,A1,c1,hcs1,hsl⟩:=k6
      rw [hcs1] at k4
      have hhd:=JL k4
      rw [show (Ja w bl G ([] ++ X)).w=w from rfl,hhd] at g1
      simp only [oj,Value.slice.injEq] at g1
      obtain ⟨rfl,rfl,rfl⟩:=g1
      obtain ⟨F'',r1,r2,r3⟩:=Xq (off:=off) (len:=len) (fun d c G hd=>Qn _ hd) hsl hb g4
      have hndv:(Fv ++ X).Nodup:=k7.ok.xnd
      have hnd'':(F'' ++ X).Nodup:=by
       refine List.nodup_append.2 ⟨r3.nodup (List.nodup_append.1 hndv).1,(List.nodup_append.1 hndv).2.1,fun a ha b hb=>(List.nodup_append.1 hndv).2.2 a (r2 a ha) b hb⟩
      obtain ⟨s1,s2⟩:=k7.sub hnd'' (fun b hb=>by
       rcases List.mem_append.1 hb with q | q
       ·exact List.mem_append.2 (.inl (r2 b q))
       ·exact List.mem_append.2 (.inr q))
      refine ⟨F'',G',s1,?_,k8.trans s2⟩
      rw [g3]
      unfold InV
      refine ⟨hp,A',c1 - off,?_,r1⟩
      simp;omega
     ·simp at h
    ·simp at h
   ·rename_i s p
    split at h
    ·split at h
     ·rename_i x b1 ht
      split at h
      ·rename_i c2 y b2 hin
       simp only [oj,pj] at h
       obtain ⟨rfl,rfl,rfl⟩:=h
       have hv':=hv
       unfold InV at hv'
       obtain ⟨rfl,⟨Ad,rfl⟩,hal⟩:=hv'
       obtain ⟨c0,rc,Fs,Lv,csv,Fv,G',k1,k2,k3,k4,k5,k6,k7,k8⟩:=C9 hc ht
       have k3':=k3
       simp only [Jf,oj,pj] at k3'
       obtain ⟨rfl,rfl⟩:=k3'
       have hrc:=k5 rfl
       subst hrc
       unfold InV at k6
       obtain ⟨ad,cs',F',hcs',hin',hca,hF,hbl,hun⟩:=k6
       obtain ⟨a2,q1,q2⟩:=hal (.obox x) csv Fs k1 k2 x (.mem ad) (by
        simp only [Jf]
        rw [hcs']
        simp [Ji.head])
       simp only [Ji.mem.injEq] at q1
       subst q1
       subst hF
       obtain ⟨p1,p2⟩:=k7.perm (show ((ad.block :: F') ++ X).Perm (F' ++ (ad.block :: X)) by simp only [List.cons_append];exact List.perm_middle.symm)
       obtain ⟨F2,G2,r1,r2,r3⟩:=ih1 (X:=ad.block :: X) (F:=F') p1 (p2.inV (fun _ _=>id) (fun _ _=>rfl) hin') hin hk
       obtain ⟨s1,s2⟩:=r1.perm (show (F2 ++ (ad.block :: X)).Perm ((ad.block :: F2) ++ X) by simp only [List.cons_append];exact List.perm_middle)
       refine ⟨ad.block :: F2,G2,s1,?_,((k8.trans p2).trans r3).trans s2⟩
       rw [q2]
       unfold InV
       exact ⟨ad,cs',F2,rfl,s2.inV (fun _ _=>id) (fun _ _=>rfl) r2,hca,rfl,hbl,hun⟩
      ·simp at h
     ·simp at h
    ·simp at h
   ·rename_i vs
    split at h
    ·rename_i c2 ws b2 hin
     simp only [oj,pj] at h
     obtain ⟨rfl,rfl,rfl⟩:=h
     unfold InV at hv
     obtain ⟨F',G',q1,q2,q3⟩:=ih2 hc hv hin hk
     exact ⟨F',G',q1,by unfold InV;exact q2,q3⟩
    ·simp at h
   ·unfold InV at hv
    exact hv.elim
   ·rename_i f caps
    split at h
    ·rename_i c2 ws b2 hin
     simp only [oj,pj] at h
     obtain ⟨rfl,rfl,rfl⟩:=h
     unfold InV at hv
     obtain ⟨vals,hcs,hvs,hvz⟩:=hv
     obtain ⟨F',G',q1,q2,q3⟩:=ih2 hc hvs hin hk
     refine ⟨F',G',q1,?_,q3⟩
     unfold InV
     refine ⟨vals,hcs,q2,?_⟩
     rw [← CJ _ q2,CJ _ hvs,hvz,YX n hin]
    ·simp at h
   ·rename_i x
    split at h
    ·rename_i c2 y b2 hin
     simp only [oj,pj] at h
     obtain ⟨rfl,rfl,rfl⟩:=h
     unfold InV at hv
     obtain ⟨ad,cs',F',hcs',hin',hca,hF,hbl,hun⟩:=hv
     subst hF
     obtain ⟨p1,p2⟩:=hc.perm (show ((ad.block :: F') ++ X).Perm (F' ++ (ad.block :: X)) by simp only [List.cons_append];exact List.perm_middle.symm)
     obtain ⟨F2,G2,r1,r2,r3⟩:=ih1 (X:=ad.block :: X) (F:=F') p1 (p2.inV (fun _ _=>id) (fun _ _=>rfl) hin') hin hk
     obtain ⟨s1,s2⟩:=r1.perm (show (F2 ++ (ad.block :: X)).Perm ((ad.block :: F2) ++ X) by simp only [List.cons_append];exact List.perm_middle)
     refine ⟨ad.block :: F2,G2,s1,?_,(p2.trans r3).trans s2⟩
     unfold InV
     exact ⟨ad,cs',F2,hcs',s2.inV (fun _ _=>id) (fun _ _=>rfl) r2,hca,rfl,hbl,hun⟩
    ·simp at h
   ·simp at h
   ·simp at h
   ·simp at h
   ·simp at h
   ·simp at h
   ·simp at h
   ·simp only [oj,pj] at h
    obtain ⟨rfl,rfl,rfl⟩:=h
    exact ⟨F,G,hc,hv,Jx.refl_ _ _⟩
  ·intro bl b' G X F vs vs' cs c hc hv h hk
   cases vs with
   | nil=>
    simp only [Q7,oj,pj] at h
    obtain ⟨rfl,rfl,rfl⟩:=h
    exact ⟨F,G,hc,hv,Jx.refl_ _ _⟩
   | cons v vs=>
    simp only [Q7] at h
    split at h
    ·rename_i c1 w1 b1 h1
     split at h
     ·rename_i c2 ws b2 h2
      simp only [oj,pj] at h
      obtain ⟨rfl,rfl,rfl⟩:=h
      obtain ⟨hk1,hk2⟩:=QU hk
      unfold Jj at hv
      obtain ⟨cs1,cs2,F1,F2,rfl,rfl,i1,i2⟩:=hv
      obtain ⟨p1,p2⟩:=hc.perm (show ((F1 ++ F2) ++ X).Perm (F1 ++ (F2 ++ X)) by rw [List.append_assoc])
      obtain ⟨F1',G1,q1,q2,q3⟩:=ih1 p1 (p2.inV (fun _ _=>id) (fun _ _=>rfl) i1) h1 hk1
      obtain ⟨r1,r2⟩:=q1.perm (show (F1' ++ (F2 ++ X)).Perm (F2 ++ (F1' ++ X)) by
       rw [← List.append_assoc,← List.append_assoc]
       exact List.Perm.append_right X List.perm_append_comm)
      have g1:=(p2.trans q3).trans r2
      obtain ⟨F2',G2,s1,s2,s3⟩:=ih2 r1 (HN g1.le vs (fun s _=>g1.al s id) (fun b _=>rfl) i2) h2 hk2
      obtain ⟨t1,t2⟩:=s1.perm (show (F2' ++ (F1' ++ X)).Perm ((F1' ++ F2') ++ X) by
       rw [← List.append_assoc]
       exact List.Perm.append_right X List.perm_append_comm)
      refine ⟨F1' ++ F2',G2,t1,?_,(g1.trans s3).trans t2⟩
      unfold Jj
      exact ⟨cs1,cs2,F1',F2',rfl,rfl,((r2.trans s3).trans t2).inV (fun _ _=>id) (fun _ _=>rfl) q2,HN t2.le ws (fun s _=>t2.al s id) (fun b _=>rfl) s2⟩
     ·simp at h
    ·simp at h
end
end Go.Rai
