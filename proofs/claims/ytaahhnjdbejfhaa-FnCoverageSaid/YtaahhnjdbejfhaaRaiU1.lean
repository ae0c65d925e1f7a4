/- An evaluator of the model's programs over plain values, proved sound, part 1 of 6. It is used by the claim's law; it has no condition of its own. -/
import Derived.Calls
import Derived.KernelRfl
import Derived.Still
import Derived.Below
set_option linter.unusedVariables false
set_option linter.unusedSectionVars false
set_option linter.unusedSimpArgs false
namespace Go.Rai
theorem ob {α β:Type _} (a:α) (f:α→Option β):(some a).bind f=f a:=rfl
theorem tn (n:Nat):(n:Int).toNat=n:=rfl
theorem oj {α:Type _} (a b:α):(some a=some b)=(a=b):=Option.some.injEq a b
theorem pj {α:Type _} {β:Type _} (a:α) (b:β) (c:α) (d:β):((a,b)=(c,d))=(a=c∧b=d):=Prod.mk.injEq a b c d
end Go.Rai
namespace Go.Rai
def cat {α:Type}:List α→List α→List α
 | [],m=>m
 | a :: l,m=>a :: cat l m
def Up {α:Type}:List α→Nat
 | []=>0
 | _ :: l=>Nat.succ (Up l)
def rep {α:Type}:Nat→α→List α
 | 0,_=>[]
 | n + 1,a=>a :: rep n a
inductive Ty where
 | int (k:IntKind)
 | bool
 | str
 | ptr
 | fn
 | imap
 | struct (fs:List Ty)
 | slice (e:Ty)
 | arr (n:Nat) (e:Ty)
 | other
 deriving Inhabited
mutual
def Ty.size:Ty→Nat
 | .struct fs=>Ty.sizes fs
 | .arr n e=>n * e.size
 | _=>1
def Ty.sizes:List Ty→Nat
 | []=>0
 | t :: ts=>t.size + Ty.sizes ts
end
def keq:IntKind→IntKind→Bool
 | .i8,.i8=>true
 | .i16,.i16=>true
 | .i32,.i32=>true
 | .i64,.i64=>true
 | .u8,.u8=>true
 | .u16,.u16=>true
 | .u32,.u32=>true
 | .u64,.u64=>true
 | _,_=>false
def Jh (a b:Bool):Bool:=match a with
 | true=>b
 | false=>false
def bor (a b:Bool):Bool:=match a with
 | true=>true
 | false=>b
def JO (a:Bool):Bool:=match a with
 | true=>false
 | false=>true
mutual
def Ty.beq:Ty→Ty→Bool
 | .int k,.int k'=>keq k k'
 | .bool,.bool=>true
 | .str,.str=>true
 | .ptr,.ptr=>true
 | .fn,.fn=>true
 | .struct fs,.struct gs=>Ty.beqs fs gs
 | .slice e,.slice e'=>e.beq e'
 | .arr n e,.arr m e'=>Jh (Nat.beq n m) (e.beq e')
 | _,_=>false
def Ty.beqs:List Ty→List Ty→Bool
 | [],[]=>true
 | a :: as,b :: bs=>Jh (a.beq b) (Ty.beqs as bs)
 | _,_=>false
end
mutual
def Ty.flat:Ty→Bool
 | .int _=>true
 | .bool=>true
 | .str=>true
 | .struct fs=>Ty.flats fs
 | .arr _ e=>e.flat
 | _=>false
def Ty.flats:List Ty→Bool
 | []=>true
 | t :: ts=>Jh t.flat (Ty.flats ts)
end
mutual
def Ty.plain:Ty→Bool
 | .int _=>true
 | .bool=>true
 | .str=>true
 | .struct fs=>Ty.plains fs
 | .slice e=>e.plain
 | .arr _ e=>e.flat
 | _=>false
def Ty.plains:List Ty→Bool
 | []=>true
 | t :: ts=>Jh t.plain (Ty.plains ts)
end
mutual
def Cg:Ty→Bool
 | .int k=>keq k .u8
 | .struct fs=>V4 fs
 | .slice e=>Cg e
 | .arr _ e=>Cg e
 | _=>false
def V4:List Ty→Bool
 | []=>false
 | t :: ts=>bor (Cg t) (V4 ts)
end
inductive D where
 | int (n:Int)
 | bool (b:Bool)
 | str (s:ByteArray)
 | node (l:List D)
 deriving Inhabited
def D.toInt:D→Int | .int n=>n | _=>0
def D.toBool:D→Bool | .bool b=>b | _=>false
def D.toStr:D→ByteArray | .str s=>s | _=>⟨#[]⟩
def D.items:D→List D | .node l=>l | _=>[]
def D.fld (d:D) (j:Nat):D:=d.items.getD j (.int 0)
inductive V where
 | undef
 | void
 | int (k:IntKind) (n:Int)
 | bool (b:Bool)
 | str (s:ByteArray)
 | agg (vs:List V)
 | arr (n:Nat) (e:Ty) (l:List D)
 | own (e:Ty) (l:List D)
 | ownh (e:Ty) (l:List D) (i:Nat)
 | rd (e:Ty) (l:List D)
 | lst (e:Ty) (vs:List V)
 | nilsl
 | emp (e:Ty)
 | obox (v:V)
 | rp (v:V)
 | full (s:Nat) (p:List Nat) (e:Ty)
 | sub (s:Nat) (p:List Nat) (off len:Nat) (e:Ty)
 | ptr (s:Nat) (p:List Nat)
 | fn (f:FuncId) (caps:List V)
 | nilfn
 | nilptr
 | tup (vs:List V)
 | mp (l:List D)
 | mref (s:Nat)
 deriving Inhabited
mutual
def dec (o:Bool):Ty→D→V
 | .int k,d=>.int k d.toInt
 | .bool,d=>.bool d.toBool
 | .str,d=>.str d.toStr
 | .struct fs,d=>.agg (Uz o fs 0 d)
 | .slice e,d=>match o with
  | true=>.own e d.items
  | false=>.rd e d.items
 | .arr n e,d=>.arr n e d.items
 | _,_=>.undef
def Uz (o:Bool):List Ty→Nat→D→List V
 | [],_,_=>[]
 | t :: ts,j,d=>dec o t (d.fld j) :: Uz o ts ((j + 1)) d
end
mutual
def enc:V→D
 | .int _ n=>.int n
 | .bool b=>.bool b
 | .str s=>.str s
 | .agg vs=>.node (Un vs)
 | .own _ l=>.node l
 | .rd _ l=>.node l
 | .arr _ _ l=>.node l
 | .lst _ vs=>.node (Un vs)
 | .nilsl=>.node []
 | .emp _=>.node []
 | _=>.int 0
def Un:List V→List D
 | []=>[]
 | v :: vs=>enc v :: Un vs
end
mutual
def QQ:Ty→D
 | .int _=>.int 0
 | .bool=>.bool false
 | .str=>.str ⟨#[]⟩
 | .struct fs=>.node (O1 fs)
 | .slice _=>.node []
 | .arr n e=>.node (List.replicate n (QQ e))
 | _=>.int 0
def O1:List Ty→List D
 | []=>[]
 | t :: ts=>QQ t :: O1 ts
end
mutual
def Ug:Ty→V
 | .int k=>.int k 0
 | .bool=>.bool false
 | .str=>.str ⟨#[]⟩
 | .struct fs=>.agg (HZ fs)
 | .slice _=>.nilsl
 | .arr n e=>.arr n e (List.replicate n (QQ e))
 | .ptr=>.nilptr
 | .fn=>.nilfn
 | .imap=>.undef
 | .other=>.undef
def HZ:List Ty→List V
 | []=>[]
 | t :: ts=>Ug t :: HZ ts
end
mutual
def zok:Ty→Bool
 | .struct fs=>CW fs
 | .arr _ e=>e.flat
 | .imap=>false
 | .other=>false
 | _=>true
def CW:List Ty→Bool
 | []=>true
 | t :: ts=>Jh (zok t) (CW ts)
end
mutual
def Jq:Ty→V→Bool
 | .int k,.int k' _=>keq k k'
 | .bool,.bool _=>true
 | .str,.str _=>true
 | .struct fs,.agg vs=>JI fs vs
 | .slice e,.own e' _=>e.beq e'
 | .slice e,.rd e' _=>e.beq e'
 | .slice e,.full _ _ e'=>e.beq e'
 | .slice e,.sub _ _ _ _ e'=>e.beq e'
 | .slice _,.nilsl=>true
 | .slice e,.emp e'=>e.beq e'
 | .arr n e,.arr m e' _=>Jh (Nat.beq n m) (e.beq e')
 | .ptr,.ptr _ _=>true
 | .ptr,.rp _=>true
 | .ptr,.obox _=>true
 | .ptr,.nilptr=>true
 | .fn,.fn _ _=>true
 | .fn,.nilfn=>true
 | _,_=>false
def JI:List Ty→List V→Bool
 | [],[]=>true
 | t :: ts,v :: vs=>Jh (Jq t v) (JI ts vs)
 | _,_=>false
end
mutual
def WX:Ty→V→Bool
 | .slice _,.undef=>true
 | .struct fs,.agg vs=>Ch fs vs
 | t,v=>Jq t v
def Ch:List Ty→List V→Bool
 | [],[]=>true
 | t :: ts,v :: vs=>Jh (WX t v) (Ch ts vs)
 | _,_=>false
end
inductive Jk where
 | le (a b:Nat)
 | ix (i:Int) (n:Nat)
 | nz (b:Int)
 | nn (b:Int)
 | bd (l h:Int) (n:Nat)
 | mk (l c:Int)
 | sz (a b:Nat)
 | eqI (a b:Int)
 | eqB (a b:Bool)
def Jk.ok:Jk→Prop
 | .le a b=>a≤b
 | .ix i n=>0≤i∧i<n
 | .nz b=>b ≠ 0
 | .nn b=>0≤b
 | .bd l h n=>0≤l∧l≤h∧h≤n
 | .mk l c=>0≤l∧l≤c∧c≤4294967296
 | .sz a b=>a + b≤4294967296
 | .eqI a b=>a=b
 | .eqB a b=>a=b
instance (c:Jk):Decidable c.ok:=by cases c<;>(unfold Jk.ok;infer_instance)
def QR {R:Type}:List Jk→Option R→Option R
 | [],k=>k
 | .le a b :: r,k=>if a≤b then QR r k else none
 | .ix i n :: r,k=>if 0≤i∧i<n then QR r k else none
 | .nz b :: r,k=>if b ≠ 0 then QR r k else none
 | .nn b :: r,k=>if 0≤b then QR r k else none
 | .bd l h n :: r,k=>if 0≤l∧l≤h∧h≤n then QR r k else none
 | .mk l c :: r,k=>if 0≤l∧l≤c∧c≤4294967296 then QR r k else none
 | .sz a b :: r,k=>if a + b≤4294967296 then QR r k else none
 | .eqI a b :: r,k=>if a=b then QR r k else none
 | .eqB a b :: r,k=>if a=b then QR r k else none
abbrev G (α:Type):=Option (List Jk × α)
def nth {α:Type}:List α→Nat→Option α
 | [],_=>none
 | a :: _,0=>some a
 | _ :: l,n + 1=>nth l n
def JD {α:Type}:List α→Nat→α→List α
 | [],_,_=>[]
 | _ :: l,0,x=>x :: l
 | a :: l,n + 1,x=>a :: JD l n x
def V.step:V→Nat→G V
 | .agg vs,j=>match nth vs j with
  | some v=>some ([],v)
  | none=>none
 | .lst _ vs,j=>match nth vs j with
  | some v=>some ([],v)
  | none=>none
 | .own e l,j=>some ([.le (j + 1) l.length],dec true e (l.getD j (.int 0)))
 | .arr _ e l,j=>some ([.le (j + 1) l.length],dec true e (l.getD j (.int 0)))
 | .obox v,_=>some ([],v)
 | .fn _ caps,j=>match nth caps j with
  | some v=>some ([],v)
  | none=>none
 | _,_=>none
def V.put:V→Nat→V→V
 | .agg vs,j,x=>.agg (JD vs j x)
 | .lst e vs,j,x=>.lst e (JD vs j x)
 | .own e l,j,x=>.own e (l.set j (enc x))
 | .arr n e l,j,x=>.arr n e (l.set j (enc x))
 | .obox _,_,x=>.obox x
 | .fn f caps,j,x=>.fn f (JD caps j x)
 | v,_,_=>v
def V.get:V→List Nat→G V
 | v,[]=>some ([],v)
 | v,j :: p=>match v.step j with
  | some (c,x)=>match x.get p with
   | some (c',y)=>some ((cat c c'),y)
   | none=>none
  | none=>none
def V.set:V→List Nat→V→V
 | _,[],x=>x
 | v,j :: p,x=>match v.step j with
  | some (_,y)=>v.put j (y.set p x)
  | none=>v
def V.outer:V→List Nat→Bool
 | _,[]=>true
 | .own _ _,_ :: _=>false
 | .arr _ _ _,_ :: _=>false
 | v,j :: p=>match v.step j with
  | some (_,x)=>x.outer p
  | none=>false
mutual
def Qb (s:Nat):List Nat→V→V
 | p,.own e _=>.full s p e
 | p,.lst e _=>.full s p e
 | _,.ownh _ _ _=>.undef
 | p,.mp _=>match p with
  | []=>.mref s
  | _=>.undef
 | p,.obox _=>.ptr s (cat p [0])
 | p,.agg vs=>.agg (HH s p 0 vs)
 | p,.fn f caps=>.fn f (HH s p 0 caps)
 | _,v=>v
def HH (s:Nat):List Nat→Nat→List V→List V
 | _,_,[]=>[]
 | p,j,v :: vs=>Qb s (cat p [j]) v :: HH s p ((j + 1)) vs
end
mutual
def QE:V→Bool
 | .own _ _=>true
 | .ownh _ _ _=>true
 | .mp _=>true
 | .lst _ _=>true
 | .obox _=>true
 | .agg vs=>Ci vs
 | .tup vs=>Ci vs
 | .fn _ caps=>Ci caps
 | _=>false
def Ci:List V→Bool
 | []=>false
 | v :: vs=>bor (QE v) (Ci vs)
end
mutual
def Qe:V→Bool
 | .int _ _=>true
 | .bool _=>true
 | .str _=>true
 | .own _ _=>true
 | .arr _ _ _=>true
 | .rd e _=>Cg e
 | .agg vs=>HI vs
 | .tup vs=>HI vs
 | .obox v=>Qe v
 | .nilptr=>true
 | _=>false
def HI:List V→Bool
 | []=>true
 | v :: vs=>Jh (Qe v) (HI vs)
end
mutual
def JH:V→Bool
 | .int _ _=>true
 | .bool _=>true
 | .str _=>true
 | .own _ _=>true
 | .arr _ _ _=>true
 | .agg vs=>Hc vs
 | .tup vs=>Hc vs
 | .obox v=>JH v
 | .nilptr=>true
 | _=>false
def Hc:List V→Bool
 | []=>true
 | v :: vs=>Jh (JH v) (Hc vs)
end
mutual
def Qc:V→Bool
 | .int _ _=>true
 | .bool _=>true
 | .str _=>true
 | .own _ _=>true
 | .arr _ _ _=>true
 | .agg vs=>Hd vs
 | .tup vs=>Hd vs
 | .obox v=>Qc v
 | .nilptr=>true
 | .nilsl=>true
 | _=>false
def Hd:List V→Bool
 | []=>true
 | v :: vs=>Jh (Qc v) (Hd vs)
end
mutual
def Jd:V→List Nat
 | .full s _ _=>[s]
 | .sub s _ _ _ _=>[s]
 | .ptr s _=>[s]
 | .mref s=>[s]
 | .agg vs=>Jl vs
 | .lst _ vs=>Jl vs
 | .tup vs=>Jl vs
 | .fn _ caps=>Jl caps
 | .obox v=>Jd v
 | .rp v=>Jd v
 | _=>[]
def Jl:List V→List Nat
 | []=>[]
 | v :: vs=>(cat (Jd v) (Jl vs))
end
abbrev BL:=List (Nat × V)
structure St where
 sl:List V
 bl:BL
 deriving Inhabited
def Jb:BL→Nat→Option V
 | [],_=>none
 | (k,v) :: r,s=>match Nat.beq k s with
  | true=>some v
  | false=>Jb r s
def Qj:BL→Nat→BL
 | [],_=>[]
 | (k,v) :: r,s=>match Nat.beq k s with
  | true=>Qj r s
  | false=>(k,v) :: Qj r s
def Jp (b:BL) (s:Nat) (v:V):BL:=(cat (Qj b s) [(s,v)])
def Jw:List V→Nat→V
 | [],_=>.undef
 | v :: _,0=>v
 | _ :: l,n + 1=>Jw l n
def JS (b:BL) (s:Nat) (p:List Nat):G V:=
 match Jb b s with
 | some c=>c.get p
 | none=>none
def He (b:BL) (s:Nat) (p:List Nat) (x:V):G BL:=
 match Jb b s with
 | some c=>match c.get p with
  | some (cs,_)=>some (cs,Jp b s (c.set p x))
  | none=>none
 | none=>none
def U0 (b:BL):V→G (Ty × List D)
 | .rd e l=>some ([],e,l)
 | .full s p _=>match JS b s p with
  | some (c,.own e l)=>some (c,e,l)
  | _=>none
 | .sub s p off len e=>match JS b s p with
  | some (c,.own e' l)=>match e.beq e' with
   | true=>some (cat c [.le (off + len) l.length],e,(l.drop off).take len)
   | false=>none
  | _=>none
 | _=>none
def O2:List V→Bool
 | []=>true
 | .rd _ _ :: r=>O2 r
 | _=>false
mutual
def lend (b:BL):Nat→V→G V
 | 0,_=>none
 | n + 1,v=>match v with
  | .full s p _=>match JS b s p with
   | some (c,.own e l)=>some (c,.rd e l)
   | some (c,.lst e vs)=>match UE b n vs with
    | some (c',ws)=>match Jh e.plain (Jh (O2 ws) (JI (rep ws.length e) ws)) with
     | true=>some (cat c c',.rd e (Un ws))
     | false=>none
    | none=>none
   | _=>none
  | .sub s p off len e=>match JS b s p with
   | some (c,.own e' l)=>match e.beq e' with
    | true=>some (cat c [.le (off + len) l.length],.rd e ((l.drop off).take len))
    | false=>none
   | _=>none
  | .ptr s p=>match JS b s p with
   | some (c,x)=>match lend b n x with
    | some (c',y)=>some ((cat c c'),.rp y)
    | none=>none
   | none=>none
  | .own e l=>some ([],.rd e l)
  | .obox x=>match lend b n x with
   | some (c,y)=>some (c,.rp y)
   | none=>none
  | .agg vs=>match UE b n vs with
   | some (c,ws)=>some (c,.agg ws)
   | none=>none
  | .fn f caps=>match UE b n caps with
   | some (c,ws)=>some (c,.fn f ws)
   | none=>none
  | .lst _ _=>none
  | .ownh _ _ _=>none
  | .mp _=>none
  | .mref _=>none
  | .tup _=>none
  | .undef=>none
  | .void=>none
  | x=>some ([],x)
def UE (b:BL):Nat→List V→G (List V)
 | 0,_=>none
 | _ + 1,[]=>some ([],[])
 | n + 1,v :: vs=>match lend b n v with
  | some (c,w)=>match UE b n vs with
   | some (c',ws)=>some ((cat c c'),w :: ws)
   | none=>none
  | none=>none
end
def Yj:Ty→V→V
 | .slice e,.nilsl=>match e.plain with
  | true=>.rd e []
  | false=>.nilsl
 | .slice e,.emp e'=>match e.plain with
  | true=>.rd e []
  | false=>.emp e'
 | _,v=>v
mutual
def UN:Ty→V→V
 | .slice e,.nilsl=>match e.plain with
  | true=>.own e []
  | false=>.nilsl
 | .slice e,.emp e'=>match e.plain with
  | true=>.own e []
  | false=>.emp e'
 | .struct fs,.agg vs=>.agg (CD fs vs)
 | _,v=>v
def CD:List Ty→List V→List V
 | t :: ts,v :: vs=>UN t v :: CD ts vs
 | _,vs=>vs
end
def Uq:Ty→V→V
 | .struct fs,v=>UN (.struct fs) v
 | _,v=>v
def WY:V→Bool
 | .own _ _=>true
 | .lst _ _=>true
 | _=>false
def QS (b:BL) (s:Nat) (p:List Nat):Option (V × BL):=
 match Jb b s with
 | some c=>match p with
  | []=>some (c,Qj b s)
  | _=>match c.get p with
   | some ([],x)=>match Jh (WY x) (c.outer p) with
    | true=>some (x,Jp b s (c.set p .undef))
    | false=>none
   | _=>none
 | none=>none
mutual
def inl:Nat→BL→V→G (V × BL)
 | 0,_,_=>none
 | n + 1,b,v=>match v with
  | .full s p _=>match QS b s p with
   | some (.own e l,b')=>some ([],.own e l,b')
   | some (.lst e vs,b')=>match Q7 n b' (CD (rep vs.length e) vs) with
    | some (c,ws,b'')=>match Jh e.plain (Jh (Hc ws) (JI (rep ws.length e) ws)) with
     | true=>some (c,.own e (Un ws),b'')
     | false=>none
    | none=>none
   | some _=>none
   | none=>match JS b s p with
    | some (c,.own e l)=>some (c,.own e l,Qj b s)
    | _=>none
  | .sub s p off len e=>match QS b s p with
   | some (.own e' l,b')=>match e.beq e' with
    | true=>some ([.le (off + len) l.length],.own e ((l.drop off).take len),b')
    | false=>none
   | _=>none
  | .ptr s p=>match p with
   | [0]=>match QS b s [] with
    | some (.obox x,b')=>match inl n b' x with
     | some (c,y,b'')=>some (c,.obox y,b'')
     | none=>none
    | _=>none
   | _=>none
  | .agg vs=>match Q7 n b vs with
   | some (c,ws,b')=>some (c,.agg ws,b')
   | none=>none
  | .tup vs=>match Q7 n b vs with
   | some (c,ws,b')=>some (c,.tup ws,b')
   | none=>none
  | .fn f caps=>match Q7 n b caps with
   | some (c,ws,b')=>some (c,.fn f ws,b')
   | none=>none
  | .obox x=>match inl n b x with
   | some (c,y,b')=>some (c,.obox y,b')
   | none=>none
  | .lst _ _=>none
  | .ownh _ _ _=>none
  | .mp _=>none
  | .mref _=>none
  | .undef=>none
  | .void=>none
  | x=>some ([],x,b)
def Q7:Nat→BL→List V→G (List V × BL)
 | 0,_,_=>none
 | _ + 1,b,[]=>some ([],[],b)
 | n + 1,b,v :: vs=>match inl n b v with
  | some (c,w,b')=>match Q7 n b' vs with
   | some (c',ws,b'')=>some ((cat c c'),w :: ws,b'')
   | none=>none
  | none=>none
end
def Ol (op:BinOp) (k:IntKind) (a b:Int):G V:=
 match op with
 | .add=>some ([],.int k (k.wrap (a + b)))
 | .sub=>some ([],.int k (k.wrap (a - b)))
 | .mul=>some ([],.int k (k.wrap (a * b)))
 | .quo=>some ([.nz b],.int k (k.wrap (a.tdiv b)))
 | .rem=>some ([.nz b],.int k (a.tmod b))
 | .and=>some ([],.int k (k.wrap (BitVec.ofInt k.bits a &&& BitVec.ofInt k.bits b).toNat))
 | .or=>some ([],.int k (k.wrap (BitVec.ofInt k.bits a ||| BitVec.ofInt k.bits b).toNat))
 | .xor=>some ([],.int k (k.wrap (BitVec.ofInt k.bits a ^^^ BitVec.ofInt k.bits b).toNat))
 | .andNot=>some ([],.int k (k.wrap (BitVec.ofInt k.bits a &&& ~~~(BitVec.ofInt k.bits b)).toNat))
 | .shl=>some ([.nn b],.int k (k.wrap (a * 2 ^ min b.toNat k.bits)))
 | .shr=>some ([.nn b],.int k (a.fdiv (2 ^ min b.toNat k.bits)))
 | .eql=>some ([],.bool (decide (a=b)))
 | .neq=>some ([],.bool (!decide (a=b)))
 | .lss=>some ([],.bool (decide (a<b)))
 | .leq=>some ([],.bool (decide (a≤b)))
 | .gtr=>some ([],.bool (decide (b<a)))
 | .geq=>some ([],.bool (decide (b≤a)))
def Tg (op:BinOp) (x y:ByteArray):G V:=
 match op with
 | .add=>some ([.sz x.size y.size],.str (x ++ y))
 | .eql=>some ([],.bool (x.toList == y.toList))
 | .neq=>some ([],.bool (!(x.toList == y.toList)))
 | .lss=>some ([],.bool (Op.bytesLess x.toList y.toList))
 | .leq=>some ([],.bool (Op.bytesLess x.toList y.toList || x.toList == y.toList))
 | .gtr=>some ([],.bool (!(Op.bytesLess x.toList y.toList || x.toList == y.toList)))
 | .geq=>some ([],.bool (!(Op.bytesLess x.toList y.toList)))
 | _=>none
mutual
def eqV:Nat→V→V→Option Bool
 | 0,_,_=>none
 | n + 1,x,y=>match x,y with
  | .int k a,.int k' b=>match keq k k' with
   | true=>some (decide (a=b))
   | false=>none
  | .bool a,.bool b=>some (a == b)
  | .str a,.str b=>some (a == b)
  | .agg as,.agg bs=>V5 n as bs
  | _,_=>none
def V5:Nat→List V→List V→Option Bool
 | 0,_,_=>none
 | _ + 1,[],[]=>some true
 | n + 1,a :: as,b :: bs=>match eqV n a b with
  | some x=>match V5 n as bs with
   | some y=>some (x && y)
   | none=>none
  | none=>none
 | _ + 1,_,_=>none
end
def Om (b:BL):V→G Bool
 | .nilsl=>some ([],true)
 | v=>match U0 b v with
  | some (c,_,l)=>some ((cat c [.le 1 l.length]),false)
  | none=>none
def WZ:V→G Bool
 | .nilptr=>some ([],true)
 | .ptr _ _=>some ([],false)
 | .rp _=>some ([],false)
 | _=>none
def W0:V→G Bool
 | .nilfn=>some ([],true)
 | .fn _ _=>some ([],false)
 | _=>none
def CX (op:BinOp):G Bool→G V
 | some (c,r)=>match op with
  | .eql=>some (c,.bool r)
  | .neq=>some (c,.bool (JO r))
  | _=>none
 | none=>none
def UF:Ty→Bool
 | .slice _=>true
 | _=>false
def W1:Ty→Bool
 | .ptr=>true
 | _=>false
def W2:Ty→Bool
 | .fn=>true
 | _=>false
def J1 {α:Type} (c:Bool) (x:G α):G α:=match c with
 | true=>x
 | false=>none
def O3 (t:Ty) (b:BL) (op:BinOp) (x y:V):G V:=
 match x,y with
 | .int k a,.int k' c=>match keq k k' with
  | true=>Ol op k a c
  | false=>match op with
   | .shl=>Ol op k a c
   | .shr=>Ol op k a c
   | _=>none
 | .str s,.str t=>Tg op s t
 | .nilsl,y=>J1 (UF t) (CX op (Om b y))
 | x,.nilsl=>J1 (UF t) (CX op (Om b x))
 | .nilptr,y=>J1 (W1 t) (CX op (WZ y))
 | x,.nilptr=>J1 (W1 t) (CX op (WZ x))
 | .nilfn,y=>J1 (W2 t) (CX op (W0 y))
 | x,.nilfn=>J1 (W2 t) (CX op (W0 x))
 | x,y=>J1 (Jh (Jq t x) (Jq t y)) (match op with
  | .eql=>match eqV 30 x y with
   | some r=>some ([],.bool r)
   | none=>none
  | .neq=>match eqV 30 x y with
   | some r=>some ([],.bool (!r))
   | none=>none
  | _=>none)
def unV (op:UnOp) (x:V):Option V:=
 match op,x with
 | .neg,.int k n=>some (.int k (k.wrap (0 - n)))
 | .xor,.int k n=>some (.int k (k.wrap (BitVec.ofInt k.bits (if k.signed then -1 else k.max) ^^^ BitVec.ofInt k.bits n).toNat))
 | .not,.bool b=>some (.bool (!b))
 | _,_=>none
def Yk (c x y:V):Option V:=
 match c with
 | .bool c=>match x,y with
  | .bool x,.bool y=>some (.bool (bif c then x else y))
  | x,y=>match c with
   | true=>some x
   | false=>some y
 | _=>none
inductive Yl where
 | lend
 | io
 | take
 | keep
structure Ann where
 ty:TypeId→Ty
 mode:FuncId→Nat→Yl
 keep:FuncId→Nat→List Nat
 out:FuncId→Nat→List Nat
 both:FuncId→Bool
 dead:FuncId→Nat→List Nat
 nils:FuncId→Bool
def W3:Value→V
 | .int k n=>.int k n
 | .bool b=>.bool b
 | .string s=>.str s
 | .slice a n c=>match a,n,c with
  | none,0,0=>.nilsl
  | _,_,_=>.undef
 | .pointer a=>match a with
  | none=>.nilptr
  | _=>.undef
 | .nilFunc=>.nilfn
 | _=>.undef
def opd (sl:List V):Operand→V
 | .tmp t=>Jw sl t
 | .const v=>W3 v
 | .func f=>.fn f []
 | .global _=>.undef
abbrev Out:=V × BL
def JT:List Nat→Nat→Bool
 | [],_=>false
 | a :: l,s=>match Nat.beq a s with
  | true=>true
  | false=>JT l s
def Jv:BL→List Nat
 | []=>[]
 | (_,v) :: r=>cat (Jd v) (Jv r)
def Uh (sl:List V) (b:BL) (x:V) (t:Nat):Bool:=
 match Jb b t with
 | none=>JO (bor (JT (Jl sl) t) (bor (JT (Jv b) t) (JT (Jd x) t)))
 | some _=>false
def fresh (sl:List V) (b:BL) (d:Option Nat) (x:V):Option Out:=
 match d with
 | some t=>match Uh sl b x t with
  | true=>some (Qb t [] x,Jp b t x)
  | false=>none
 | none=>none
def Q8 (c:List Jk):Option Out→G Out
 | some o=>some (c,o)
 | none=>none
def Ym (e:Ty) (b:BL) (v:V):G (D × BL):=
 match inl 9 b (UN e v) with
 | some (c,w,b')=>match Jh (JH w) (Jq e w) with
  | true=>some (c,enc w,b')
  | false=>none
 | none=>none
def CY (e:Ty):BL→List V→G (List D × BL)
 | b,[]=>some ([],[],b)
 | b,v :: vs=>match Ym e b v with
  | some (c,d,b')=>match CY e b' vs with
   | some (c',ds,b'')=>some ((cat c c'),d :: ds,b'')
   | none=>none
  | none=>none
def CZ (ts:List Ty):List V→List (Nat × V)→Option (List V)
 | vs,[]=>some vs
 | vs,(i,x) :: r=>match nth ts i with
  | some t=>match Jq t x with
   | true=>CZ ts (JD vs i x) r
   | false=>none
  | none=>none
def Q4 (e:Ty) (b:BL) (x:V):G (List D × BL):=
 match x with
 | .nilsl=>some ([],[],b)
 | .emp _=>some ([],[],b)
 | .full s p _=>match JS b s p with
  | some (c,.lst _ vs)=>match p with
   | []=>match CY e (Qj b s) vs with
    | some (c',ds,b')=>some ((cat c c'),ds,b')
    | none=>none
   | _=>none
  | some (c,.own e' l)=>match e.beq e' with
   | true=>match e.flat with
    | true=>some (c,l,b)
    | false=>match QS b s p with
     | some (_,b')=>some (c,l,b')
     | none=>none
   | false=>none
  | _=>none
 | x=>match e.flat with
  | true=>match U0 b x with
   | some (c,e',l)=>match e.beq e' with
    | true=>some (c,l,b)
    | false=>none
   | none=>none
  | false=>none
def Ht (e:Ty) (sl:List V) (b0:BL) (d:Option Nat) (s x:V):G Out:=
 match J1 (Jh e.plain (JO (Nat.beq e.size 0))) (Q4 e b0 x) with
 | some (c,xs,b)=>
  match s with
  | .nilsl=>Q8 (cat c [.sz 0 xs.length]) (fresh sl b d (.own e xs))
  | .emp e'=>match e.beq e' with
   | true=>Q8 (cat c [.sz 0 xs.length]) (fresh sl b d (.own e xs))
   | false=>none
  | .full t p e'=>match e.beq e' with
   | true=>match QS b t p with
    | some (.own e2 l,b')=>J1 (e.beq e2) (Q8 (cat c [.sz l.length xs.length]) (fresh sl b' d (.own e (l ++ xs))))
    | _=>none
   | false=>none
  | .sub t p off len e'=>match Jh (e.beq e') e.flat with
   | true=>match JS b t p with
    | some (c',.own e2 l)=>match He b t p (.own e (l.take (off + len) ++ xs ++ l.drop (off + len + xs.length))) with
     | some (_,b')=>J1 (e.beq e2) <| some ((cat (cat c c') [.le (off + len + xs.length) l.length]),.sub t p off (len + xs.length) e,b')
     | none=>none
    | _=>none
   | false=>none
  | _=>none
 | none=>none
def W4 (e:Ty) (sl:List V) (b0:BL) (d:Option Nat) (s x:V):G Out:=
 match J1 (Jh e.plain (JO (Nat.beq e.size 0))) (Q4 e b0 x) with
 | some (c,xs,b)=>
  match s with
  | .full t p e'=>match p with
   | [i]=>match Jb b t with
    | some (.own (.slice e2) l)=>match Jh (e.beq e') (e.beq e2) with
     | true=>Q8 (cat c [.le (i + 1) l.length,.sz (l.getD i (.int 0)).items.length xs.length]) (fresh sl (Jp b t (.ownh e2 l i)) d (.own e ((l.getD i (.int 0)).items ++ xs)))
     | false=>none
    | _=>none
   | _=>none
  | _=>none
 | none=>none
def On (e:Ty) (sl:List V) (b:BL) (d:Option Nat) (s x:V):G Out:=
 match Ht e sl b d s x with
 | some r=>some r
 | none=>W4 e sl b d s x
def Yn (e:Ty) (sl:List V) (b:BL) (d:Option Nat) (s x:V):G Out:=
 match s with
 | .nilsl=>match x with
  | .int k n=>match keq k .i64 with
   | true=>J1 (Jh e.plain (JO (Nat.beq e.size 0))) (Q8 [.mk n n] (fresh sl b d (.own e (List.replicate n.toNat (QQ e)))))
   | false=>none
  | _=>none
 | .full t p e'=>match x with
  | .int k n=>match keq k .i64 with
   | true=>J1 (Jh (e.beq e') (Jh e.plain (JO (Nat.beq e.size 0)))) (match QS b t p with
    | some (.own e2 l,b')=>J1 (e.beq e2) (Q8 [.mk n n,.sz l.length n.toNat] (fresh sl b' d (.own e (l ++ List.replicate n.toNat (QQ e)))))
    | _=>none)
   | false=>none
  | _=>none
 | _=>none
def O4:Ty→Bool
 | .int _=>true
 | _=>false
def O5 (e:Ty) (b0:BL) (dst src:V):G Out:=
 match J1 (Jh e.plain (JO (Nat.beq e.size 0))) (Q4 e b0 src) with
 | some (c,xs,b)=>match e.flat with
  | true=>match dst with
   | .full t p e'=>match e.beq e' with
    | true=>match JS b t p with
     | some (c',.own e2 l)=>match He b t p (.own e (l.take 0 ++ xs.take l.length ++ l.drop (0 + (xs.take l.length).length))) with
      | some (_,b')=>J1 (e.beq e2) (some (cat c c',.int .i64 (xs.take l.length).length,b'))
      | none=>none
     | _=>none
    | false=>none
   | .sub t p off len e'=>match e.beq e' with
    | true=>match JS b t p with
     | some (c',.own e2 l)=>match He b t p (.own e (l.take off ++ xs.take len ++ l.drop (off + (xs.take len).length))) with
      | some (_,b')=>J1 (e.beq e2) (some (cat (cat c c') [.le (off + len) l.length],.int .i64 (xs.take len).length,b'))
      | none=>none
     | _=>none
    | false=>none
   | _=>none
  | false=>none
 | none=>none
def Th (e:Ty) (b:BL) (x:V):G Out:=
 match x with
 | .sub t p off len e'=>match Jh e.flat (Jh (e.beq e') (JO (Nat.beq e.size 0))) with
  | true=>match JS b t p with
   | some (c',.own e2 l)=>match He b t p (.own e (l.take off ++ List.replicate len (QQ e) ++ l.drop (off + (List.replicate len (QQ e)).length))) with
    | some (_,b')=>J1 (e.beq e2) (some (cat c' [.le (off + len) l.length],.tup [],b'))
    | none=>none
   | _=>none
  | false=>none
 | _=>none
def C0 (f:Int→Int→Int):V→List V→Option V
 | x,[]=>some x
 | .int k a,.int k' b :: r=>match keq k k' with
  | true=>C0 f (.int k (f a b)) r
  | false=>none
 | _,_=>none
def Ql (A:Ann) (sl:List V) (bl:BL) (d:Option Nat) (b:Builtin) (ts:List TypeId) (xs:List V):G Out:=
 match b,xs with
 | .len,[x]=>match nth ts 0 with
  | some t=>match A.ty t with
   | .str=>match x with
    | .str s=>some ([],.int .i64 s.size,bl)
    | _=>none
   | .slice _=>match x with
    | .nilsl=>some ([],.int .i64 0,bl)
    | .emp _=>some ([],.int .i64 0,bl)
    | .sub _ _ _ len _=>some ([],.int .i64 len,bl)
    | x=>match U0 bl x with
     | some (c,_,l)=>some (c,.int .i64 l.length,bl)
     | none=>none
   | _=>none
  | none=>none
 | .cap,[x]=>match nth ts 0 with
  | some t=>match A.ty t with
   | .slice _=>match x with
    | .nilsl=>some ([],.int .i64 0,bl)
    | .emp _=>some ([],.int .i64 0,bl)
    | _=>none
   | _=>none
  | none=>none
 | .max,x :: r=>match C0 (fun a b=>if b > a then b else a) x r with
  | some (.int k n)=>some ([],.int k n,bl)
  | _=>none
 | .min,x :: r=>match C0 (fun a b=>if b<a then b else a) x r with
  | some (.int k n)=>some ([],.int k n,bl)
  | _=>none
 | .append,[s,x]=>match ts with
  | [t,tx]=>match A.ty t with
   | .slice e=>match O4 (A.ty tx) with
    | true=>Yn e sl bl d s x
    | false=>J1 (UF (A.ty tx)) (On e sl bl d s x)
   | _=>none
  | _=>none
 | .copy,[s,x]=>match ts with
  | [t,tx]=>match A.ty t with
   | .slice e=>J1 (UF (A.ty tx)) (O5 e bl s x)
   | _=>none
  | _=>none
 | .clear,[x]=>match ts with
  | [t]=>match A.ty t with
   | .slice e=>Th e bl x
   | _=>none
  | _=>none
 | _,_=>none
def Uv:V→Option Int
 | .int _ n=>some n
 | _=>none
def Cj (n:Nat) (lo hi:Option V):G (Nat × Nat):=
 match lo,hi with
 | none,none=>some ([],0,n)
 | some l,none=>match Uv l with
  | some l=>some ([.bd l n n],l.toNat,n)
  | none=>none
 | none,some h=>match Uv h with
  | some h=>some ([.bd 0 h n],0,h.toNat)
  | none=>none
 | some l,some h=>match Uv l,Uv h with
  | some l,some h=>some ([.bd l h n],l.toNat,h.toNat)
  | _,_=>none
def W5:V→Bool
 | .int _ n=>match n with
  | .ofNat m=>Nat.beq m 0
  | _=>false
 | _=>false
def Ti:V→Option V
 | .nilsl=>some .nilsl
 | .emp e=>some (.emp e)
 | .rd e _=>some (.emp e)
 | .full _ _ e=>some (.emp e)
 | .sub _ _ _ _ e=>some (.emp e)
 | _=>none
def O6 (t:Ty) (b:BL) (x:V) (lo hi mx:Option V):G Out:=
 match mx with
 | some m=>match lo,hi with
  | none,some h=>match Jh (UF t) (Jh (W5 m) (W5 h)) with
   | true=>match Ti x with
    | some v=>some ([],v,b)
    | none=>none
   | false=>none
  | some l,some h=>match UF t with
   | true=>match Uv l with
    | some l=>match Uv h with
     | some h=>match Uv m with
      | some m=>match x with
       | .full s p _=>match JS b s p with
        | some (c',.own e xs)=>match Jq t (.own e xs) with
         | true=>some (cat c' [.bd l h xs.length,.bd h m xs.length],.undef,b)
         | false=>none
        | _=>none
       | _=>none
      | none=>none
     | none=>none
    | none=>none
   | false=>none
  | _,_=>none
 | none=>match x with
  | .str s=>match t with
   | .str=>match Cj s.size lo hi with
    | some (c,l,h)=>some (c,.str (s.extract l h),b)
    | none=>none
   | _=>none
  | .nilsl=>match UF t with
   | true=>match Cj 0 lo hi with
    | some (c,_,_)=>some (c,.nilsl,b)
    | none=>none
   | false=>none
  | .rd e xs=>match Jq t x with
   | true=>match Cj xs.length lo hi with
    | some (c,l,h)=>some (c,.rd e ((xs.drop l).take (h - l)),b)
    | none=>none
   | false=>none
  | .full s p _=>match JS b s p with
   | some (c',.own e xs)=>match Jq t (.own e xs) with
    | true=>match Cj xs.length lo hi with
     | some (c,l,h)=>some (cat c' c,.sub s p l (h - l) e,b)
     | none=>none
    | false=>none
   | _=>none
  | .sub s p off len e=>match Jq t x with
   | true=>match hi with
    | none=>match Cj len lo none with
     | some (c,l,h)=>some (c,.sub s p (off + l) (h - l) e,b)
     | none=>none
    | some hi=>match JS b s p with
     | some (c',.own e' xs)=>match e.beq e' with
      | true=>match Cj (xs.length - off) lo (some hi) with
       | some (c,l,h)=>some (cat c' c,.sub s p (off + l) (h - l) e,b)
       | none=>none
      | false=>none
     | _=>none
   | false=>none
  | _=>none
def W6:V→Bool
 | .ownh _ _ _=>true
 | _=>false
def W7 (e:Ty) (b:BL) (s:Nat) (p:List Nat) (i:Int):G Out:=
 match p with
 | []=>match Jb b s with
  | some (.ownh e2 l _)=>match e.beq (.slice e2) with
   | true=>some ([.ix i l.length],.ptr s [i.toNat],b)
   | false=>none
  | _=>none
 | _=>none
def CE (t:Ty) (b:BL) (x i:V):G Out:=
 match Uv i with
 | some i=>match t with
  | .slice e=>match x with
   | .rd e' l=>match e.beq e' with
    | true=>some ([.ix i l.length],.rp (dec false e (l.getD i.toNat (.int 0))),b)
    | false=>none
   | .full s p _=>match JS b s p with
    | some (c,.own e' l)=>match e.beq e' with
     | true=>some (cat c [.ix i l.length],.ptr s (cat p [i.toNat]),b)
     | false=>none
    | _=>W7 e b s p i
   | .sub s p off len e1=>match JS b s p with
    | some (c,.own e' l)=>match Jh (e.beq e') (e.beq e1) with
     | true=>some (cat c [.ix i len,.le (off + len) l.length],.ptr s (cat p [off + i.toNat]),b)
     | false=>none
    | _=>none
   | _=>none
  | .arr n e=>match x with
   | .ptr s p=>match JS b s p with
    | some (c,.arr m e' _)=>match Jh (Nat.beq n m) (e.beq e') with
     | true=>some (cat c [.ix i n],.ptr s (cat p [i.toNat]),b)
     | false=>none
    | _=>none
   | .rp (.arr m e' l)=>match Jh (Nat.beq n m) (e.beq e') with
    | true=>some ([.ix i n],.rp (dec false e (l.getD i.toNat (.int 0))),b)
    | false=>none
   | _=>none
  | _=>none
 | none=>none
def H0 (sl:List V):List (Nat × Operand)→List (Nat × V)
 | []=>[]
 | (i,x) :: r=>(i,opd sl x) :: H0 sl r
def Jm (sl:List V):List Operand→List V
 | []=>[]
 | x :: r=>opd sl x :: Jm sl r
def QT (sl:List V):Option Operand→Option V
 | none=>none
 | some x=>some (opd sl x)
def O7 (x:V) (i:V) (b:BL):G Out:=
 match x,Uv i with
 | .str s,some i=>some ([.ix i s.size],.int .u8 (s.data.toList.getD i.toNat 0).toNat,b)
 | _,_=>none
mutual
def U1:V→Bool
 | .int _ _=>true
 | .bool _=>true
 | .str _=>true
 | .agg vs=>Oo vs
 | .arr _ _ _=>true
 | .rd _ _=>true
 | .full _ _ _=>true
 | .sub _ _ _ _ _=>true
 | .nilsl=>true
 | .emp _=>true
 | .ptr _ _=>true
 | .rp _=>true
 | .nilptr=>true
 | .nilfn=>true
 | _=>false
def Oo:List V→Bool
 | []=>true
 | v :: vs=>Jh (U1 v) (Oo vs)
end
def O8 (t:Ty) (b:BL) (a x:V):G Out:=
 match a with
 | .ptr s p=>match Jb b s with
  | some c=>match c.get p with
   | some (cs,y)=>match Jh (Jq t y) (Jq t x) with
    | true=>match Jh (Jh (U1 y) (U1 x)) (bor (c.outer p) t.flat) with
     | true=>some (cs,.void,Jp b s (c.set p x))
     | false=>none
    | false=>none
   | none=>none
  | none=>none
 | _=>none
def Ck (t:Ty) (b:BL) (a:V):G Out:=
 match a with
 | .rp v=>match Jq t v with
  | true=>some ([],v,b)
  | false=>none
 | .ptr s p=>match JS b s p with
  | some (c,v)=>match Jq t v with
   | true=>some (c,Qb s p v,b)
   | false=>none
  | none=>none
 | _=>none
def V6 (e:Ty) (sl:List V) (b:BL) (d:Option Nat) (n:Nat) (vs:List V):G Out:=
 match e.flat with
 | true=>Q8 [] (fresh sl b d (.own e (Un vs)))
 | false=>match n with
  | 0=>match e.plain with
   | true=>Q8 [] (fresh sl b d (.own e []))
   | false=>none
  | _=>Q8 [] (fresh sl b d (.lst e vs))
def V7 (l:List D):ByteArray:=(l.map D.toInt).foldl (fun r n=>r.push (UInt8.ofNat n.toNat)) ByteArray.empty
def W8 (e:Ty) (b:BL) (x:V):G Out:=
 match e.beq (.int .u8) with
 | true=>match U0 b x with
  | some (c,e',l)=>match e.beq e' with
   | true=>some (c,.str (V7 l),b)
   | false=>none
  | none=>none
 | false=>none
def Oq (t:Ty) (b:BL) (f:Nat) (x:V):G Out:=
 match t with
 | .struct fs=>match x with
  | .ptr s p=>match JS b s p with
   | some (c,.agg vs)=>match Ch fs vs with
    | true=>match nth vs f with
     | some _=>some (c,.ptr s (cat p [f]),b)
     | none=>none
    | false=>none
   | _=>none
  | .rp (.agg vs)=>match JI fs vs with
   | true=>match nth vs f with
    | some v=>some ([],.rp v,b)
    | none=>none
   | false=>none
  | _=>none
 | _=>none
def C1:List V→Bool
 | []=>true
 | .ptr _ _ :: r=>C1 r
 | .rp _ :: r=>C1 r
 | _=>false
def Yo (t:Ty) (x:V) (f:Nat):Option V:=
 match t,x with
 | .struct fs,.agg vs=>match JI fs vs with
  | true=>nth vs f
  | false=>none
 | _,_=>none
def H1 (l:List D) (k:Int):Option Nat:=l.findIdx? (fun d=>decide (k=(d.fld 0).toInt))
def Qs (l:List D) (k:Int):Int:=match H1 l k with
 | some i=>((l.getD i (.int 0)).fld 1).toInt
 | none=>0
def QY (l:List D) (k v:Int):List D:=match H1 l k with
 | some i=>l.set i (.node [.int k,.int v])
 | none=>l ++ [.node [.int k,.int v]]
def C2:Ty→Bool
 | .imap=>true
 | _=>false
def Ot (b:BL) (m k:V):Option V:=
 match m with
 | .mref s=>match Jb b s with
  | some (.mp l)=>match k with
   | .int kk n=>match keq kk .i64 with
    | true=>some (.int .i64 (Qs l n))
    | false=>none
   | _=>none
  | _=>none
 | _=>none
def W9 (b:BL) (m k x:V):Option BL:=
 match m with
 | .mref s=>match Jb b s with
  | some (.mp l)=>match k with
   | .int kk n=>match x with
    | .int kx v=>match Jh (keq kk .i64) (keq kx .i64) with
     | true=>some (Jp b s (.mp (QY l n v)))
     | false=>none
    | _=>none
   | _=>none
  | _=>none
 | _=>none
def JE (A:Ann) (sl:List V) (b:BL) (d:Option Nat) (op:Op):G Out:=
 match op with
 | .move x=>some ([],opd sl x,b)
 | .assign x=>some ([],opd sl x,b)
 | .pick c x y=>match Yk (opd sl c) (opd sl x) (opd sl y) with
  | some v=>some ([],v,b)
  | none=>none
 | .alloc t=>match zok (A.ty t) with
  | true=>Q8 [] (fresh sl b d (.obox (Ug (A.ty t))))
  | false=>none
 | .box t x=>match Jq (A.ty t) (opd sl x) with
  | true=>Q8 [] (fresh sl b d (.obox (Uq (A.ty t) (opd sl x))))
  | false=>none
 | .build t ps=>match A.ty t with
  | .struct fs=>match CW fs with
   | true=>match CZ fs (HZ fs) (H0 sl ps.toList) with
    | some vs=>some ([],.agg vs,b)
    | none=>none
   | false=>none
  | .arr n e=>match Jh e.flat (zok e) with
   | true=>match ps.toList with
    | []=>some ([],.arr n e (List.replicate n (QQ e)),b)
    | _=>none
   | false=>none
  | _=>none
 | .buildSlice t n ps=>match A.ty t with
  | .slice e=>match Jh (zok e) (Nat.ble n 256) with
   | true=>match CZ (rep n e) (rep n (Ug e)) (H0 sl ps.toList) with
    | some vs=>V6 e sl b d n vs
    | none=>none
   | false=>none
  | _=>none
 | .load t a=>Ck (A.ty t) b (opd sl a)
 | .store t a x=>match Nat.beq (A.ty t).size 0 with
  | true=>none
  | false=>O8 (A.ty t) b (opd sl a) (opd sl x)
 | .nilCheck x=>match opd sl x with
  | .ptr s p=>some ([],.ptr s p,b)
  | .rp v=>some ([],.rp v,b)
  | .fn f c=>some ([],.fn f c,b)
  | _=>none
 | .binOp op t x y _=>match O3 (A.ty t) b op (opd sl x) (opd sl y) with
  | some (c,v)=>some (c,v,b)
  | none=>none
 | .unOp op _ x=>match unV op (opd sl x) with
  | some v=>some ([],v,b)
  | none=>none
 | .convert s t x=>match UF (A.ty s) with
  | true=>match A.ty s,A.ty t with
   | .slice e,.str=>W8 e b (opd sl x)
   | _,_=>none
  | false=>match A.ty s,A.ty t,opd sl x with
   | .int _,.int k,.int _ n=>some ([],.int k (k.wrap n),b)
   | .str,.str,.str s=>some ([],.str s,b)
   | _,_,_=>none
 | .makeFunc fn first caps=>match fn,first.toList with
  | .func f,[]=>match C1 (Jm sl caps.toList) with
   | true=>some ([],.fn f (Jm sl caps.toList),b)
   | false=>none
  | _,_=>none
 | .makeSlice t l c=>match A.ty t with
  | .slice e=>match e.plain with
   | true=>match Uv (opd sl l),Uv (opd sl c) with
    | some l,some c=>Q8 [.mk l c] (fresh sl b d (.own e (List.replicate l.toNat (QQ e))))
    | _,_=>none
   | false=>none
  | _=>none
 | .slice t x lo hi mx=>O6 (A.ty t) b (opd sl x) (QT sl lo) (QT sl hi) (QT sl mx)
 | .fieldAddr t x f=>Oq (A.ty t) b f (opd sl x)
 | .field t x f=>match Yo (A.ty t) (opd sl x) f with
  | some v=>some ([],v,b)
  | none=>none
 | .indexAddr t x i=>CE (A.ty t) b (opd sl x) (opd sl i)
 | .index t x i=>match A.ty t with
  | .str=>O7 (opd sl x) (opd sl i) b
  | _=>none
 | .extract x i=>match opd sl x with
  | .tup vs=>match nth vs i with
   | some v=>some ([],v,b)
   | none=>none
  | _=>none
 | .makeMap t r=>match r with
  | none=>match C2 (A.ty t) with
   | true=>Q8 [] (fresh sl b d (.mp []))
   | false=>none
  | some _=>none
 | .lookup t m k ok=>match ok with
  | false=>match C2 (A.ty t) with
   | true=>match Ot b (opd sl m) (opd sl k) with
    | some v=>some ([],v,b)
    | none=>none
   | false=>none
  | true=>none
 | .mapUpdate t m k x=>match C2 (A.ty t) with
  | true=>match W9 b (opd sl m) (opd sl k) (opd sl x) with
   | some b'=>some ([],.void,b')
   | none=>none
  | false=>none
 | .call c=>match c.callee with
  | .builtin f=>Ql A sl b d f c.argTypes.toList (Jm sl c.args.toList)
  | _=>none
 | _=>none
mutual
def Qz {R:Type}:V→(V→Option R)→Option R
 | .agg vs,κ=>UA vs (fun ws=>κ (.agg ws))
 | .lst e vs,κ=>UA vs (fun ws=>κ (.lst e ws))
 | .tup vs,κ=>UA vs (fun ws=>κ (.tup ws))
 | .fn f vs,κ=>UA vs (fun ws=>κ (.fn f ws))
 | .obox v,κ=>Qz v (fun w=>κ (.obox w))
 | .rp v,κ=>Qz v (fun w=>κ (.rp w))
 | .full s p e,κ=>UB p (fun q=>κ (.full s q e))
 | .sub s p o l e,κ=>UB p (fun q=>κ (.sub s q o l e))
 | .ptr s p,κ=>UB p (fun q=>κ (.ptr s q))
 | .undef,κ=>κ .undef
 | .void,κ=>κ .void
 | .int k n,κ=>κ (.int k n)
 | .bool b,κ=>κ (.bool b)
 | .str s,κ=>κ (.str s)
 | .arr n e l,κ=>κ (.arr n e l)
 | .own e l,κ=>κ (.own e l)
 | .ownh e l i,κ=>κ (.ownh e l i)
 | .rd e l,κ=>κ (.rd e l)
 | .nilsl,κ=>κ .nilsl
 | .emp e,κ=>κ (.emp e)
 | .nilfn,κ=>κ .nilfn
 | .nilptr,κ=>κ .nilptr
 | .mp l,κ=>κ (.mp l)
 | .mref s,κ=>κ (.mref s)
def UA {R:Type}:List V→(List V→Option R)→Option R
 | [],κ=>κ []
 | v :: vs,κ=>Qz v (fun w=>UA vs (fun ws=>κ (w :: ws)))
def UB {R:Type}:List Nat→(List Nat→Option R)→Option R
 | [],κ=>κ []
 | n :: p,κ=>UB p (fun q=>κ (n :: q))
end
def Hu {R:Type}:BL→(BL→Option R)→Option R
 | [],κ=>κ []
 | (k,v) :: r,κ=>Qz v (fun w=>Hu r (fun r'=>κ ((k,w) :: r')))
def Hf {R:Type}:List V→Nat→V→(List V→Option R)→Option R
 | [],_,_,κ=>κ []
 | _ :: l,0,x,κ=>κ (x :: l)
 | a :: l,n + 1,x,κ=>Hf l n x (fun l'=>κ (a :: l'))
def QZ {R:Type} (σ:St) (d:Option Nat) (v:V) (b:BL) (κ:St→Option R):Option R:=
 match d with
 | some t=>Qz v (fun w=>Hf σ.sl t w (fun sl=>Hu b (fun b'=>κ ⟨sl,b'⟩)))
 | none=>Hu b (fun b'=>κ ⟨σ.sl,b'⟩)
def Hv (A:Ann) (f:FuncId):Nat→BL→List V→G (List V × BL)
 | _,b,[]=>some ([],[],b)
 | i,b,v :: vs=>
  match (match A.mode f i with
   | .io=>inl 9 b v
   | .take=>inl 9 b v
   | _=>some ([],v,b)) with
  | some (c,w,b')=>match Hv A f ((i + 1)) b' vs with
   | some (c',ws,b'')=>some ((cat c c'),w :: ws,b'')
   | none=>none
  | none=>none
def Q9 (A:Ann) (f:FuncId) (b:BL):Nat→List Ty→List V→G (List V)
 | _,_,[]=>some ([],[])
 | i,ts,v :: vs=>
  match (match A.mode f i with
   | .lend=>lend b 9 (Yj (ts.headD .other) v)
   | .io=>some ([],v)
   | .take=>some ([],v)
   | .keep=>match bor (QE v) (JO (Jd v).isEmpty) with
    | true=>none
    | false=>some ([],v)) with
  | some (c,w)=>match Q9 A f b ((i + 1)) ts.tail vs with
   | some (c',ws)=>some ((cat c c'),w :: ws)
   | none=>none
  | none=>none
def O9 (A:Ann) (f:FuncId) (b:BL) (ts:List Ty) (vs:List V):G (List V × BL):=
 match Hv A f 0 b vs with
 | some (c,ws,b')=>match Q9 A f b' 0 ts ws with
  | some (c',us)=>some (cat c c',us,b')
  | none=>none
 | none=>none
def Ui:List Nat→List Nat→Bool
 | [],_=>true
 | s :: r,l=>Jh (JO (JT l s)) (Ui r l)
def Ou (b:BL) (v x:V):Option BL:=
 match v with
 | .full s p _=>match p with
  | []=>match x with
   | .own e l=>match bor (JT (Jv b) s) (match Jb b s with | some _=>true | none=>false) with
    | false=>some (Jp b s (.own e l))
    | true=>none
   | _=>none
  | _=>none
 | .ptr s p=>match p with
  | [0]=>match x with
   | .obox y=>match bor (JT (Jv b) s) (match Jb b s with | some _=>true | none=>false) with
    | false=>some (Jp b s (.obox y))
    | true=>none
   | _=>none
  | _=>none
 | _=>none
mutual
def noB:V→Bool
 | .int _ _=>true
 | .bool _=>true
 | .str _=>true
 | .arr _ _ _=>true
 | .rd e _=>JO (Cg e)
 | .agg vs=>CF vs
 | .rp v=>noB v
 | .fn _ caps=>CF caps
 | .nilsl=>true
 | .emp _=>true
 | .nilfn=>true
 | .nilptr=>true
 | _=>false
def CF:List V→Bool
 | []=>true
 | v :: vs=>Jh (noB v) (CF vs)
end
def UO (A:Ann) (f:FuncId):Nat→List V→Bool
 | _,[]=>true
 | i,v :: vs=>match A.mode f i with
  | .lend=>match noB v with
   | true=>UO A f (i + 1) vs
   | false=>false
  | _=>UO A f (i + 1) vs
def Ua (A:Ann) (kp:Bool) (f:FuncId):Nat→BL→List V→List V→Option BL
 | _,b,[],[]=>some b
 | i,b,v :: vs,x :: xs=>match A.mode f i with
  | .io=>match bor (JH x) (Jh kp (Qe x)) with
   | true=>match Ou b v x with
    | some b'=>Ua A kp f ((i + 1)) b' vs xs
    | none=>none
   | false=>none
  | _=>Ua A kp f ((i + 1)) b vs xs
 | _,_,_,_=>none
def Va (b:BL):V→Bool
 | .full s p _=>match p with
  | []=>match Jb b s with
   | some (.own _ _)=>true
   | some (.lst _ _)=>true
   | _=>false
  | _=>false
 | .ptr s p=>match p with
  | [0]=>match Jb b s with
   | some (.obox _)=>true
   | _=>false
  | _=>false
 | _=>false
def Hg (A:Ann) (f:FuncId) (b:BL):Nat→List V→Bool
 | _,[]=>true
 | i,v :: vs=>match A.mode f i with
  | .io=>Jh (Va b v) (Hg A f b ((i + 1)) vs)
  | _=>Hg A f b ((i + 1)) vs
def ioF (A:Ann) (f:FuncId):Nat→List V→List Nat
 | _,[]=>[]
 | i,v :: vs=>match A.mode f i with
  | .io=>match v with
   | .full s _ _=>s :: ioF A f ((i + 1)) vs
   | _=>ioF A f ((i + 1)) vs
  | _=>ioF A f ((i + 1)) vs
def ioP (A:Ann) (f:FuncId):Nat→List V→List Nat
 | _,[]=>[]
 | i,v :: vs=>match A.mode f i with
  | .io=>match v with
   | .ptr s _=>s :: ioP A f ((i + 1)) vs
   | _=>ioP A f ((i + 1)) vs
  | _=>ioP A f ((i + 1)) vs
mutual
def ioV (Lf Lp:List Nat):V→Bool
 | .full s p _=>Jh (JO (JT Lp s)) (match JT Lf s with
  | true=>match p with
   | []=>true
   | _=>false
  | false=>true)
 | .ptr s p=>Jh (JO (JT Lf s)) (match JT Lp s with
  | true=>match p with
   | [0]=>true
   | _=>false
  | false=>true)
 | .agg vs=>Ub Lf Lp vs
 | .tup vs=>Ub Lf Lp vs
 | .fn _ vs=>Ub Lf Lp vs
 | v=>Jh (Ui (Jd v) Lf) (Ui (Jd v) Lp)
def Ub (Lf Lp:List Nat):List V→Bool
 | []=>true
 | v :: vs=>Jh (ioV Lf Lp v) (Ub Lf Lp vs)
end
def V8 (s n t:Nat) (p:List Nat):Bool:=match Nat.beq t s with
 | true=>Nat.ble (Nat.succ (Up p)) n
 | false=>true
mutual
def UP (s n m:Nat):V→Bool
 | .full t p _=>V8 s m t p
 | .sub t p _ _ _=>V8 s m t p
 | .ptr t p=>V8 s n t p
 | .agg vs=>UQ s n m vs
 | .tup vs=>UQ s n m vs
 | .fn _ vs=>UQ s n m vs
 | v=>JO (JT (Jd v) s)
def UQ (s n m:Nat):List V→Bool
 | []=>true
 | v :: vs=>Jh (UP s n m v) (UQ s n m vs)
end
def Tj:Ty→V→Bool
 | .slice _,.undef=>true
 | _,_=>false
def Tk (t:Ty) (sl:List V) (b1:BL) (s:Nat) (p:List Nat) (c:V) (c1:List Jk) (y:V):G BL:=
 match c with
 | .ownh e l i=>match p with
  | [j]=>match Jh (t.beq (.slice e)) (UQ s 2 1 sl) with
   | true=>some (cat c1 [.le i j,.le j i],Jp b1 s (.own (.slice e) (l.set i (enc y))))
   | false=>none
  | _=>none
 | _=>none
def C3 (t:Ty) (sl:List V) (b:BL) (a x:V):G BL:=
 match a with
 | .ptr s p=>match inl 9 b (UN t x) with
  | some (c1,y,b1)=>match Jh (Jh (JH y) (Jq t y)) (Jh (Jh t.plain (JO (Nat.beq t.size 0))) (JO (JT (Jv b1) s))) with
   | true=>match Jb b1 s with
    | some c=>match c.get p with
     | some (c2,z)=>match Jh (bor (Jh (bor (JH z) (c.outer p)) (Jq t z)) (Jh (c.outer p) (Tj t z))) (UQ s (Nat.succ (Up p)) (Up p) sl) with
      | true=>some (cat c1 c2,Jp b1 s (c.set p y))
      | false=>none
     | none=>Tk t sl b1 s p c c1 y
    | none=>none
   | false=>none
  | none=>none
 | _=>none
def UG (A:Ann) (f:FuncId):Nat→List V→Bool
 | _,[]=>false
 | i,_ :: vs=>match A.mode f i with
  | .io=>true
  | .take=>true
  | _=>UG A f (i + 1) vs
def UH (A:Ann) (f:FuncId):Nat→List V→Option V
 | _,[]=>none
 | i,v :: vs=>match A.mode f i with
  | .io=>match UG A f (i + 1) vs with
   | true=>none
   | false=>some v
  | .take=>none
  | _=>UH A f (i + 1) vs
def Cl (A:Ann) (f:FuncId) (x:V):Nat→List V→List V
 | _,[]=>[]
 | i,v :: vs=>match A.mode f i with
  | .io=>x :: vs
  | _=>v :: Cl A f x (i + 1) vs
def CG (A:Ann) (f:FuncId):Nat→List V→List V→Option V
 | i,_ :: vs,o :: os=>match A.mode f i with
  | .io=>some o
  | _=>CG A f (i + 1) vs os
 | _,_,_=>none
def Ov (a b:Nat):Nat:=match Nat.ble a b with
 | true=>a
 | false=>b
mutual
def Qp (k:Nat):V→Nat
 | .agg vs=>Nat.succ (Ow k vs)
 | .int _ _=>Nat.succ (Nat.succ (Nat.succ (Nat.succ k)))
 | .bool _=>Nat.succ (Nat.succ (Nat.succ (Nat.succ k)))
 | .str _=>Nat.succ (Nat.succ (Nat.succ (Nat.succ k)))
 | _=>Nat.succ k
def Ow (k:Nat):List V→Nat
 | []=>Nat.succ (Nat.succ (Nat.succ (Nat.succ k)))
 | v :: vs=>Ov (Qp k v) (Ow k vs)
end
def Tl:List Nat→List Nat
 | []=>[]
 | [_]=>[]
 | a :: l=>a :: Tl l
mutual
def V9:V→Option (Nat × List Nat)
 | .full s p _=>some (s,p)
 | .agg vs=>match Tm vs with
  | some (s,p)=>some (s,Tl p)
  | none=>none
 | _=>none
def Tm:List V→Option (Nat × List Nat)
 | []=>none
 | v :: vs=>match V9 v with
  | some x=>some x
  | none=>Tm vs
end
def eqP:List Nat→List Nat→Option (List Jk)
 | [],[]=>some []
 | a :: p,b :: q=>match eqP p q with
  | some c=>some (.le a b :: .le b a :: c)
  | none=>none
 | _,_=>none
mutual
def alC (s:Nat):List Nat→V→V→Option (List Jk)
 | p,.full t q _,.own _ _=>match Nat.beq t s with
  | true=>eqP q p
  | false=>none
 | _,.int k a,.int k' b=>match keq k k' with
  | true=>some [.eqI a b]
  | false=>none
 | _,.bool a,.bool b=>some [.eqB a b]
 | p,.agg vs,.agg xs=>Vb s p 0 vs xs
 | _,_,_=>none
def Vb (s:Nat):List Nat→Nat→List V→List V→Option (List Jk)
 | _,_,[],[]=>some []
 | p,j,v :: vs,x :: xs=>match alC s (cat p [j]) v x with
  | some c=>match Vb s p (j + 1) vs xs with
   | some c'=>some (cat c c')
   | none=>none
  | none=>none
 | _,_,_,_=>none
end
def Xa (s:Nat) (p:List Nat) (v x:V):Option (List Jk):=
 match v with
 | .full _ _ _=>match x with
  | .own _ _=>some []
  | _=>none
 | v=>alC s p v x
mutual
def Qu:V→V→Bool
 | .int k _,.int k' _=>keq k k'
 | .bool _,.bool _=>true
 | .str _,.str _=>true
 | .own e _,.own e' _=>e.beq e'
 | .arr n e _,.arr m e' _=>Jh (Nat.beq n m) (e.beq e')
 | .agg vs,.agg xs=>Cm vs xs
 | _,_=>false
def Cm:List V→List V→Bool
 | [],[]=>true
 | v :: vs,x :: xs=>Jh (Qu v x) (Cm vs xs)
 | _,_=>false
end
def place (sl:List V) (b:BL) (s:Nat) (v:V):Option Out:=
 match QE v with
 | true=>match Uh sl b v s with
  | true=>some (Qb s [] v,Jp b s v)
  | false=>none
 | false=>some (v,b)
def Hw (s:Nat):List V→BL→Nat→List V→Option (List V × BL)
 | _,b,_,[]=>some ([],b)
 | sl,b,j,v :: vs=>match place sl b (10000 + 16 * s + j) v with
  | some (x,b')=>match Hw s (x :: sl) b' (j + 1) vs with
   | some (xs,b'')=>some (x :: xs,b'')
   | none=>none
  | none=>none
def Uc (sl:List V) (b:BL) (d:Option Nat) (v:V):Option Out:=
 match d with
 | some s=>match v with
  | .tup vs=>match Hw s sl b 0 vs with
   | some (xs,b')=>some (.tup xs,b')
   | none=>none
  | v=>place sl b s v
 | none=>some (.undef,b)
abbrev OC (R:Type):=FuncId→List V→(V→List V→Option R)→Option R
inductive Ex where
 | normal
 | exit (id:Nat)
 | ret
 deriving Inhabited
abbrev OL (R:Type):=Nat→Code→St→(Ex→St→Option R)→Option R
def Q0:List V→Bool
 | []=>true
 | .tup _ :: _=>false
 | _ :: vs=>Q0 vs
def HJ:List V→Bool
 | []=>true
 | .tup _ :: _=>false
 | .agg _ :: _=>false
 | .arr _ _ _ :: _=>false
 | _ :: vs=>HJ vs
def Yp (A:Ann) (f:FuncId) (b:BL) (vs:List V):Option (Nat × List Nat × V × V):=
 match UH A f 0 vs with
 | some v=>match V9 v with
  | some (s,p)=>match Jb b s with
   | some c=>match JH c with
    | true=>some (s,p,v,c)
    | false=>none
   | none=>none
  | none=>none
 | none=>none
def Tn {R:Type} (oc:OC R) (A:Ann) (σ:St) (d:Option Nat) (f:FuncId) (ts:List Ty) (all:List V) (s:Nat) (p:List Nat) (v c:V) (κ:St→Option R):Option R:=
 match c.get p with
 | some (c1,x)=>match Jh (Jh (JH x) (JO (JT (Jv σ.bl) s))) (UQ s (Qp (Up p) x) (Qp (Up p) x) σ.sl) with
  | true=>match Xa s p v x with
   | some c2=>match Q9 A f (Qj σ.bl s) 0 ts (Cl A f x 0 all) with
    | some (c3,ws)=>QR (cat c1 (cat c2 c3)) (UA ws (fun ws=>oc f ws (fun res outs=>
      match CG A f 0 all outs with
      | some y=>match Jh (Qc res) (Jh (JH y) (Qu x y)) with
       | true=>Hu (Jp σ.bl s (c.set p y)) (fun b2=>match Uc σ.sl b2 d res with
        | some (r,b3)=>QZ σ d r b3 κ
        | none=>none)
       | false=>none
      | none=>none)))
    | none=>none
   | none=>none
  | false=>none
 | none=>none
def To {R:Type} (oc:OC R) (A:Ann) (σ:St) (d:Option Nat) (f:FuncId) (ts:List Ty) (all:List V) (κ:St→Option R):Option R:=
 match Jh (Hg A f σ.bl 0 all) (Ub (ioF A f 0 all) (ioP A f 0 all) σ.sl) with
 | true=>match O9 A f σ.bl ts all with
  | some (c,ws,b1)=>QR c (UA ws (fun ws=>Hu b1 (fun b1=>oc f ws (fun res outs=>
    match Qc res with
    | true=>match Ua A (UO A f 0 ws) f 0 b1 all outs with
     | some b2=>match Uc σ.sl b2 d res with
      | some (v,b3)=>QZ σ d v b3 κ
      | none=>none
     | none=>none
    | false=>none))))
  | none=>none
 | false=>none
def Tp {R:Type} (oc:OC R) (A:Ann) (σ:St) (d:Option Nat) (f:FuncId) (ts:List Ty) (args caps:List V) (κ:St→Option R):Option R:=
 match Jh (Q0 args) (HJ caps) with
 | true=>match UG A f 0 (cat args caps) with
  | false=>match Q9 A f σ.bl 0 ts (cat args caps) with
   | some (c,ws)=>QR c (UA ws (fun ws=>oc f ws (fun res _=>
     match Qc res with
     | true=>match Uc σ.sl σ.bl d res with
      | some (v,b'')=>QZ σ d v b'' κ
      | none=>none
     | false=>none)))
   | none=>none
  | true=>match Yp A f σ.bl (cat args caps) with
   | some (s,p,v,c)=>Tn oc A σ d f ts (cat args caps) s p v c κ
   | none=>To oc A σ d f ts (cat args caps) κ
 | false=>none
def Wa (A:Ann):List TypeId→List Ty
 | []=>[]
 | t :: ts=>A.ty t :: Wa A ts
def Wb {R:Type} (A:Ann) (σ:St) (o:Oper) (κ:St→Option R):Option R:=
 match JE A σ.sl σ.bl o.dst o.op with
 | some (c,v,b)=>QR c (QZ σ o.dst v b κ)
 | none=>none
def Yq (sl:List V) (b:BL):List Nat→Bool
 | []=>true
 | s :: r=>Jh (JO (bor (JT (Jl sl) s) (JT (Jv b) s))) (Yq sl b r)
def Yr (A:Ann) (sl:List V) (b:BL) (d:Option Nat) (t:TypeId) (x:Operand):G (Out × Nat × V):=
 match x with
 | .tmp u=>match Jw sl u with
  | .agg vs=>match Jl vs with
   | []=>none
   | s :: r=>match Jh (Yq (JD sl u .undef) b (s :: r)) (Jq (A.ty t) (.agg vs)) with
    | true=>match inl 9 b (.agg vs) with
     | some (c,y,b')=>match d with
      | some e=>match Uh sl b' (.obox (Uq (A.ty t) y)) e with
       | true=>some (c,(.ptr e [0],Jp b' e (.obox (Uq (A.ty t) y))),u,Qb e [0] (Uq (A.ty t) y))
       | false=>none
      | none=>none
     | none=>none
    | false=>none
  | _=>none
 | _=>none
def Ys (A:Ann) (sl:List V) (b:BL) (t:TypeId) (a x:Operand):G BL:=
 match x with
 | .tmp u=>match Jw sl u with
  | .agg vs=>match Jl vs with
   | []=>none
   | s :: r=>match Yq (JD sl u .undef) b (s :: r) with
    | true=>C3 (A.ty t) sl b (opd sl a) (opd sl x)
    | false=>none
  | _=>none
 | _=>none
def Wc (t:Ty) (b:BL) (a x:V):G BL:=
 match a with
 | .ptr s p=>match Jb b s with
  | some c=>match c.get p with
   | some (cs,.undef)=>match Jh (Jh (UF t) (Jq t x)) (Jh (U1 x) (c.outer p)) with
    | true=>some (cs,Jp b s (c.set p x))
    | false=>none
   | _=>none
  | none=>none
 | _=>none
def CH {R:Type} (oc:OC R) (A:Ann) (σ:St) (o:Oper) (κ:St→Option R):Option R:=
 match o.op with
 | .call c=>match c.callee with
  | .value f=>match opd σ.sl f with
   | .fn g caps=>Tp oc A σ o.dst g (Wa A c.argTypes.toList) (Jm σ.sl c.args.toList) caps κ
   | _=>none
  | _=>Wb A σ o κ
 | .store t a x=>match Ys A σ.sl σ.bl t a x with
  | some (c,b)=>QR c (QZ σ o.dst .void b κ)
  | none=>match JE A σ.sl σ.bl o.dst o.op with
   | some (c,v,b)=>QR c (QZ σ o.dst v b κ)
   | none=>match Wc (A.ty t) σ.bl (opd σ.sl a) (opd σ.sl x) with
    | some (c,b)=>QR c (QZ σ o.dst .void b κ)
    | none=>match C3 (A.ty t) σ.sl σ.bl (opd σ.sl a) (opd σ.sl x) with
     | some (c,b)=>QR c (QZ σ o.dst .void b κ)
     | none=>none
 | .box t x=>match Yr A σ.sl σ.bl o.dst t x with
  | some (c,(v,b),u,y)=>QR c (Qz y (fun y=>Hf σ.sl u y (fun sl=>QZ ⟨sl,σ.bl⟩ o.dst v b κ)))
  | none=>Wb A σ o κ
 | _=>Wb A σ o κ
def HK (s n m:Nat):List V→List V
 | []=>[]
 | v :: vs=>(match UP s n m v with
  | true=>v
  | false=>.undef) :: HK s n m vs
def Tq (A:Ann) (σ:St) (o:Oper) (t:TypeId) (a x:Operand):Option (List Jk × List V × BL):=
 match opd σ.sl a with
 | .ptr s p=>match UQ s (Nat.succ (Up p)) (Up p) σ.sl with
  | true=>none
  | false=>match Ys A σ.sl σ.bl t a x with
   | some _=>none
   | none=>match JE A σ.sl σ.bl o.dst o.op with
    | some _=>none
    | none=>match Wc (A.ty t) σ.bl (opd σ.sl a) (opd σ.sl x) with
     | some _=>none
     | none=>match C3 (A.ty t) (HK s (Nat.succ (Up p)) (Up p) σ.sl) σ.bl (opd σ.sl a) (opd σ.sl x) with
      | some (c,b)=>some (c,HK s (Nat.succ (Up p)) (Up p) σ.sl,b)
      | none=>none
 | _=>none
def HL {R:Type} (oc:OC R) (A:Ann) (σ:St) (o:Oper) (κ:St→Option R):Option R:=
 match o.op with
 | .store t a x=>match Tq A σ o t a x with
  | some (c,sl,b)=>QR c (UA sl (fun sl=>QZ ⟨sl,σ.bl⟩ o.dst .void b κ))
  | none=>CH oc A σ o κ
 | _=>CH oc A σ o κ
def Hx:List Oper→Nat→Option Nat
 | [],_=>none
 | o :: _,0=>o.dst
 | _ :: l,n + 1=>Hx l n
def Ox (b:BL):Nat→List Nat→List Nat→List Nat
 | 0,acc,_=>acc
 | _ + 1,acc,[]=>acc
 | n + 1,acc,s :: r=>match JT acc s with
  | true=>Ox b n acc r
  | false=>match Jb b s with
   | some c=>Ox b n (cat acc [s]) (cat (Jd c) r)
   | none=>Ox b n (cat acc [s]) r
def Hy {R:Type} (oc:OC R) (A:Ann) (all:List Oper):List Oper→St→(St→Option R)→Option R
 | [],σ,κ=>κ σ
 | o :: rest,σ,κ=>
  match o.guard with
  | none=>HL oc A σ o (fun σ'=>Hy oc A all rest σ' κ)
  | some (j,want)=>match Hx all j with
   | some t=>match Jw σ.sl t with
    | .void=>QZ σ o.dst .void σ.bl (fun σ'=>Hy oc A all rest σ' κ)
    | .bool b=>bif b
     then Hf σ.sl t (.bool true) (fun sl=>match want with
      | true=>HL oc A ⟨sl,σ.bl⟩ o (fun σ'=>Hy oc A all rest σ' κ)
      | false=>QZ ⟨sl,σ.bl⟩ o.dst .void σ.bl (fun σ'=>Hy oc A all rest σ' κ))
     else Hf σ.sl t (.bool false) (fun sl=>match want with
      | true=>QZ ⟨sl,σ.bl⟩ o.dst .void σ.bl (fun σ'=>Hy oc A all rest σ' κ)
      | false=>HL oc A ⟨sl,σ.bl⟩ o (fun σ'=>Hy oc A all rest σ' κ))
    | _=>none
   | none=>none
def Qv:Code→Nat
 | .region id _ _=>id
 | .seq a b=>match a with
  | .skip=>Qv b
  | _=>Qv a
 | .cond _ a _=>Qv a
 | .block _ b=>Qv b
 | .loop b=>Qv b + 100000
 | _=>0
def CI:List Nat→Nat→List V→List V
 | _,_,[]=>[]
 | ks,t,v :: vs=>(match JT ks t with
   | true=>v
   | false=>.undef) :: CI ks ((t + 1)) vs
mutual
def ren (f:Nat→Nat):V→V
 | .full s p e=>.full (f s) p e
 | .sub s p o l e=>.sub (f s) p o l e
 | .ptr s p=>.ptr (f s) p
 | .mref s=>.mref (f s)
 | .agg vs=>.agg (QA f vs)
 | .lst e vs=>.lst e (QA f vs)
 | .tup vs=>.tup (QA f vs)
 | .fn g caps=>.fn g (QA f caps)
 | .obox v=>.obox (ren f v)
 | .rp v=>.rp (ren f v)
 | v=>v
def QA (f:Nat→Nat):List V→List V
 | []=>[]
 | v :: vs=>ren f v :: QA f vs
end
def H2:List Nat→Nat→Nat→Nat
 | [],k,_=>k
 | a :: l,k,s=>match Nat.beq a s with
  | true=>k
  | false=>H2 l ((k + 1)) s
def Cn (f:Nat→Nat) (b:BL):List Nat→BL
 | []=>[]
 | s :: r=>match Jb b s with
  | some c=>(f s,ren f c) :: Cn f b r
  | none=>Cn f b r
def Vc (L:List Nat):List Nat→Bool
 | []=>true
 | s :: r=>Jh (JT L s) (Vc L r)
def Vd (b:BL) (L:List Nat):List Nat→Bool
 | []=>true
 | s :: r=>match Jb b s with
  | some c=>Jh (Vc L (Jd c)) (Vd b L r)
  | none=>Vd b L r
def Ve {R:Type} (ks:List Nat) (σ:St) (κ:St→Option R):Option R:=
 UA (CI ks 0 σ.sl) (fun m=>UB (Ox σ.bl 60 [] (Jl m)) (fun L=>
  match Jh (Vc L (Jl m)) (Vd σ.bl L L) with
  | true=>UA (QA (H2 L 1000) m) (fun sl=>Hu (Cn (H2 L 1000) σ.bl L) (fun b=>κ ⟨sl,b⟩))
  | false=>none))
end Go.Rai
namespace Go.Rai
def QG (w:World) (a:Addr) (cs:List Value):Prop:=∀ j v,cs[j]?=some v→w.cell? (a.add j)=some v
def QJ (w:World) (a:Addr) (n:Nat):Prop:=∀ j,j<n→(∃ v,w.cell? (a.add j)=some v)∧w.frozen? (a.add j)=false
def Row (R:D→List Value→List Nat→Prop):List D→List Value→List Nat→Prop
 | [],cs,F=>cs=[]∧F=[]
 | d :: l,cs,F=>∃ c1 c2 F1 F2,cs=c1 ++ c2∧F=F1 ++ F2∧R d c1 F1∧Row R l c2 F2
def UI (o:Bool) (w:World) (R:D→List Value→List Nat→Prop) (size:Nat) (A:Option Addr) (c:Nat) (l:List D) (F:List Nat):Prop:=
 (l=[]∧c=0∧F=[]) ∨
 ∃ a cs F',A=some a∧Row R l cs F'∧QG w a cs∧F=a.block :: F'∧l.length≤c∧a.block<w.heap.size∧(o=true→QJ w a (c * size))
mutual
def DIn (o:Bool) (w:World):Ty→D→List Value→List Nat→Prop
 | .int k,d,cs,F=>cs=[.int k d.toInt]∧F=[]
 | .bool,d,cs,F=>cs=[.bool d.toBool]∧F=[]
 | .str,d,cs,F=>cs=[.string d.toStr]∧F=[]
 | .struct ts,d,cs,F=>Qx o w ts 0 d cs F
 | .arr n e,d,cs,F=>d.items.length=n∧Row (DIn o w e) d.items cs F
 | .slice e,d,cs,F=>∃ A c,cs=[.slice A d.items.length c]∧UI o w (DIn o w e) e.size A c d.items F
 | _,_,_,_=>False
def Qx (o:Bool) (w:World):List Ty→Nat→D→List Value→List Nat→Prop
 | [],_,_,cs,F=>cs=[]∧F=[]
 | t :: ts,j,d,cs,F=>∃ c1 c2 F1 F2,cs=c1 ++ c2∧F=F1 ++ F2∧DIn o w t (d.fld j) c1 F1∧Qx o w ts (j + 1) d c2 F2
end
inductive Ji where
 | reg (cs:List Value)
 | mem (a:Addr)
def Ji.shift:Ji→Nat→Ji
 | .reg cs,n=>.reg (cs.drop n)
 | .mem a,n=>.mem (a.add n)
def Ji.head (w:World):Ji→Option Value
 | .reg cs=>cs[0]?
 | .mem a=>w.cell? a
def Ji.holds (w:World) (L:Ji) (cs:List Value):Prop:=
 match L with
 | .reg ds=>∃ r,ds=cs ++ r
 | .mem a=>QG w a cs
mutual
def vsz:V→Nat
 | .agg vs=>Jt vs
 | .arr n e _=>n * e.size
 | _=>1
def Jt:List V→Nat
 | []=>0
 | v :: vs=>vsz v + Jt vs
end
def Jf (w:World):V→Ji→List Nat→Option (V × Ji)
 | v,L,[]=>some (v,L)
 | v,L,j :: p=>match v with
  | .agg vs=>match nth vs j with
   | some x=>Jf w x (L.shift (Jt (vs.take j))) p
   | none=>none
  | .arr _ e l=>if j<l.length then Jf w (dec true e (l.getD j (.int 0))) (L.shift (j * e.size)) p else none
  | .own e l=>if j<l.length then
    match L.head w with
    | some (.slice (some a) _ _)=>Jf w (dec true e (l.getD j (.int 0))) (.mem (a.add (j * e.size))) p
    | _=>none
   else none
  | .ownh e l i=>if j<l.length then
    match L.head w with
    | some (.slice (some a) _ _)=>Jf w (if j=i then .undef else dec true (.slice e) (l.getD j (.int 0))) (.mem (a.add (j * (Ty.slice e).size))) p
    | _=>none
   else none
  | .lst _ vs=>match nth vs j with
   | some x=>match L.head w with
    | some (.slice (some a) _ _)=>Jf w x (.mem (a.add (Jt (vs.take j)))) p
    | _=>none
   | none=>none
  | .obox x=>match L.head w with
   | some (.pointer (some a))=>Jf w x (.mem a) p
   | _=>none
  | .fn _ caps=>match nth caps j with
   | some x=>match L.head w with
    | some (.func _ _ vals)=>Jf w x (.reg (vals.toList.drop (Jt (caps.take j)))) p
    | _=>none
   | none=>none
  | _=>none
def QB:V→Bool
 | .own _ _=>true
 | .ownh _ _ _=>true
 | .mp _=>true
 | .lst _ _=>true
 | .undef=>true
 | _=>false
structure Env where
 w:World
 S:Nat→Prop
 K:Nat→Prop
 bl:BL
 G:Nat→Option (List Value × List Nat)
def Env.Sb (E:Env) (e:Ty) (b:Nat):Prop:=E.S b∧(Cg e=true→E.K b)
def Uw:List MapEntry→List D→Prop
 | [],[]=>True
 | e :: es,d :: l=>(∃ k v,e.key=.int .i64 k∧e.val=.int .i64 v∧d=.node [.int k,.int v])∧Uw es l
 | _,_=>False
mutual
def InV (E:Env):V→List Value→List Nat→Prop
 | .undef,cs,F=>(∃ v,cs=[v])∧F=[]
 | .void,cs,F=>cs=[undef]∧F=[]
 | .int k n,cs,F=>cs=[.int k n]∧F=[]
 | .bool b,cs,F=>cs=[.bool b]∧F=[]
 | .str s,cs,F=>cs=[.string s]∧F=[]
 | .agg vs,cs,F=>Jj E vs cs F
 | .arr n e l,cs,F=>l.length=n∧e.flat=true∧Row (DIn true E.w e) l cs F
 | .own e l,cs,F=>e.plain=true∧∃ A c,cs=[.slice A l.length c]∧UI true E.w (DIn true E.w e) e.size A c l F
 | .ownh e l i,cs,F=>i<l.length∧(Ty.slice e).plain=true∧∃ a c c1 v c2 F1 F2,cs=[.slice (some a) l.length c]∧Row (DIn true E.w (.slice e)) (l.take i) c1 F1∧Row (DIn true E.w (.slice e)) (l.drop (i + 1)) c2 F2∧QG E.w a (c1 ++ v :: c2)∧F=a.block :: (F1 ++ F2)∧l.length≤c∧a.block<E.w.heap.size∧QJ E.w a (c * (Ty.slice e).size)
 | .rd e l,cs,F=>F=[]∧e.plain=true∧∃ A c F',cs=[.slice A l.length c]∧UI false E.w (DIn false E.w e) e.size A c l F'∧∀ b ∈ F',E.Sb e b
 | .lst e vs,cs,F=>∃ a c cs' F',cs=[.slice (some a) vs.length c]∧vs.length≤c∧True∧Jj E vs cs' F'∧QG E.w a cs'∧F=a.block :: F'∧a.block<E.w.heap.size∧QJ E.w a (c * e.size)∧QJ E.w a (Jt vs)
 | .nilsl,cs,F=>cs=[.slice none 0 0]∧F=[]
 | .emp _,cs,F=>(∃ A,cs=[.slice A 0 0])∧F=[]
 | .obox v,cs,F=>∃ a cs' F',cs=[.pointer (some a)]∧InV E v cs' F'∧QG E.w a cs'∧F=a.block :: F'∧a.block<E.w.heap.size∧QJ E.w a cs'.length
 | .rp v,cs,F=>F=[]∧∃ a cs',cs=[.pointer (some a)]∧InV E v cs' []∧QG E.w a cs'∧E.S a.block
 | .full s p _,cs,F=>F=[]∧(∃ A n k,cs=[.slice A n k])∧∀ c rc F0,Jb E.bl s=some c→E.G s=some (rc,F0)→∀ x L,Jf E.w c (.reg rc) p=some (x,L)→QB x=true→∃ v,L.head E.w=some v∧cs=[v]
 | .sub s p off len e,cs,F=>F=[]∧(∃ A k,cs=[.slice A len k]∧len≤k)∧∀ c rc F0,Jb E.bl s=some c→E.G s=some (rc,F0)→∀ x L,Jf E.w c (.reg rc) p=some (x,L)→QB x=true →
   ∃ A n k A',L.head E.w=some (.slice A n k)∧off + len≤k∧cs=[.slice A' len (k - off)]∧(off<k→∃ a,A=some a∧A'=some (a.add (off * e.size)))
 | .ptr s p,cs,F=>F=[]∧(∃ a,cs=[.pointer (some a)])∧∀ c rc F0,Jb E.bl s=some c→E.G s=some (rc,F0)→∀ x L,Jf E.w c (.reg rc) p=some (x,L)→∃ a,L=.mem a∧cs=[.pointer (some a)]
 | .fn f caps,cs,F=>∃ vals,cs=[.func (.func f) #[] vals]∧Jj E caps vals.toList F∧Jt caps=caps.length
 | .nilfn,cs,F=>cs=[.nilFunc]∧F=[]
 | .nilptr,cs,F=>cs=[.pointer none]∧F=[]
 | .mp l,cs,F=>∃ r es clk,cs=[.map (some r)]∧E.w.heap[r]?=some (.map es clk)∧Uw es.toList l∧F=[r]∧r<E.w.heap.size
 | .mref s,cs,F=>F=[]∧(∃ r,cs=[.map (some r)])∧∀ c rc F0,Jb E.bl s=some c→E.G s=some (rc,F0)→QB c=true→∃ v,rc[0]?=some v∧cs=[v]
 | .tup _,_,_=>False
def Jj (E:Env):List V→List Value→List Nat→Prop
 | [],cs,F=>cs=[]∧F=[]
 | v :: vs,cs,F=>∃ c1 c2 F1 F2,cs=c1 ++ c2∧F=F1 ++ F2∧InV E v c1 F1∧Jj E vs c2 F2
end
def isA:V→Bool
 | .agg _=>true
 | .arr _ _ _=>true
 | _=>false
def Qf (x:V) (cs:List Value) (v:Value):Prop:=
 match isA x with
 | true=>v=.agg cs.toArray
 | false=>cs=[v]
def One (E:Env) (x:V) (v:Value) (F:List Nat):Prop:=∃ cs,InV E x cs F∧Qf x cs v
def Tup (E:Env):List V→List Value→List Nat→Prop
 | [],vs,F=>vs=[]∧F=[]
 | x :: xs,vs,F=>∃ v r F1 F2,vs=v :: r∧F=F1 ++ F2∧One E x v F1∧Tup E xs r F2
def Val (E:Env) (x:V) (v:Value) (F:List Nat):Prop:=
 match x with
 | .tup xs=>∃ vs,v=.tuple vs∧Tup E xs vs.toList F
 | .undef=>F=[]
 | x=>One E x v F
end Go.Rai
namespace Go.Rai
theorem Hh (a:Addr) (i j:Nat):(a.add i).add j=a.add (i + j):=by
 unfold Addr.add
 by_cases hi:i=0
 ·subst hi;simp
 ·by_cases hj:j=0
  ·subst hj;simp [hi]
  ·simp [hi,hj,Nat.add_assoc]
theorem Q1 (a:Addr) (i:Nat):(a.add i).block=a.block:=by
 unfold Addr.add;split<;>rfl
theorem Oy {w w':World} {a:Addr} (h:w'.heap[a.block]?=w.heap[a.block]?):w'.cell? a=w.cell? a:=by
 unfold World.cell?;rw [h]
theorem Yt {w w':World} {a:Addr} (h:w'.heap[a.block]?=w.heap[a.block]?):w'.frozen? a=w.frozen? a:=by
 unfold World.frozen?;rw [h]
theorem Hz {w w':World} {a:Addr} {cs:List Value} (h:w'.heap[a.block]?=w.heap[a.block]?) (hc:QG w a cs):QG w' a cs:=by
 intro j v hj
 rw [Oy (w:=w) (w':=w') (by rw [Q1];exact h)]
 exact hc j v hj
theorem Oz {w w':World} {a:Addr} {n:Nat} (h:w'.heap[a.block]?=w.heap[a.block]?) (hc:QJ w a n):QJ w' a n:=by
 intro j hj
 rw [Oy (w:=w) (w':=w') (by rw [Q1];exact h),Yt (w:=w) (w':=w') (by rw [Q1];exact h)]
 exact hc j hj
theorem HM {R R':D→List Value→List Nat→Prop}:∀ {l:List D} {cs:List Value} {F:List Nat},
  (∀ d ∈ l,∀ c G,(∀ b ∈ G,b ∈ F)→R d c G→R' d c G)→Row R l cs F→Row R' l cs F
 | [],cs,F,_,h=>h
 | d :: l,cs,F,hR,⟨c1,c2,F1,F2,e1,e2,h1,h2⟩=>by
  subst e2
  refine ⟨c1,c2,F1,F2,e1,rfl,hR d (by simp) _ _ (fun b hb=>by simp [hb]) h1,?_⟩
  exact HM (fun d hd c G hG=>hR d (by simp [hd]) c G (fun b hb=>by simp [hG b hb])) h2
def QN (w w':World) (F:List Nat):Prop:=∀ b ∈ F,w'.heap[b]?=w.heap[b]?
theorem Yu {o:Bool} {w w':World} {R R':D→List Value→List Nat→Prop} {size:Nat} {A:Option Addr} {c:Nat} {l:List D} {F:List Nat}
  (hF:QN w w' F) (hs:w.heap.size≤w'.heap.size) (hR:∀ d ∈ l,∀ c G,(∀ b ∈ G,b ∈ F)→R d c G→R' d c G)
  (h:UI o w R size A c l F):UI o w' R' size A c l F:=by
 rcases h with h | ⟨a,cs,F',hA,hr,hc,hf,hl,hb,ho⟩
 ·exact .inl h
 ·have hblk:=hF a.block (by rw [hf];simp)
  refine .inr ⟨a,cs,F',hA,HM (fun d hd c G hG=>hR d hd c G (fun b hb=>by rw [hf];simp [hG b hb])) hr,Hz hblk hc,hf,hl,by omega,fun h=>Oz hblk (ho h)⟩
mutual
theorem H3 {o:Bool} {w w':World} (hs:w.heap.size≤w'.heap.size):∀ (t:Ty) {d:D} {cs:List Value} {F:List Nat},QN w w' F→DIn o w t d cs F→DIn o w' t d cs F
 | .int _,_,_,_,_,h=>h
 | .bool,_,_,_,_,h=>h
 | .str,_,_,_,_,h=>h
 | .struct ts,d,cs,F,hF,h=>by
  unfold DIn at h ⊢
  exact Tr hs ts hF h
 | .arr n e,d,cs,F,hF,h=>by
  unfold DIn at h ⊢
  exact ⟨h.1,HM (fun d _ c G hG hd=>H3 hs e (fun b hb=>hF b (hG b hb)) hd) h.2⟩
 | .slice e,d,cs,F,hF,h=>by
  unfold DIn at h ⊢
  obtain ⟨A,c,h1,h2⟩:=h
  exact ⟨A,c,h1,Yu hF hs (fun d _ c G hG hd=>H3 hs e (fun b hb=>hF b (hG b hb)) hd) h2⟩
 | .ptr,_,_,_,_,h=>by unfold DIn at h;exact h.elim
 | .fn,_,_,_,_,h=>by unfold DIn at h;exact h.elim
 | .imap,_,_,_,_,h=>by unfold DIn at h;exact h.elim
 | .other,_,_,_,_,h=>by unfold DIn at h;exact h.elim
theorem Tr {o:Bool} {w w':World} (hs:w.heap.size≤w'.heap.size):∀ (ts:List Ty) {j:Nat} {d:D} {cs:List Value} {F:List Nat},QN w w' F→Qx o w ts j d cs F→Qx o w' ts j d cs F
 | [],_,_,_,_,_,h=>h
 | t :: ts,j,d,cs,F,hF,h=>by
  unfold Qx at h ⊢
  obtain ⟨c1,c2,F1,F2,e1,e2,h1,h2⟩:=h
  subst e2
  exact ⟨c1,c2,F1,F2,e1,rfl,H3 hs t (fun b hb=>hF b (by simp [hb])) h1,Tr hs ts (fun b hb=>hF b (by simp [hb])) h2⟩
end
def Ux (E E':Env) (s:Nat):Prop:=
 ∀ c' rc F',Jb E'.bl s=some c'→E'.G s=some (rc,F') →
  ∃ c F0,Jb E.bl s=some c∧E.G s=some (rc,F0) ∧
   ∀ p x' L,Jf E'.w c' (.reg rc) p=some (x',L)→∃ x,Jf E.w c (.reg rc) p=some (x,L)∧(QB x'=true→QB x=true∧L.head E'.w=L.head E.w)
structure Le (E E':Env):Prop where
 stab:∀ b,E.S b→E'.S b∧E'.w.heap[b]?=E.w.heap[b]?
 size:E.w.heap.size≤E'.w.heap.size
 kept:∀ b,E.S b→E.K b→E'.K b
theorem Le.sb {E E':Env} (h:Le E E') {e:Ty} {b:Nat} (hb:E.Sb e b):E'.Sb e b:=⟨(h.stab b hb.1).1,fun he=>h.kept b hb.1 (hb.2 he)⟩
mutual
theorem U2 {E E':Env} (hE:Le E E'):∀ (v:V) {cs:List Value} {F:List Nat},(∀ s ∈ Jd v,Ux E E' s)→QN E.w E'.w F→InV E v cs F→InV E' v cs F
 | .undef,_,_,_,_,h=>h
 | .void,_,_,_,_,h=>h
 | .int _ _,_,_,_,_,h=>h
 | .bool _,_,_,_,_,h=>h
 | .str _,_,_,_,_,h=>h
 | .nilsl,_,_,_,_,h=>h
 | .emp _,_,_,_,_,h=>h
 | .nilfn,_,_,_,_,h=>h
 | .nilptr,_,_,_,_,h=>h
 | .mp l,cs,F,hs,hF,h=>by
  unfold InV at h ⊢
  obtain ⟨r,es,clk,h1,h2,h3,h4,h5⟩:=h
  exact ⟨r,es,clk,h1,by rw [hF r (by rw [h4];simp)];exact h2,h3,h4,by have:=hE.size;omega⟩
 | .mref s,cs,F,hs,hF,h=>by
  unfold InV at h ⊢
  obtain ⟨h0,h1,h2⟩:=h
  refine ⟨h0,h1,fun c' rc F' hc hg ho=>?_⟩
  obtain ⟨c,F0,hc0,hg0,hal⟩:=hs s (by simp [Jd]) c' rc F' hc hg
  obtain ⟨x,hx,hown⟩:=hal [] c' (.reg rc) (by simp [Jf])
  simp only [Jf,oj,pj] at hx
  obtain ⟨rfl,_⟩:=hx
  exact h2 c rc F0 hc0 hg0 (hown ho).1
 | .agg vs,cs,F,hs,hF,h=>by
  unfold InV at h ⊢
  exact HN hE vs (by simpa [Jd] using hs) hF h
 | .arr n e l,cs,F,hs,hF,h=>by
  unfold InV at h ⊢
  exact ⟨h.1,h.2.1,HM (fun d _ c G hG hd=>H3 hE.size e (fun b hb=>hF b (hG b hb)) hd) h.2.2⟩
 | .own e l,cs,F,hs,hF,h=>by
  unfold InV at h ⊢
  obtain ⟨hp,A,c,h1,h2⟩:=h
  exact ⟨hp,A,c,h1,Yu hF hE.size (fun d _ c G hG hd=>H3 hE.size e (fun b hb=>hF b (hG b hb)) hd) h2⟩
 | .ownh e l i,cs,F,hs,hF,h=>by
  unfold InV at h ⊢
  obtain ⟨hi,hp,a,c,c1,v,c2,F1,F2,h1,h2,h3,h4,h5,h6,h7,h8⟩:=h
  have hb:=hF a.block (by rw [h5];simp)
  exact ⟨hi,hp,a,c,c1,v,c2,F1,F2,h1,HM (fun d _ cc G hG hd=>H3 hE.size _ (fun b hb'=>hF b (by rw [h5];simp [hG b hb'])) hd) h2,HM (fun d _ cc G hG hd=>H3 hE.size _ (fun b hb'=>hF b (by rw [h5];simp [hG b hb'])) hd) h3,Hz hb h4,h5,h6,by have:=hE.size;omega,Oz hb h8⟩
 | .rd e l,cs,F,hs,hF,h=>by
  unfold InV at h ⊢
  obtain ⟨h0,hp,A,c,F',h1,h2,h3⟩:=h
  have hF':QN E.w E'.w F':=fun b hb=>(hE.stab b (h3 b hb).1).2
  exact ⟨h0,hp,A,c,F',h1,Yu hF' hE.size (fun d _ c G hG hd=>H3 hE.size e (fun b hb=>hF' b (hG b hb)) hd) h2,fun b hb=>hE.sb (h3 b hb)⟩
 | .lst e vs,cs,F,hs,hF,h=>by
  unfold InV at h ⊢
  obtain ⟨a,c,cs',F',h1,hl,he,h2,h3,h4,h5,h6⟩:=h
  have hb:=hF a.block (by rw [h4];simp)
  exact ⟨a,c,cs',F',h1,hl,he,HN hE vs (by simpa [Jd] using hs) (fun b hb=>hF b (by rw [h4];simp [hb])) h2,Hz hb h3,h4,by have:=hE.size;omega,Oz hb h6.1,Oz hb h6.2⟩
 | .obox v,cs,F,hs,hF,h=>by
  unfold InV at h ⊢
  obtain ⟨a,cs',F',h1,h2,h3,h4,h5,h6⟩:=h
  have hb:=hF a.block (by rw [h4];simp)
  exact ⟨a,cs',F',h1,U2 hE v (by simpa [Jd] using hs) (fun b hb=>hF b (by rw [h4];simp [hb])) h2,Hz hb h3,h4,by have:=hE.size;omega,Oz hb h6⟩
 | .rp v,cs,F,hs,hF,h=>by
  unfold InV at h ⊢
  obtain ⟨h0,a,cs',h1,h2,h3,h4⟩:=h
  exact ⟨h0,a,cs',h1,U2 hE v (by simpa [Jd] using hs) (fun b hb=>by simp at hb) h2,Hz (hE.stab _ h4).2 h3,(hE.stab _ h4).1⟩
 | .full s p e,cs,F,hs,hF,h=>by
  unfold InV at h ⊢
  obtain ⟨h0,h1,h2⟩:=h
  refine ⟨h0,h1,fun c' rc F' hc hg x' L hl ho=>?_⟩
  obtain ⟨c,F0,hc0,hg0,hal⟩:=hs s (by simp [Jd]) c' rc F' hc hg
  obtain ⟨x,hx,hown⟩:=hal p x' L hl
  obtain ⟨ho',hh⟩:=hown ho
  obtain ⟨v,hv,hcs⟩:=h2 c rc F0 hc0 hg0 x L hx ho'
  exact ⟨v,by rw [hh];exact hv,hcs⟩
 | .sub s p off len e,cs,F,hs,hF,h=>by
  unfold InV at h ⊢
  obtain ⟨h0,h1,h2⟩:=h
  refine ⟨h0,h1,fun c' rc F' hc hg x' L hl ho=>?_⟩
  obtain ⟨c,F0,hc0,hg0,hal⟩:=hs s (by simp [Jd]) c' rc F' hc hg
  obtain ⟨x,hx,hown⟩:=hal p x' L hl
  obtain ⟨ho',hh⟩:=hown ho
  obtain ⟨A,n,k,A',hv,hcs⟩:=h2 c rc F0 hc0 hg0 x L hx ho'
  exact ⟨A,n,k,A',by rw [hh];exact hv,hcs⟩
 | .ptr s p,cs,F,hs,hF,h=>by
  unfold InV at h ⊢
  obtain ⟨h0,h1,h2⟩:=h
  refine ⟨h0,h1,fun c' rc F' hc hg x' L hl=>?_⟩
  obtain ⟨c,F0,hc0,hg0,hal⟩:=hs s (by simp [Jd]) c' rc F' hc hg
  obtain ⟨x,hx,_⟩:=hal p x' L hl
  exact h2 c rc F0 hc0 hg0 x L hx
 | .fn f caps,cs,F,hs,hF,h=>by
  unfold InV at h ⊢
  obtain ⟨vals,h1,h2,h3⟩:=h
  exact ⟨vals,h1,HN hE caps (by simpa [Jd] using hs) hF h2,h3⟩
 | .tup _,_,_,_,_,h=>by unfold InV at h;exact h.elim
theorem HN {E E':Env} (hE:Le E E'):∀ (vs:List V) {cs:List Value} {F:List Nat},(∀ s ∈ Jl vs,Ux E E' s)→QN E.w E'.w F→Jj E vs cs F→Jj E' vs cs F
 | [],_,_,_,_,h=>h
 | v :: vs,cs,F,hs,hF,h=>by
  unfold Jj at h ⊢
  obtain ⟨c1,c2,F1,F2,e1,e2,h1,h2⟩:=h
  subst e2
  have cat_mem:∀ {α:Type} (l m:List α) (x:α),x ∈ cat l m ↔ x ∈ l ∨ x ∈ m:=by
   intro α l m x
   induction l with
   | nil=>simp [cat]
   | cons a l ih=>simp [cat,ih,or_assoc]
  exact ⟨c1,c2,F1,F2,e1,rfl,U2 hE v (fun s hs'=>hs s (by simp [Jl,cat_mem,hs'])) (fun b hb=>hF b (by simp [hb])) h1,
   HN hE vs (fun s hs'=>hs s (by simp [Jl,cat_mem,hs'])) (fun b hb=>hF b (by simp [hb])) h2⟩
end
end Go.Rai
namespace Go.Rai
theorem Je {a b:Bool}:Jh a b=true ↔ a=true∧b=true:=by cases a<;>cases b<;>simp [Jh]
theorem Co {a b:Bool}:bor a b=true ↔ a=true ∨ b=true:=by cases a<;>cases b<;>simp [bor]
theorem UC {a b:IntKind} (h:keq a b=true):a=b:=by cases a<;>cases b<;>first | rfl | simp [keq] at h
theorem Xb (a:IntKind):keq a a=true:=by cases a<;>rfl
theorem Ju {α:Type} (l m:List α) (x:α):x ∈ cat l m ↔ x ∈ l ∨ x ∈ m:=by
 induction l with
 | nil=>simp [cat]
 | cons a l ih=>simp [cat,ih,or_assoc]
theorem Qd {α:Type} (l m:List α):cat l m=l ++ m:=by
 induction l with
 | nil=>rfl
 | cons a l ih=>simp [cat,ih]
mutual
theorem Ty.beq_eq:∀ (a b:Ty),a.beq b=true→a=b
 | .int k,b,h=>by cases b<;>simp [Ty.beq] at h;rw [UC h]
 | .bool,b,h=>by cases b<;>simp [Ty.beq] at h;rfl
 | .str,b,h=>by cases b<;>simp [Ty.beq] at h;rfl
 | .ptr,b,h=>by cases b<;>simp [Ty.beq] at h;rfl
 | .fn,b,h=>by cases b<;>simp [Ty.beq] at h;rfl
 | .struct fs,b,h=>by
  cases b<;>simp [Ty.beq] at h
  rw [Ty.beqs_eq _ _ h]
 | .slice e,b,h=>by
  cases b<;>simp [Ty.beq] at h
  rw [Ty.beq_eq _ _ h]
 | .arr n e,b,h=>by
  cases b<;>simp [Ty.beq,Je] at h
  rw [h.1,Ty.beq_eq _ _ h.2]
 | .imap,b,h=>by cases b<;>simp [Ty.beq] at h
 | .other,b,h=>by cases b<;>simp [Ty.beq] at h
theorem Ty.beqs_eq:∀ (a b:List Ty),Ty.beqs a b=true→a=b
 | [],b,h=>by cases b<;>simp [Ty.beqs] at h;rfl
 | x :: xs,b,h=>by
  cases b<;>simp [Ty.beqs,Je] at h
  rw [Ty.beq_eq _ _ h.1,Ty.beqs_eq _ _ h.2]
end
mutual
theorem Hi:∀ (t:Ty),t.flat=true→t.plain=true
 | .int _,_=>rfl
 | .bool,_=>rfl
 | .str,_=>rfl
 | .struct fs,h=>by
  unfold Ty.flat at h
  unfold Ty.plain
  exact Ts fs h
 | .arr _ e,h=>by
  unfold Ty.flat at h
  unfold Ty.plain
  exact h
 | .slice _,h=>by simp [Ty.flat] at h
 | .ptr,h=>by simp [Ty.flat] at h
 | .fn,h=>by simp [Ty.flat] at h
 | .imap,h=>by simp [Ty.flat] at h
 | .other,h=>by simp [Ty.flat] at h
theorem Ts:∀ (ts:List Ty),Ty.flats ts=true→Ty.plains ts=true
 | [],_=>rfl
 | t :: ts,h=>by
  unfold Ty.flats at h
  unfold Ty.plains
  rw [Je] at h ⊢
  exact ⟨Hi t h.1,Ts ts h.2⟩
end
theorem Hj {R:D→List Value→List Nat→Prop} {sz:Nat} (hR:∀ d c G,R d c G→c.length=sz):∀ {l:List D} {cs:List Value} {F:List Nat},Row R l cs F→cs.length=l.length * sz
 | [],cs,F,h=>by simp [Row] at h;simp [h.1]
 | d :: l,cs,F,h=>by
  obtain ⟨c1,c2,F1,F2,e1,e2,h1,h2⟩:=h
  subst e1
  rw [List.length_append,hR _ _ _ h1,Hj hR h2,List.length_cons,Nat.succ_mul,Nat.add_comm]
mutual
theorem Qn {o:Bool} {w:World}:∀ (t:Ty) {d:D} {cs:List Value} {F:List Nat},DIn o w t d cs F→cs.length=t.size
 | .int _,_,_,_,h=>by unfold DIn at h;simp [h.1,Ty.size]
 | .bool,_,_,_,h=>by unfold DIn at h;simp [h.1,Ty.size]
 | .str,_,_,_,h=>by unfold DIn at h;simp [h.1,Ty.size]
 | .struct ts,_,_,_,h=>by
  unfold DIn at h
  unfold Ty.size
  exact Tu ts h
 | .arr n e,_,_,_,h=>by
  unfold DIn at h
  unfold Ty.size
  rw [← h.1]
  exact Hj (fun d c G hd=>Qn e hd) h.2
 | .slice e,_,_,_,h=>by
  unfold DIn at h
  obtain ⟨A,c,h1,_⟩:=h
  simp [h1,Ty.size]
 | .ptr,_,_,_,h=>by unfold DIn at h;exact h.elim
 | .fn,_,_,_,h=>by unfold DIn at h;exact h.elim
 | .imap,_,_,_,h=>by unfold DIn at h;exact h.elim
 | .other,_,_,_,h=>by unfold DIn at h;exact h.elim
theorem Tu {o:Bool} {w:World}:∀ (ts:List Ty) {j:Nat} {d:D} {cs:List Value} {F:List Nat},Qx o w ts j d cs F→cs.length=Ty.sizes ts
 | [],_,_,_,_,h=>by unfold Qx at h;simp [h.1,Ty.sizes]
 | t :: ts,j,d,cs,F,h=>by
  unfold Qx at h
  obtain ⟨c1,c2,F1,F2,e1,e2,h1,h2⟩:=h
  subst e1
  rw [List.length_append,Qn t h1,Tu ts h2]
  simp [Ty.sizes]
end
mutual
theorem Qq {E:Env}:∀ (v:V) {cs:List Value} {F:List Nat},InV E v cs F→cs.length=vsz v
 | .undef,_,_,h=>by unfold InV at h;obtain ⟨⟨v,rfl⟩,_⟩:=h;rfl
 | .void,_,_,h=>by unfold InV at h;simp [h.1,vsz]
 | .int _ _,_,_,h=>by unfold InV at h;simp [h.1,vsz]
 | .bool _,_,_,h=>by unfold InV at h;simp [h.1,vsz]
 | .str _,_,_,h=>by unfold InV at h;simp [h.1,vsz]
 | .nilsl,_,_,h=>by unfold InV at h;simp [h.1,vsz]
 | .emp _,_,_,h=>by unfold InV at h;obtain ⟨⟨A,rfl⟩,_⟩:=h;rfl
 | .nilfn,_,_,h=>by unfold InV at h;simp [h.1,vsz]
 | .nilptr,_,_,h=>by unfold InV at h;simp [h.1,vsz]
 | .mp l,_,_,h=>by unfold InV at h;obtain ⟨r,es,clk,h1,_⟩:=h;simp [h1,vsz]
 | .mref s,_,_,h=>by unfold InV at h;obtain ⟨_,⟨r,h1⟩,_⟩:=h;simp [h1,vsz]
 | .agg vs,cs,F,h=>by
  unfold InV at h
  unfold vsz
  exact CJ vs h
 | .arr n e l,cs,F,h=>by
  unfold InV at h
  unfold vsz
  rw [← h.1]
  exact Hj (fun d c G hd=>Qn e hd) h.2.2
 | .own e l,cs,F,h=>by unfold InV at h;obtain ⟨_,A,c,h1,_⟩:=h;simp [h1,vsz]
 | .ownh e l i,cs,F,h=>by unfold InV at h;obtain ⟨_,_,a,c,c1,v,c2,F1,F2,h1,_⟩:=h;simp [h1,vsz]
 | .rd e l,cs,F,h=>by unfold InV at h;obtain ⟨_,_,A,c,F',h1,_⟩:=h;simp [h1,vsz]
 | .lst e vs,cs,F,h=>by unfold InV at h;obtain ⟨a,c,cs',F',h1,_⟩:=h;simp [h1,vsz]
 | .obox v,cs,F,h=>by unfold InV at h;obtain ⟨a,cs',F',h1,_⟩:=h;simp [h1,vsz]
 | .rp v,cs,F,h=>by unfold InV at h;obtain ⟨_,a,cs',h1,_⟩:=h;simp [h1,vsz]
 | .full s p e,cs,F,h=>by unfold InV at h;obtain ⟨_,⟨A,n,k,rfl⟩,_⟩:=h;rfl
 | .sub s p off len e,cs,F,h=>by unfold InV at h;obtain ⟨_,⟨A,k,rfl,_⟩,_⟩:=h;rfl
 | .ptr s p,cs,F,h=>by unfold InV at h;obtain ⟨_,⟨a,rfl⟩,_⟩:=h;rfl
 | .fn f caps,cs,F,h=>by unfold InV at h;obtain ⟨vals,h1,_⟩:=h;simp [h1,vsz]
 | .tup _,_,_,h=>by unfold InV at h;exact h.elim
theorem CJ {E:Env}:∀ (vs:List V) {cs:List Value} {F:List Nat},Jj E vs cs F→cs.length=Jt vs
 | [],_,_,h=>by unfold Jj at h;simp [h.1,Jt]
 | v :: vs,cs,F,h=>by
  unfold Jj at h
  obtain ⟨c1,c2,F1,F2,e1,e2,h1,h2⟩:=h
  subst e1
  rw [List.length_append,Qq v h1,CJ vs h2]
  simp [Jt]
end
mutual
theorem UR {E:Env}:∀ (t:Ty) {d:D} {cs:List Value} {F:List Nat},t.plain=true→DIn true E.w t d cs F→InV E (dec true t d) cs F
 | .int _,_,_,_,_,h=>by unfold DIn at h;unfold dec InV;exact h
 | .bool,_,_,_,_,h=>by unfold DIn at h;unfold dec InV;exact h
 | .str,_,_,_,_,h=>by unfold DIn at h;unfold dec InV;exact h
 | .struct ts,d,cs,F,hp,h=>by
  unfold DIn at h;unfold dec InV
  unfold Ty.plain at hp
  exact Tv ts hp h
 | .arr n e,d,cs,F,hp,h=>by
  unfold DIn at h;unfold dec InV
  unfold Ty.plain at hp
  exact ⟨h.1,hp,h.2⟩
 | .slice e,d,cs,F,hp,h=>by
  unfold DIn at h;unfold dec
  unfold Ty.plain at hp
  show InV E (.own e d.items) cs F
  unfold InV
  exact ⟨hp,h⟩
 | .ptr,_,_,_,_,h=>by unfold DIn at h;exact h.elim
 | .fn,_,_,_,_,h=>by unfold DIn at h;exact h.elim
 | .imap,_,_,_,_,h=>by unfold DIn at h;exact h.elim
 | .other,_,_,_,_,h=>by unfold DIn at h;exact h.elim
theorem Tv {E:Env}:∀ (ts:List Ty) {j:Nat} {d:D} {cs:List Value} {F:List Nat},Ty.plains ts=true→Qx true E.w ts j d cs F→Jj E (Uz true ts j d) cs F
 | [],_,_,_,_,_,h=>by unfold Qx at h;unfold Uz Jj;exact h
 | t :: ts,j,d,cs,F,hp,h=>by
  unfold Qx at h
  obtain ⟨c1,c2,F1,F2,e1,e2,h1,h2⟩:=h
  unfold Ty.plains at hp
  rw [Je] at hp
  unfold Uz Jj
  exact ⟨c1,c2,F1,F2,e1,e2,UR t hp.1 h1,Tv ts hp.2 h2⟩
end
theorem Hk {R:D→List Value→List Nat→Prop} (hR:∀ d c G,R d c G→G=[]):∀ {l:List D} {cs:List Value} {F:List Nat},Row R l cs F→F=[]
 | [],cs,F,h=>h.2
 | d :: l,cs,F,h=>by
  obtain ⟨c1,c2,F1,F2,e1,e2,h1,h2⟩:=h
  rw [e2,hR _ _ _ h1,Hk hR h2];rfl
mutual
theorem Hl {o:Bool} {w:World}:∀ (t:Ty) {d:D} {cs:List Value} {F:List Nat},t.flat=true→DIn o w t d cs F→F=[]
 | .int _,_,_,_,_,h=>by unfold DIn at h;exact h.2
 | .bool,_,_,_,_,h=>by unfold DIn at h;exact h.2
 | .str,_,_,_,_,h=>by unfold DIn at h;exact h.2
 | .struct ts,_,_,_,hf,h=>by
  unfold DIn at h
  unfold Ty.flat at hf
  exact Tw ts hf h
 | .arr n e,_,_,_,hf,h=>by
  unfold DIn at h
  unfold Ty.flat at hf
  exact Hk (fun d c G hd=>Hl e hf hd) h.2
 | .slice e,_,_,_,hf,h=>by simp [Ty.flat] at hf
 | .ptr,_,_,_,_,h=>by unfold DIn at h;exact h.elim
 | .fn,_,_,_,_,h=>by unfold DIn at h;exact h.elim
 | .imap,_,_,_,_,h=>by unfold DIn at h;exact h.elim
 | .other,_,_,_,_,h=>by unfold DIn at h;exact h.elim
theorem Tw {o:Bool} {w:World}:∀ (ts:List Ty) {j:Nat} {d:D} {cs:List Value} {F:List Nat},Ty.flats ts=true→Qx o w ts j d cs F→F=[]
 | [],_,_,_,_,_,h=>by unfold Qx at h;exact h.2
 | t :: ts,j,d,cs,F,hf,h=>by
  unfold Qx at h
  obtain ⟨c1,c2,F1,F2,e1,e2,h1,h2⟩:=h
  unfold Ty.flats at hf
  rw [Je] at hf
  rw [e2,Hl t hf.1 h1,Tw ts hf.2 h2];rfl
end
theorem Xc {w:World} {R R':D→List Value→List Nat→Prop} (hR:∀ d c G,R d c G→R' d c G) {l:List D} {cs:List Value} {F:List Nat} (h:Row R l cs F):Row R' l cs F:=
 HM (fun d _ c G _ hd=>hR d c G hd) h
theorem Xd {w:World} {R R':D→List Value→List Nat→Prop} (hR:∀ d c G,R d c G→R' d c G) {size:Nat} {A:Option Addr} {c:Nat} {l:List D} {F:List Nat}
  (h:UI true w R size A c l F):UI false w R' size A c l F:=by
 rcases h with h | ⟨a,cs,F',hA,hr,hc,hf,hl,hb,ho⟩
 ·exact .inl h
 ·exact .inr ⟨a,cs,F',hA,Xc (w:=w) hR hr,hc,hf,hl,hb,fun h=>by cases h⟩
mutual
theorem OA {w:World}:∀ (t:Ty) {d:D} {cs:List Value} {F:List Nat},DIn true w t d cs F→DIn false w t d cs F
 | .int _,_,_,_,h=>h
 | .bool,_,_,_,h=>h
 | .str,_,_,_,h=>h
 | .struct ts,d,cs,F,h=>by
  unfold DIn at h ⊢
  exact Tx ts h
 | .arr n e,d,cs,F,h=>by
  unfold DIn at h ⊢
  exact ⟨h.1,Xc (w:=w) (fun d c G hd=>OA e hd) h.2⟩
 | .slice e,d,cs,F,h=>by
  unfold DIn at h ⊢
  obtain ⟨A,c,h1,h2⟩:=h
  exact ⟨A,c,h1,Xd (fun d c G hd=>OA e hd) h2⟩
 | .ptr,_,_,_,h=>by unfold DIn at h;exact h.elim
 | .fn,_,_,_,h=>by unfold DIn at h;exact h.elim
 | .imap,_,_,_,h=>by unfold DIn at h;exact h.elim
 | .other,_,_,_,h=>by unfold DIn at h;exact h.elim
theorem Tx {w:World}:∀ (ts:List Ty) {j:Nat} {d:D} {cs:List Value} {F:List Nat},Qx true w ts j d cs F→Qx false w ts j d cs F
 | [],_,_,_,_,h=>h
 | t :: ts,j,d,cs,F,h=>by
  unfold Qx at h ⊢
  obtain ⟨c1,c2,F1,F2,e1,e2,h1,h2⟩:=h
  exact ⟨c1,c2,F1,F2,e1,e2,OA t h1,Tx ts h2⟩
end
mutual
theorem Xe {E:Env}:∀ (t:Ty) {d:D} {cs:List Value} {F:List Nat},t.plain=true→(∀ b ∈ F,E.Sb t b)→DIn false E.w t d cs F→InV E (dec false t d) cs []
 | .int _,_,_,_,_,_,h=>by unfold DIn at h;unfold dec InV;exact ⟨h.1,rfl⟩
 | .bool,_,_,_,_,_,h=>by unfold DIn at h;unfold dec InV;exact ⟨h.1,rfl⟩
 | .str,_,_,_,_,_,h=>by unfold DIn at h;unfold dec InV;exact ⟨h.1,rfl⟩
 | .struct ts,d,cs,F,hp,hS,h=>by
  unfold DIn at h;unfold dec InV
  unfold Ty.plain at hp
  exact Tz ts hp hS h
 | .arr n e,d,cs,F,hp,hS,h=>by
  unfold DIn at h;unfold dec InV
  unfold Ty.plain at hp
  have hF:=Hk (fun d c G hd=>Hl e hp hd) h.2
  subst hF
  refine ⟨h.1,hp,?_⟩
  exact Xc (w:=E.w) (fun d c G hd=>Xf e hp hd) h.2
 | .slice e,d,cs,F,hp,hS,h=>by
  unfold DIn at h;unfold dec
  unfold Ty.plain at hp
  show InV E (.rd e d.items) cs []
  unfold InV
  obtain ⟨A,c,h1,h2⟩:=h
  exact ⟨rfl,hp,A,c,F,h1,h2,hS⟩
 | .ptr,_,_,_,_,_,h=>by unfold DIn at h;exact h.elim
 | .fn,_,_,_,_,_,h=>by unfold DIn at h;exact h.elim
 | .imap,_,_,_,_,_,h=>by unfold DIn at h;exact h.elim
 | .other,_,_,_,_,_,h=>by unfold DIn at h;exact h.elim
theorem Tz {E:Env}:∀ (ts:List Ty) {j:Nat} {d:D} {cs:List Value} {F:List Nat},Ty.plains ts=true→(∀ b ∈ F,E.S b∧(V4 ts=true→E.K b))→Qx false E.w ts j d cs F→Jj E (Uz false ts j d) cs []
 | [],_,_,_,_,_,_,h=>by unfold Qx at h;unfold Uz Jj;exact ⟨h.1,rfl⟩
 | t :: ts,j,d,cs,F,hp,hS,h=>by
  unfold Qx at h
  obtain ⟨c1,c2,F1,F2,e1,e2,h1,h2⟩:=h
  unfold Ty.plains at hp
  rw [Je] at hp
  subst e2
  unfold Uz Jj
  exact ⟨c1,c2,[],[],e1,rfl,Xe t hp.1 (fun b hb=>⟨(hS b (by simp [hb])).1,fun ht=>(hS b (by simp [hb])).2 (by unfold V4;rw [ht];rfl)⟩) h1,Tz ts hp.2 (fun b hb=>⟨(hS b (by simp [hb])).1,fun ht=>(hS b (by simp [hb])).2 (by unfold V4;rw [ht];cases Cg t<;>rfl)⟩) h2⟩
theorem Xf {w:World}:∀ (t:Ty) {d:D} {cs:List Value} {F:List Nat} {o o':Bool},t.flat=true→DIn o w t d cs F→DIn o' w t d cs F
 | .int _,_,_,_,_,_,_,h=>h
 | .bool,_,_,_,_,_,_,h=>h
 | .str,_,_,_,_,_,_,h=>h
 | .struct ts,d,cs,F,o,o',hp,h=>by
  unfold DIn at h ⊢
  unfold Ty.flat at hp
  exact TA ts hp h
 | .arr n e,d,cs,F,o,o',hp,h=>by
  unfold DIn at h ⊢
  unfold Ty.flat at hp
  exact ⟨h.1,Xc (w:=w) (fun d c G hd=>Xf e hp hd) h.2⟩
 | .slice e,d,cs,F,o,o',hp,h=>by simp [Ty.flat] at hp
 | .ptr,_,_,_,_,_,_,h=>by unfold DIn at h;exact h.elim
 | .fn,_,_,_,_,_,_,h=>by unfold DIn at h;exact h.elim
 | .imap,_,_,_,_,_,_,h=>by unfold DIn at h;exact h.elim
 | .other,_,_,_,_,_,_,h=>by unfold DIn at h;exact h.elim
theorem TA {w:World}:∀ (ts:List Ty) {j:Nat} {d:D} {cs:List Value} {F:List Nat} {o o':Bool},Ty.flats ts=true→Qx o w ts j d cs F→Qx o' w ts j d cs F
 | [],_,_,_,_,_,_,_,h=>h
 | t :: ts,j,d,cs,F,o,o',hp,h=>by
  unfold Qx at h ⊢
  obtain ⟨c1,c2,F1,F2,e1,e2,h1,h2⟩:=h
  unfold Ty.flats at hp
  rw [Je] at hp
  exact ⟨c1,c2,F1,F2,e1,e2,Xf t hp.1 h1,TA ts hp.2 h2⟩
end
mutual
def shp:Ty→V→Bool
 | .int k,.int k' _=>keq k k'
 | .bool,.bool _=>true
 | .str,.str _=>true
 | .struct ts,.agg vs=>Qw ts vs
 | .slice e,.own e' _=>e.beq e'
 | .arr n e,.arr m e' _=>Jh (Nat.beq n m) (e.beq e')
 | _,_=>false
def Qw:List Ty→List V→Bool
 | [],[]=>true
 | t :: ts,v :: vs=>Jh (shp t v) (Qw ts vs)
 | _,_=>false
end
mutual
theorem Ty.beq_refl:∀ (t:Ty),t.plain=true→t.beq t=true
 | .int k,_=>by simp [Ty.beq,Xb]
 | .bool,_=>rfl
 | .str,_=>rfl
 | .struct fs,h=>by
  unfold Ty.plain at h
  unfold Ty.beq
  exact Ty.beqs_refl fs h
 | .slice e,h=>by
  unfold Ty.plain at h
  unfold Ty.beq
  exact Ty.beq_refl e h
 | .arr n e,h=>by
  unfold Ty.plain at h
  unfold Ty.beq
  rw [Je]
  exact ⟨Nat.beq_refl n,Ty.beq_refl e (Hi e h)⟩
 | .ptr,h=>by simp [Ty.plain] at h
 | .fn,h=>by simp [Ty.plain] at h
 | .imap,h=>by simp [Ty.plain] at h
 | .other,h=>by simp [Ty.plain] at h
theorem Ty.beqs_refl:∀ (ts:List Ty),Ty.plains ts=true→Ty.beqs ts ts=true
 | [],_=>rfl
 | t :: ts,h=>by
  unfold Ty.plains at h
  unfold Ty.beqs
  rw [Je] at h ⊢
  exact ⟨Ty.beq_refl t h.1,Ty.beqs_refl ts h.2⟩
end
mutual
theorem Vf:∀ (t:Ty) (d:D),t.plain=true→shp t (dec true t d)=true
 | .int k,_,_=>by unfold dec shp;exact Xb k
 | .bool,_,_=>rfl
 | .str,_,_=>rfl
 | .struct fs,d,h=>by
  unfold Ty.plain at h
  unfold dec shp
  exact TB fs 0 d h
 | .slice e,d,h=>by
  unfold Ty.plain at h
  unfold dec shp
  exact Ty.beq_refl e h
 | .arr n e,d,h=>by
  unfold Ty.plain at h
  unfold dec shp
  rw [Je]
  exact ⟨Nat.beq_refl n,Ty.beq_refl e (Hi e h)⟩
 | .ptr,_,h=>by simp [Ty.plain] at h
 | .fn,_,h=>by simp [Ty.plain] at h
 | .imap,_,h=>by simp [Ty.plain] at h
 | .other,_,h=>by simp [Ty.plain] at h
theorem TB:∀ (ts:List Ty) (j:Nat) (d:D),Ty.plains ts=true→Qw ts (Uz true ts j d)=true
 | [],_,_,_=>rfl
 | t :: ts,j,d,h=>by
  unfold Ty.plains at h
  rw [Je] at h
  unfold Uz Qw
  rw [Je]
  exact ⟨Vf t _ h.1,TB ts _ d h.2⟩
end
mutual
theorem Vg {E:Env}:∀ (t:Ty) {v:V} {cs:List Value} {F:List Nat},shp t v=true→InV E v cs F→DIn true E.w t (enc v) cs F
 | .int k,v,cs,F,hs,h=>by
  cases v<;>simp [shp] at hs
  unfold InV at h
  unfold DIn
  rw [UC hs]
  exact h
 | .bool,v,cs,F,hs,h=>by
  cases v<;>simp [shp] at hs
  unfold InV at h
  unfold DIn
  exact h
 | .str,v,cs,F,hs,h=>by
  cases v<;>simp [shp] at hs
  unfold InV at h
  unfold DIn
  exact h
 | .struct ts,v,cs,F,hs,h=>by
  cases v with
  | agg vs=>
   unfold shp at hs
   unfold InV at h
   unfold DIn enc
   exact TC ts [] hs h
  | _=>simp [shp] at hs
 | .arr n e,v,cs,F,hs,h=>by
  cases v with
  | arr m e' l=>
   unfold shp at hs
   rw [Je] at hs
   have h1:=Nat.eq_of_beq_eq_true hs.1
   have h2:=Ty.beq_eq _ _ hs.2
   subst h1;subst h2
   unfold InV at h
   unfold DIn enc
   exact ⟨h.1,h.2.2⟩
  | _=>simp [shp] at hs
 | .slice e,v,cs,F,hs,h=>by
  cases v with
  | own e' l=>
   unfold shp at hs
   have h2:=Ty.beq_eq _ _ hs
   subst h2
   unfold InV at h
   unfold DIn enc
   exact h.2
  | _=>simp [shp] at hs
 | .ptr,v,_,_,hs,h=>by cases v<;>simp [shp] at hs
 | .fn,v,_,_,hs,h=>by cases v<;>simp [shp] at hs
 | .imap,v,_,_,hs,h=>by cases v<;>simp [shp] at hs
 | .other,v,_,_,hs,h=>by cases v<;>simp [shp] at hs
theorem TC {E:Env}:∀ (ts:List Ty) (pre:List D) {vs:List V} {cs:List Value} {F:List Nat},Qw ts vs=true→Jj E vs cs F→Qx true E.w ts pre.length (.node (pre ++ Un vs)) cs F
 | [],pre,vs,cs,F,hs,h=>by
  cases vs with
  | nil=>unfold Jj at h;unfold Qx;exact h
  | cons _ _=>simp [Qw] at hs
 | t :: ts,pre,vs,cs,F,hs,h=>by
  cases vs with
  | nil=>simp [Qw] at hs
  | cons v vs=>
   unfold Qw at hs
   rw [Je] at hs
   unfold Jj at h
   obtain ⟨c1,c2,F1,F2,e1,e2,h1,h2⟩:=h
   unfold Qx
   refine ⟨c1,c2,F1,F2,e1,e2,?_,?_⟩
   ·have:(D.node (pre ++ Un (v :: vs))).fld pre.length=enc v:=by simp [D.fld,D.items,Un]
    rw [this]
    exact Vg t hs.1 h1
   ·have h3:=TC ts (pre ++ [enc v]) hs.2 h2
    simpa [Un] using h3
end
end Go.Rai
namespace Go.Rai
theorem OB (a:Addr) (i:Nat):(a.add i).off=a.off + i:=by
 unfold Addr.add;split<;>simp_all
theorem C4 (L:Ji) (i j:Nat):(L.shift i).shift j=L.shift (i + j):=by
 cases L with
 | reg cs=>simp [Ji.shift,List.drop_drop]
 | mem a=>simp [Ji.shift,Hh]
theorem Xg {w:World} {L:Ji} {c1 c2:List Value} (h:L.holds w (c1 ++ c2)):L.holds w c1:=by
 cases L with
 | reg ds=>obtain ⟨r,hr⟩:=h;exact ⟨c2 ++ r,by rw [hr];simp⟩
 | mem a=>intro j v hj;exact h j v (by rw [List.getElem?_append_left (by have:=(List.getElem?_eq_some_iff.1 hj).1;exact this)];exact hj)
theorem Xh {w:World} {L:Ji} {c1 c2:List Value} (h:L.holds w (c1 ++ c2)):(L.shift c1.length).holds w c2:=by
 cases L with
 | reg ds=>obtain ⟨r,hr⟩:=h;exact ⟨r,by rw [hr];simp⟩
 | mem a=>
  intro j v hj
  show w.cell? ((a.add c1.length).add j)=some v
  rw [Hh]
  exact h (c1.length + j) v (by rw [List.getElem?_append_right (by omega)];simpa using hj)
theorem QK {w:World} {L:Ji} {c1 c c2:List Value} (h:L.holds w (c1 ++ (c ++ c2))):(L.shift c1.length).holds w c:=
 Xg (Xh h)
theorem JL {w:World} {L:Ji} {v:Value} {r:List Value} (h:L.holds w (v :: r)):L.head w=some v:=by
 cases L with
 | reg ds=>obtain ⟨q,hq⟩:=h;rw [hq];simp [Ji.head]
 | mem a=>exact h 0 v rfl
theorem Vh {α:Type}:∀ (l:List α) (j:Nat),nth l j=l[j]?
 | [],_=>by simp [nth]
 | a :: l,0=>by simp [nth]
 | a :: l,j + 1=>by simp [nth,Vh l j]
theorem Xi:∀ {vs:List V} {j:Nat} {x y:V},nth vs j=some x→vsz y=vsz x→Jt (JD vs j y)=Jt vs
 | [],_,_,_,h,_=>by simp [nth] at h
 | a :: l,0,x,y,h,hy=>by simp [nth] at h;subst h;simp [JD,Jt,hy]
 | a :: l,j + 1,x,y,h,hy=>by
  have:=Xi (vs:=l) (j:=j) (by simpa [nth] using h) hy
  simp [JD,Jt,this]
theorem Vi:∀ {vs:List V} {j:Nat} {x:V},nth vs j=some x→Jt (vs.take j) + vsz x≤Jt vs
 | [],_,_,h=>by simp [nth] at h
 | a :: l,0,x,h=>by simp [nth] at h;subst h;simp [Jt]
 | a :: l,j + 1,x,h=>by
  have:=Vi (vs:=l) (j:=j) (by simpa [nth] using h)
  simp [Jt];omega
theorem U3 {E:Env}:∀ {vs:List V} {j:Nat} {x:V} {cs:List Value} {F:List Nat},Jj E vs cs F→nth vs j=some x →
  ∃ c1 c c2 F1 F0 F2,cs=c1 ++ (c ++ c2)∧F=F1 ++ (F0 ++ F2)∧c1.length=Jt (vs.take j)∧InV E x c F0 ∧
   ∀ (E':Env) (y:V) (c':List Value) (F':List Nat),Le E E'→(∀ s ∈ Jl vs,Ux E E' s)→QN E.w E'.w F1→QN E.w E'.w F2→InV E' y c' F' →
    Jj E' (JD vs j y) (c1 ++ (c' ++ c2)) (F1 ++ (F' ++ F2))
 | [],_,_,_,_,_,h=>by simp [nth] at h
 | a :: l,0,x,cs,F,h,hx=>by
  simp [nth] at hx;subst hx
  unfold Jj at h
  obtain ⟨c1,c2,F1,F2,e1,e2,h1,h2⟩:=h
  refine ⟨[],c1,c2,[],F1,F2,by simp [e1],by simp [e2],by simp [Jt],h1,?_⟩
  intro E' y c' F' hE hs hF1 hF2 hy
  simp only [JD,List.nil_append]
  unfold Jj
  exact ⟨c',c2,F',F2,rfl,rfl,hy,HN hE l (fun s hs'=>hs s (by simp [Jl,Ju,hs'])) hF2 h2⟩
 | a :: l,j + 1,x,cs,F,h,hx=>by
  unfold Jj at h
  obtain ⟨d1,d2,G1,G2,e1,e2,h1,h2⟩:=h
  obtain ⟨c1,c,c2,F1,F0,F2,i1,i2,i3,i4,i5⟩:=U3 (vs:=l) (j:=j) h2 (by simpa [nth] using hx)
  refine ⟨d1 ++ c1,c,c2,G1 ++ F1,F0,F2,by simp [e1,i1],by simp [e2,i2],by simp [Jt,i3,Qq a h1],i4,?_⟩
  intro E' y c' F' hE hs hF1 hF2 hy
  simp only [JD]
  unfold Jj
  exact ⟨d1,c1 ++ (c' ++ c2),G1,F1 ++ (F' ++ F2),by simp,by simp,U2 hE a (fun s hs'=>hs s (by simp [Jl,Ju,hs'])) (fun b hb=>hF1 b (by simp [hb])) h1,
   i5 E' y c' F' hE (fun s hs'=>hs s (by simp [Jl,Ju,hs'])) (fun b hb=>hF1 b (by simp [hb])) hF2 hy⟩
theorem U4 {R:D→List Value→List Nat→Prop} {sz:Nat} (hR:∀ d c G,R d c G→c.length=sz):∀ {l:List D} {j:Nat} {cs:List Value} {F:List Nat},Row R l cs F→j<l.length →
  ∃ c1 c c2 F1 F0 F2,cs=c1 ++ (c ++ c2)∧F=F1 ++ (F0 ++ F2)∧c1.length=j * sz∧R (l.getD j (.int 0)) c F0 ∧
   ∀ (R':D→List Value→List Nat→Prop) (y:D) (c':List Value) (F':List Nat),(∀ d c G,(∀ b ∈ G,b ∈ F1) ∨ (∀ b ∈ G,b ∈ F2)→R d c G→R' d c G)→R' y c' F' →
    Row R' (l.set j y) (c1 ++ (c' ++ c2)) (F1 ++ (F' ++ F2))
 | [],_,_,_,_,h=>by simp at h
 | a :: l,0,cs,F,h,_=>by
  obtain ⟨c1,c2,F1,F2,e1,e2,h1,h2⟩:=h
  refine ⟨[],c1,c2,[],F1,F2,by simp [e1],by simp [e2],by simp,by simpa using h1,?_⟩
  intro R' y c' F' hR' hy
  exact ⟨c',c2,F',F2,rfl,rfl,hy,HM (fun d _ c G hG hd=>hR' d c G (.inr hG) hd) h2⟩
 | a :: l,j + 1,cs,F,h,hj=>by
  obtain ⟨d1,d2,G1,G2,e1,e2,h1,h2⟩:=h
  obtain ⟨c1,c,c2,F1,F0,F2,i1,i2,i3,i4,i5⟩:=U4 hR (l:=l) (j:=j) h2 (by simpa using hj)
  refine ⟨d1 ++ c1,c,c2,G1 ++ F1,F0,F2,by simp [e1,i1],by simp [e2,i2],by simp [i3,hR _ _ _ h1,Nat.succ_mul,Nat.add_comm],by simpa using i4,?_⟩
  intro R' y c' F' hR' hy
  refine ⟨d1,c1 ++ (c' ++ c2),G1,F1 ++ (F' ++ F2),by simp,by simp,hR' a d1 G1 (.inl fun b hb=>by simp [hb]) h1,?_⟩
  exact i5 R' y c' F' (fun d c G hG hd=>hR' d c G (hG.imp (fun h b hb=>by simp [h b hb]) id) hd) hy
theorem TD {E:Env}:∀ {vs:List V} {i:Nat} {x:V} {cs:List Value} {F:List Nat},Jj E vs cs F→nth vs i=some x →
  ∃ c F0,InV E x c F0∧(∀ b ∈ F0,b ∈ F)∧∀ k,k<c.length→c[k]?=cs[Jt (vs.take i) + k]?
 | [],_,_,_,_,_,h=>by simp [nth] at h
 | a :: l,0,x,cs,F,h,hx=>by
  simp [nth] at hx;subst hx
  unfold Jj at h
  obtain ⟨c1,c2,F1,F2,e1,e2,h1,h2⟩:=h
  refine ⟨c1,F1,h1,fun b hb=>by rw [e2];simp [hb],fun k hk=>?_⟩
  simp [Jt,e1,List.getElem?_append_left hk]
 | a :: l,i + 1,x,cs,F,h,hx=>by
  unfold Jj at h
  obtain ⟨d1,d2,G1,G2,e1,e2,h1,h2⟩:=h
  obtain ⟨c,F0,i1,i2,i3⟩:=TD (vs:=l) (i:=i) h2 (by simpa [nth] using hx)
  refine ⟨c,F0,i1,fun b hb=>by rw [e2];simp [i2 b hb],fun k hk=>?_⟩
  rw [i3 k hk,e1]
  simp only [List.take_succ_cons,Jt]
  rw [List.getElem?_append_right (by rw [Qq a h1];omega),Qq a h1]
  congr 1;omega
theorem TE {R:D→List Value→List Nat→Prop} {sz:Nat} (hR:∀ d c G,R d c G→c.length=sz):∀ {l:List D} {i:Nat} {cs:List Value} {F:List Nat},Row R l cs F→i<l.length →
  ∃ c F0,R (l.getD i (.int 0)) c F0∧(∀ b ∈ F0,b ∈ F)∧∀ k,k<c.length→c[k]?=cs[i * sz + k]?
 | [],_,_,_,_,h=>by simp at h
 | a :: l,0,cs,F,h,_=>by
  obtain ⟨c1,c2,F1,F2,e1,e2,h1,h2⟩:=h
  refine ⟨c1,F1,by simpa using h1,fun b hb=>by rw [e2];simp [hb],fun k hk=>?_⟩
  simp [e1,List.getElem?_append_left hk]
 | a :: l,i + 1,cs,F,h,hi=>by
  obtain ⟨d1,d2,G1,G2,e1,e2,h1,h2⟩:=h
  obtain ⟨c,F0,i1,i2,i3⟩:=TE hR (l:=l) (i:=i) h2 (by simpa using hi)
  refine ⟨c,F0,by simpa using i1,fun b hb=>by rw [e2];simp [i2 b hb],fun k hk=>?_⟩
  rw [i3 k hk,e1,List.getElem?_append_right (by rw [hR _ _ _ h1,Nat.succ_mul];omega),hR _ _ _ h1]
  congr 1;rw [Nat.succ_mul];omega
theorem TF {c1 c c' c2:List Value} {n:Nat} (hlen:c'.length=c.length) (hn:n<c1.length ∨ c1.length + c.length≤n):(c1 ++ (c' ++ c2))[n]?=(c1 ++ (c ++ c2))[n]?:=by
 rcases hn with hn | hn
 ·rw [List.getElem?_append_left hn,List.getElem?_append_left hn]
 ·rw [List.getElem?_append_right (by omega),List.getElem?_append_right (by omega),List.getElem?_append_right (by omega),List.getElem?_append_right (by omega),hlen]
theorem TG {E:Env}:∀ {vs:List V} {j:Nat} {x:V} {cs:List Value} {F:List Nat},Jj E vs cs F→nth vs j=some x →
  ∃ c1 c c2 F1 F0 F2,cs=c1 ++ (c ++ c2)∧F=F1 ++ (F0 ++ F2)∧c1.length=Jt (vs.take j)∧InV E x c F0 ∧
   (∀ (E':Env) (y:V) (c':List Value) (F':List Nat),Le E E'→(∀ s ∈ Jl vs,Ux E E' s)→QN E.w E'.w F1→QN E.w E'.w F2→InV E' y c' F' →
    Jj E' (JD vs j y) (c1 ++ (c' ++ c2)) (F1 ++ (F' ++ F2))) ∧
   ∀ i xi,i ≠ j→nth vs i=some xi→∃ ci Fi,InV E xi ci Fi∧((∀ b ∈ Fi,b ∈ F1) ∨ (∀ b ∈ Fi,b ∈ F2))∧(∀ k,k<ci.length→ci[k]?=cs[Jt (vs.take i) + k]?) ∧
    (Jt (vs.take i) + ci.length≤c1.length ∨ c1.length + c.length≤Jt (vs.take i))
 | [],_,_,_,_,_,h=>by simp [nth] at h
 | a :: l,0,x,cs,F,h,hx=>by
  simp [nth] at hx;subst hx
  have h0:=h
  unfold Jj at h
  obtain ⟨c1,c2,F1,F2,e1,e2,h1,h2⟩:=h
  refine ⟨[],c1,c2,[],F1,F2,by simp [e1],by simp [e2],by simp [Jt],h1,?_,?_⟩
  ·intro E' y c' F' hE hs hF1 hF2 hy
   simp only [JD,List.nil_append]
   unfold Jj
   exact ⟨c',c2,F',F2,rfl,rfl,hy,HN hE l (fun s hs'=>hs s (by simp [Jl,Ju,hs'])) hF2 h2⟩
  ·intro i xi hne hi
   cases i with
   | zero=>exact absurd rfl hne
   | succ i=>
    obtain ⟨ci,Fi,g1,g2,g3⟩:=TD (vs:=l) (i:=i) h2 (by simpa [nth] using hi)
    refine ⟨ci,Fi,g1,.inr g2,fun k hk=>?_,.inr ?_⟩
    ·rw [g3 k hk,e1]
     simp only [List.take_succ_cons,Jt]
     rw [List.getElem?_append_right (by rw [Qq a h1];omega),Qq a h1]
     congr 1;omega
    ·simp only [List.take_succ_cons,Jt,List.length_nil,Nat.zero_add,Qq a h1];omega
 | a :: l,j + 1,x,cs,F,h,hx=>by
  unfold Jj at h
  obtain ⟨d1,d2,G1,G2,e1,e2,h1,h2⟩:=h
  obtain ⟨c1,c,c2,F1,F0,F2,i1,i2,i3,i4,i5,i6⟩:=TG (vs:=l) (j:=j) h2 (by simpa [nth] using hx)
  refine ⟨d1 ++ c1,c,c2,G1 ++ F1,F0,F2,by simp [e1,i1],by simp [e2,i2],by simp [Jt,i3,Qq a h1],i4,?_,?_⟩
  ·intro E' y c' F' hE hs hF1 hF2 hy
   simp only [JD]
   unfold Jj
   exact ⟨d1,c1 ++ (c' ++ c2),G1,F1 ++ (F' ++ F2),by simp,by simp,U2 hE a (fun s hs'=>hs s (by simp [Jl,Ju,hs'])) (fun b hb=>hF1 b (by simp [hb])) h1,
    i5 E' y c' F' hE (fun s hs'=>hs s (by simp [Jl,Ju,hs'])) (fun b hb=>hF1 b (by simp [hb])) hF2 hy⟩
  ·intro i xi hne hi
   cases i with
   | zero=>
    simp [nth] at hi;subst hi
    refine ⟨d1,G1,h1,.inl fun b hb=>by simp [hb],fun k hk=>?_,.inl ?_⟩
    ·simp [Jt,e1,List.getElem?_append_left hk]
    ·simp [Jt]
   | succ i=>
    obtain ⟨ci,Fi,g1,g2,g3,g4⟩:=i6 i xi (by omega) (by simpa [nth] using hi)
    refine ⟨ci,Fi,g1,g2.imp (fun h b hb=>by simp [h b hb]) id,fun k hk=>?_,?_⟩
    ·rw [g3 k hk,e1]
     simp only [List.take_succ_cons,Jt]
     rw [List.getElem?_append_right (by rw [Qq a h1];omega),Qq a h1]
     congr 1;omega
    ·simp only [List.take_succ_cons,Jt,List.length_append,Qq a h1]
     rcases g4 with g4 | g4
     ·exact .inl (by omega)
     ·exact .inr (by omega)
theorem TH {R:D→List Value→List Nat→Prop} {sz:Nat} (hR:∀ d c G,R d c G→c.length=sz):∀ {l:List D} {j:Nat} {cs:List Value} {F:List Nat},Row R l cs F→j<l.length →
  ∃ c1 c c2 F1 F0 F2,cs=c1 ++ (c ++ c2)∧F=F1 ++ (F0 ++ F2)∧c1.length=j * sz∧R (l.getD j (.int 0)) c F0 ∧
   (∀ (R':D→List Value→List Nat→Prop) (y:D) (c':List Value) (F':List Nat),(∀ d c G,(∀ b ∈ G,b ∈ F1) ∨ (∀ b ∈ G,b ∈ F2)→R d c G→R' d c G)→R' y c' F' →
    Row R' (l.set j y) (c1 ++ (c' ++ c2)) (F1 ++ (F' ++ F2))) ∧
   ∀ i,i ≠ j→i<l.length→∃ ci Fi,R (l.getD i (.int 0)) ci Fi∧((∀ b ∈ Fi,b ∈ F1) ∨ (∀ b ∈ Fi,b ∈ F2))∧(∀ k,k<ci.length→ci[k]?=cs[i * sz + k]?) ∧
    (i * sz + ci.length≤c1.length ∨ c1.length + c.length≤i * sz)
 | [],_,_,_,_,h=>by simp at h
 | a :: l,0,cs,F,h,_=>by
  obtain ⟨c1,c2,F1,F2,e1,e2,h1,h2⟩:=h
  refine ⟨[],c1,c2,[],F1,F2,by simp [e1],by simp [e2],by simp,by simpa using h1,?_,?_⟩
  ·intro R' y c' F' hR' hy
   exact ⟨c',c2,F',F2,rfl,rfl,hy,HM (fun d _ c G hG hd=>hR' d c G (.inr hG) hd) h2⟩
  ·intro i hne hi
   cases i with
   | zero=>exact absurd rfl hne
   | succ i=>
    obtain ⟨ci,Fi,g1,g2,g3⟩:=TE hR (l:=l) (i:=i) h2 (by simpa using hi)
    refine ⟨ci,Fi,by simpa using g1,.inr g2,fun k hk=>?_,.inr ?_⟩
    ·rw [g3 k hk,e1,List.getElem?_append_right (by rw [hR _ _ _ h1,Nat.succ_mul];omega),hR _ _ _ h1]
     congr 1;rw [Nat.succ_mul];omega
    ·rw [Nat.succ_mul,hR _ _ _ h1];simp
 | a :: l,j + 1,cs,F,h,hj=>by
  obtain ⟨d1,d2,G1,G2,e1,e2,h1,h2⟩:=h
  obtain ⟨c1,c,c2,F1,F0,F2,i1,i2,i3,i4,i5,i6⟩:=TH hR (l:=l) (j:=j) h2 (by simpa using hj)
  refine ⟨d1 ++ c1,c,c2,G1 ++ F1,F0,F2,by simp [e1,i1],by simp [e2,i2],by simp [i3,hR _ _ _ h1,Nat.succ_mul,Nat.add_comm],by simpa using i4,?_,?_⟩
  ·intro R' y c' F' hR' hy
   refine ⟨d1,c1 ++ (c' ++ c2),G1,F1 ++ (F' ++ F2),by simp,by simp,hR' a d1 G1 (.inl fun b hb=>by simp [hb]) h1,?_⟩
   exact i5 R' y c' F' (fun d c G hG hd=>hR' d c G (hG.imp (fun h b hb=>by simp [h b hb]) id) hd) hy
  ·intro i hne hi
   cases i with
   | zero=>
    refine ⟨d1,G1,by simpa using h1,.inl fun b hb=>by simp [hb],fun k hk=>?_,.inl ?_⟩
    ·simp [e1,List.getElem?_append_left hk]
    ·simp
   | succ i=>
    obtain ⟨ci,Fi,g1,g2,g3,g4⟩:=i6 i (by omega) (by simpa using hi)
    refine ⟨ci,Fi,by simpa using g1,g2.imp (fun h b hb=>by simp [h b hb]) id,fun k hk=>?_,?_⟩
    ·rw [g3 k hk,e1,List.getElem?_append_right (by rw [hR _ _ _ h1,Nat.succ_mul];omega),hR _ _ _ h1]
     congr 1;rw [Nat.succ_mul];omega
    ·rw [Nat.succ_mul,List.length_append,hR _ _ _ h1]
     rcases g4 with g4 | g4
     ·exact .inl (by omega)
     ·exact .inr (by omega)
theorem Vj {w:World} {L:Ji} {cs c:List Value} {n:Nat} (h:L.holds w cs) (hl:n + c.length≤cs.length) (hc:∀ k,k<c.length→c[k]?=cs[n + k]?):(L.shift n).holds w c:=by
 have hcs:cs=cs.take n ++ (c ++ cs.drop (n + c.length)):=by
  have h1:(cs.drop n).take c.length=c:=by
   apply List.ext_getElem?
   intro k
   by_cases hk:k<c.length
   ·rw [List.getElem?_take_of_lt hk,List.getElem?_drop,hc k hk]
   ·rw [List.getElem?_eq_none (by simp;omega),List.getElem?_eq_none (by omega)]
  rw [← h1]
  conv=>lhs;rw [← List.take_append_drop n cs]
  congr 1
  conv=>lhs;rw [← List.take_append_drop c.length (cs.drop n)]
  rw [List.drop_drop,h1]
 have hlen:(cs.take n).length=n:=by simp;omega
 have:=QK (w:=w) (L:=L) (c1:=cs.take n) (c:=c) (c2:=cs.drop (n + c.length)) (by rw [← hcs];exact h)
 rwa [hlen] at this
mutual
theorem Vk (o:Bool):∀ (t:Ty) (d:D),Jd (dec o t d)=[]
 | .int _,_=>rfl
 | .bool,_=>rfl
 | .str,_=>rfl
 | .struct ts,d=>by unfold dec Jd;exact TI o ts 0 d
 | .slice _,_=>by unfold dec;cases o<;>rfl
 | .arr _ _,_=>rfl
 | .ptr,_=>rfl
 | .fn,_=>rfl
 | .imap,_=>rfl
 | .other,_=>rfl
theorem TI (o:Bool):∀ (ts:List Ty) (j:Nat) (d:D),Jl (Uz o ts j d)=[]
 | [],_,_=>rfl
 | t :: ts,j,d=>by unfold Uz Jl;rw [Vk o t,TI o ts];rfl
end
mutual
theorem Vl:∀ (t:Ty) (d:D),t.plain=true→vsz (dec true t d)=t.size
 | .int _,_,_=>rfl
 | .bool,_,_=>rfl
 | .str,_,_=>rfl
 | .struct ts,d,h=>by unfold Ty.plain at h;unfold dec vsz Ty.size;exact TJ ts 0 d h
 | .slice _,_,_=>rfl
 | .arr _ _,_,_=>by simp [dec,vsz,Ty.size]
 | .ptr,_,h=>by simp [Ty.plain] at h
 | .fn,_,h=>by simp [Ty.plain] at h
 | .imap,_,h=>by simp [Ty.plain] at h
 | .other,_,h=>by simp [Ty.plain] at h
theorem TJ:∀ (ts:List Ty) (j:Nat) (d:D),Ty.plains ts=true→Jt (Uz true ts j d)=Ty.sizes ts
 | [],_,_,_=>rfl
 | t :: ts,j,d,h=>by
  unfold Ty.plains at h;rw [Je] at h
  unfold Uz Jt Ty.sizes;rw [Vl t _ h.1,TJ ts _ d h.2]
end
theorem TK:∀ {ts:List Ty} {vs:List V} {j:Nat} {x y:V},Qw ts vs=true→nth vs j=some x→(∀ t,shp t x=true→shp t y=true)→Qw ts (JD vs j y)=true
 | [],[],_,_,_,_,h,_=>by simp [nth] at h
 | [],_ :: _,_,_,_,h,_,_=>by simp [Qw] at h
 | _ :: _,[],_,_,_,h,_,_=>by simp [Qw] at h
 | t :: ts,v :: vs,0,x,y,hs,hx,hy=>by
  simp [nth] at hx;subst hx
  simp only [Qw,JD,Je] at hs ⊢
  exact ⟨hy t hs.1,hs.2⟩
 | t :: ts,v :: vs,j + 1,x,y,hs,hx,hy=>by
  simp only [Qw,JD,Je] at hs ⊢
  exact ⟨hs.1,TK hs.2 (by simpa [nth] using hx) hy⟩
theorem Mb {t:Ty} {v x y:V} {j:Nat} {c:List Jk} (hs:shp t v=true) (hx:v.step j=some (c,x)) (hy:∀ t,shp t x=true→shp t y=true):shp t (v.put j y)=true:=by
 cases v with
 | agg vs=>
  cases t<;>simp [shp] at hs
  simp only [V.step] at hx
  split at hx
  ·rename_i v hv
   simp at hx;obtain ⟨_,rfl⟩:=hx
   simp only [V.put,shp]
   exact TK hs hv hy
  ·simp at hx
 | own e l=>cases t<;>simp [shp] at hs;simp [V.put,shp,hs]
 | arr n e l=>cases t<;>simp [shp,Je] at hs;simp [V.put,shp,hs,Je]
 | _=>cases t<;>simp_all [shp,V.step]
def US (w w':World):Ji→Nat→Prop
 | .reg _,_=>True
 | .mem a,n=>∀ b:Addr,b.block=a.block→b.spot=none→((b.off<a.off ∨ a.off + n≤b.off)→w'.cell? b=w.cell? b)∧w'.frozen? b=w.frozen? b∧((∃ v,w.cell? b=some v)→∃ v,w'.cell? b=some v)
theorem TL (a:Addr) (i:Nat) (h:a.spot=none):(a.add i).spot=none:=by
 unfold Addr.add;split<;>simp_all
theorem Xj {w:World} {a:Addr} {v:Value} (h:w.cell? a=some v):a.spot=none:=by
 unfold World.cell? at h
 split at h
 ·split at h
  ·simp at h
  ·rename_i hs;simpa using hs
 ·simp at h
theorem TM {w w':World} {a:Addr} {i n:Nat} {cs:List Value} (h:US w w' (.mem (a.add i)) n) (hc:QG w a cs) (hi:cs.length≤i):QG w' a cs:=by
 intro j v hj
 have hv:=hc j v hj
 have hjl:=(List.getElem?_eq_some_iff.1 hj).1
 rw [(h (a.add j) (by simp [Q1]) (Xj hv)).1 (.inl (by simp [OB];omega))]
 exact hv
theorem TN {w w':World} {a:Addr} {i n k:Nat} {cs:List Value} (h:US w w' (.mem (a.add i)) n) (hc:QG w (a.add k) cs) (hi:i + n≤k):QG w' (a.add k) cs:=by
 intro j v hj
 have hv:=hc j v hj
 rw [(h ((a.add k).add j) (by simp [Q1]) (Xj hv)).1 (.inr (by simp [OB];omega))]
 exact hv
theorem Xk {w w':World} {a:Addr} {i n m:Nat} (h:US w w' (.mem (a.add i)) n) (hc:QJ w a m):QJ w' a m:=by
 intro j hj
 obtain ⟨⟨v,hv⟩,hf⟩:=hc j hj
 obtain ⟨_,h2,h3⟩:=h (a.add j) (by simp [Q1]) (Xj hv)
 exact ⟨h3 ⟨v,hv⟩,by rw [h2];exact hf⟩
theorem Wd {w:World} {a:Addr} {c1 c2:List Value} (h1:QG w a c1) (h2:QG w (a.add c1.length) c2):QG w a (c1 ++ c2):=by
 intro j v hj
 by_cases hlt:j<c1.length
 ·rw [List.getElem?_append_left hlt] at hj;exact h1 j v hj
 ·rw [List.getElem?_append_right (by omega)] at hj
  have:=h2 _ v hj
  rw [Hh] at this
  rwa [show c1.length + (j - c1.length)=j by omega] at this
theorem Yv {w w':World} {a:Addr} {c1 c c' c2:List Value} (hlen:c'.length=c.length) (hc:QG w a (c1 ++ (c ++ c2)))
  (hp:w'.heap[a.block]?=w.heap[a.block]? ∨ ∃ k n,US w w' (.mem (a.add (c1.length + k))) n∧k + n≤c.length) (hc':QG w' (a.add c1.length) c'):QG w' a (c1 ++ (c' ++ c2)):=by
 have h1:QG w a c1:=Xg (L:=.mem a) hc
 have h2:QG w (a.add (c1.length + c.length)) c2:=by
  have:=Xh (w:=w) (L:=.mem a) (c1:=c1 ++ c) (c2:=c2) (by rw [List.append_assoc];exact hc)
  rw [List.length_append] at this
  exact this
 refine Wd ?_ (Wd hc' ?_)
 ·rcases hp with hp | ⟨k,n,hp,hk⟩
  ·exact Hz hp h1
  ·exact TM hp h1 (by omega)
 ·rw [Hh,hlen]
  rcases hp with hp | ⟨k,n,hp,hk⟩
  ·exact Hz (by simpa [Q1] using hp) h2
  ·exact TN hp h2 (by omega)
end Go.Rai
namespace Go.Rai
mutual
theorem TO:∀ (t:Ty) {v:V},shp t v=true→dec true t (enc v)=v
 | .int k,v,hs=>by cases v<;>simp [shp] at hs;simp [enc,dec,D.toInt,UC hs]
 | .bool,v,hs=>by cases v<;>simp [shp] at hs;simp [enc,dec,D.toBool]
 | .str,v,hs=>by cases v<;>simp [shp] at hs;simp [enc,dec,D.toStr]
 | .struct ts,v,hs=>by
  cases v with
  | agg vs=>
   unfold shp at hs
   unfold enc dec
   have h3:=TP ts [] hs
   simp at h3
   rw [h3]
  | _=>simp [shp] at hs
 | .slice e,v,hs=>by
  cases v with
  | own e' l=>
   unfold shp at hs
   rw [← Ty.beq_eq _ _ hs]
   simp [enc,dec,D.items]
  | _=>simp [shp] at hs
 | .arr n e,v,hs=>by
  cases v with
  | arr m e' l=>
   unfold shp at hs
   rw [Je] at hs
   rw [← Ty.beq_eq _ _ hs.2,← Nat.eq_of_beq_eq_true hs.1]
   simp [enc,dec,D.items]
  | _=>simp [shp] at hs
 | .ptr,v,hs=>by cases v<;>simp [shp] at hs
 | .fn,v,hs=>by cases v<;>simp [shp] at hs
 | .imap,v,hs=>by cases v<;>simp [shp] at hs
 | .other,v,hs=>by cases v<;>simp [shp] at hs
theorem TP:∀ (ts:List Ty) (pre:List D) {vs:List V},Qw ts vs=true→Uz true ts pre.length (.node (pre ++ Un vs))=vs
 | [],pre,vs,hs=>by cases vs<;>simp [Qw] at hs;rfl
 | t :: ts,pre,vs,hs=>by
  cases vs with
  | nil=>simp [Qw] at hs
  | cons v vs=>
   unfold Qw at hs
   rw [Je] at hs
   unfold Uz
   have h1:(D.node (pre ++ Un (v :: vs))).fld pre.length=enc v:=by simp [D.fld,D.items,Un]
   rw [h1,TO t hs.1]
   have h3:=TP ts (pre ++ [enc v]) hs.2
   simp [Un] at h3 ⊢
   exact h3
end
def TQ (w w':World) (L:Ji) (x:V):Prop:=∃ c,L.holds w c∧L.holds w' c∧c.length=vsz x
theorem Mc {w w':World} {L:Ji} {x:V} (h:TQ w w' L x) (hx:QB x=true):L.head w'=L.head w:=by
 obtain ⟨c,h1,h2,h3⟩:=h
 have:vsz x=1:=by cases x<;>simp [QB] at hx<;>rfl
 rw [this] at h3
 match c,h3 with
 | [v],_=>rw [JL h1,JL h2]
theorem TR {E:Env} {e:Ty} {l:List D} {i:Nat} {c1 c2:List Value} {v:Value} {F1 F2:List Nat} (hp:(Ty.slice e).plain=true) (h2:Row (DIn true E.w (.slice e)) (l.take i) c1 F1)
  (h3:Row (DIn true E.w (.slice e)) (l.drop (i + 1)) c2 F2) (hi:i<l.length) {j:Nat} (hj:j<l.length) :
  ∃ c' F0 pre post,InV E (if j=i then .undef else dec true (.slice e) (l.getD j (.int 0))) c' F0∧(∀ b ∈ F0,b ∈ F1 ++ F2)∧c1 ++ v :: c2=pre ++ (c' ++ post)∧pre.length=j * (Ty.slice e).size:=by
 have hl1:c1.length=i:=by
  have:=Hj (fun d c G hd=>Qn (.slice e) hd) h2
  rw [List.length_take] at this
  simp only [Ty.size] at this
  omega
 by_cases hji:j=i
 ·subst hji
  rw [if_pos rfl]
  refine ⟨[v],[],c1,c2,by unfold InV;exact ⟨⟨v,rfl⟩,rfl⟩,by simp,by simp,by simp [Ty.size,hl1]⟩
 ·rw [if_neg hji]
  by_cases hlt:j<i
  ·obtain ⟨d1,c',d2,G1,F0,G2,e1,e2,e3,e4,e5⟩:=U4 (j:=j) (fun d c G hd=>Qn (.slice e) hd) h2 (by rw [List.length_take];omega)
   have eg:(l.take i).getD j (.int 0)=l.getD j (.int 0):=by
    rw [List.getD_eq_getElem?_getD,List.getD_eq_getElem?_getD,List.getElem?_take_of_lt hlt]
   rw [eg] at e4
   refine ⟨c',F0,d1,d2 ++ v :: c2,UR _ hp e4,fun b hb=>by rw [e2];simp [hb],by rw [e1];simp,e3⟩
  ·obtain ⟨d1,c',d2,G1,F0,G2,e1,e2,e3,e4,e5⟩:=U4 (j:=j - (i + 1)) (fun d c G hd=>Qn (.slice e) hd) h3 (by rw [List.length_drop];omega)
   have eg:(l.drop (i + 1)).getD (j - (i + 1)) (.int 0)=l.getD j (.int 0):=by
    rw [List.getD_eq_getElem?_getD,List.getD_eq_getElem?_getD,List.getElem?_drop]
    congr 2
    omega
   rw [eg] at e4
   refine ⟨c',F0,c1 ++ v :: d1,d2,UR _ hp e4,fun b hb=>by rw [e2];simp [hb],by rw [e1];simp,?_⟩
   simp only [Ty.size] at e3 ⊢
   simp only [List.length_append,List.length_cons,hl1,e3]
   omega
theorem C5 (E:Env) {w':World}:∀ (p:List Nat) (v:V) (cs:List Value) (F:List Nat) (L:Ji),InV E v cs F→L.holds E.w cs→L.holds w' cs→QN E.w w' F →
  Jf w' v L p=Jf E.w v L p∧∀ x Lx,Jf E.w v L p=some (x,Lx)→TQ E.w w' Lx x
 | [],v,cs,F,L,hv,hL,hL',hF=>⟨rfl,fun x Lx h=>by
   simp [Jf] at h
   rw [← h.2,← h.1]
   exact ⟨cs,hL,hL',Qq v hv⟩⟩
 | j :: p,v,cs,F,L,hv,hL,hL',hF=>by
  cases v with
  | agg vs=>
   cases hj:nth vs j with
   | none=>simp [Jf,hj]
   | some xj=>
    unfold InV at hv
    obtain ⟨c1,c,c2,F1,F0,F2,e1,e2,e3,e4,e5⟩:=U3 hv hj
    subst e1
    simp only [Jf,hj]
    exact C5 E p xj c F0 _ e4 (by rw [← e3];exact QK hL) (by rw [← e3];exact QK hL') (fun b hb=>hF b (by rw [e2];simp [hb]))
  | own e l=>
   simp only [Jf]
   by_cases hjl:j<l.length
   ·simp only [hjl,if_true]
    unfold InV at hv
    obtain ⟨hp,A,c,hcs,hsl⟩:=hv
    have hhd:L.head E.w=some (.slice A l.length c):=JL (by rw [← hcs];exact hL)
    have hhd':L.head w'=some (.slice A l.length c):=JL (by rw [← hcs];exact hL')
    rw [hhd,hhd']
    rcases hsl with ⟨h0,_⟩ | ⟨a,cs0,F',hA,hr,hc,hf,hlc,hb,ho⟩
    ·subst h0;simp at hjl
    ·subst hA
     obtain ⟨c1,c',c2,F1,F0,F2,e1,e2,e3,e4,e5⟩:=U4 (fun d c G hd=>Qn e hd) hr hjl
     subst e1
     have hkb:=hF a.block (by rw [hf];simp)
     refine C5 E p _ c' F0 (.mem (a.add (j * e.size))) (UR e hp e4) ?_ ?_ (fun b hb=>hF b (by rw [hf,e2];simp [hb]))
     ·have:=QK (L:=.mem a) (w:=E.w) (c1:=c1) (c:=c') (c2:=c2) hc
      rw [e3] at this
      exact this
     ·have:=QK (L:=.mem a) (w:=w') (c1:=c1) (c:=c') (c2:=c2) (Hz hkb hc)
      rw [e3] at this
      exact this
   ·simp only [hjl,if_false];simp
  | arr n e l=>
   simp only [Jf]
   by_cases hjl:j<l.length
   ·simp only [hjl,if_true]
    unfold InV at hv
    obtain ⟨hn,hfl,hr⟩:=hv
    obtain ⟨c1,c',c2,F1,F0,F2,e1,e2,e3,e4,e5⟩:=U4 (fun d c G hd=>Qn e hd) hr hjl
    subst e1
    exact C5 E p _ c' F0 _ (UR e (Hi e hfl) e4) (by rw [← e3];exact QK hL) (by rw [← e3];exact QK hL') (fun b hb=>hF b (by rw [e2];simp [hb]))
   ·simp only [hjl,if_false];simp
  | ownh e l i=>
   simp only [Jf]
   by_cases hjl:j<l.length
   ·simp only [hjl,if_true]
    unfold InV at hv
    obtain ⟨hi,hp,a,c,c1,v0,c2,F1,F2,hcs,h2,h3,hc,hf,hlc,hb,ho⟩:=hv
    have hhd:L.head E.w=some (.slice (some a) l.length c):=JL (by rw [← hcs];exact hL)
    have hhd':L.head w'=some (.slice (some a) l.length c):=JL (by rw [← hcs];exact hL')
    rw [hhd,hhd']
    obtain ⟨c',F0,pre,post,g1,g2,g3,g4⟩:=TR (v:=v0) hp h2 h3 hi hjl
    have hkb:=hF a.block (by rw [hf];simp)
    rw [g3] at hc
    refine C5 E p _ c' F0 (.mem (a.add (j * (Ty.slice e).size))) g1 ?_ ?_ (fun b hb=>hF b (by rw [hf];exact List.mem_cons_of_mem _ (g2 b hb)))
    ·have:=QK (L:=.mem a) (w:=E.w) (c1:=pre) (c:=c') (c2:=post) hc
     rw [g4] at this
     exact this
    ·have:=QK (L:=.mem a) (w:=w') (c1:=pre) (c:=c') (c2:=post) (Hz hkb hc)
     rw [g4] at this
     exact this
   ·simp only [hjl,if_false];simp
  | lst e vs=>
   cases hj:nth vs j with
   | none=>simp [Jf,hj]
   | some xj=>
    simp only [Jf,hj]
    unfold InV at hv
    obtain ⟨a,c,cs0,F',hcs,hlc,he,hr,hc,hf,hb,ho⟩:=hv
    have hhd:L.head E.w=some (.slice (some a) vs.length c):=JL (by rw [← hcs];exact hL)
    have hhd':L.head w'=some (.slice (some a) vs.length c):=JL (by rw [← hcs];exact hL')
    rw [hhd,hhd']
    obtain ⟨c1,c',c2,F1,F0,F2,e1,e2,e3,e4,e5⟩:=U3 hr hj
    subst e1
    have hkb:=hF a.block (by rw [hf];simp)
    refine C5 E p xj c' F0 (.mem (a.add (Jt (vs.take j)))) e4 ?_ ?_ (fun b hb=>hF b (by rw [hf,e2];simp [hb]))
    ·have:=QK (L:=.mem a) (w:=E.w) (c1:=c1) (c:=c') (c2:=c2) hc
     rw [e3] at this
     exact this
    ·have:=QK (L:=.mem a) (w:=w') (c1:=c1) (c:=c') (c2:=c2) (Hz hkb hc)
     rw [e3] at this
     exact this
  | obox v0=>
   simp only [Jf]
   unfold InV at hv
   obtain ⟨a,cs0,F',hcs,hr,hc,hf,hb,ho⟩:=hv
   have hhd:L.head E.w=some (.pointer (some a)):=JL (by rw [← hcs];exact hL)
   have hhd':L.head w'=some (.pointer (some a)):=JL (by rw [← hcs];exact hL')
   rw [hhd,hhd']
   have hkb:=hF a.block (by rw [hf];simp)
   exact C5 E p v0 cs0 F' (.mem a) hr hc (Hz hkb hc) (fun b hb=>hF b (by rw [hf];simp [hb]))
  | fn f caps=>
   cases hj:nth caps j with
   | none=>simp [Jf,hj]
   | some xj=>
    simp only [Jf,hj]
    unfold InV at hv
    obtain ⟨vals,hcs,hr,hsz⟩:=hv
    have hhd:L.head E.w=some (.func (.func f) #[] vals):=JL (by rw [← hcs];exact hL)
    have hhd':L.head w'=some (.func (.func f) #[] vals):=JL (by rw [← hcs];exact hL')
    rw [hhd,hhd']
    obtain ⟨c1,c',c2,F1,F0,F2,e1,e2,e3,e4,e5⟩:=U3 hr hj
    refine C5 E p xj c' F0 _ e4 ?_ ?_ (fun b hb=>hF b (by rw [e2];simp [hb]))
    ·rw [e1,← e3];exact ⟨c2,by simp⟩
    ·rw [e1,← e3];exact ⟨c2,by simp⟩
  | _=>simp [Jf]
def TS (w w':World) (x x':V) (L:Ji):Prop:=QB x'=true→QB x=true∧L.head w'=L.head w
def Uj (w w':World) (v v':V) (L:Ji):Prop:=∀ q x' L',Jf w' v' L q=some (x',L')→∃ x0,Jf w v L q=some (x0,L')∧TS w w' x0 x' L'
def Q5 (al:Bool) (n:Nat) (w w':World) (v v':V) (L:Ji):Prop:=∀ q,q.length<n→∀ x' L',Jf w' v' L q=some (x',L')→∃ x0,Jf w v L q=some (x0,L')∧(al=true→TS w w' x0 x' L')
theorem Uj.n {w w':World} {v v':V} {L:Ji} {al:Bool} {n:Nat} (h:Uj w w' v v' L):Q5 al n w w' v v' L:=fun q _ x' L' hl=>by
 obtain ⟨x0,h1,h2⟩:=h q x' L' hl
 exact ⟨x0,h1,fun _=>h2⟩
theorem Q5.all {w w':World} {v v':V} {L:Ji} (h:∀ n,Q5 true n w w' v v' L):Uj w w' v v' L:=fun q x' L' hl=>by
 obtain ⟨x0,h1,h2⟩:=h (q.length + 1) q (Nat.lt_succ_self _) x' L' hl
 exact ⟨x0,h1,h2 rfl⟩
theorem Q5.mono {w w':World} {v v':V} {L:Ji} {al:Bool} {n m:Nat} (h:Q5 al n w w' v v' L) (hm:m≤n):Q5 al m w w' v v' L:=fun q hq=>h q (Nat.lt_of_lt_of_le hq hm)
theorem Uj.frame {E:Env} {w':World} {v:V} {cs:List Value} {F:List Nat} {L:Ji} (h1:InV E v cs F) (h2:L.holds E.w cs) (h3:L.holds w' cs) (h4:QN E.w w' F):Uj E.w w' v v L:=by
 intro q x' L' hl
 obtain ⟨g1,g2⟩:=C5 E q v cs F L h1 h2 h3 h4
 rw [g1] at hl
 exact ⟨x',hl,fun ho=>⟨ho,Mc (g2 x' L' hl) ho⟩⟩
end Go.Rai
namespace Go.Rai
def Md (E:Env) (v:V) (p:List Nat) (cs:List Value) (L:Ji) (x:V) (Lx:Ji) (csx:List Value) (Fr:List Nat):Prop:=
 ∀ (Q:Prop) (E':Env) (y:V) (csy:List Value) (Fy:List Nat),
  vsz y=vsz x→(Q ∨ v.outer p=false→∀ t,shp t x=true→shp t y=true)→InV E' y csy Fy→Lx.holds E'.w csy →
  ((∃ ds,Lx=.reg ds)→csy=csx)→Le E E'→(∀ s ∈ Jd v,Ux E E' s) →
  (∀ b ∈ Fr,(∀ a,Lx=.mem a→b ≠ a.block)→E'.w.heap[b]?=E.w.heap[b]?) →
  US E.w E'.w Lx (vsz x) →
  (∀ a,L=.mem a→(∀ a',Lx=.mem a'→a'.block ≠ a.block)→E'.w.heap[a.block]?=E.w.heap[a.block]?) →
  ∃ cs' F',InV E' (v.set p y) cs' F'∧F'.Perm (Fr ++ Fy)∧L.holds E'.w cs'∧vsz (v.set p y)=vsz v∧((∃ ds,L=.reg ds)→cs'=cs)∧(Q→∀ t,shp t v=true→shp t (v.set p y)=true)∧(∀ al n,Q5 al n E.w E'.w x y Lx→Q5 al (n + p.length) E.w E'.w v (v.set p y) L)
def U5 (E:Env) (v:V) (p:List Nat) (cs:List Value) (F:List Nat) (L:Ji) (x:V) (Lx:Ji):Prop:=
 ∃ csx Fx Fr,InV E x csx Fx∧Lx.holds E.w csx∧F.Perm (Fr ++ Fx) ∧
  ((∃ a,Lx=.mem a∧a.block ∈ Fr) ∨ (∃ k,Lx=L.shift k∧k + vsz x≤vsz v) ∨ (∃ ds,Lx=.reg ds))∧Md E v p cs L x Lx csx Fr
theorem Yw {F1 F0 F2 Fr Fx:List Nat} (h:F0.Perm (Fr ++ Fx)):(F1 ++ (F0 ++ F2)).Perm ((F1 ++ (Fr ++ F2)) ++ Fx):=by
 have h1:(F0 ++ F2).Perm ((Fr ++ F2) ++ Fx):=by
  refine (h.append_right F2).trans ?_
  rw [List.append_assoc,List.append_assoc]
  exact (List.perm_append_comm).append_left Fr
 have:=h1.append_left F1
 simpa [List.append_assoc] using this
theorem TT {F1 Fi F2 Fr Fy:List Nat} (h:Fi.Perm (Fr ++ Fy)):(F1 ++ (Fi ++ F2)).Perm ((F1 ++ (Fr ++ F2)) ++ Fy):=Yw h
theorem Xl {v:V} {j:Nat} {p:List Nat} {x:V} {c:List Jk} (h:v.step j=some (c,x)) (ho:(∀ e l,v ≠ .own e l)∧(∀ n e l,v ≠ .arr n e l)):v.outer (j :: p)=x.outer p:=by
 cases v with
 | own e l=>exact absurd rfl (ho.1 e l)
 | arr n e l=>exact absurd rfl (ho.2 n e l)
 | _=>first | (simp only [V.outer,h]) | (simp [V.step] at h)
theorem Vm {v:V} {j:Nat} {p:List Nat} {x y:V} {c:List Jk} (h:v.step j=some (c,x)):v.set (j :: p) y=v.put j (x.set p y):=by
 simp only [V.set,h]
theorem Yx:∀ {vs:List V} {j:Nat} {x:V} {s:Nat},nth vs j=some x→s ∈ Jd x→s ∈ Jl vs
 | [],_,_,_,h,_=>by simp [nth] at h
 | a :: l,0,x,s,h,hs=>by simp [nth] at h;subst h;simp [Jl,Ju,hs]
 | a :: l,j + 1,x,s,h,hs=>by
  have:=Yx (vs:=l) (j:=j) (by simpa [nth] using h) hs
  simp [Jl,Ju,this]
theorem Me {l:List D} {i:Nat} {x d:D} (h:i<l.length):(l.set i x).getD i d=x:=by
 rw [List.getD_eq_getElem?_getD,List.getElem?_set_self h];rfl
theorem Mf {l:List D} {i j:Nat} {x d:D} (h:j ≠ i):(l.set j x).getD i d=l.getD i d:=by
 rw [List.getD_eq_getElem?_getD,List.getD_eq_getElem?_getD,List.getElem?_set_ne h]
theorem TU {E:Env} {e:Ty} {l:List D} {j:Nat} {p:List Nat} {cs:List Value} {F:List Nat} {L:Ji} {x:V} {Lx:Ji} (hp:e.plain=true)
  (hr:Row (DIn true E.w e) l cs F) (hL:L.holds E.w cs) (hj:j<l.length) (hnd:F.Nodup) (ha:∀ a,L=.mem a→a.block ∉ F)
  (ih:∀ ci Fi,InV E (dec true e (l.getD j (.int 0))) ci Fi→(L.shift (j * e.size)).holds E.w ci→Fi.Nodup→(∀ a,L.shift (j * e.size)=.mem a→a.block ∉ Fi)→U5 E (dec true e (l.getD j (.int 0))) p ci Fi (L.shift (j * e.size)) x Lx) :
  ∃ csx Fx Fr,InV E x csx Fx∧Lx.holds E.w csx∧F.Perm (Fr ++ Fx) ∧
   ((∃ a,Lx=.mem a∧a.block ∈ Fr) ∨ (∃ k,Lx=L.shift k∧k + vsz x≤l.length * e.size) ∨ (∃ ds,Lx=.reg ds)) ∧
   ∀ (E':Env) (y:V) (csy:List Value) (Fy:List Nat),
    vsz y=vsz x→(∀ t,shp t x=true→shp t y=true)→InV E' y csy Fy→Lx.holds E'.w csy →
    ((∃ ds,Lx=.reg ds)→csy=csx)→Le E E' →
    (∀ b ∈ Fr,(∀ a,Lx=.mem a→b ≠ a.block)→E'.w.heap[b]?=E.w.heap[b]?) →
    US E.w E'.w Lx (vsz x) →
    (∀ a,L=.mem a→(∀ a',Lx=.mem a'→a'.block ≠ a.block)→E'.w.heap[a.block]?=E.w.heap[a.block]?) →
    ∃ cs' F',Row (DIn true E'.w e) (l.set j (enc ((dec true e (l.getD j (.int 0))).set p y))) cs' F'∧F'.Perm (Fr ++ Fy)∧L.holds E'.w cs'∧((∃ ds,L=.reg ds)→cs'=cs) ∧
     (∀ al n,Q5 al n E.w E'.w x y Lx→∀ i,i<l.length→Q5 al (n + p.length) E.w E'.w (dec true e (l.getD i (.int 0))) (dec true e ((l.set j (enc ((dec true e (l.getD j (.int 0))).set p y))).getD i (.int 0))) (L.shift (i * e.size))):=by
 obtain ⟨c1,c,c2,F1,F0,F2,e1,e2,e3,e4,e5,e6⟩:=TH (fun d c G hd=>Qn e hd) hr hj
 subst e1;subst e2
 have hx0:=UR (E:=E) e hp e4
 have hclen:c.length=e.size:=Qn e e4
 have hsh:(L.shift (j * e.size)).holds E.w c:=by rw [← e3];exact QK hL
 have hnd0:F0.Nodup:=(List.nodup_append.1 (List.nodup_append.1 hnd).2.1).1
 have hblk:∀ a,L.shift (j * e.size)=.mem a→a.block ∉ F0:=by
  intro a hLa hin
  cases L with
  | reg ds=>simp [Ji.shift] at hLa
  | mem a0=>
   simp only [Ji.shift,Ji.mem.injEq] at hLa
   subst hLa
   rw [Q1] at hin
   exact ha a0 rfl (by simp [hin])
 obtain ⟨csx,Fx,Fr,i1,i2,i3,i4,i5⟩:=ih c F0 hx0 hsh hnd0 hblk
 have d10:∀ b ∈ F1,b ∉ F0:=fun b h1 h0=>(List.nodup_append.1 hnd).2.2 b h1 b (by simp [h0]) rfl
 have d20:∀ b ∈ F2,b ∉ F0:=fun b h1 h0=>(List.nodup_append.1 (List.nodup_append.1 hnd).2.1).2.2 b h0 b h1 rfl
 have hFr:∀ b ∈ Fr,b ∈ F0:=fun b hb=>(i3.mem_iff).2 (by simp [hb])
 refine ⟨csx,Fx,F1 ++ (Fr ++ F2),i1,i2,Yw i3,?_,?_⟩
 ·rcases i4 with ⟨a,h1,h2⟩ | ⟨k,h1,h2⟩ | h1
  ·exact .inl ⟨a,h1,by simp [h2]⟩
  ·refine .inr (.inl ⟨j * e.size + k,by rw [← C4];exact h1,?_⟩)
   rw [Vl e _ hp] at h2
   have:(j + 1) * e.size≤l.length * e.size:=Nat.mul_le_mul_right _ hj
   rw [Nat.succ_mul] at this
   omega
  ·exact .inr (.inr h1)
 ·intro E' y csy Fy hy1 hy2 hy3 hy4 hy5 hE hFr' hps hLa
  have hother:∀ b,b ∉ F0→(∀ a,L=.mem a→b ≠ a.block)→∀ a,Lx=.mem a→b ≠ a.block:=by
   intro b hb hbl a hLx hab
   rcases i4 with ⟨a',h1,h2⟩ | ⟨k,h1,h2⟩ | ⟨ds,h1⟩
   ·rw [h1] at hLx;simp at hLx;subst hLx
    exact hb (hFr _ (hab ▸ h2))
   ·rw [h1,C4] at hLx
    cases L with
    | reg ds=>simp [Ji.shift] at hLx
    | mem a0=>
     simp only [Ji.shift,Ji.mem.injEq] at hLx
     subst hLx
     rw [Q1] at hab
     exact hbl a0 rfl hab
   ·rw [h1] at hLx;cases hLx
  have hS1:QN E.w E'.w F1:=fun b hb=>hFr' b (by simp [hb]) (hother b (d10 b hb) (fun a hLa' hab=>ha a hLa' (by simp [← hab,hb])))
  have hS2:QN E.w E'.w F2:=fun b hb=>hFr' b (by simp [hb]) (hother b (d20 b hb) (fun a hLa' hab=>ha a hLa' (by simp [← hab,hb])))
  obtain ⟨ci,Fi,k1,k2,k3,k4,k5,k6,k7⟩:=i5 True E' y csy Fy hy1 (fun _=>hy2) hy3 hy4 hy5 hE (by rw [Vk];simp)
   (fun b hb=>hFr' b (by simp [hb])) hps (by
    intro a hLa'
    cases L with
    | reg ds=>simp [Ji.shift] at hLa'
    | mem a0=>
     simp only [Ji.shift,Ji.mem.injEq] at hLa'
     subst hLa'
     rw [Q1]
     intro hne
     exact hLa a0 rfl hne)
  have hshp:shp e ((dec true e (l.getD j (.int 0))).set p y)=true:=k6 trivial e (Vf e _ hp)
  have hcilen:ci.length=c.length:=by rw [Qq _ k1,k4,Vl e _ hp,hclen]
  have hLnew:L.holds E'.w (c1 ++ (ci ++ c2)):=by
   cases L with
   | reg ds=>
    have:ci=c:=k5 ⟨_,rfl⟩
    rw [this];exact hL
   | mem a0=>
    refine Yv (c:=c) hcilen hL ?_ (by rw [e3];exact k3)
    rcases i4 with ⟨a,h1,h2⟩ | ⟨k,h1,h2⟩ | ⟨ds,h1⟩
    ·refine .inl (hLa a0 rfl (fun a' ha' hab=>?_))
     rw [h1] at ha';simp at ha';subst ha'
     exact ha a0 rfl (by rw [← hab];simp [hFr _ h2])
    ·refine .inr ⟨k,vsz x,?_,by rw [Vl e _ hp] at h2;omega⟩
     rw [h1,C4] at hps
     rw [e3];exact hps
    ·exact .inl (hLa a0 rfl (fun a' ha' _=>by rw [h1] at ha';cases ha'))
  refine ⟨c1 ++ (ci ++ c2),F1 ++ (Fi ++ F2),e5 (DIn true E'.w e) _ ci Fi ?_ (Vg e hshp k1),TT k2,hLnew,?_,?_⟩
  ·intro d cc G hG hd
   refine H3 hE.size e (fun b hb=>?_) hd
   rcases hG with hG | hG
   ·exact hS1 b (hG b hb)
   ·exact hS2 b (hG b hb)
  ·intro hreg
   cases L with
   | reg ds=>
    have:ci=c:=k5 ⟨_,rfl⟩
    rw [this]
   | mem a0=>obtain ⟨ds,hds⟩:=hreg;cases hds
  ·intro al n hY i hi
   by_cases hij:i=j
   ·subst hij
    rw [Me hi,TO e hshp]
    exact k7 al n hY
   ·rw [Mf (fun h=>hij h.symm)]
    obtain ⟨di,Gi,g1,g2,g3,g4⟩:=e6 i hij hi
    have gl:di.length=e.size:=Qn e g1
    have hle:i * e.size + di.length≤(c1 ++ (c ++ c2)).length:=by
     rw [Hj (fun d c G hd=>Qn e hd) hr,gl]
     have:(i + 1) * e.size≤l.length * e.size:=Nat.mul_le_mul_right _ hi
     rw [Nat.succ_mul] at this;omega
    refine (Uj.frame (UR e hp g1) (Vj hL hle g3) (Vj hLnew (by simp only [List.length_append] at hle ⊢;omega) (fun k hk=>?_)) ?_).n
    ·rw [g3 k hk,TF hcilen]
     rcases g4 with g4 | g4
     ·exact .inl (by omega)
     ·exact .inr (by omega)
    ·rcases g2 with g2 | g2
     ·exact fun b hb=>hS1 b (g2 b hb)
     ·exact fun b hb=>hS2 b (g2 b hb)
theorem Mg {vs:List V} {j:Nat} {y:V}:(JD vs j y).take j=vs.take j:=by
 induction vs generalizing j with
 | nil=>rfl
 | cons a l ih=>cases j with
  | zero=>rfl
  | succ j=>simp [JD,ih]
theorem Mh {vs:List V} {j:Nat} {x y:V} (h:nth vs j=some x):nth (JD vs j y) j=some y:=by
 induction vs generalizing j with
 | nil=>simp [nth] at h
 | cons a l ih=>cases j with
  | zero=>rfl
  | succ j=>simp only [JD,nth] at h ⊢;exact ih h
theorem Mi {vs:List V} {i j:Nat} {y:V} (h:i ≠ j):nth (JD vs j y) i=nth vs i:=by
 induction vs generalizing i j with
 | nil=>rfl
 | cons a l ih=>cases j with
  | zero=>cases i with
   | zero=>exact absurd rfl h
   | succ i=>rfl
  | succ j=>cases i with
   | zero=>rfl
   | succ i=>simp only [JD,nth];exact ih (by omega)
theorem Mj {vs:List V} {i j:Nat} {x y:V} (h:nth vs j=some x) (hy:vsz y=vsz x):Jt ((JD vs j y).take i)=Jt (vs.take i):=by
 induction vs generalizing i j with
 | nil=>rfl
 | cons a l ih=>cases j with
  | zero=>
   simp [nth] at h;subst h
   cases i with
   | zero=>rfl
   | succ i=>simp [JD,Jt,hy]
  | succ j=>cases i with
   | zero=>rfl
   | succ i=>
    simp only [JD,nth,List.take_succ_cons,Jt] at h ⊢
    rw [ih h]
theorem Yy {E:Env} {vs:List V} {j:Nat} {xj:V} {p:List Nat} {cs:List Value} {F:List Nat} {L:Ji} {x:V} {Lx:Ji}
  (hr:Jj E vs cs F) (hL:L.holds E.w cs) (hj:nth vs j=some xj) (hnd:F.Nodup) (ha:∀ a,L=.mem a→a.block ∉ F)
  (ih:∀ ci Fi,InV E xj ci Fi→(L.shift (Jt (vs.take j))).holds E.w ci→Fi.Nodup→(∀ a,L.shift (Jt (vs.take j))=.mem a→a.block ∉ Fi)→U5 E xj p ci Fi (L.shift (Jt (vs.take j))) x Lx) :
  ∃ csx Fx Fr,InV E x csx Fx∧Lx.holds E.w csx∧F.Perm (Fr ++ Fx) ∧
   ((∃ a,Lx=.mem a∧a.block ∈ Fr) ∨ (∃ k,Lx=L.shift k∧k + vsz x≤Jt vs) ∨ (∃ ds,Lx=.reg ds)) ∧
   ∀ (Q:Prop) (E':Env) (y:V) (csy:List Value) (Fy:List Nat),
    vsz y=vsz x→(Q ∨ xj.outer p=false→∀ t,shp t x=true→shp t y=true)→InV E' y csy Fy→Lx.holds E'.w csy →
    ((∃ ds,Lx=.reg ds)→csy=csx)→Le E E'→(∀ s ∈ Jl vs,Ux E E' s) →
    (∀ b ∈ Fr,(∀ a,Lx=.mem a→b ≠ a.block)→E'.w.heap[b]?=E.w.heap[b]?) →
    US E.w E'.w Lx (vsz x) →
    (∀ a,L=.mem a→(∀ a',Lx=.mem a'→a'.block ≠ a.block)→E'.w.heap[a.block]?=E.w.heap[a.block]?) →
    ∃ cs' F',Jj E' (JD vs j (xj.set p y)) cs' F'∧F'.Perm (Fr ++ Fy)∧L.holds E'.w cs'∧vsz (xj.set p y)=vsz xj∧((∃ ds,L=.reg ds)→cs'=cs)∧cs'.length=cs.length∧(Q→∀ t,shp t xj=true→shp t (xj.set p y)=true) ∧
     (∀ al n,Q5 al n E.w E'.w x y Lx→∀ i xi',nth (JD vs j (xj.set p y)) i=some xi'→∃ xi,nth vs i=some xi∧Jt ((JD vs j (xj.set p y)).take i)=Jt (vs.take i)∧Q5 al (n + p.length) E.w E'.w xi xi' (L.shift (Jt (vs.take i)))):=by
 obtain ⟨c1,c,c2,F1,F0,F2,e1,e2,e3,e4,e5,e6⟩:=TG hr hj
 subst e1;subst e2
 have hclen:c.length=vsz xj:=Qq xj e4
 have hsh:(L.shift (Jt (vs.take j))).holds E.w c:=by rw [← e3];exact QK hL
 have hnd0:F0.Nodup:=(List.nodup_append.1 (List.nodup_append.1 hnd).2.1).1
 have hblk:∀ a,L.shift (Jt (vs.take j))=.mem a→a.block ∉ F0:=by
  intro a hLa hin
  cases L with
  | reg ds=>simp [Ji.shift] at hLa
  | mem a0=>
   simp only [Ji.shift,Ji.mem.injEq] at hLa
   subst hLa
   rw [Q1] at hin
   exact ha a0 rfl (by simp [hin])
 obtain ⟨csx,Fx,Fr,i1,i2,i3,i4,i5⟩:=ih c F0 e4 hsh hnd0 hblk
 have d10:∀ b ∈ F1,b ∉ F0:=fun b h1 h0=>(List.nodup_append.1 hnd).2.2 b h1 b (by simp [h0]) rfl
 have d20:∀ b ∈ F2,b ∉ F0:=fun b h1 h0=>(List.nodup_append.1 (List.nodup_append.1 hnd).2.1).2.2 b h0 b h1 rfl
 have hFr:∀ b ∈ Fr,b ∈ F0:=fun b hb=>(i3.mem_iff).2 (by simp [hb])
 refine ⟨csx,Fx,F1 ++ (Fr ++ F2),i1,i2,Yw i3,?_,?_⟩
 ·rcases i4 with ⟨a,h1,h2⟩ | ⟨k,h1,h2⟩ | h1
  ·exact .inl ⟨a,h1,by simp [h2]⟩
  ·refine .inr (.inl ⟨Jt (vs.take j) + k,by rw [← C4];exact h1,?_⟩)
   have:=Vi hj
   omega
  ·exact .inr (.inr h1)
 ·intro Q E' y csy Fy hy1 hy2 hy3 hy4 hy5 hE hal hFr' hps hLa
  have hother:∀ b,b ∉ F0→(∀ a,L=.mem a→b ≠ a.block)→∀ a,Lx=.mem a→b ≠ a.block:=by
   intro b hb hbl a hLx hab
   rcases i4 with ⟨a',h1,h2⟩ | ⟨k,h1,h2⟩ | ⟨ds,h1⟩
   ·rw [h1] at hLx;simp at hLx;subst hLx
    exact hb (hFr _ (hab ▸ h2))
   ·rw [h1,C4] at hLx
    cases L with
    | reg ds=>simp [Ji.shift] at hLx
    | mem a0=>
     simp only [Ji.shift,Ji.mem.injEq] at hLx
     subst hLx
     rw [Q1] at hab
     exact hbl a0 rfl hab
   ·rw [h1] at hLx;cases hLx
  have hS1:QN E.w E'.w F1:=fun b hb=>hFr' b (by simp [hb]) (hother b (d10 b hb) (fun a hLa' hab=>ha a hLa' (by simp [← hab,hb])))
  have hS2:QN E.w E'.w F2:=fun b hb=>hFr' b (by simp [hb]) (hother b (d20 b hb) (fun a hLa' hab=>ha a hLa' (by simp [← hab,hb])))
  obtain ⟨ci,Fi,k1,k2,k3,k4,k5,k6,k7⟩:=i5 Q E' y csy Fy hy1 hy2 hy3 hy4 hy5 hE (fun s hs=>hal s (Yx hj hs))
   (fun b hb=>hFr' b (by simp [hb])) hps (by
    intro a hLa'
    cases L with
    | reg ds=>simp [Ji.shift] at hLa'
    | mem a0=>
     simp only [Ji.shift,Ji.mem.injEq] at hLa'
     subst hLa'
     rw [Q1]
     intro hne
     exact hLa a0 rfl hne)
  have hcilen:ci.length=c.length:=by rw [Qq _ k1,k4,hclen]
  have hLnew:L.holds E'.w (c1 ++ (ci ++ c2)):=by
   cases L with
   | reg ds=>
    have:ci=c:=k5 ⟨_,rfl⟩
    rw [this];exact hL
   | mem a0=>
    refine Yv (c:=c) hcilen hL ?_ (by rw [e3];exact k3)
    rcases i4 with ⟨a,h1,h2⟩ | ⟨k,h1,h2⟩ | ⟨ds,h1⟩
    ·refine .inl (hLa a0 rfl (fun a' ha' hab=>?_))
     rw [h1] at ha';simp at ha';subst ha'
     exact ha a0 rfl (by rw [← hab];simp [hFr _ h2])
    ·refine .inr ⟨k,vsz x,?_,by omega⟩
     rw [h1,C4] at hps
     rw [e3];exact hps
    ·exact .inl (hLa a0 rfl (fun a' ha' _=>by rw [h1] at ha';cases ha'))
  refine ⟨c1 ++ (ci ++ c2),F1 ++ (Fi ++ F2),e5 E' _ ci Fi hE hal hS1 hS2 k1,TT k2,hLnew,k4,?_,by simp [hcilen],k6,?_⟩
  ·intro hreg
   cases L with
   | reg ds=>
    have:ci=c:=k5 ⟨_,rfl⟩
    rw [this]
   | mem a0=>obtain ⟨ds,hds⟩:=hreg;cases hds
  ·intro al n hY i xi' hi
   by_cases hij:i=j
   ·subst hij
    refine ⟨xj,hj,by rw [Mg],?_⟩
    rw [Mh hj] at hi
    simp only [oj] at hi
    subst hi
    exact k7 al n hY
   ·rw [Mi hij] at hi
    refine ⟨xi',hi,Mj hj k4,?_⟩
    obtain ⟨di,Gi,g1,g2,g3,g4⟩:=e6 i xi' hij hi
    have gl:di.length=vsz xi':=Qq _ g1
    have hle:Jt (vs.take i) + di.length≤(c1 ++ (c ++ c2)).length:=by
     rw [CJ vs hr,gl];exact Vi hi
    refine (Uj.frame g1 (Vj hL hle g3) (Vj hLnew (by simp only [List.length_append] at hle ⊢;omega) (fun k hk=>?_)) ?_).n
    ·rw [g3 k hk,TF hcilen]
     rcases g4 with g4 | g4
     ·exact .inl (by omega)
     ·exact .inr (by omega)
    ·rcases g2 with g2 | g2
     ·exact fun b hb=>hS1 b (g2 b hb)
     ·exact fun b hb=>hS2 b (g2 b hb)
theorem Yz {α:Type}:∀ (l:List α) (j:Nat) (x:α),(JD l j x).length=l.length
 | [],_,_=>rfl
 | a :: l,0,x=>rfl
 | a :: l,j + 1,x=>by simp [JD,Yz l j x]
theorem Cp {w w':World} {L:Ji} {cs:List Value} (h:L.holds w cs) (hb:∀ a,L=.mem a→w'.heap[a.block]?=w.heap[a.block]?):L.holds w' cs:=by
 cases L with
 | reg ds=>exact h
 | mem a=>exact Hz (hb a rfl) h
theorem TV {t e:Ty} {l l':List D} (h:shp t (.own e l)=true):shp t (.own e l')=true:=by cases t<;>simp_all [shp]
theorem TW {t e:Ty} {n:Nat} {l l':List D} (h:shp t (.arr n e l)=true):shp t (.arr n e l')=true:=by cases t<;>simp_all [shp]
theorem YA {L Lx:Ji} {a:Addr} {F Fr Fx:List Nat} {n:Nat} {x:V} (ha:∀ a0,L=.mem a0→a0.block ∉ a.block :: F) (i3:F.Perm (Fr ++ Fx))
  (i4:(∃ a',Lx=.mem a'∧a'.block ∈ Fr) ∨ (∃ k,Lx=(Ji.mem a).shift k∧k + vsz x≤n) ∨ (∃ ds,Lx=.reg ds)):∀ a0,L=.mem a0→∀ a',Lx=.mem a'→a'.block ≠ a0.block:=by
 intro a0 hL0 a' hLx hab
 rcases i4 with ⟨a1,h1,h2⟩ | ⟨k',h1,h2⟩ | ⟨ds,h1⟩
 ·rw [h1] at hLx;cases hLx
  exact ha a0 hL0 (by rw [← hab];simp [(i3.mem_iff).2 (List.mem_append_left Fx h2)])
 ·rw [h1] at hLx;simp only [Ji.shift,Ji.mem.injEq] at hLx;subst hLx
  rw [Q1] at hab
  exact ha a0 hL0 (by rw [← hab];simp)
 ·rw [h1] at hLx;cases hLx
theorem YB {L Lx:Ji} {a:Addr} {Fr:List Nat} {n m:Nat} {x:V}
  (i4:(∃ a',Lx=.mem a'∧a'.block ∈ Fr) ∨ (∃ k,Lx=(Ji.mem a).shift k∧k + vsz x≤n) ∨ (∃ ds,Lx=.reg ds)) :
  (∃ a',Lx=.mem a'∧a'.block ∈ a.block :: Fr) ∨ (∃ k,Lx=L.shift k∧k + vsz x≤m) ∨ (∃ ds,Lx=.reg ds):=by
 rcases i4 with ⟨a'',h1,h2⟩ | ⟨k',h1,h2⟩ | h1
 ·exact .inl ⟨a'',h1,by simp [h2]⟩
 ·exact .inl ⟨a.add k',by rw [h1];rfl,by simp [Q1]⟩
 ·exact .inr (.inr h1)
theorem Xm {E E':Env} {Lx:Ji} {a:Addr} {F Fr Fx:List Nat} {n m:Nat} {x:V} (hnd:a.block ∉ F) (i3:F.Perm (Fr ++ Fx))
  (i4:(∃ a',Lx=.mem a'∧a'.block ∈ Fr) ∨ (∃ k,Lx=(Ji.mem a).shift k∧k + vsz x≤n) ∨ (∃ ds,Lx=.reg ds))
  (hblk:(∀ a',Lx=.mem a'→a'.block ≠ a.block)→E'.w.heap[a.block]?=E.w.heap[a.block]?) (hps:US E.w E'.w Lx (vsz x)) (ho:QJ E.w a m):QJ E'.w a m:=by
 rcases i4 with ⟨a'',h1,h2⟩ | ⟨k',h1,h2⟩ | ⟨ds,h1⟩
 ·refine Oz (hblk (fun a' h' hab=>?_)) ho
  rw [h1] at h';cases h'
  exact hnd (by rw [← hab];exact (i3.mem_iff).2 (List.mem_append_left Fx h2))
 ·rw [h1] at hps
  exact Xk hps ho
 ·exact Oz (hblk (fun a' h'=>by rw [h1] at h';cases h')) ho
theorem Mk {E:Env} {e:Ty} {l:List D} {j:Nat} {p:List Nat} {cs:List Value} {F:List Nat} {L:Ji} {x:V} {Lx:Ji}
  (hv:InV E (.own e l) cs F) (hL:L.holds E.w cs) (hl:Jf E.w (.own e l) L (j :: p)=some (x,Lx)) (hnd:F.Nodup) (ha:∀ a,L=.mem a→a.block ∉ F)
  (ih:∀ ci Fi Li,Jf E.w (dec true e (l.getD j (.int 0))) Li p=some (x,Lx)→InV E (dec true e (l.getD j (.int 0))) ci Fi→Li.holds E.w ci→Fi.Nodup→(∀ a,Li=.mem a→a.block ∉ Fi)→U5 E (dec true e (l.getD j (.int 0))) p ci Fi Li x Lx) :
  U5 E (.own e l) (j :: p) cs F L x Lx:=by
 simp only [Jf] at hl
 split at hl
 ·rename_i hjl
  split at hl
  ·rename_i a n k hh
   unfold InV at hv
   obtain ⟨hp,A,c,hcs,hsl⟩:=hv
   have hhd:L.head E.w=some (.slice A l.length c):=JL (by rw [← hcs];exact hL)
   rw [hhd] at hh
   simp only [oj,Value.slice.injEq] at hh
   obtain ⟨rfl,_,_⟩:=hh
   rcases hsl with ⟨h0,_⟩ | ⟨a',cs0,F',hA,hr,hc,hf,hlc,hb,ho⟩
   ·subst h0;simp at hjl
   ·simp only [oj] at hA
    subst hA
    subst hf
    have hnd':=(List.nodup_cons.1 hnd)
    obtain ⟨csx,Fx,Fr,i1,i2,i3,i4,i5⟩:=TU (L:=.mem a) hp hr hc hjl hnd'.2 (fun a0 h0=>by cases h0;exact hnd'.1)
     (fun ci Fi h1 h2 h3 h4=>ih ci Fi _ hl h1 h2 h3 h4)
    have hdiff:=YA ha i3 i4
    refine ⟨csx,Fx,a.block :: Fr,i1,i2,by simpa using i3.cons a.block,YB i4,?_⟩
    have hst:(V.own e l).step j=some ([.le (j + 1) l.length],dec true e (l.getD j (.int 0))):=rfl
    intro Q E' y csy Fy hy1 hy2 hy3 hy4 hy5 hE hal hFr' hps hLa
    have hcompat:=hy2 (.inr rfl)
    have hblk:(∀ a',Lx=.mem a'→a'.block ≠ a.block)→E'.w.heap[a.block]?=E.w.heap[a.block]?:=fun h=>hFr' a.block (by simp) (fun a' h' hab=>h a' h' hab.symm)
    obtain ⟨cs',F',k1,k2,k3,_,k7⟩:=i5 E' y csy Fy hy1 hcompat hy3 hy4 hy5 hE (fun b hb=>hFr' b (by simp [hb])) hps (fun a0 h0=>by cases h0;exact hblk)
    rw [Vm hst]
    refine ⟨cs,a.block :: F',?_,by simpa using k2.cons a.block,Cp hL (fun a0 h0=>hLa a0 h0 (hdiff a0 h0)),rfl,fun _=>rfl,fun hQ t ht=>TV ht,?_⟩
    ·simp only [V.put]
     unfold InV
     exact ⟨hp,some a,c,by simpa using hcs,.inr ⟨a,cs',F',rfl,k1,k3,rfl,by simpa using hlc,by have:=hE.size;omega,fun ho'=>Xm hnd'.1 i3 i4 hblk hps (ho ho')⟩⟩
    ·intro al n hY q hq x' L' hlq
     have hL2:L.holds E'.w cs:=Cp hL (fun a0 h0=>hLa a0 h0 (hdiff a0 h0))
     have hh2:L.head E'.w=some (.slice (some a) l.length c):=JL (by rw [← hcs];exact hL2)
     simp only [V.put] at hlq
     cases q with
     | nil=>
      simp only [Jf,oj,pj] at hlq
      obtain ⟨rfl,rfl⟩:=hlq
      exact ⟨_,rfl,fun _ _=>⟨rfl,by rw [hh2,hhd]⟩⟩
     | cons i q=>
      simp only [Jf,hh2,List.length_set] at hlq
      simp only [Jf,hhd]
      by_cases hi:i<l.length
      ·simp only [hi,if_true] at hlq ⊢
       exact k7 al n hY i hi q (by simp only [List.length_cons] at hq;omega) x' L' hlq
      ·simp [hi] at hlq
  ·simp at hl
 ·simp at hl
theorem Ml {E:Env} {v0:V} {j:Nat} {p:List Nat} {cs:List Value} {F:List Nat} {L:Ji} {x:V} {Lx:Ji}
  (hv:InV E (.obox v0) cs F) (hL:L.holds E.w cs) (hl:Jf E.w (.obox v0) L (j :: p)=some (x,Lx)) (hnd:F.Nodup) (ha:∀ a,L=.mem a→a.block ∉ F)
  (ih:∀ ci Fi Li,Jf E.w v0 Li p=some (x,Lx)→InV E v0 ci Fi→Li.holds E.w ci→Fi.Nodup→(∀ a,Li=.mem a→a.block ∉ Fi)→U5 E v0 p ci Fi Li x Lx) :
  U5 E (.obox v0) (j :: p) cs F L x Lx:=by
 simp only [Jf] at hl
 split at hl
 ·rename_i a hh
  unfold InV at hv
  obtain ⟨a',cs0,F',hcs,hr,hc,hf,hb,ho⟩:=hv
  have hhd:L.head E.w=some (.pointer (some a')):=JL (by rw [← hcs];exact hL)
  rw [hhd] at hh
  simp only [oj,Value.pointer.injEq] at hh
  subst hh
  subst hf
  have hnd':=(List.nodup_cons.1 hnd)
  obtain ⟨csx,Fx,Fr,i1,i2,i3,i4,i5⟩:=ih cs0 F' (.mem a') hl hr hc hnd'.2 (fun a0 h0=>by cases h0;exact hnd'.1)
  have hdiff:=YA ha i3 i4
  refine ⟨csx,Fx,a'.block :: Fr,i1,i2,by simpa using i3.cons a'.block,YB i4,?_⟩
  have hst:(V.obox v0).step j=some ([],v0):=rfl
  intro Q E' y csy Fy hy1 hy2 hy3 hy4 hy5 hE hal hFr' hps hLa
  have hblk:(∀ a1,Lx=.mem a1→a1.block ≠ a'.block)→E'.w.heap[a'.block]?=E.w.heap[a'.block]?:=fun h=>hFr' a'.block (by simp) (fun a1 h' hab=>h a1 h' hab.symm)
  obtain ⟨cs',F'',k1,k2,k3,k4,k5,k6,k7⟩:=i5 Q E' y csy Fy hy1 (by rw [Xl hst ⟨by simp,by simp⟩] at hy2;exact hy2) hy3 hy4 hy5 hE (by simpa [Jd] using hal) (fun b hb=>hFr' b (by simp [hb])) hps (fun a0 h0=>by cases h0;exact hblk)
  rw [Vm hst]
  have hlen:cs'.length=cs0.length:=by rw [Qq _ k1,k4,Qq _ hr]
  refine ⟨cs,a'.block :: F'',?_,by simpa using k2.cons a'.block,Cp hL (fun a0 h0=>hLa a0 h0 (hdiff a0 h0)),rfl,fun _=>rfl,fun hQ t ht=>by cases t<;>simp [shp] at ht,?_⟩
  ·simp only [V.put]
   unfold InV
   refine ⟨a',cs',F'',hcs,k1,k3,rfl,by have:=hE.size;omega,?_⟩
   rw [hlen]
   exact Xm hnd'.1 i3 i4 hblk hps ho
  ·intro al n hY q hq x' L' hlq
   have hL2:L.holds E'.w cs:=Cp hL (fun a0 h0=>hLa a0 h0 (hdiff a0 h0))
   have hh2:L.head E'.w=some (.pointer (some a')):=JL (by rw [← hcs];exact hL2)
   simp only [V.put] at hlq
   cases q with
   | nil=>
    simp only [Jf,oj,pj] at hlq
    obtain ⟨rfl,rfl⟩:=hlq
    exact ⟨_,rfl,fun _ h=>by simp [QB] at h⟩
   | cons i q=>
    simp only [Jf,hh2] at hlq
    simp only [Jf,hhd]
    exact k7 al n hY q (by simp only [List.length_cons] at hq;omega) x' L' hlq
 ·simp at hl
theorem Mm {E:Env} {e:Ty} {vs:List V} {xj:V} {j:Nat} {p:List Nat} {cs:List Value} {F:List Nat} {L:Ji} {x:V} {Lx:Ji}
  (hv:InV E (.lst e vs) cs F) (hL:L.holds E.w cs) (hj:nth vs j=some xj) (hl:Jf E.w (.lst e vs) L (j :: p)=some (x,Lx)) (hnd:F.Nodup) (ha:∀ a,L=.mem a→a.block ∉ F)
  (ih:∀ ci Fi Li,Jf E.w xj Li p=some (x,Lx)→InV E xj ci Fi→Li.holds E.w ci→Fi.Nodup→(∀ a,Li=.mem a→a.block ∉ Fi)→U5 E xj p ci Fi Li x Lx) :
  U5 E (.lst e vs) (j :: p) cs F L x Lx:=by
 simp only [Jf] at hl
 rw [hj] at hl
 simp only at hl
 split at hl
 ·rename_i a n k hh
  unfold InV at hv
  obtain ⟨a',c,cs0,F',hcs,hlc,he,hr,hc,hf,hb,ho⟩:=hv
  have hhd:L.head E.w=some (.slice (some a') vs.length c):=JL (by rw [← hcs];exact hL)
  rw [hhd] at hh
  simp only [oj,Value.slice.injEq] at hh
  obtain ⟨rfl,_,_⟩:=hh
  subst hf
  have hnd':=(List.nodup_cons.1 hnd)
  obtain ⟨csx,Fx,Fr,i1,i2,i3,i4,i5⟩:=Yy (L:=.mem a') hr hc hj hnd'.2 (fun a0 h0=>by cases h0;exact hnd'.1) (fun ci Fi h1 h2 h3 h4=>ih ci Fi _ hl h1 h2 h3 h4)
  have hdiff:=YA ha i3 i4
  refine ⟨csx,Fx,a'.block :: Fr,i1,i2,by simpa using i3.cons a'.block,YB i4,?_⟩
  have hst:(V.lst e vs).step j=some ([],xj):=by simp [V.step,hj]
  intro Q E' y csy Fy hy1 hy2 hy3 hy4 hy5 hE hal hFr' hps hLa
  have hblk:(∀ a1,Lx=.mem a1→a1.block ≠ a'.block)→E'.w.heap[a'.block]?=E.w.heap[a'.block]?:=fun h=>hFr' a'.block (by simp) (fun a1 h' hab=>h a1 h' hab.symm)
  obtain ⟨cs',F'',k1,k2,k3,k4,k5,k5',k6,k7⟩:=i5 Q E' y csy Fy hy1 (by rw [Xl hst ⟨by simp,by simp⟩] at hy2;exact hy2) hy3 hy4 hy5 hE (by simpa [Jd] using hal) (fun b hb=>hFr' b (by simp [hb])) hps (fun a0 h0=>by cases h0;exact hblk)
  rw [Vm hst]
  have hvl:(JD vs j (xj.set p y)).length=vs.length:=Yz _ _ _
  refine ⟨cs,a'.block :: F'',?_,by simpa using k2.cons a'.block,Cp hL (fun a0 h0=>hLa a0 h0 (hdiff a0 h0)),rfl,fun _=>rfl,fun hQ t ht=>by cases t<;>simp [shp] at ht,?_⟩
  rotate_left
  ·intro al n hY q hq x' L' hlq
   have hL2:L.holds E'.w cs:=Cp hL (fun a0 h0=>hLa a0 h0 (hdiff a0 h0))
   have hh2:L.head E'.w=some (.slice (some a') vs.length c):=JL (by rw [← hcs];exact hL2)
   simp only [V.put] at hlq
   cases q with
   | nil=>
    simp only [Jf,oj,pj] at hlq
    obtain ⟨rfl,rfl⟩:=hlq
    exact ⟨_,rfl,fun _ _=>⟨rfl,by rw [hh2,hhd]⟩⟩
   | cons i q=>
    simp only [Jf,hh2] at hlq
    cases hi:nth (JD vs j (xj.set p y)) i with
    | none=>rw [hi] at hlq;simp at hlq
    | some xi'=>
     obtain ⟨xi,g1,g2,g3⟩:=k7 al n hY i xi' hi
     simp only [hi,g2] at hlq
     simp only [Jf,hhd,g1]
     exact g3 q (by simp only [List.length_cons] at hq;omega) x' L' hlq
  simp only [V.put]
  unfold InV
  exact ⟨a',c,cs',F'',by rw [hvl];exact hcs,by rw [hvl];exact hlc,he,k1,k3,rfl,by have:=hE.size;omega,Xm hnd'.1 i3 i4 hblk hps ho.1,by rw [Xi hj k4];exact Xm hnd'.1 i3 i4 hblk hps ho.2⟩
 ·simp at hl
theorem Mn {E:Env} {f:FuncId} {caps:List V} {xj:V} {j:Nat} {p:List Nat} {cs:List Value} {F:List Nat} {L:Ji} {x:V} {Lx:Ji}
  (hv:InV E (.fn f caps) cs F) (hL:L.holds E.w cs) (hj:nth caps j=some xj) (hl:Jf E.w (.fn f caps) L (j :: p)=some (x,Lx)) (hnd:F.Nodup) (ha:∀ a,L=.mem a→a.block ∉ F)
  (ih:∀ ci Fi Li,Jf E.w xj Li p=some (x,Lx)→InV E xj ci Fi→Li.holds E.w ci→Fi.Nodup→(∀ a,Li=.mem a→a.block ∉ Fi)→U5 E xj p ci Fi Li x Lx) :
  U5 E (.fn f caps) (j :: p) cs F L x Lx:=by
 simp only [Jf] at hl
 rw [hj] at hl
 simp only at hl
 split at hl
 ·rename_i fn0 fst vals0 hh
  unfold InV at hv
  obtain ⟨vals,hcs,hr,hsz⟩:=hv
  have hhd:L.head E.w=some (.func (.func f) #[] vals):=JL (by rw [← hcs];exact hL)
  rw [hhd] at hh
  simp only [oj,Value.func.injEq] at hh
  obtain ⟨_,_,rfl⟩:=hh
  obtain ⟨csx,Fx,Fr,i1,i2,i3,i4,i5⟩:=Yy (L:=.reg vals.toList) hr ⟨[],by simp⟩ hj hnd (fun a0 h0=>by cases h0) (fun ci Fi h1 h2 h3 h4=>ih ci Fi _ hl h1 h2 h3 h4)
  have hdiff:∀ a0,L=.mem a0→∀ a'',Lx=.mem a''→a''.block ≠ a0.block:=by
   intro a0 hL0 a'' hLx hab
   rcases i4 with ⟨a1,h1,h2⟩ | ⟨k',h1,h2⟩ | ⟨ds,h1⟩
   ·rw [h1] at hLx;cases hLx
    exact ha a0 hL0 (by rw [← hab];exact (i3.mem_iff).2 (List.mem_append_left Fx h2))
   ·rw [h1] at hLx;simp [Ji.shift] at hLx
   ·rw [h1] at hLx;cases hLx
  have hst:(V.fn f caps).step j=some ([],xj):=by simp [V.step,hj]
  refine ⟨csx,Fx,Fr,i1,i2,i3,?_,?_⟩
  ·rcases i4 with h1 | ⟨k',h1,h2⟩ | h1
   ·exact .inl h1
   ·exact .inr (.inr ⟨_,by rw [h1];rfl⟩)
   ·exact .inr (.inr h1)
  intro Q E' y csy Fy hy1 hy2 hy3 hy4 hy5 hE hal hFr' hps hLa
  obtain ⟨cs',F'',k1,k2,k3,k4,k5,k5',k6,k7⟩:=i5 Q E' y csy Fy hy1 (by rw [Xl hst ⟨by simp,by simp⟩] at hy2;exact hy2) hy3 hy4 hy5 hE (by simpa [Jd] using hal) hFr' hps (fun a0 h0=>by cases h0)
  rw [Vm hst]
  have:=k5 ⟨_,rfl⟩
  subst this
  refine ⟨cs,F'',?_,k2,Cp hL (fun a0 h0=>hLa a0 h0 (hdiff a0 h0)),rfl,fun _=>rfl,fun hQ t ht=>by cases t<;>simp [shp] at ht,?_⟩
  ·simp only [V.put]
   unfold InV
   exact ⟨vals,hcs,k1,by rw [Xi hj k4,Yz];exact hsz⟩
  ·intro al n hY q hq x' L' hlq
   have hL2:L.holds E'.w cs:=Cp hL (fun a0 h0=>hLa a0 h0 (hdiff a0 h0))
   have hh2:L.head E'.w=some (.func (.func f) #[] vals):=JL (by rw [← hcs];exact hL2)
   simp only [V.put] at hlq
   cases q with
   | nil=>
    simp only [Jf,oj,pj] at hlq
    obtain ⟨rfl,rfl⟩:=hlq
    exact ⟨_,rfl,fun _ h=>by simp [QB] at h⟩
   | cons i q=>
    simp only [Jf,hh2] at hlq
    cases hi:nth (JD caps j (xj.set p y)) i with
    | none=>rw [hi] at hlq;simp at hlq
    | some xi'=>
     obtain ⟨xi,g1,g2,g3⟩:=k7 al n hY i xi' hi
     simp only [hi,g2] at hlq
     simp only [Jf,hhd,g1]
     exact g3 q (by simp only [List.length_cons] at hq;omega) x' L' hlq
 ·simp at hl
theorem Mo {E:Env} {vs:List V} {xj:V} {j:Nat} {p:List Nat} {cs:List Value} {F:List Nat} {L:Ji} {x:V} {Lx:Ji}
  (hv:InV E (.agg vs) cs F) (hL:L.holds E.w cs) (hj:nth vs j=some xj) (hl:Jf E.w (.agg vs) L (j :: p)=some (x,Lx)) (hnd:F.Nodup) (ha:∀ a,L=.mem a→a.block ∉ F)
  (ih:∀ ci Fi Li,Jf E.w xj Li p=some (x,Lx)→InV E xj ci Fi→Li.holds E.w ci→Fi.Nodup→(∀ a,Li=.mem a→a.block ∉ Fi)→U5 E xj p ci Fi Li x Lx) :
  U5 E (.agg vs) (j :: p) cs F L x Lx:=by
 simp only [Jf] at hl
 rw [hj] at hl
 unfold InV at hv
 obtain ⟨csx,Fx,Fr,i1,i2,i3,i4,i5⟩:=Yy hv hL hj hnd ha (fun ci Fi h1 h2 h3 h4=>ih ci Fi _ hl h1 h2 h3 h4)
 refine ⟨csx,Fx,Fr,i1,i2,i3,by simpa [vsz] using i4,?_⟩
 have hst:(V.agg vs).step j=some ([],xj):=by simp [V.step,hj]
 intro Q E' y csy Fy hy1 hy2 hy3 hy4 hy5 hE hal hFr' hps hLa
 obtain ⟨cs',F',k1,k2,k3,k4,k5,k5',k6,k7⟩:=i5 Q E' y csy Fy hy1 (by rw [Xl hst ⟨by simp,by simp⟩] at hy2;exact hy2) hy3 hy4 hy5 hE (by simpa [Jd] using hal) hFr' hps hLa
 rw [Vm hst]
 refine ⟨cs',F',by simp only [V.put];unfold InV;exact k1,k2,k3,by simp only [V.put,vsz];exact Xi hj k4,k5,fun hQ t ht=>Mb ht hst (k6 hQ),?_⟩
 intro al n hY q hq x' L' hlq
 simp only [V.put] at hlq
 cases q with
 | nil=>
  simp only [Jf,oj,pj] at hlq
  obtain ⟨rfl,rfl⟩:=hlq
  exact ⟨_,rfl,fun _ h=>by simp [QB] at h⟩
 | cons i q=>
  simp only [Jf] at hlq
  cases hi:nth (JD vs j (xj.set p y)) i with
  | none=>rw [hi] at hlq;simp at hlq
  | some xi'=>
   obtain ⟨xi,g1,g2,g3⟩:=k7 al n hY i xi' hi
   simp only [hi,g2] at hlq
   simp only [Jf,g1]
   exact g3 q (by simp only [List.length_cons] at hq;omega) x' L' hlq
theorem Mp {E:Env} {n:Nat} {e:Ty} {l:List D} {j:Nat} {p:List Nat} {cs:List Value} {F:List Nat} {L:Ji} {x:V} {Lx:Ji}
  (hv:InV E (.arr n e l) cs F) (hL:L.holds E.w cs) (hl:Jf E.w (.arr n e l) L (j :: p)=some (x,Lx)) (hnd:F.Nodup) (ha:∀ a,L=.mem a→a.block ∉ F)
  (ih:∀ ci Fi Li,Jf E.w (dec true e (l.getD j (.int 0))) Li p=some (x,Lx)→InV E (dec true e (l.getD j (.int 0))) ci Fi→Li.holds E.w ci→Fi.Nodup→(∀ a,Li=.mem a→a.block ∉ Fi)→U5 E (dec true e (l.getD j (.int 0))) p ci Fi Li x Lx) :
  U5 E (.arr n e l) (j :: p) cs F L x Lx:=by
 simp only [Jf] at hl
 split at hl
 ·rename_i hjl
  unfold InV at hv
  obtain ⟨hn,hfl,hr⟩:=hv
  have hp:=Hi e hfl
  obtain ⟨csx,Fx,Fr,i1,i2,i3,i4,i5⟩:=TU hp hr hL hjl hnd ha (fun ci Fi h1 h2 h3 h4=>ih ci Fi _ hl h1 h2 h3 h4)
  refine ⟨csx,Fx,Fr,i1,i2,i3,by simpa [vsz,hn] using i4,?_⟩
  have hst:(V.arr n e l).step j=some ([.le (j + 1) l.length],dec true e (l.getD j (.int 0))):=rfl
  intro Q E' y csy Fy hy1 hy2 hy3 hy4 hy5 hE hal hFr' hps hLa
  obtain ⟨cs',F',k1,k2,k3,k4,k7⟩:=i5 E' y csy Fy hy1 (hy2 (.inr rfl)) hy3 hy4 hy5 hE hFr' hps hLa
  rw [Vm hst]
  refine ⟨cs',F',by simp only [V.put];unfold InV;exact ⟨by simpa using hn,hfl,k1⟩,k2,k3,rfl,k4,fun hQ t ht=>TW ht,?_⟩
  intro al n hY q hq x' L' hlq
  simp only [V.put] at hlq
  cases q with
  | nil=>
   simp only [Jf,oj,pj] at hlq
   obtain ⟨rfl,rfl⟩:=hlq
   exact ⟨_,rfl,fun _ h=>by simp [QB] at h⟩
  | cons i q=>
   simp only [Jf,List.length_set] at hlq
   simp only [Jf]
   by_cases hi:i<l.length
   ·simp only [hi,if_true] at hlq ⊢
    exact k7 al n hY i hi q (by simp only [List.length_cons] at hq;omega) x' L' hlq
   ·simp [hi] at hlq
 ·simp at hl
theorem Vn {v xj:V} {j:Nat} {p:List Nat} {c:List Jk} (hst:v.step j=some (c,xj)) (h:(v.get (j :: p)).isSome=true):(xj.get p).isSome=true:=by
 simp only [V.get,hst] at h
 cases hg:xj.get p with
 | none=>rw [hg] at h;simp at h
 | some r=>rfl
theorem OD (E:Env):∀ (p:List Nat) (v:V) (cs:List Value) (F:List Nat) (L:Ji) (x:V) (Lx:Ji),(v.get p).isSome=true →
  InV E v cs F→L.holds E.w cs→Jf E.w v L p=some (x,Lx)→F.Nodup→(∀ a,L=.mem a→a.block ∉ F)→U5 E v p cs F L x Lx
 | [],v,cs,F,L,x,Lx,_,hv,hL,hl,hnd,ha=>by
  simp only [Jf,oj,pj] at hl
  obtain ⟨rfl,rfl⟩:=hl
  refine ⟨cs,F,[],hv,hL,by simp,.inr (.inl ⟨0,by cases L<;>simp [Ji.shift,Addr.add],by omega⟩),?_⟩
  intro Q E' y csy Fy hy1 hy2 hy3 hy4 hy5 hE hal hFr' hps hLa
  exact ⟨csy,Fy,hy3,by simp,hy4,hy1,hy5,fun hQ=>hy2 (.inl hQ),fun _ _ h=>h⟩
 | j :: p,v,cs,F,L,x,Lx,hgt,hv,hL,hl,hnd,ha=>by
  cases v with
  | agg vs=>
   cases hj:nth vs j with
   | none=>simp [Jf,hj] at hl
   | some xj=>exact Mo hv hL hj hl hnd ha (fun ci Fi Li h0 h1 h2 h3 h4=>OD E p xj ci Fi Li x Lx (Vn (c:=[]) (by simp [V.step,hj]) hgt) h1 h2 h0 h3 h4)
  | own e l=>exact Mk hv hL hl hnd ha (fun ci Fi Li h0 h1 h2 h3 h4=>OD E p _ ci Fi Li x Lx (Vn rfl hgt) h1 h2 h0 h3 h4)
  | arr n e l=>exact Mp hv hL hl hnd ha (fun ci Fi Li h0 h1 h2 h3 h4=>OD E p _ ci Fi Li x Lx (Vn rfl hgt) h1 h2 h0 h3 h4)
  | obox v0=>exact Ml hv hL hl hnd ha (fun ci Fi Li h0 h1 h2 h3 h4=>OD E p _ ci Fi Li x Lx (Vn rfl hgt) h1 h2 h0 h3 h4)
  | lst e vs=>
   cases hj:nth vs j with
   | none=>simp [Jf,hj] at hl
   | some xj=>exact Mm hv hL hj hl hnd ha (fun ci Fi Li h0 h1 h2 h3 h4=>OD E p xj ci Fi Li x Lx (Vn (c:=[]) (by simp [V.step,hj]) hgt) h1 h2 h0 h3 h4)
  | fn f caps=>
   cases hj:nth caps j with
   | none=>simp [Jf,hj] at hl
   | some xj=>exact Mn hv hL hj hl hnd ha (fun ci Fi Li h0 h1 h2 h3 h4=>OD E p xj ci Fi Li x Lx (Vn (c:=[]) (by simp [V.step,hj]) hgt) h1 h2 h0 h3 h4)
  | ownh e l i=>simp [V.get,V.step] at hgt
  | _=>simp [Jf] at hl
end Go.Rai
namespace Go.Rai
theorem HO (E:Env):∀ (p:List Nat) (v:V) (cs:List Value) (F:List Nat) (L:Ji) (c:List Jk) (x:V),InV E v cs F→L.holds E.w cs→v.get p=some (c,x)→(∀ k ∈ c,k.ok) →
  ∃ Lx,Jf E.w v L p=some (x,Lx)
 | [],v,cs,F,L,c,x,hv,hL,hg,hc=>by
  simp only [V.get,oj,pj] at hg
  exact ⟨L,by simp [Jf,hg.2]⟩
 | j :: p,v,cs,F,L,c,x,hv,hL,hg,hc=>by
  simp only [V.get] at hg
  cases hst:v.step j with
  | none=>rw [hst] at hg;simp at hg
  | some r=>
   obtain ⟨k1,xj⟩:=r
   rw [hst] at hg
   simp only at hg
   cases hgx:xj.get p with
   | none=>rw [hgx] at hg;simp at hg
   | some r2=>
    obtain ⟨k2,x2⟩:=r2
    rw [hgx] at hg
    simp only [oj,pj] at hg
    obtain ⟨rfl,rfl⟩:=hg
    have hc1:∀ k ∈ k1,k.ok:=fun k hk=>hc k (by rw [Ju];exact .inl hk)
    have hc2:∀ k ∈ k2,k.ok:=fun k hk=>hc k (by rw [Ju];exact .inr hk)
    cases v with
    | agg vs=>
     simp only [V.step] at hst
     cases hj:nth vs j with
     | none=>rw [hj] at hst;simp at hst
     | some xj'=>
      rw [hj] at hst
      simp only [oj,pj] at hst
      obtain ⟨rfl,rfl⟩:=hst
      unfold InV at hv
      obtain ⟨c1,ci,c2,F1,F0,F2,e1,e2,e3,e4,e5⟩:=U3 hv hj
      subst e1
      simp only [Jf,hj]
      exact HO E p xj' ci F0 _ k2 x2 e4 (by rw [← e3];exact QK hL) hgx hc2
    | own e l=>
     simp only [V.step,oj,pj] at hst
     obtain ⟨rfl,rfl⟩:=hst
     have hjl:j<l.length:=hc1 (.le (j + 1) l.length) (by simp)
     simp only [Jf,hjl,if_true]
     unfold InV at hv
     obtain ⟨hp,A,cc,hcs,hsl⟩:=hv
     have hhd:L.head E.w=some (.slice A l.length cc):=JL (by rw [← hcs];exact hL)
     rw [hhd]
     rcases hsl with ⟨h0,_⟩ | ⟨a,cs0,F',hA,hr,hc',hf,hlc,hb,ho⟩
     ·subst h0;simp at hjl
     ·subst hA
      obtain ⟨c1,c',c2,F1,F0,F2,e1,e2,e3,e4,e5⟩:=U4 (fun d c G hd=>Qn e hd) hr hjl
      subst e1
      refine HO E p _ c' F0 (.mem (a.add (j * e.size))) k2 x2 (UR e hp e4) ?_ hgx hc2
      have:=QK (L:=.mem a) (w:=E.w) (c1:=c1) (c:=c') (c2:=c2) hc'
      rw [e3] at this
      exact this
    | arr n e l=>
     simp only [V.step,oj,pj] at hst
     obtain ⟨rfl,rfl⟩:=hst
     have hjl:j<l.length:=hc1 (.le (j + 1) l.length) (by simp)
     simp only [Jf,hjl,if_true]
     unfold InV at hv
     obtain ⟨hn,hfl,hr⟩:=hv
     obtain ⟨c1,c',c2,F1,F0,F2,e1,e2,e3,e4,e5⟩:=U4 (fun d c G hd=>Qn e hd) hr hjl
     subst e1
     exact HO E p _ c' F0 _ k2 x2 (UR e (Hi e hfl) e4) (by rw [← e3];exact QK hL) hgx hc2
    | lst e vs=>
     simp only [V.step] at hst
     cases hj:nth vs j with
     | none=>rw [hj] at hst;simp at hst
     | some xj'=>
      rw [hj] at hst
      simp only [oj,pj] at hst
      obtain ⟨rfl,rfl⟩:=hst
      simp only [Jf,hj]
      unfold InV at hv
      obtain ⟨a,cc,cs0,F',hcs,hlc,he,hr,hc',hf,hb,ho⟩:=hv
      have hhd:L.head E.w=some (.slice (some a) vs.length cc):=JL (by rw [← hcs];exact hL)
      rw [hhd]
      obtain ⟨c1,c',c2,F1,F0,F2,e1,e2,e3,e4,e5⟩:=U3 hr hj
      subst e1
      refine HO E p xj' c' F0 (.mem (a.add (Jt (vs.take j)))) k2 x2 e4 ?_ hgx hc2
      have:=QK (L:=.mem a) (w:=E.w) (c1:=c1) (c:=c') (c2:=c2) hc'
      rw [e3] at this
      exact this
    | obox v0=>
     simp only [V.step,oj,pj] at hst
     obtain ⟨rfl,rfl⟩:=hst
     simp only [Jf]
     unfold InV at hv
     obtain ⟨a,cs0,F',hcs,hr,hc',hf,hb,ho⟩:=hv
     have hhd:L.head E.w=some (.pointer (some a)):=JL (by rw [← hcs];exact hL)
     rw [hhd]
     exact HO E p v0 cs0 F' (.mem a) k2 x2 hr hc' hgx hc2
    | fn f caps=>
     simp only [V.step] at hst
     cases hj:nth caps j with
     | none=>rw [hj] at hst;simp at hst
     | some xj'=>
      rw [hj] at hst
      simp only [oj,pj] at hst
      obtain ⟨rfl,rfl⟩:=hst
      simp only [Jf,hj]
      unfold InV at hv
      obtain ⟨vals,hcs,hr,hsz⟩:=hv
      have hhd:L.head E.w=some (.func (.func f) #[] vals):=JL (by rw [← hcs];exact hL)
      rw [hhd]
      obtain ⟨c1,c',c2,F1,F0,F2,e1,e2,e3,e4,e5⟩:=U3 hr hj
      refine HO E p xj' c' F0 _ k2 x2 e4 ?_ hgx hc2
      rw [e1,← e3]
      exact ⟨c2,by simp⟩
    | _=>simp [V.step] at hst
end Go.Rai
namespace Go.Rai
theorem Ur:∀ (b:BL) (s t:Nat),Jb (Qj b s) t=if t=s then none else Jb b t
 | [],s,t=>by simp [Qj,Jb]
 | (k,v) :: r,s,t=>by
  have ih:=Ur r s t
  unfold Qj
  cases hk:Nat.beq k s with
  | true=>
   have hks:=Nat.eq_of_beq_eq_true hk
   simp only
   rw [ih]
   by_cases ht:t=s
   ·simp [ht]
   ·have:Nat.beq k t=false:=by
     cases h:Nat.beq k t with
     | false=>rfl
     | true=>exact absurd ((Nat.eq_of_beq_eq_true h).symm.trans hks) ht
    simp [ht,Jb,this]
  | false=>
   simp only [Jb]
   cases hkt:Nat.beq k t with
   | true=>
    have:=Nat.eq_of_beq_eq_true hkt
    have hne:t ≠ s:=by
     intro h;subst h;subst this
     rw [Nat.beq_refl] at hk;cases hk
    simp [hne]
   | false=>simpa using ih
theorem Mq (b:BL) (s t:Nat) (v:V):Jb (b ++ [(s,v)]) t=match Jb b t with | some x=>some x | none=>if t=s then some v else none:=by
 induction b with
 | nil=>
  simp only [List.nil_append,Jb]
  cases h:Nat.beq s t with
  | true=>have:=Nat.eq_of_beq_eq_true h;simp [this]
  | false=>
   have:t ≠ s:=by intro h';subst h';rw [Nat.beq_refl] at h;cases h
   simp [this]
 | cons x r ih=>
  obtain ⟨k,u⟩:=x
  simp only [List.cons_append,Jb]
  cases h:Nat.beq k t with
  | true=>rfl
  | false=>simpa using ih
theorem JG (b:BL) (s t:Nat) (v:V):Jb (Jp b s v) t=if t=s then some v else Jb b t:=by
 unfold Jp
 rw [Qd,Mq,Ur]
 by_cases h:t=s
 ·simp [h]
 ·simp only [h,if_false]
  cases Jb b t<;>simp
abbrev GT:=Nat→Option (List Value × List Nat)
def Uk (bl:BL) (G:GT) (X:List Nat) (b:Nat):Prop:=b ∈ X ∨ ∃ s c rc F,Jb bl s=some c∧G s=some (rc,F)∧b ∈ F
def Qk:Type:=Nat→Prop
instance anyK:Inhabited Qk:=⟨fun _=>True⟩
def Kept.K [Inhabited Qk]:Nat→Prop:=(default:Qk)
variable [Inhabited Qk]
def Ja (w:World) (bl:BL) (G:GT) (X:List Nat):Env:={ w:=w,S:=fun b=>b<w.heap.size∧¬ Uk bl G X b,K:=Kept.K,bl:=bl,G:=G }
structure Ok (w:World) (bl:BL) (G:GT) (X:List Nat):Prop where
 root:∀ s c,Jb bl s=some c→∃ rc F F0,G s=some (rc,F)∧InV (Ja w bl G X) c rc F0∧F0.Perm F∧F.Nodup∧∀ b ∈ F,b<w.heap.size∧b ∉ X
 apart:∀ s s' c c' rc rc' F F',s ≠ s'→Jb bl s=some c→Jb bl s'=some c'→G s=some (rc,F)→G s'=some (rc',F')→∀ b ∈ F,b ∉ F'
 xnd:X.Nodup
 xlt:∀ b ∈ X,b<w.heap.size
structure Jx (E E':Env) (N:Nat→Prop):Prop where
 le:Le E E'
 al:∀ s,¬ N s→Ux E E' s
theorem Jx.inV {E E':Env} {N:Nat→Prop} (h:Jx E E' N) {v:V} {cs:List Value} {F:List Nat} (hs:∀ s ∈ Jd v,¬ N s) (hF:QN E.w E'.w F) (hv:InV E v cs F):InV E' v cs F:=
 U2 h.le v (fun s hs'=>h.al s (hs s hs')) hF hv
theorem Ux.same {E E':Env} {s:Nat} (hb:Jb E'.bl s=Jb E.bl s) (hg:E'.G s=E.G s)
  (hl:∀ c rc F,Jb E.bl s=some c→E.G s=some (rc,F)→Uj E.w E'.w c c (.reg rc)):Ux E E' s:=by
 intro c' rc F' hc hgs
 rw [hb] at hc;rw [hg] at hgs
 exact ⟨c',F',hc,hgs,fun p x' L h=>hl c' rc F' hc hgs p x' L h⟩
theorem Uj.refl {w:World} {v:V} {L:Ji}:Uj w w v v L:=fun q x' L' h=>⟨x',h,fun ho=>⟨ho,rfl⟩⟩
theorem Ok.modifyN {w:World} {bl:BL} {G:GT} {X:List Nat} (h:Ok w bl G X) {s:Nat} {c:V} {rc:List Value} {F:List Nat} {p:List Nat} {x:V} {Lx:Ji}
  (hc:Jb bl s=some c) (hg:G s=some (rc,F)) (hl:Jf w c (.reg rc) p=some (x,Lx)) (hgt:(c.get p).isSome=true) :
  ∃ csx Fx Fr,InV (Ja w bl G X) x csx Fx∧Lx.holds w csx∧F.Perm (Fr ++ Fx) ∧
   ((∃ a,Lx=.mem a∧a.block ∈ Fr) ∨ (∃ ds,Lx=.reg ds)) ∧
   ∀ (w':World) (y:V) (csy:List Value) (Fy X':List Nat) (N:Nat→Prop),(∀ t,N t→t=s)→(N s→∀ t ct,Jb bl t=some ct→s ∉ Jd ct) →
    vsz y=vsz x→(c.outer p=false→∀ t,shp t x=true→shp t y=true) →
    w.heap.size≤w'.heap.size →
    (∀ b,b<w.heap.size→b ∉ Fx→(∀ a,Lx=.mem a→b ≠ a.block)→w'.heap[b]?=w.heap[b]?) →
    US w w' Lx (vsz x)→Lx.holds w' csy→((∃ ds,Lx=.reg ds)→csy=csx) →
    (Fy ++ X').Nodup→(∀ b ∈ Fy ++ X',b<w'.heap.size∧(b ∈ Fx ∨ b ∈ X ∨ w.heap.size≤b)) →
    (¬ N s→Uj w w' x y Lx) →
    (Le (Ja w bl G X) { Ja w' (Jp bl s (c.set p y)) (fun t=>if t=s then some (rc,Fr ++ Fy) else G t) X' with bl:=[] }→InV { Ja w' (Jp bl s (c.set p y)) (fun t=>if t=s then some (rc,Fr ++ Fy) else G t) X' with bl:=[] } y csy Fy) →
    (Jx (Ja w bl G X) (Ja w' (Jp bl s (c.set p y)) (fun t=>if t=s then some (rc,Fr ++ Fy) else G t) X') N→InV (Ja w' (Jp bl s (c.set p y)) (fun t=>if t=s then some (rc,Fr ++ Fy) else G t) X') y csy Fy) →
    Ok w' (Jp bl s (c.set p y)) (fun t=>if t=s then some (rc,Fr ++ Fy) else G t) X' ∧
    Jx (Ja w bl G X) (Ja w' (Jp bl s (c.set p y)) (fun t=>if t=s then some (rc,Fr ++ Fy) else G t) X') N∧(∀ al m,Q5 al m w w' x y Lx→Q5 al (m + p.length) w w' c (c.set p y) (.reg rc)):=by
 obtain ⟨rc',F',F0,hg',hv,hperm,hnd,hlt⟩:=h.root s c hc
 rw [hg] at hg'
 simp only [oj,pj] at hg'
 obtain ⟨rfl,rfl⟩:=hg'
 obtain ⟨csx,Fx,Fr,i1,i2,i3,i4,i5⟩:=OD (Ja w bl G X) p c rc F0 (.reg rc) x Lx hgt hv ⟨[],by simp⟩ hl (hperm.nodup_iff.2 hnd) (fun a ha=>by cases ha)
 have hF:F.Perm (Fr ++ Fx):=hperm.symm.trans i3
 have i4':(∃ a,Lx=.mem a∧a.block ∈ Fr) ∨ (∃ ds,Lx=.reg ds):=by
  rcases i4 with h1 | ⟨k,h1,_⟩ | h1
  ·exact .inl h1
  ·exact .inr ⟨_,h1⟩
  ·exact .inr h1
 refine ⟨csx,Fx,Fr,i1,i2,hF,i4',?_⟩
 intro w' y csy Fy X' N hN hno hy1 hy2 hsz hmem hps hho hreg hnd' hlt' hloc hyv0 hyv1
 generalize hE':Ja w' (Jp bl s (c.set p y)) (fun t=>if t=s then some (rc,Fr ++ Fy) else G t) X'=E' at hyv0 hyv1 ⊢
 have hEw:E'.w=w':=by rw [← hE'];rfl
 have hEbl:E'.bl=Jp bl s (c.set p y):=by rw [← hE'];rfl
 have hEG:E'.G=fun t=>if t=s then some (rc,Fr ++ Fy) else G t:=by rw [← hE'];rfl
 have hEK:E'.K=Kept.K:=by rw [← hE'];rfl
 have hES:∀ b,E'.S b ↔ b<w'.heap.size∧¬ Uk (Jp bl s (c.set p y)) (fun t=>if t=s then some (rc,Fr ++ Fy) else G t) X' b:=by intro b;rw [← hE'];exact Iff.rfl
 have hFrF:∀ b ∈ Fr,b ∈ F:=fun b hb=>(hF.mem_iff).2 (by simp [hb])
 have hFxF:∀ b ∈ Fx,b ∈ F:=fun b hb=>(hF.mem_iff).2 (by simp [hb])
 have hLxF:∀ a,Lx=.mem a→a.block ∈ F:=by
  intro a ha
  rcases i4' with ⟨a',h1,h2⟩ | ⟨ds,h1⟩
  ·rw [h1] at ha;cases ha;exact hFrF _ h2
  ·rw [h1] at ha;cases ha
 have hnd2:=hF.nodup_iff.1 hnd
 have hmemF:∀ b,b<w.heap.size→b ∉ F→w'.heap[b]?=w.heap[b]?:=fun b hb hbF=>hmem b hb (fun h'=>hbF (hFxF b h')) (fun a ha hab=>hbF (hab ▸ hLxF a ha))
 have hOwn:∀ b,b<w.heap.size→Uk (Jp bl s (c.set p y)) (fun t=>if t=s then some (rc,Fr ++ Fy) else G t) X' b→Uk bl G X b:=by
  intro b hb ho
  have key:b ∈ Fy ++ X'→Uk bl G X b:=by
   intro hm
   rcases (hlt' b hm).2 with h1 | h1 | h1
   ·exact .inr ⟨s,c,rc,F,hc,hg,hFxF b h1⟩
   ·exact .inl h1
   ·omega
  rcases ho with h1 | ⟨t,ct,rct,Ft,h1,h2,h3⟩
  ·exact key (by simp [h1])
  ·simp only at h2
   by_cases hts:t=s
   ·subst hts
    simp only [if_true,oj,pj] at h2
    obtain ⟨_,rfl⟩:=h2
    rcases List.mem_append.1 h3 with h4 | h4
    ·exact .inr ⟨t,c,rc,F,hc,hg,hFrF b h4⟩
    ·exact key (by simp [h4])
   ·rw [JG] at h1
    simp only [hts,if_false] at h1 h2
    exact .inr ⟨t,ct,rct,Ft,h1,h2,h3⟩
 have hle:Le (Ja w bl G X) E':=by
  refine ⟨fun b hb=>?_,by rw [hEw];exact hsz,fun b _ hb=>by rw [hEK];exact hb⟩
  obtain ⟨h1,h2⟩:=hb
  have hbF:b ∉ F:=fun hm=>h2 (.inr ⟨s,c,rc,F,hc,hg,hm⟩)
  refine ⟨(hES b).2 ⟨Nat.lt_of_lt_of_le h1 hsz,fun ho=>h2 (hOwn b h1 ho)⟩,?_⟩
  rw [hEw];exact hmemF b h1 hbF
 have hother:∀ t ct rct Ft,t ≠ s→Jb bl t=some ct→G t=some (rct,Ft)→QN w w' Ft:=by
  intro t ct rct Ft hts h1 h2 b hb
  obtain ⟨rc2,F2,F02,g1,_,_,_,g4⟩:=h.root t ct h1
  rw [h2] at g1;simp only [oj,pj] at g1;obtain ⟨rfl,rfl⟩:=g1
  exact hmemF b (g4 b hb).1 (h.apart t s ct c _ _ _ _ hts h1 hc h2 hg b hb)
 have hFr':∀ b ∈ Fr,(∀ a,Lx=.mem a→b ≠ a.block)→w'.heap[b]?=w.heap[b]?:=by
  intro b hb hne
  exact hmem b (hlt b (hFrF b hb)).1 (fun hx=>(List.nodup_append.1 hnd2).2.2 b hb b hx rfl) hne
 have hlocs:(∀ al m,Q5 al m w w' x y Lx→Q5 al (m + p.length) w w' c (c.set p y) (.reg rc)):=by
  have hy':InV { E' with bl:=[] } y csy Fy:=hyv0 ⟨fun b hb=>hle.stab b hb,hle.size,hle.kept⟩
  obtain ⟨_,_,_,_,_,_,_,_,k⟩:=i5 False { E' with bl:=[] } y csy Fy hy1 (fun hQ=>hy2 (hQ.resolve_left id)) hy' (by show Lx.holds E'.w csy;rw [hEw];exact hho) hreg
   ⟨fun b hb=>hle.stab b hb,hle.size,hle.kept⟩ (fun t _ c' rc' F' hlk=>by simp [Jb] at hlk) (by show ∀ b ∈ Fr,_→E'.w.heap[b]?=_;rw [hEw];exact hFr') (by show US w E'.w Lx _;rw [hEw];exact hps) (fun a ha=>by cases ha)
  intro al m hm
  have k':=k al m (by show Q5 al m w E'.w x y Lx;rw [hEw];exact hm)
  have k'':Q5 al (m + p.length) w E'.w c (c.set p y) (.reg rc):=k'
  rwa [hEw] at k''
 have hloc':¬ N s→Uj w w' c (c.set p y) (.reg rc):=fun hns=>Q5.all (fun m=>(hlocs true m (hloc hns).n).mono (by omega))
 have hal:∀ t,¬ N t→Ux (Ja w bl G X) E' t:=by
  intro t hNt
  by_cases hts:t=s
  ·subst hts
   intro c' rc' F' h1 h2
   rw [hEbl,JG] at h1
   simp only [if_true,oj] at h1
   rw [hEG] at h2
   simp only [if_true,oj,pj] at h2
   obtain ⟨rfl,_⟩:=h2
   subst h1
   refine ⟨c,F,hc,hg,fun q x' L hq=>?_⟩
   rw [hEw] at hq ⊢
   exact hloc' hNt q x' L hq
  ·refine Ux.same (by rw [hEbl,JG];simp [hts];rfl) (by rw [hEG];simp [hts];rfl) (fun ct rct Ft h1 h2=>?_)
   rw [hEw]
   obtain ⟨rc2,F2,F02,g1,g2,g3,g4,g5⟩:=h.root t ct h1
   have h2':G t=some (rct,Ft):=h2
   rw [h2'] at g1;simp only [oj,pj] at g1;obtain ⟨rfl,rfl⟩:=g1
   exact Uj.frame (E:=Ja w bl G X) g2 ⟨[],by simp⟩ ⟨[],by simp⟩ (fun b hb=>hother t ct _ _ hts h1 h2' b ((g3.mem_iff).1 hb))
 have hgoes:Jx (Ja w bl G X) E' N:=⟨hle,fun t ht=>hal t ht⟩
 have hcont:∀ t ct,Jb bl t=some ct→∀ u ∈ Jd ct,¬ N u:=fun t ct hct u hu hNu=>by
  have:=hN u hNu
  subst this
  exact hno hNu t ct hct hu
 have hyv:=hyv1 hgoes
 refine ⟨?_,hgoes,hlocs⟩
 obtain ⟨cs',F1,k1,k2,k3,k4,k5,_,_⟩:=i5 False E' y csy Fy hy1 (fun hQ=>hy2 (hQ.resolve_left id)) hyv (by rw [hEw];exact hho) hreg hle (fun t ht=>hal t (hcont s c hc t ht))
  (by rw [hEw];exact hFr') (by rw [hEw];exact hps) (fun a ha=>by cases ha)
 have hcs:=k5 ⟨_,rfl⟩
 rw [hcs] at k1
 have hnd3:(Fr ++ Fy).Nodup:=by
  refine List.nodup_append.2 ⟨(List.nodup_append.1 hnd2).1,(List.nodup_append.1 hnd').1,fun a ha b hb hab=>?_⟩
  subst hab
  rcases (hlt' a (by simp [hb])).2 with h1 | h1 | h1
  ·exact (List.nodup_append.1 hnd2).2.2 a ha a h1 rfl
  ·exact (hlt a (hFrF a ha)).2 h1
  ·have:=(hlt a (hFrF a ha)).1;omega
 have hX':∀ b ∈ X',b ∉ Fr ++ Fy:=by
  intro b hb hm
  rcases List.mem_append.1 hm with h1 | h1
  ·rcases (hlt' b (by simp [hb])).2 with h2 | h2 | h2
   ·exact (List.nodup_append.1 hnd2).2.2 b h1 b h2 rfl
   ·exact (hlt b (hFrF b h1)).2 h2
   ·have:=(hlt b (hFrF b h1)).1;omega
  ·exact (List.nodup_append.1 hnd').2.2 b h1 b hb rfl
 have hnew:∀ b ∈ Fr ++ Fy,b ∈ F ∨ b ∈ X ∨ w.heap.size≤b:=by
  intro b hb
  rcases List.mem_append.1 hb with h1 | h1
  ·exact .inl (hFrF b h1)
  ·rcases (hlt' b (by simp [h1])).2 with h2 | h2 | h2
   ·exact .inl (hFxF b h2)
   ·exact .inr (.inl h2)
   ·exact .inr (.inr h2)
 constructor
 ·intro t ct h1
  rw [JG] at h1
  by_cases hts:t=s
  ·subst hts
   simp only [if_true,oj] at h1
   subst h1
   refine ⟨rc,Fr ++ Fy,F1,by simp,by rw [hE'];exact k1,k2,hnd3,fun b hb=>⟨?_,fun hx=>hX' b hx hb⟩⟩
   rcases List.mem_append.1 hb with h1 | h1
   ·exact Nat.lt_of_lt_of_le (hlt b (hFrF b h1)).1 hsz
   ·exact (hlt' b (by simp [h1])).1
  ·simp only [hts,if_false] at h1
   obtain ⟨rc2,F2,F02,g1,g2,g3,g4,g5⟩:=h.root t ct h1
   refine ⟨rc2,F2,F02,by simpa [hts] using g1,?_,g3,g4,fun b hb=>⟨Nat.lt_of_lt_of_le (g5 b hb).1 hsz,fun hx=>?_⟩⟩
   ·rw [hE']
    refine hgoes.inV (hcont t ct h1) (fun b hb=>?_) g2
    rw [hEw];exact hother t ct _ _ hts h1 g1 b ((g3.mem_iff).1 hb)
   ·rcases (hlt' b (by simp [hx])).2 with h2 | h2 | h2
    ·exact h.apart t s ct c _ _ _ _ hts h1 hc g1 hg b hb (hFxF b h2)
    ·exact (g5 b hb).2 h2
    ·have:=(g5 b hb).1;omega
 ·intro t t' ct ct' rct rct' Ft Ft' hne h1 h1' h2 h2' b hb hb'
  rw [JG] at h1 h1'
  have keyS:∀ u cu rcu Fu,u ≠ s→Jb bl u=some cu→G u=some (rcu,Fu)→b ∈ Fu→b ∉ Fr ++ Fy:=by
   intro u cu rcu Fu hus hu1 hu2 hub hbs
   obtain ⟨rc2,F2,F02,g1,g2,g3,g4,g5⟩:=h.root u cu hu1
   rw [hu2] at g1;simp only [oj,pj] at g1;obtain ⟨rfl,rfl⟩:=g1
   rcases hnew b hbs with h3 | h3 | h3
   ·exact h.apart u s cu c _ _ _ _ hus hu1 hc hu2 hg b hub h3
   ·exact (g5 b hub).2 h3
   ·have:=(g5 b hub).1;omega
  by_cases hts:t=s
  ·subst hts
   have hts':t' ≠ t:=fun h=>hne h.symm
   simp only [if_true,oj,pj] at h2
   simp only [hts',if_false] at h1' h2'
   obtain ⟨_,rfl⟩:=h2
   exact keyS t' ct' rct' Ft' hts' h1' h2' hb' hb
  ·simp only [hts,if_false] at h1 h2
   by_cases hts':t'=s
   ·subst hts'
    simp only [if_true,oj,pj] at h2'
    obtain ⟨_,rfl⟩:=h2'
    exact keyS t ct rct Ft hts h1 h2 hb hb'
   ·simp only [hts',if_false] at h1' h2'
    exact h.apart t t' ct ct' rct rct' Ft Ft' hne h1 h1' h2 h2' b hb hb'
 ·exact (List.nodup_append.1 hnd').2.1
 ·intro b hb
  exact (hlt' b (by simp [hb])).1
theorem Ok.modify {w:World} {bl:BL} {G:GT} {X:List Nat} (h:Ok w bl G X) {s:Nat} {c:V} {rc:List Value} {F:List Nat} {p:List Nat} {x:V} {Lx:Ji}
  (hc:Jb bl s=some c) (hg:G s=some (rc,F)) (hl:Jf w c (.reg rc) p=some (x,Lx)) (hgt:(c.get p).isSome=true) :
  ∃ csx Fx Fr,InV (Ja w bl G X) x csx Fx∧Lx.holds w csx∧F.Perm (Fr ++ Fx) ∧
   ((∃ a,Lx=.mem a∧a.block ∈ Fr) ∨ (∃ ds,Lx=.reg ds)) ∧
   ∀ (w':World) (y:V) (csy:List Value) (Fy X':List Nat),
    vsz y=vsz x→(c.outer p=false→∀ t,shp t x=true→shp t y=true) →
    w.heap.size≤w'.heap.size →
    (∀ b,b<w.heap.size→b ∉ Fx→(∀ a,Lx=.mem a→b ≠ a.block)→w'.heap[b]?=w.heap[b]?) →
    US w w' Lx (vsz x)→Lx.holds w' csy→((∃ ds,Lx=.reg ds)→csy=csx) →
    (Fy ++ X').Nodup→(∀ b ∈ Fy ++ X',b<w'.heap.size∧(b ∈ Fx ∨ b ∈ X ∨ w.heap.size≤b)) →
    Uj w w' x y Lx →
    (Le (Ja w bl G X) { Ja w' (Jp bl s (c.set p y)) (fun t=>if t=s then some (rc,Fr ++ Fy) else G t) X' with bl:=[] }→InV { Ja w' (Jp bl s (c.set p y)) (fun t=>if t=s then some (rc,Fr ++ Fy) else G t) X' with bl:=[] } y csy Fy) →
    (Jx (Ja w bl G X) (Ja w' (Jp bl s (c.set p y)) (fun t=>if t=s then some (rc,Fr ++ Fy) else G t) X') (fun _=>False)→InV (Ja w' (Jp bl s (c.set p y)) (fun t=>if t=s then some (rc,Fr ++ Fy) else G t) X') y csy Fy) →
    Ok w' (Jp bl s (c.set p y)) (fun t=>if t=s then some (rc,Fr ++ Fy) else G t) X' ∧
    Jx (Ja w bl G X) (Ja w' (Jp bl s (c.set p y)) (fun t=>if t=s then some (rc,Fr ++ Fy) else G t) X') (fun _=>False):=by
 obtain ⟨csx,Fx,Fr,m1,m2,m3,m4,m5⟩:=h.modifyN hc hg hl hgt
 refine ⟨csx,Fx,Fr,m1,m2,m3,m4,?_⟩
 intro w' y csy Fy X' h1 h2 h3 h4 h5 h6 h7 h8 h9 h10 h11 h12
 obtain ⟨k1,k2,_⟩:=m5 w' y csy Fy X' (fun _=>False) (fun _=>False.elim) (fun h=>h.elim) h1 h2 h3 h4 h5 h6 h7 h8 h9 (fun _=>h10) h11 h12
 exact ⟨k1,k2⟩
theorem Jx.refl_ (E:Env) (N:Nat→Prop):Jx E E N:=⟨⟨fun b hb=>⟨hb,rfl⟩,Nat.le_refl _,fun _ _ h=>h⟩,fun s _=>Ux.same rfl rfl (fun _ _ _ _ _=>Uj.refl)⟩
theorem Ok.drop {w:World} {bl:BL} {G:GT} {X:List Nat} (h:Ok w bl G X) {s:Nat} {c:V} (hc:Jb bl s=some c) :
  ∃ rc F F0,G s=some (rc,F)∧F0.Perm F∧F.Nodup∧InV (Ja w bl G X) c rc F0∧InV (Ja w (Qj bl s) G (F0 ++ X)) c rc F0∧Ok w (Qj bl s) G (F0 ++ X)∧Jx (Ja w bl G X) (Ja w (Qj bl s) G (F0 ++ X)) (fun _=>False):=by
 obtain ⟨rc,F,F0,hg,hv,hperm,hnd,hlt⟩:=h.root s c hc
 have hOwn:∀ b,Uk (Qj bl s) G (F0 ++ X) b→Uk bl G X b:=by
  intro b ho
  rcases ho with h1 | ⟨t,ct,rct,Ft,h1,h2,h3⟩
  ·rcases List.mem_append.1 h1 with h1 | h1
   ·exact .inr ⟨s,c,rc,F,hc,hg,(hperm.mem_iff).1 h1⟩
   ·exact .inl h1
  ·rw [Ur] at h1
   by_cases hts:t=s
   ·simp [hts] at h1
   ·simp only [hts,if_false] at h1
    exact .inr ⟨t,ct,rct,Ft,h1,h2,h3⟩
 have hgoes:Jx (Ja w bl G X) (Ja w (Qj bl s) G (F0 ++ X)) (fun _=>False):=by
  refine ⟨⟨fun b hb=>⟨⟨hb.1,fun ho=>hb.2 (hOwn b ho)⟩,rfl⟩,Nat.le_refl _,fun _ _ h=>h⟩,fun t _=>?_⟩
  by_cases hts:t=s
  ·intro c' rc' F' h1
   have h1':Jb (Qj bl s) t=some c':=h1
   rw [Ur] at h1'
   simp [hts] at h1'
  ·exact Ux.same (by show Jb (Qj bl s) t=Jb bl t;rw [Ur];simp [hts]) rfl (fun _ _ _ _ _=>Uj.refl)
 refine ⟨rc,F,F0,hg,hperm,hnd,hv,hgoes.inV (fun _ _=>id) (fun b _=>rfl) hv,?_,hgoes⟩
 constructor
 ·intro t ct h1
  rw [Ur] at h1
  by_cases hts:t=s
  ·simp [hts] at h1
  ·simp only [hts,if_false] at h1
   obtain ⟨rc2,F2,F02,g1,g2,g3,g4,g5⟩:=h.root t ct h1
   refine ⟨rc2,F2,F02,g1,hgoes.inV (fun _ _=>id) (fun b _=>rfl) g2,g3,g4,fun b hb=>⟨(g5 b hb).1,fun hx=>?_⟩⟩
   rcases List.mem_append.1 hx with h2 | h2
   ·exact h.apart t s ct c _ _ _ _ hts h1 hc g1 hg b hb ((hperm.mem_iff).1 h2)
   ·exact (g5 b hb).2 h2
 ·intro t t' ct ct' rct rct' Ft Ft' hne h1 h1' h2 h2' b hb hb'
  rw [Ur] at h1 h1'
  by_cases hts:t=s
  ·simp [hts] at h1
  ·by_cases hts':t'=s
   ·simp [hts'] at h1'
   ·simp only [hts,hts',if_false] at h1 h1'
    exact h.apart t t' ct ct' rct rct' Ft Ft' hne h1 h1' h2 h2' b hb hb'
 ·exact List.nodup_append.2 ⟨hperm.nodup_iff.2 hnd,h.xnd,fun a ha b hb hab=>by subst hab;exact (hlt a ((hperm.mem_iff).1 ha)).2 hb⟩
 ·intro b hb
  rcases List.mem_append.1 hb with h1 | h1
  ·exact (hlt b ((hperm.mem_iff).1 h1)).1
  ·exact h.xlt b h1
theorem Ok.add {w:World} {bl:BL} {G:GT} {F X:List Nat} (h:Ok w bl G (F ++ X)) {d:Nat} {x:V} {rc:List Value} (hd:Jb bl d=none)
  (hm:∀ s c,Jb bl s=some c→d ∉ Jd c) (hx:InV (Ja w bl G (F ++ X)) x rc F) (hdx:d ∉ Jd x) :
  Ok w (Jp bl d x) (fun t=>if t=d then some (rc,F) else G t) X∧Jx (Ja w bl G (F ++ X)) (Ja w (Jp bl d x) (fun t=>if t=d then some (rc,F) else G t) X) (fun s=>s=d):=by
 generalize hE':Ja w (Jp bl d x) (fun t=>if t=d then some (rc,F) else G t) X=E'
 have hOwn:∀ b,Uk (Jp bl d x) (fun t=>if t=d then some (rc,F) else G t) X b→Uk bl G (F ++ X) b:=by
  intro b ho
  rcases ho with h1 | ⟨t,ct,rct,Ft,h1,h2,h3⟩
  ·exact .inl (by simp [h1])
  ·rw [JG] at h1
   by_cases htd:t=d
   ·subst htd
    simp only [if_true,oj,pj] at h2
    obtain ⟨_,rfl⟩:=h2
    exact .inl (by simp [h3])
   ·simp only [htd,if_false] at h1 h2
    exact .inr ⟨t,ct,rct,Ft,h1,h2,h3⟩
 have hgoes:Jx (Ja w bl G (F ++ X)) E' (fun s=>s=d):=by
  rw [← hE']
  refine ⟨⟨fun b hb=>⟨⟨hb.1,fun ho=>hb.2 (hOwn b ho)⟩,rfl⟩,Nat.le_refl _,fun _ _ h=>h⟩,fun t hts=>?_⟩
  exact Ux.same (by show Jb (Jp bl d x) t=Jb bl t;rw [JG];simp [hts]) (by show (if t=d then _ else G t)=G t;simp [hts]) (fun _ _ _ _ _=>Uj.refl)
 have hEw:E'.w=w:=by rw [← hE'];rfl
 refine ⟨?_,hgoes⟩
 constructor
 ·intro t ct h1
  rw [JG] at h1
  by_cases htd:t=d
  ·subst htd
   simp only [if_true,oj] at h1
   subst h1
   refine ⟨rc,F,F,by simp,?_,.refl _,(List.nodup_append.1 h.xnd).1,fun b hb=>⟨h.xlt b (by simp [hb]),fun hx=>(List.nodup_append.1 h.xnd).2.2 b hb b hx rfl⟩⟩
   rw [hE']
   exact hgoes.inV (fun s hs hsd=>hdx (hsd ▸ hs)) (fun b _=>by rw [hEw];rfl) hx
  ·simp only [htd,if_false] at h1
   obtain ⟨rc2,F2,F02,g1,g2,g3,g4,g5⟩:=h.root t ct h1
   refine ⟨rc2,F2,F02,by simpa [htd] using g1,?_,g3,g4,fun b hb=>⟨(g5 b hb).1,fun hx=>(g5 b hb).2 (by simp [hx])⟩⟩
   rw [hE']
   exact hgoes.inV (fun s hs hsd=>hm t ct h1 (hsd ▸ hs)) (fun b _=>by rw [hEw];rfl) g2
 ·intro t t' ct ct' rct rct' Ft Ft' hne h1 h1' h2 h2' b hb hb'
  rw [JG] at h1 h1'
  have keyD:∀ u cu rcu Fu,Jb bl u=some cu→G u=some (rcu,Fu)→b ∈ Fu→b ∉ F:=by
   intro u cu rcu Fu hu1 hu2 hub hbF
   obtain ⟨rc2,F2,F02,g1,g2,g3,g4,g5⟩:=h.root u cu hu1
   rw [hu2] at g1;simp only [oj,pj] at g1;obtain ⟨rfl,rfl⟩:=g1
   exact (g5 b hub).2 (by simp [hbF])
  by_cases htd:t=d
  ·subst htd
   have htd':t' ≠ t:=fun h=>hne h.symm
   simp only [if_true,oj,pj] at h2
   simp only [htd',if_false] at h1' h2'
   obtain ⟨_,rfl⟩:=h2
   exact keyD t' ct' rct' Ft' h1' h2' hb' hb
  ·simp only [htd,if_false] at h1 h2
   by_cases htd':t'=d
   ·subst htd'
    simp only [if_true,oj,pj] at h2'
    obtain ⟨_,rfl⟩:=h2'
    exact keyD t ct rct Ft h1 h2 hb hb'
   ·simp only [htd',if_false] at h1' h2'
    exact h.apart t t' ct ct' rct rct' Ft Ft' hne h1 h1' h2 h2' b hb hb'
 ·exact (List.nodup_append.1 h.xnd).2.1
 ·intro b hb
  exact h.xlt b (by simp [hb])
theorem Ok.world {w w':World} {bl:BL} {G:GT} {X X':List Nat} (h:Ok w bl G X) (hsz:w.heap.size≤w'.heap.size) (hmem:∀ b,b<w.heap.size→b ∉ X→w'.heap[b]?=w.heap[b]?)
  (hnd:X'.Nodup) (hx:∀ b ∈ X',b<w'.heap.size∧(b ∈ X ∨ w.heap.size≤b)) :
  Ok w' bl G X'∧Jx (Ja w bl G X) (Ja w' bl G X') (fun _=>False):=by
 have hOwn:∀ b,b<w.heap.size→Uk bl G X' b→Uk bl G X b:=by
  intro b hb ho
  rcases ho with h1 | h1
  ·rcases (hx b h1).2 with h2 | h2
   ·exact .inl h2
   ·omega
  ·exact .inr h1
 have hF:∀ t ct rct Ft,Jb bl t=some ct→G t=some (rct,Ft)→QN w w' Ft:=by
  intro t ct rct Ft h1 h2 b hb
  obtain ⟨rc2,F2,F02,g1,g2,g3,g4,g5⟩:=h.root t ct h1
  rw [h2] at g1;simp only [oj,pj] at g1;obtain ⟨rfl,rfl⟩:=g1
  exact hmem b (g5 b hb).1 (g5 b hb).2
 have hgoes:Jx (Ja w bl G X) (Ja w' bl G X') (fun _=>False):=by
  refine ⟨⟨fun b hb=>⟨⟨Nat.lt_of_lt_of_le hb.1 hsz,fun ho=>hb.2 (hOwn b hb.1 ho)⟩,hmem b hb.1 (fun hbX=>hb.2 (.inl hbX))⟩,hsz,fun _ _ h=>h⟩,fun t _=>?_⟩
  refine Ux.same rfl rfl (fun ct rct Ft h1 h2=>?_)
  obtain ⟨rc2,F2,F02,g1,g2,g3,g4,g5⟩:=h.root t ct h1
  have h2':G t=some (rct,Ft):=h2
  rw [h2'] at g1;simp only [oj,pj] at g1;obtain ⟨rfl,rfl⟩:=g1
  exact Uj.frame (E:=Ja w bl G X) g2 ⟨[],by simp⟩ ⟨[],by simp⟩ (fun b hb=>hF t ct _ _ h1 h2' b ((g3.mem_iff).1 hb))
 refine ⟨⟨?_,h.apart,hnd,fun b hb=>(hx b hb).1⟩,hgoes⟩
 intro t ct h1
 obtain ⟨rc2,F2,F02,g1,g2,g3,g4,g5⟩:=h.root t ct h1
 refine ⟨rc2,F2,F02,g1,hgoes.inV (fun _ _=>id) (fun b hb=>hF t ct _ _ h1 g1 b ((g3.mem_iff).1 hb)) g2,g3,g4,fun b hb=>⟨Nat.lt_of_lt_of_le (g5 b hb).1 hsz,fun hxb=>?_⟩⟩
 rcases (hx b hxb).2 with h2 | h2
 ·exact (g5 b hb).2 h2
 ·have:=(g5 b hb).1;omega
end Go.Rai
