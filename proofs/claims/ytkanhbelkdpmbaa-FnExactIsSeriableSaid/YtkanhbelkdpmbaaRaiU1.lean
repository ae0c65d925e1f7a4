/- An evaluator of the model's programs over plain values, proved sound, part 1 of 5. It is used by the claim's law; it has no condition of its own. -/
import Derived.Calls
import Derived.KernelRfl
import Derived.Still
import Derived.Below
import Derived.Laws.Sem
import Derived.Laws.Cells
import Derived.Laws.World
set_option linter.unusedVariables false
set_option linter.unusedSectionVars false
set_option linter.unusedSimpArgs false
namespace Go.Rai
theorem oj {α:Type _} (a b:α):(some a=some b)=(a=b):=Option.some.injEq a b
theorem pj {α:Type _} {β:Type _} (a:α) (b:β) (c:α) (d:β):((a,b)=(c,d))=(a=c∧b=d):=Prod.mk.injEq a b c d
end Go.Rai
namespace Go.Rai
def cat {α:Type}:List α→List α→List α
 | [],m=>m
 | a :: l,m=>a :: cat l m
def Ul {α:Type}:List α→Nat
 | []=>0
 | _ :: l=>Nat.succ (Ul l)
def rep {α:Type}:Nat→α→List α
 | 0,_=>[]
 | n + 1,a=>a :: rep n a
inductive Ty where
 | int (k:IntKind)
 | bool
 | str
 | ptr
 | fn
 | struct (fs:List Ty)
 | slice (e:Ty)
 | arr (n:Nat) (e:Ty)
 | other
 deriving Inhabited
mutual
def Ty.size:Ty→Nat
 | .struct fs=>Ty.sizes fs
 | .arr n e=>n * e.size
 | _=>1
def Ty.sizes:List Ty→Nat
 | []=>0
 | t :: ts=>t.size + Ty.sizes ts
end
def keq:IntKind→IntKind→Bool
 | .i8,.i8=>true
 | .i16,.i16=>true
 | .i32,.i32=>true
 | .i64,.i64=>true
 | .u8,.u8=>true
 | .u16,.u16=>true
 | .u32,.u32=>true
 | .u64,.u64=>true
 | _,_=>false
def Jh (a b:Bool):Bool:=match a with
 | true=>b
 | false=>false
def bor (a b:Bool):Bool:=match a with
 | true=>true
 | false=>b
def J2 (a:Bool):Bool:=match a with
 | true=>false
 | false=>true
mutual
def Ty.beq:Ty→Ty→Bool
 | .int k,.int k'=>keq k k'
 | .bool,.bool=>true
 | .str,.str=>true
 | .ptr,.ptr=>true
 | .fn,.fn=>true
 | .struct fs,.struct gs=>Ty.beqs fs gs
 | .slice e,.slice e'=>e.beq e'
 | .arr n e,.arr m e'=>Jh (Nat.beq n m) (e.beq e')
 | _,_=>false
def Ty.beqs:List Ty→List Ty→Bool
 | [],[]=>true
 | a :: as,b :: bs=>Jh (a.beq b) (Ty.beqs as bs)
 | _,_=>false
end
mutual
def Ty.flat:Ty→Bool
 | .int _=>true
 | .bool=>true
 | .str=>true
 | .struct fs=>Ty.flats fs
 | .arr _ e=>e.flat
 | _=>false
def Ty.flats:List Ty→Bool
 | []=>true
 | t :: ts=>Jh t.flat (Ty.flats ts)
end
mutual
def Ty.plain:Ty→Bool
 | .int _=>true
 | .bool=>true
 | .str=>true
 | .struct fs=>Ty.plains fs
 | .slice e=>e.plain
 | .arr _ e=>e.flat
 | _=>false
def Ty.plains:List Ty→Bool
 | []=>true
 | t :: ts=>Jh t.plain (Ty.plains ts)
end
mutual
def H3:Ty→Bool
 | .int k=>keq k .u8
 | .struct fs=>VC fs
 | .slice e=>H3 e
 | .arr _ e=>H3 e
 | _=>false
def VC:List Ty→Bool
 | []=>false
 | t :: ts=>bor (H3 t) (VC ts)
end
inductive D where
 | int (n:Int)
 | bool (b:Bool)
 | str (s:ByteArray)
 | node (l:List D)
 deriving Inhabited
def D.toInt:D→Int | .int n=>n | _=>0
def D.toBool:D→Bool | .bool b=>b | _=>false
def D.toStr:D→ByteArray | .str s=>s | _=>⟨#[]⟩
def D.items:D→List D | .node l=>l | _=>[]
def D.fld (d:D) (j:Nat):D:=d.items.getD j (.int 0)
inductive V where
 | undef
 | void
 | int (k:IntKind) (n:Int)
 | bool (b:Bool)
 | str (s:ByteArray)
 | agg (vs:List V)
 | arr (n:Nat) (e:Ty) (l:List D)
 | own (e:Ty) (l:List D)
 | rd (e:Ty) (l:List D)
 | lst (e:Ty) (vs:List V)
 | nilsl
 | emp (e:Ty)
 | obox (v:V)
 | rp (v:V)
 | full (s:Nat) (p:List Nat) (e:Ty)
 | sub (s:Nat) (p:List Nat) (off len:Nat) (e:Ty)
 | ptr (s:Nat) (p:List Nat)
 | fn (f:FuncId) (caps:List V)
 | nilfn
 | nilptr
 | tup (vs:List V)
 deriving Inhabited
mutual
def dec (o:Bool):Ty→D→V
 | .int k,d=>.int k d.toInt
 | .bool,d=>.bool d.toBool
 | .str,d=>.str d.toStr
 | .struct fs,d=>.agg (Uv o fs 0 d)
 | .slice e,d=>match o with
  | true=>.own e d.items
  | false=>.rd e d.items
 | .arr n e,d=>.arr n e d.items
 | _,_=>.undef
def Uv (o:Bool):List Ty→Nat→D→List V
 | [],_,_=>[]
 | t :: ts,j,d=>dec o t (d.fld j) :: Uv o ts ((j + 1)) d
end
mutual
def enc:V→D
 | .int _ n=>.int n
 | .bool b=>.bool b
 | .str s=>.str s
 | .agg vs=>.node (Ug vs)
 | .own _ l=>.node l
 | .rd _ l=>.node l
 | .arr _ _ l=>.node l
 | .lst _ vs=>.node (Ug vs)
 | .nilsl=>.node []
 | .emp _=>.node []
 | _=>.int 0
def Ug:List V→List D
 | []=>[]
 | v :: vs=>enc v :: Ug vs
end
mutual
def QX:Ty→D
 | .int _=>.int 0
 | .bool=>.bool false
 | .str=>.str ⟨#[]⟩
 | .struct fs=>.node (OI fs)
 | .slice _=>.node []
 | .arr n e=>.node (List.replicate n (QX e))
 | _=>.int 0
def OI:List Ty→List D
 | []=>[]
 | t :: ts=>QX t :: OI ts
end
mutual
def Ua:Ty→V
 | .int k=>.int k 0
 | .bool=>.bool false
 | .str=>.str ⟨#[]⟩
 | .struct fs=>.agg (HM fs)
 | .slice _=>.nilsl
 | .arr n e=>.arr n e (List.replicate n (QX e))
 | .ptr=>.nilptr
 | .fn=>.nilfn
 | .other=>.undef
def HM:List Ty→List V
 | []=>[]
 | t :: ts=>Ua t :: HM ts
end
mutual
def zok:Ty→Bool
 | .struct fs=>CJ fs
 | .arr _ e=>e.flat
 | .other=>false
 | _=>true
def CJ:List Ty→Bool
 | []=>true
 | t :: ts=>Jh (zok t) (CJ ts)
end
mutual
def Js:Ty→V→Bool
 | .int k,.int k' _=>keq k k'
 | .bool,.bool _=>true
 | .str,.str _=>true
 | .struct fs,.agg vs=>JK fs vs
 | .slice e,.own e' _=>e.beq e'
 | .slice e,.rd e' _=>e.beq e'
 | .slice e,.full _ _ e'=>e.beq e'
 | .slice e,.sub _ _ _ _ e'=>e.beq e'
 | .slice _,.nilsl=>true
 | .slice e,.emp e'=>e.beq e'
 | .arr n e,.arr m e' _=>Jh (Nat.beq n m) (e.beq e')
 | .ptr,.ptr _ _=>true
 | .ptr,.rp _=>true
 | .ptr,.obox _=>true
 | .ptr,.nilptr=>true
 | .fn,.fn _ _=>true
 | .fn,.nilfn=>true
 | _,_=>false
def JK:List Ty→List V→Bool
 | [],[]=>true
 | t :: ts,v :: vs=>Jh (Js t v) (JK ts vs)
 | _,_=>false
end
mutual
def WH:Ty→V→Bool
 | .slice _,.undef=>true
 | .struct fs,.agg vs=>H4 fs vs
 | t,v=>Js t v
def H4:List Ty→List V→Bool
 | [],[]=>true
 | t :: ts,v :: vs=>Jh (WH t v) (H4 ts vs)
 | _,_=>false
end
inductive Jm where
 | le (a b:Nat)
 | ix (i:Int) (n:Nat)
 | nz (b:Int)
 | nn (b:Int)
 | bd (l h:Int) (n:Nat)
 | mk (l c:Int)
 | sz (a b:Nat)
 | eqI (a b:Int)
 | eqB (a b:Bool)
def Jm.ok:Jm→Prop
 | .le a b=>a≤b
 | .ix i n=>0≤i∧i<n
 | .nz b=>b ≠ 0
 | .nn b=>0≤b
 | .bd l h n=>0≤l∧l≤h∧h≤n
 | .mk l c=>0≤l∧l≤c∧c≤4294967296
 | .sz a b=>a + b≤4294967296
 | .eqI a b=>a=b
 | .eqB a b=>a=b
instance (c:Jm):Decidable c.ok:=by cases c <;> (unfold Jm.ok; infer_instance)
def QM {R:Type}:List Jm→Option R→Option R
 | [],k=>k
 | .le a b :: r,k=>if a≤b then QM r k else none
 | .ix i n :: r,k=>if 0≤i∧i<n then QM r k else none
 | .nz b :: r,k=>if b ≠ 0 then QM r k else none
 | .nn b :: r,k=>if 0≤b then QM r k else none
 | .bd l h n :: r,k=>if 0≤l∧l≤h∧h≤n then QM r k else none
 | .mk l c :: r,k=>if 0≤l∧l≤c∧c≤4294967296 then QM r k else none
 | .sz a b :: r,k=>if a + b≤4294967296 then QM r k else none
 | .eqI a b :: r,k=>if a=b then QM r k else none
 | .eqB a b :: r,k=>if a=b then QM r k else none
abbrev G (α:Type):=Option (List Jm × α)
def nth {α:Type}:List α→Nat→Option α
 | [],_=>none
 | a :: _,0=>some a
 | _ :: l,n + 1=>nth l n
def JF {α:Type}:List α→Nat→α→List α
 | [],_,_=>[]
 | _ :: l,0,x=>x :: l
 | a :: l,n + 1,x=>a :: JF l n x
def V.step:V→Nat→G V
 | .agg vs,j=>match nth vs j with
  | some v=>some ([],v)
  | none=>none
 | .lst _ vs,j=>match nth vs j with
  | some v=>some ([],v)
  | none=>none
 | .own e l,j=>some ([.le (j + 1) l.length],dec true e (l.getD j (.int 0)))
 | .arr _ e l,j=>some ([.le (j + 1) l.length],dec true e (l.getD j (.int 0)))
 | .obox v,_=>some ([],v)
 | .fn _ caps,j=>match nth caps j with
  | some v=>some ([],v)
  | none=>none
 | _,_=>none
def V.put:V→Nat→V→V
 | .agg vs,j,x=>.agg (JF vs j x)
 | .lst e vs,j,x=>.lst e (JF vs j x)
 | .own e l,j,x=>.own e (l.set j (enc x))
 | .arr n e l,j,x=>.arr n e (l.set j (enc x))
 | .obox _,_,x=>.obox x
 | .fn f caps,j,x=>.fn f (JF caps j x)
 | v,_,_=>v
def V.get:V→List Nat→G V
 | v,[]=>some ([],v)
 | v,j :: p=>match v.step j with
  | some (c,x)=>match x.get p with
   | some (c',y)=>some ((cat c c'),y)
   | none=>none
  | none=>none
def V.set:V→List Nat→V→V
 | _,[],x=>x
 | v,j :: p,x=>match v.step j with
  | some (_,y)=>v.put j (y.set p x)
  | none=>v
def V.outer:V→List Nat→Bool
 | _,[]=>true
 | .own _ _,_ :: _=>false
 | .arr _ _ _,_ :: _=>false
 | v,j :: p=>match v.step j with
  | some (_,x)=>x.outer p
  | none=>false
mutual
def Qh (s:Nat):List Nat→V→V
 | p,.own e _=>.full s p e
 | p,.lst e _=>.full s p e
 | p,.obox _=>.ptr s (cat p [0])
 | p,.agg vs=>.agg (Hw s p 0 vs)
 | p,.fn f caps=>.fn f (Hw s p 0 caps)
 | _,v=>v
def Hw (s:Nat):List Nat→Nat→List V→List V
 | _,_,[]=>[]
 | p,j,v :: vs=>Qh s (cat p [j]) v :: Hw s p ((j + 1)) vs
end
mutual
def QY:V→Bool
 | .own _ _=>true
 | .lst _ _=>true
 | .obox _=>true
 | .agg vs=>H5 vs
 | .tup vs=>H5 vs
 | .fn _ caps=>H5 caps
 | _=>false
def H5:List V→Bool
 | []=>false
 | v :: vs=>bor (QY v) (H5 vs)
end
mutual
def Qo:V→Bool
 | .int _ _=>true
 | .bool _=>true
 | .str _=>true
 | .own _ _=>true
 | .arr _ _ _=>true
 | .rd e _=>H3 e
 | .agg vs=>Hx vs
 | .tup vs=>Hx vs
 | .obox v=>Qo v
 | .nilptr=>true
 | _=>false
def Hx:List V→Bool
 | []=>true
 | v :: vs=>Jh (Qo v) (Hx vs)
end
mutual
def JT:V→Bool
 | .int _ _=>true
 | .bool _=>true
 | .str _=>true
 | .own _ _=>true
 | .arr _ _ _=>true
 | .agg vs=>U3 vs
 | .tup vs=>U3 vs
 | .obox v=>JT v
 | .nilptr=>true
 | _=>false
def U3:List V→Bool
 | []=>true
 | v :: vs=>Jh (JT v) (U3 vs)
end
mutual
def Qa:V→Bool
 | .int _ _=>true
 | .bool _=>true
 | .str _=>true
 | .own _ _=>true
 | .arr _ _ _=>true
 | .agg vs=>Uq vs
 | .tup vs=>Uq vs
 | .obox v=>Qa v
 | .nilptr=>true
 | .nilsl=>true
 | _=>false
def Uq:List V→Bool
 | []=>true
 | v :: vs=>Jh (Qa v) (Uq vs)
end
mutual
def Jf:V→List Nat
 | .full s _ _=>[s]
 | .sub s _ _ _ _=>[s]
 | .ptr s _=>[s]
 | .agg vs=>Jn vs
 | .lst _ vs=>Jn vs
 | .tup vs=>Jn vs
 | .fn _ caps=>Jn caps
 | .obox v=>Jf v
 | .rp v=>Jf v
 | _=>[]
def Jn:List V→List Nat
 | []=>[]
 | v :: vs=>(cat (Jf v) (Jn vs))
end
abbrev BL:=List (Nat × V)
structure St where
 sl:List V
 bl:BL
 deriving Inhabited
def Jb:BL→Nat→Option V
 | [],_=>none
 | (k,v) :: r,s=>match Nat.beq k s with
  | true=>some v
  | false=>Jb r s
def Qb:BL→Nat→BL
 | [],_=>[]
 | (k,v) :: r,s=>match Nat.beq k s with
  | true=>Qb r s
  | false=>(k,v) :: Qb r s
def Jx (b:BL) (s:Nat) (v:V):BL:=(cat (Qb b s) [(s,v)])
def Jy:List V→Nat→V
 | [],_=>.undef
 | v :: _,0=>v
 | _ :: l,n + 1=>Jy l n
def J1 (b:BL) (s:Nat) (p:List Nat):G V:=
 match Jb b s with
 | some c=>c.get p
 | none=>none
def U4 (b:BL) (s:Nat) (p:List Nat) (x:V):G BL:=
 match Jb b s with
 | some c=>match c.get p with
  | some (cs,_)=>some (cs,Jx b s (c.set p x))
  | none=>none
 | none=>none
def UP (b:BL):V→G (Ty × List D)
 | .rd e l=>some ([],e,l)
 | .full s p _=>match J1 b s p with
  | some (c,.own e l)=>some (c,e,l)
  | _=>none
 | .sub s p off len e=>match J1 b s p with
  | some (c,.own e' l)=>match e.beq e' with
   | true=>some (cat c [.le (off + len) l.length],e,(l.drop off).take len)
   | false=>none
  | _=>none
 | _=>none
def OJ:List V→Bool
 | []=>true
 | .rd _ _ :: r=>OJ r
 | _=>false
mutual
def lend (b:BL):Nat→V→G V
 | 0,_=>none
 | n + 1,v=>match v with
  | .full s p _=>match J1 b s p with
   | some (c,.own e l)=>some (c,.rd e l)
   | some (c,.lst e vs)=>match Uy b n vs with
    | some (c',ws)=>match Jh e.plain (Jh (OJ ws) (JK (rep ws.length e) ws)) with
     | true=>some (cat c c',.rd e (Ug ws))
     | false=>none
    | none=>none
   | _=>none
  | .sub s p off len e=>match J1 b s p with
   | some (c,.own e' l)=>match e.beq e' with
    | true=>some (cat c [.le (off + len) l.length],.rd e ((l.drop off).take len))
    | false=>none
   | _=>none
  | .ptr s p=>match J1 b s p with
   | some (c,x)=>match lend b n x with
    | some (c',y)=>some ((cat c c'),.rp y)
    | none=>none
   | none=>none
  | .own e l=>some ([],.rd e l)
  | .obox x=>match lend b n x with
   | some (c,y)=>some (c,.rp y)
   | none=>none
  | .agg vs=>match Uy b n vs with
   | some (c,ws)=>some (c,.agg ws)
   | none=>none
  | .fn f caps=>match Uy b n caps with
   | some (c,ws)=>some (c,.fn f ws)
   | none=>none
  | .lst _ _=>none
  | .tup _=>none
  | .undef=>none
  | .void=>none
  | x=>some ([],x)
def Uy (b:BL):Nat→List V→G (List V)
 | 0,_=>none
 | _ + 1,[]=>some ([],[])
 | n + 1,v :: vs=>match lend b n v with
  | some (c,w)=>match Uy b n vs with
   | some (c',ws)=>some ((cat c c'),w :: ws)
   | none=>none
  | none=>none
end
def X0:Ty→V→V
 | .slice e,.nilsl=>match e.plain with
  | true=>.rd e []
  | false=>.nilsl
 | .slice e,.emp e'=>match e.plain with
  | true=>.rd e []
  | false=>.emp e'
 | _,v=>v
mutual
def UG:Ty→V→V
 | .slice e,.nilsl=>match e.plain with
  | true=>.own e []
  | false=>.nilsl
 | .slice e,.emp e'=>match e.plain with
  | true=>.own e []
  | false=>.emp e'
 | .struct fs,.agg vs=>.agg (Cm fs vs)
 | _,v=>v
def Cm:List Ty→List V→List V
 | t :: ts,v :: vs=>UG t v :: Cm ts vs
 | _,vs=>vs
end
def Um:Ty→V→V
 | .struct fs,v=>UG (.struct fs) v
 | _,v=>v
def WI:V→Bool
 | .own _ _=>true
 | .lst _ _=>true
 | _=>false
def QT (b:BL) (s:Nat) (p:List Nat):Option (V × BL):=
 match Jb b s with
 | some c=>match p with
  | []=>some (c,Qb b s)
  | _=>match c.get p with
   | some ([],x)=>match Jh (WI x) (c.outer p) with
    | true=>some (x,Jx b s (c.set p .undef))
    | false=>none
   | _=>none
 | none=>none
mutual
def inl:Nat→BL→V→G (V × BL)
 | 0,_,_=>none
 | n + 1,b,v=>match v with
  | .full s p _=>match QT b s p with
   | some (.own e l,b')=>some ([],.own e l,b')
   | some (.lst e vs,b')=>match Q3 n b' (Cm (rep vs.length e) vs) with
    | some (c,ws,b'')=>match Jh e.plain (Jh (U3 ws) (JK (rep ws.length e) ws)) with
     | true=>some (c,.own e (Ug ws),b'')
     | false=>none
    | none=>none
   | some _=>none
   | none=>match J1 b s p with
    | some (c,.own e l)=>some (c,.own e l,Qb b s)
    | _=>none
  | .sub s p off len e=>match QT b s p with
   | some (.own e' l,b')=>match e.beq e' with
    | true=>some ([.le (off + len) l.length],.own e ((l.drop off).take len),b')
    | false=>none
   | _=>none
  | .ptr s p=>match p with
   | [0]=>match QT b s [] with
    | some (.obox x,b')=>match inl n b' x with
     | some (c,y,b'')=>some (c,.obox y,b'')
     | none=>none
    | _=>none
   | _=>none
  | .agg vs=>match Q3 n b vs with
   | some (c,ws,b')=>some (c,.agg ws,b')
   | none=>none
  | .tup vs=>match Q3 n b vs with
   | some (c,ws,b')=>some (c,.tup ws,b')
   | none=>none
  | .fn f caps=>match Q3 n b caps with
   | some (c,ws,b')=>some (c,.fn f ws,b')
   | none=>none
  | .obox x=>match inl n b x with
   | some (c,y,b')=>some (c,.obox y,b')
   | none=>none
  | .lst _ _=>none
  | .undef=>none
  | .void=>none
  | x=>some ([],x,b)
def Q3:Nat→BL→List V→G (List V × BL)
 | 0,_,_=>none
 | _ + 1,b,[]=>some ([],[],b)
 | n + 1,b,v :: vs=>match inl n b v with
  | some (c,w,b')=>match Q3 n b' vs with
   | some (c',ws,b'')=>some ((cat c c'),w :: ws,b'')
   | none=>none
  | none=>none
end
def C8 (op:BinOp) (k:IntKind) (a b:Int):G V:=
 match op with
 | .add=>some ([],.int k (k.wrap (a + b)))
 | .sub=>some ([],.int k (k.wrap (a - b)))
 | .mul=>some ([],.int k (k.wrap (a * b)))
 | .quo=>some ([.nz b],.int k (k.wrap (a.tdiv b)))
 | .rem=>some ([.nz b],.int k (a.tmod b))
 | .and=>some ([],.int k (k.wrap (BitVec.ofInt k.bits a &&& BitVec.ofInt k.bits b).toNat))
 | .or=>some ([],.int k (k.wrap (BitVec.ofInt k.bits a ||| BitVec.ofInt k.bits b).toNat))
 | .xor=>some ([],.int k (k.wrap (BitVec.ofInt k.bits a ^^^ BitVec.ofInt k.bits b).toNat))
 | .andNot=>some ([],.int k (k.wrap (BitVec.ofInt k.bits a &&& ~~~(BitVec.ofInt k.bits b)).toNat))
 | .shl=>some ([.nn b],.int k (k.wrap (a * 2 ^ min b.toNat k.bits)))
 | .shr=>some ([.nn b],.int k (a.fdiv (2 ^ min b.toNat k.bits)))
 | .eql=>some ([],.bool (decide (a=b)))
 | .neq=>some ([],.bool (!decide (a=b)))
 | .lss=>some ([],.bool (decide (a<b)))
 | .leq=>some ([],.bool (decide (a≤b)))
 | .gtr=>some ([],.bool (decide (b<a)))
 | .geq=>some ([],.bool (decide (b≤a)))
def KS (op:BinOp) (x y:ByteArray):G V:=
 match op with
 | .add=>some ([.sz x.size y.size],.str (x ++ y))
 | .eql=>some ([],.bool (x.toList == y.toList))
 | .neq=>some ([],.bool (!(x.toList == y.toList)))
 | .lss=>some ([],.bool (Op.bytesLess x.toList y.toList))
 | .leq=>some ([],.bool (Op.bytesLess x.toList y.toList || x.toList == y.toList))
 | .gtr=>some ([],.bool (!(Op.bytesLess x.toList y.toList || x.toList == y.toList)))
 | .geq=>some ([],.bool (!(Op.bytesLess x.toList y.toList)))
 | _=>none
mutual
def eqV:Nat→V→V→Option Bool
 | 0,_,_=>none
 | n + 1,x,y=>match x,y with
  | .int k a,.int k' b=>match keq k k' with
   | true=>some (decide (a=b))
   | false=>none
  | .bool a,.bool b=>some (a == b)
  | .str a,.str b=>some (a == b)
  | .agg as,.agg bs=>VD n as bs
  | _,_=>none
def VD:Nat→List V→List V→Option Bool
 | 0,_,_=>none
 | _ + 1,[],[]=>some true
 | n + 1,a :: as,b :: bs=>match eqV n a b with
  | some x=>match VD n as bs with
   | some y=>some (x && y)
   | none=>none
  | none=>none
 | _ + 1,_,_=>none
end
def C9 (b:BL):V→G Bool
 | .nilsl=>some ([],true)
 | v=>match UP b v with
  | some (c,_,l)=>some ((cat c [.le 1 l.length]),false)
  | none=>none
def WJ:V→G Bool
 | .nilptr=>some ([],true)
 | .ptr _ _=>some ([],false)
 | .rp _=>some ([],false)
 | _=>none
def WK:V→G Bool
 | .nilfn=>some ([],true)
 | .fn _ _=>some ([],false)
 | _=>none
def CK (op:BinOp):G Bool→G V
 | some (c,r)=>match op with
  | .eql=>some (c,.bool r)
  | .neq=>some (c,.bool (J2 r))
  | _=>none
 | none=>none
def Uz:Ty→Bool
 | .slice _=>true
 | _=>false
def WL:Ty→Bool
 | .ptr=>true
 | _=>false
def WM:Ty→Bool
 | .fn=>true
 | _=>false
def Qc {α:Type} (c:Bool) (x:G α):G α:=match c with
 | true=>x
 | false=>none
def OK (t:Ty) (b:BL) (op:BinOp) (x y:V):G V:=
 match x,y with
 | .int k a,.int k' c=>match keq k k' with
  | true=>C8 op k a c
  | false=>match op with
   | .shl=>C8 op k a c
   | .shr=>C8 op k a c
   | _=>none
 | .str s,.str t=>KS op s t
 | .nilsl,y=>Qc (Uz t) (CK op (C9 b y))
 | x,.nilsl=>Qc (Uz t) (CK op (C9 b x))
 | .nilptr,y=>Qc (WL t) (CK op (WJ y))
 | x,.nilptr=>Qc (WL t) (CK op (WJ x))
 | .nilfn,y=>Qc (WM t) (CK op (WK y))
 | x,.nilfn=>Qc (WM t) (CK op (WK x))
 | x,y=>Qc (Jh (Js t x) (Js t y)) (match op with
  | .eql=>match eqV 30 x y with
   | some r=>some ([],.bool r)
   | none=>none
  | .neq=>match eqV 30 x y with
   | some r=>some ([],.bool (!r))
   | none=>none
  | _=>none)
def unV (op:UnOp) (x:V):Option V:=
 match op,x with
 | .neg,.int k n=>some (.int k (k.wrap (0 - n)))
 | .xor,.int k n=>some (.int k (k.wrap (BitVec.ofInt k.bits (if k.signed then -1 else k.max) ^^^ BitVec.ofInt k.bits n).toNat))
 | .not,.bool b=>some (.bool (!b))
 | _,_=>none
def X1 (c x y:V):Option V:=
 match c with
 | .bool c=>match x,y with
  | .bool x,.bool y=>some (.bool (bif c then x else y))
  | x,y=>match c with
   | true=>some x
   | false=>some y
 | _=>none
inductive X2 where
 | lend
 | io
 | take
 | keep
structure Ann where
 ty:TypeId→Ty
 mode:FuncId→Nat→X2
 keep:FuncId→Nat→List Nat
 out:FuncId→Nat→List Nat
 both:FuncId→Bool
 dead:FuncId→Nat→List Nat
 nils:FuncId→Bool
def WN:Value→V
 | .int k n=>.int k n
 | .bool b=>.bool b
 | .string s=>.str s
 | .slice a n c=>match a,n,c with
  | none,0,0=>.nilsl
  | _,_,_=>.undef
 | .pointer a=>match a with
  | none=>.nilptr
  | _=>.undef
 | .nilFunc=>.nilfn
 | _=>.undef
def opd (sl:List V):Operand→V
 | .tmp t=>Jy sl t
 | .const v=>WN v
 | .func f=>.fn f []
 | .global _=>.undef
abbrev Out:=V × BL
def J3:List Nat→Nat→Bool
 | [],_=>false
 | a :: l,s=>match Nat.beq a s with
  | true=>true
  | false=>J3 l s
def Ju:BL→List Nat
 | []=>[]
 | (_,v) :: r=>cat (Jf v) (Ju r)
def Uh (sl:List V) (b:BL) (x:V) (t:Nat):Bool:=
 match Jb b t with
 | none=>J2 (bor (J3 (Jn sl) t) (bor (J3 (Ju b) t) (J3 (Jf x) t)))
 | some _=>false
def fresh (sl:List V) (b:BL) (d:Option Nat) (x:V):Option Out:=
 match d with
 | some t=>match Uh sl b x t with
  | true=>some (Qh t [] x,Jx b t x)
  | false=>none
 | none=>none
def Ui (c:List Jm):Option Out→G Out
 | some o=>some (c,o)
 | none=>none
def X3 (e:Ty) (b:BL) (v:V):G (D × BL):=
 match inl 9 b (UG e v) with
 | some (c,w,b')=>match Jh (JT w) (Js e w) with
  | true=>some (c,enc w,b')
  | false=>none
 | none=>none
def CL (e:Ty):BL→List V→G (List D × BL)
 | b,[]=>some ([],[],b)
 | b,v :: vs=>match X3 e b v with
  | some (c,d,b')=>match CL e b' vs with
   | some (c',ds,b'')=>some ((cat c c'),d :: ds,b'')
   | none=>none
  | none=>none
def CM (ts:List Ty):List V→List (Nat × V)→Option (List V)
 | vs,[]=>some vs
 | vs,(i,x) :: r=>match nth ts i with
  | some t=>match Js t x with
   | true=>CM ts (JF vs i x) r
   | false=>none
  | none=>none
def Uj (e:Ty) (b:BL) (x:V):G (List D × BL):=
 match x with
 | .nilsl=>some ([],[],b)
 | .emp _=>some ([],[],b)
 | .full s p _=>match J1 b s p with
  | some (c,.lst _ vs)=>match p with
   | []=>match CL e (Qb b s) vs with
    | some (c',ds,b')=>some ((cat c c'),ds,b')
    | none=>none
   | _=>none
  | some (c,.own e' l)=>match e.beq e' with
   | true=>match e.flat with
    | true=>some (c,l,b)
    | false=>match QT b s p with
     | some (_,b')=>some (c,l,b')
     | none=>none
   | false=>none
  | _=>none
 | x=>match e.flat with
  | true=>match UP b x with
   | some (c,e',l)=>match e.beq e' with
    | true=>some (c,l,b)
    | false=>none
   | none=>none
  | false=>none
def H6 (e:Ty) (sl:List V) (b0:BL) (d:Option Nat) (s x:V):G Out:=
 match Qc (Jh e.plain (J2 (Nat.beq e.size 0))) (Uj e b0 x) with
 | some (c,xs,b)=>
  match s with
  | .nilsl=>Ui (cat c [.sz 0 xs.length]) (fresh sl b d (.own e xs))
  | .emp e'=>match e.beq e' with
   | true=>Ui (cat c [.sz 0 xs.length]) (fresh sl b d (.own e xs))
   | false=>none
  | .full t p e'=>match e.beq e' with
   | true=>match QT b t p with
    | some (.own e2 l,b')=>Qc (e.beq e2) (Ui (cat c [.sz l.length xs.length]) (fresh sl b' d (.own e (l ++ xs))))
    | _=>none
   | false=>none
  | .sub t p off len e'=>match Jh (e.beq e') e.flat with
   | true=>match J1 b t p with
    | some (c',.own e2 l)=>match U4 b t p (.own e (l.take (off + len) ++ xs ++ l.drop (off + len + xs.length))) with
     | some (_,b')=>Qc (e.beq e2) <| some ((cat (cat c c') [.le (off + len + xs.length) l.length]),.sub t p off (len + xs.length) e,b')
     | none=>none
    | _=>none
   | false=>none
  | _=>none
 | none=>none
def X4 (e:Ty) (sl:List V) (b:BL) (d:Option Nat) (s x:V):G Out:=
 match s with
 | .nilsl=>match x with
  | .int k n=>match keq k .i64 with
   | true=>Qc (Jh e.plain (J2 (Nat.beq e.size 0))) (Ui [.mk n n] (fresh sl b d (.own e (List.replicate n.toNat (QX e)))))
   | false=>none
  | _=>none
 | .full t p e'=>match x with
  | .int k n=>match keq k .i64 with
   | true=>Qc (Jh (e.beq e') (Jh e.plain (J2 (Nat.beq e.size 0)))) (match QT b t p with
    | some (.own e2 l,b')=>Qc (e.beq e2) (Ui [.mk n n,.sz l.length n.toNat] (fresh sl b' d (.own e (l ++ List.replicate n.toNat (QX e)))))
    | _=>none)
   | false=>none
  | _=>none
 | _=>none
def OM:Ty→Bool
 | .int _=>true
 | _=>false
def ON (e:Ty) (b0:BL) (dst src:V):G Out:=
 match Qc (Jh e.plain (J2 (Nat.beq e.size 0))) (Uj e b0 src) with
 | some (c,xs,b)=>match e.flat with
  | true=>match dst with
   | .full t p e'=>match e.beq e' with
    | true=>match J1 b t p with
     | some (c',.own e2 l)=>match U4 b t p (.own e (l.take 0 ++ xs.take l.length ++ l.drop (0 + (xs.take l.length).length))) with
      | some (_,b')=>Qc (e.beq e2) (some (cat c c',.int .i64 (xs.take l.length).length,b'))
      | none=>none
     | _=>none
    | false=>none
   | .sub t p off len e'=>match e.beq e' with
    | true=>match J1 b t p with
     | some (c',.own e2 l)=>match U4 b t p (.own e (l.take off ++ xs.take len ++ l.drop (off + (xs.take len).length))) with
      | some (_,b')=>Qc (e.beq e2) (some (cat (cat c c') [.le (off + len) l.length],.int .i64 (xs.take len).length,b'))
      | none=>none
     | _=>none
    | false=>none
   | _=>none
  | false=>none
 | none=>none
def KT (e:Ty) (b:BL) (x:V):G Out:=
 match x with
 | .sub t p off len e'=>match Jh e.flat (Jh (e.beq e') (J2 (Nat.beq e.size 0))) with
  | true=>match J1 b t p with
   | some (c',.own e2 l)=>match U4 b t p (.own e (l.take off ++ List.replicate len (QX e) ++ l.drop (off + (List.replicate len (QX e)).length))) with
    | some (_,b')=>Qc (e.beq e2) (some (cat c' [.le (off + len) l.length],.tup [],b'))
    | none=>none
   | _=>none
  | false=>none
 | _=>none
def CN (f:Int→Int→Int):V→List V→Option V
 | x,[]=>some x
 | .int k a,.int k' b :: r=>match keq k k' with
  | true=>CN f (.int k (f a b)) r
  | false=>none
 | _,_=>none
def Qd (A:Ann) (sl:List V) (bl:BL) (d:Option Nat) (b:Builtin) (ts:List TypeId) (xs:List V):G Out:=
 match b,xs with
 | .len,[x]=>match nth ts 0 with
  | some t=>match A.ty t with
   | .str=>match x with
    | .str s=>some ([],.int .i64 s.size,bl)
    | _=>none
   | .slice _=>match x with
    | .nilsl=>some ([],.int .i64 0,bl)
    | .emp _=>some ([],.int .i64 0,bl)
    | .sub _ _ _ len _=>some ([],.int .i64 len,bl)
    | x=>match UP bl x with
     | some (c,_,l)=>some (c,.int .i64 l.length,bl)
     | none=>none
   | _=>none
  | none=>none
 | .cap,[x]=>match nth ts 0 with
  | some t=>match A.ty t with
   | .slice _=>match x with
    | .nilsl=>some ([],.int .i64 0,bl)
    | .emp _=>some ([],.int .i64 0,bl)
    | _=>none
   | _=>none
  | none=>none
 | .max,x :: r=>match CN (fun a b=>if b > a then b else a) x r with
  | some (.int k n)=>some ([],.int k n,bl)
  | _=>none
 | .min,x :: r=>match CN (fun a b=>if b<a then b else a) x r with
  | some (.int k n)=>some ([],.int k n,bl)
  | _=>none
 | .append,[s,x]=>match ts with
  | [t,tx]=>match A.ty t with
   | .slice e=>match OM (A.ty tx) with
    | true=>X4 e sl bl d s x
    | false=>Qc (Uz (A.ty tx)) (H6 e sl bl d s x)
   | _=>none
  | _=>none
 | .copy,[s,x]=>match ts with
  | [t,tx]=>match A.ty t with
   | .slice e=>Qc (Uz (A.ty tx)) (ON e bl s x)
   | _=>none
  | _=>none
 | .clear,[x]=>match ts with
  | [t]=>match A.ty t with
   | .slice e=>KT e bl x
   | _=>none
  | _=>none
 | _,_=>none
def Ur:V→Option Int
 | .int _ n=>some n
 | _=>none
def H7 (n:Nat) (lo hi:Option V):G (Nat × Nat):=
 match lo,hi with
 | none,none=>some ([],0,n)
 | some l,none=>match Ur l with
  | some l=>some ([.bd l n n],l.toNat,n)
  | none=>none
 | none,some h=>match Ur h with
  | some h=>some ([.bd 0 h n],0,h.toNat)
  | none=>none
 | some l,some h=>match Ur l,Ur h with
  | some l,some h=>some ([.bd l h n],l.toNat,h.toNat)
  | _,_=>none
def WO:V→Bool
 | .int _ n=>match n with
  | .ofNat m=>Nat.beq m 0
  | _=>false
 | _=>false
def KU:V→Option V
 | .nilsl=>some .nilsl
 | .emp e=>some (.emp e)
 | .rd e _=>some (.emp e)
 | .full _ _ e=>some (.emp e)
 | .sub _ _ _ _ e=>some (.emp e)
 | _=>none
def OO (t:Ty) (b:BL) (x:V) (lo hi mx:Option V):G Out:=
 match mx with
 | some m=>match lo,hi with
  | none,some h=>match Jh (Uz t) (Jh (WO m) (WO h)) with
   | true=>match KU x with
    | some v=>some ([],v,b)
    | none=>none
   | false=>none
  | some l,some h=>match Uz t with
   | true=>match Ur l with
    | some l=>match Ur h with
     | some h=>match Ur m with
      | some m=>match x with
       | .full s p _=>match J1 b s p with
        | some (c',.own e xs)=>match Js t (.own e xs) with
         | true=>some (cat c' [.bd l h xs.length,.bd h m xs.length],.undef,b)
         | false=>none
        | _=>none
       | _=>none
      | none=>none
     | none=>none
    | none=>none
   | false=>none
  | _,_=>none
 | none=>match x with
  | .str s=>match t with
   | .str=>match H7 s.size lo hi with
    | some (c,l,h)=>some (c,.str (s.extract l h),b)
    | none=>none
   | _=>none
  | .nilsl=>match Uz t with
   | true=>match H7 0 lo hi with
    | some (c,_,_)=>some (c,.nilsl,b)
    | none=>none
   | false=>none
  | .rd e xs=>match Js t x with
   | true=>match H7 xs.length lo hi with
    | some (c,l,h)=>some (c,.rd e ((xs.drop l).take (h - l)),b)
    | none=>none
   | false=>none
  | .full s p _=>match J1 b s p with
   | some (c',.own e xs)=>match Js t (.own e xs) with
    | true=>match H7 xs.length lo hi with
     | some (c,l,h)=>some (cat c' c,.sub s p l (h - l) e,b)
     | none=>none
    | false=>none
   | _=>none
  | .sub s p off len e=>match Js t x with
   | true=>match hi with
    | none=>match H7 len lo none with
     | some (c,l,h)=>some (c,.sub s p (off + l) (h - l) e,b)
     | none=>none
    | some hi=>match J1 b s p with
     | some (c',.own e' xs)=>match e.beq e' with
      | true=>match H7 (xs.length - off) lo (some hi) with
       | some (c,l,h)=>some (cat c' c,.sub s p (off + l) (h - l) e,b)
       | none=>none
      | false=>none
     | _=>none
   | false=>none
  | _=>none
def Cn (t:Ty) (b:BL) (x i:V):G Out:=
 match Ur i with
 | some i=>match t with
  | .slice e=>match x with
   | .rd e' l=>match e.beq e' with
    | true=>some ([.ix i l.length],.rp (dec false e (l.getD i.toNat (.int 0))),b)
    | false=>none
   | .full s p _=>match J1 b s p with
    | some (c,.own e' l)=>match e.beq e' with
     | true=>some (cat c [.ix i l.length],.ptr s (cat p [i.toNat]),b)
     | false=>none
    | _=>none
   | .sub s p off len e1=>match J1 b s p with
    | some (c,.own e' l)=>match Jh (e.beq e') (e.beq e1) with
     | true=>some (cat c [.ix i len,.le (off + len) l.length],.ptr s (cat p [off + i.toNat]),b)
     | false=>none
    | _=>none
   | _=>none
  | .arr n e=>match x with
   | .ptr s p=>match J1 b s p with
    | some (c,.arr m e' _)=>match Jh (Nat.beq n m) (e.beq e') with
     | true=>some (cat c [.ix i n],.ptr s (cat p [i.toNat]),b)
     | false=>none
    | _=>none
   | .rp (.arr m e' l)=>match Jh (Nat.beq n m) (e.beq e') with
    | true=>some ([.ix i n],.rp (dec false e (l.getD i.toNat (.int 0))),b)
    | false=>none
   | _=>none
  | _=>none
 | none=>none
def HN (sl:List V):List (Nat × Operand)→List (Nat × V)
 | []=>[]
 | (i,x) :: r=>(i,opd sl x) :: HN sl r
def Jo (sl:List V):List Operand→List V
 | []=>[]
 | x :: r=>opd sl x :: Jo sl r
def QN (sl:List V):Option Operand→Option V
 | none=>none
 | some x=>some (opd sl x)
def OP (x:V) (i:V) (b:BL):G Out:=
 match x,Ur i with
 | .str s,some i=>some ([.ix i s.size],.int .u8 (s.data.toList.getD i.toNat 0).toNat,b)
 | _,_=>none
mutual
def UQ:V→Bool
 | .int _ _=>true
 | .bool _=>true
 | .str _=>true
 | .agg vs=>Oa vs
 | .arr _ _ _=>true
 | .rd _ _=>true
 | .full _ _ _=>true
 | .sub _ _ _ _ _=>true
 | .nilsl=>true
 | .emp _=>true
 | .ptr _ _=>true
 | .rp _=>true
 | .nilptr=>true
 | .nilfn=>true
 | _=>false
def Oa:List V→Bool
 | []=>true
 | v :: vs=>Jh (UQ v) (Oa vs)
end
def OQ (t:Ty) (b:BL) (a x:V):G Out:=
 match a with
 | .ptr s p=>match Jb b s with
  | some c=>match c.get p with
   | some (cs,y)=>match Jh (Js t y) (Js t x) with
    | true=>match Jh (Jh (UQ y) (UQ x)) (bor (c.outer p) t.flat) with
     | true=>some (cs,.void,Jx b s (c.set p x))
     | false=>none
    | false=>none
   | none=>none
  | none=>none
 | _=>none
def H8 (t:Ty) (b:BL) (a:V):G Out:=
 match a with
 | .rp v=>match Js t v with
  | true=>some ([],v,b)
  | false=>none
 | .ptr s p=>match J1 b s p with
  | some (c,v)=>match Js t v with
   | true=>some (c,Qh s p v,b)
   | false=>none
  | none=>none
 | _=>none
def VE (e:Ty) (sl:List V) (b:BL) (d:Option Nat) (n:Nat) (vs:List V):G Out:=
 match e.flat with
 | true=>Ui [] (fresh sl b d (.own e (Ug vs)))
 | false=>match n with
  | 0=>match e.plain with
   | true=>Ui [] (fresh sl b d (.own e []))
   | false=>none
  | _=>Ui [] (fresh sl b d (.lst e vs))
def VF (l:List D):ByteArray:=(l.map D.toInt).foldl (fun r n=>r.push (UInt8.ofNat n.toNat)) ByteArray.empty
def WP (e:Ty) (b:BL) (x:V):G Out:=
 match e.beq (.int .u8) with
 | true=>match UP b x with
  | some (c,e',l)=>match e.beq e' with
   | true=>some (c,.str (VF l),b)
   | false=>none
  | none=>none
 | false=>none
def Ob (t:Ty) (b:BL) (f:Nat) (x:V):G Out:=
 match t with
 | .struct fs=>match x with
  | .ptr s p=>match J1 b s p with
   | some (c,.agg vs)=>match H4 fs vs with
    | true=>match nth vs f with
     | some _=>some (c,.ptr s (cat p [f]),b)
     | none=>none
    | false=>none
   | _=>none
  | .rp (.agg vs)=>match JK fs vs with
   | true=>match nth vs f with
    | some v=>some ([],.rp v,b)
    | none=>none
   | false=>none
  | _=>none
 | _=>none
def CO:List V→Bool
 | []=>true
 | .ptr _ _ :: r=>CO r
 | .rp _ :: r=>CO r
 | _=>false
def X5 (t:Ty) (x:V) (f:Nat):Option V:=
 match t,x with
 | .struct fs,.agg vs=>match JK fs vs with
  | true=>nth vs f
  | false=>none
 | _,_=>none
def JI (A:Ann) (sl:List V) (b:BL) (d:Option Nat) (op:Op):G Out:=
 match op with
 | .move x=>some ([],opd sl x,b)
 | .assign x=>some ([],opd sl x,b)
 | .pick c x y=>match X1 (opd sl c) (opd sl x) (opd sl y) with
  | some v=>some ([],v,b)
  | none=>none
 | .alloc t=>match zok (A.ty t) with
  | true=>Ui [] (fresh sl b d (.obox (Ua (A.ty t))))
  | false=>none
 | .box t x=>match Js (A.ty t) (opd sl x) with
  | true=>Ui [] (fresh sl b d (.obox (Um (A.ty t) (opd sl x))))
  | false=>none
 | .build t ps=>match A.ty t with
  | .struct fs=>match CJ fs with
   | true=>match CM fs (HM fs) (HN sl ps.toList) with
    | some vs=>some ([],.agg vs,b)
    | none=>none
   | false=>none
  | _=>none
 | .buildSlice t n ps=>match A.ty t with
  | .slice e=>match Jh (zok e) (Nat.ble n 256) with
   | true=>match CM (rep n e) (rep n (Ua e)) (HN sl ps.toList) with
    | some vs=>VE e sl b d n vs
    | none=>none
   | false=>none
  | _=>none
 | .load t a=>H8 (A.ty t) b (opd sl a)
 | .store t a x=>match Nat.beq (A.ty t).size 0 with
  | true=>none
  | false=>OQ (A.ty t) b (opd sl a) (opd sl x)
 | .nilCheck x=>match opd sl x with
  | .ptr s p=>some ([],.ptr s p,b)
  | .rp v=>some ([],.rp v,b)
  | .fn f c=>some ([],.fn f c,b)
  | _=>none
 | .binOp op t x y _=>match OK (A.ty t) b op (opd sl x) (opd sl y) with
  | some (c,v)=>some (c,v,b)
  | none=>none
 | .unOp op _ x=>match unV op (opd sl x) with
  | some v=>some ([],v,b)
  | none=>none
 | .convert s t x=>match Uz (A.ty s) with
  | true=>match A.ty s,A.ty t with
   | .slice e,.str=>WP e b (opd sl x)
   | _,_=>none
  | false=>match A.ty s,A.ty t,opd sl x with
   | .int _,.int k,.int _ n=>some ([],.int k (k.wrap n),b)
   | .str,.str,.str s=>some ([],.str s,b)
   | _,_,_=>none
 | .makeFunc fn first caps=>match fn,first.toList with
  | .func f,[]=>match CO (Jo sl caps.toList) with
   | true=>some ([],.fn f (Jo sl caps.toList),b)
   | false=>none
  | _,_=>none
 | .makeSlice t l c=>match A.ty t with
  | .slice e=>match e.plain with
   | true=>match Ur (opd sl l),Ur (opd sl c) with
    | some l,some c=>Ui [.mk l c] (fresh sl b d (.own e (List.replicate l.toNat (QX e))))
    | _,_=>none
   | false=>none
  | _=>none
 | .slice t x lo hi mx=>OO (A.ty t) b (opd sl x) (QN sl lo) (QN sl hi) (QN sl mx)
 | .fieldAddr t x f=>Ob (A.ty t) b f (opd sl x)
 | .field t x f=>match X5 (A.ty t) (opd sl x) f with
  | some v=>some ([],v,b)
  | none=>none
 | .indexAddr t x i=>Cn (A.ty t) b (opd sl x) (opd sl i)
 | .index t x i=>match A.ty t with
  | .str=>OP (opd sl x) (opd sl i) b
  | _=>none
 | .extract x i=>match opd sl x with
  | .tup vs=>match nth vs i with
   | some v=>some ([],v,b)
   | none=>none
  | _=>none
 | .call c=>match c.callee with
  | .builtin f=>Qd A sl b d f c.argTypes.toList (Jo sl c.args.toList)
  | _=>none
 | _=>none
mutual
def QD {R:Type}:V→(V→Option R)→Option R
 | .agg vs,κ=>Uw vs (fun ws=>κ (.agg ws))
 | .lst e vs,κ=>Uw vs (fun ws=>κ (.lst e ws))
 | .tup vs,κ=>Uw vs (fun ws=>κ (.tup ws))
 | .fn f vs,κ=>Uw vs (fun ws=>κ (.fn f ws))
 | .obox v,κ=>QD v (fun w=>κ (.obox w))
 | .rp v,κ=>QD v (fun w=>κ (.rp w))
 | .full s p e,κ=>Ux p (fun q=>κ (.full s q e))
 | .sub s p o l e,κ=>Ux p (fun q=>κ (.sub s q o l e))
 | .ptr s p,κ=>Ux p (fun q=>κ (.ptr s q))
 | .undef,κ=>κ .undef
 | .void,κ=>κ .void
 | .int k n,κ=>κ (.int k n)
 | .bool b,κ=>κ (.bool b)
 | .str s,κ=>κ (.str s)
 | .arr n e l,κ=>κ (.arr n e l)
 | .own e l,κ=>κ (.own e l)
 | .rd e l,κ=>κ (.rd e l)
 | .nilsl,κ=>κ .nilsl
 | .emp e,κ=>κ (.emp e)
 | .nilfn,κ=>κ .nilfn
 | .nilptr,κ=>κ .nilptr
def Uw {R:Type}:List V→(List V→Option R)→Option R
 | [],κ=>κ []
 | v :: vs,κ=>QD v (fun w=>Uw vs (fun ws=>κ (w :: ws)))
def Ux {R:Type}:List Nat→(List Nat→Option R)→Option R
 | [],κ=>κ []
 | n :: p,κ=>Ux p (fun q=>κ (n :: q))
end
def Hh {R:Type}:BL→(BL→Option R)→Option R
 | [],κ=>κ []
 | (k,v) :: r,κ=>QD v (fun w=>Hh r (fun r'=>κ ((k,w) :: r')))
def U5 {R:Type}:List V→Nat→V→(List V→Option R)→Option R
 | [],_,_,κ=>κ []
 | _ :: l,0,x,κ=>κ (x :: l)
 | a :: l,n + 1,x,κ=>U5 l n x (fun l'=>κ (a :: l'))
def QU {R:Type} (σ:St) (d:Option Nat) (v:V) (b:BL) (κ:St→Option R):Option R:=
 match d with
 | some t=>QD v (fun w=>U5 σ.sl t w (fun sl=>Hh b (fun b'=>κ ⟨sl,b'⟩)))
 | none=>Hh b (fun b'=>κ ⟨σ.sl,b'⟩)
def Hi (A:Ann) (f:FuncId):Nat→BL→List V→G (List V × BL)
 | _,b,[]=>some ([],[],b)
 | i,b,v :: vs=>
  match (match A.mode f i with
   | .io=>inl 9 b v
   | .take=>inl 9 b v
   | _=>some ([],v,b)) with
  | some (c,w,b')=>match Hi A f ((i + 1)) b' vs with
   | some (c',ws,b'')=>some ((cat c c'),w :: ws,b'')
   | none=>none
  | none=>none
def Q4 (A:Ann) (f:FuncId) (b:BL):Nat→List Ty→List V→G (List V)
 | _,_,[]=>some ([],[])
 | i,ts,v :: vs=>
  match (match A.mode f i with
   | .lend=>lend b 9 (X0 (ts.headD .other) v)
   | .io=>some ([],v)
   | .take=>some ([],v)
   | .keep=>match bor (QY v) (J2 (Jf v).isEmpty) with
    | true=>none
    | false=>some ([],v)) with
  | some (c,w)=>match Q4 A f b ((i + 1)) ts.tail vs with
   | some (c',ws)=>some ((cat c c'),w :: ws)
   | none=>none
  | none=>none
def OR (A:Ann) (f:FuncId) (b:BL) (ts:List Ty) (vs:List V):G (List V × BL):=
 match Hi A f 0 b vs with
 | some (c,ws,b')=>match Q4 A f b' 0 ts ws with
  | some (c',us)=>some (cat c c',us,b')
  | none=>none
 | none=>none
def Ub:List Nat→List Nat→Bool
 | [],_=>true
 | s :: r,l=>Jh (J2 (J3 l s)) (Ub r l)
def Oc (b:BL) (v x:V):Option BL:=
 match v with
 | .full s p _=>match p with
  | []=>match x with
   | .own e l=>match bor (J3 (Ju b) s) (match Jb b s with | some _=>true | none=>false) with
    | false=>some (Jx b s (.own e l))
    | true=>none
   | _=>none
  | _=>none
 | .ptr s p=>match p with
  | [0]=>match x with
   | .obox y=>match bor (J3 (Ju b) s) (match Jb b s with | some _=>true | none=>false) with
    | false=>some (Jx b s (.obox y))
    | true=>none
   | _=>none
  | _=>none
 | _=>none
mutual
def noB:V→Bool
 | .int _ _=>true
 | .bool _=>true
 | .str _=>true
 | .arr _ _ _=>true
 | .rd e _=>J2 (H3 e)
 | .agg vs=>Co vs
 | .rp v=>noB v
 | .fn _ caps=>Co caps
 | .nilsl=>true
 | .emp _=>true
 | .nilfn=>true
 | .nilptr=>true
 | _=>false
def Co:List V→Bool
 | []=>true
 | v :: vs=>Jh (noB v) (Co vs)
end
def UH (A:Ann) (f:FuncId):Nat→List V→Bool
 | _,[]=>true
 | i,v :: vs=>match A.mode f i with
  | .lend=>match noB v with
   | true=>UH A f (i + 1) vs
   | false=>false
  | _=>UH A f (i + 1) vs
def Q5 (A:Ann) (kp:Bool) (f:FuncId):Nat→BL→List V→List V→Option BL
 | _,b,[],[]=>some b
 | i,b,v :: vs,x :: xs=>match A.mode f i with
  | .io=>match bor (JT x) (Jh kp (Qo x)) with
   | true=>match Oc b v x with
    | some b'=>Q5 A kp f ((i + 1)) b' vs xs
    | none=>none
   | false=>none
  | _=>Q5 A kp f ((i + 1)) b vs xs
 | _,_,_,_=>none
def OS (b:BL):V→Bool
 | .full s p _=>match p with
  | []=>match Jb b s with
   | some (.own _ _)=>true
   | some (.lst _ _)=>true
   | _=>false
  | _=>false
 | .ptr s p=>match p with
  | [0]=>match Jb b s with
   | some (.obox _)=>true
   | _=>false
  | _=>false
 | _=>false
def U6 (A:Ann) (f:FuncId) (b:BL):Nat→List V→Bool
 | _,[]=>true
 | i,v :: vs=>match A.mode f i with
  | .io=>Jh (OS b v) (U6 A f b ((i + 1)) vs)
  | _=>U6 A f b ((i + 1)) vs
def ioF (A:Ann) (f:FuncId):Nat→List V→List Nat
 | _,[]=>[]
 | i,v :: vs=>match A.mode f i with
  | .io=>match v with
   | .full s _ _=>s :: ioF A f ((i + 1)) vs
   | _=>ioF A f ((i + 1)) vs
  | _=>ioF A f ((i + 1)) vs
def ioP (A:Ann) (f:FuncId):Nat→List V→List Nat
 | _,[]=>[]
 | i,v :: vs=>match A.mode f i with
  | .io=>match v with
   | .ptr s _=>s :: ioP A f ((i + 1)) vs
   | _=>ioP A f ((i + 1)) vs
  | _=>ioP A f ((i + 1)) vs
mutual
def ioV (Lf Lp:List Nat):V→Bool
 | .full s p _=>Jh (J2 (J3 Lp s)) (match J3 Lf s with
  | true=>match p with
   | []=>true
   | _=>false
  | false=>true)
 | .ptr s p=>Jh (J2 (J3 Lf s)) (match J3 Lp s with
  | true=>match p with
   | [0]=>true
   | _=>false
  | false=>true)
 | .agg vs=>Q6 Lf Lp vs
 | .tup vs=>Q6 Lf Lp vs
 | .fn _ vs=>Q6 Lf Lp vs
 | v=>Jh (Ub (Jf v) Lf) (Ub (Jf v) Lp)
def Q6 (Lf Lp:List Nat):List V→Bool
 | []=>true
 | v :: vs=>Jh (ioV Lf Lp v) (Q6 Lf Lp vs)
end
def VG (s n t:Nat) (p:List Nat):Bool:=match Nat.beq t s with
 | true=>Nat.ble (Nat.succ (Ul p)) n
 | false=>true
mutual
def UR (s n m:Nat):V→Bool
 | .full t p _=>VG s m t p
 | .sub t p _ _ _=>VG s m t p
 | .ptr t p=>VG s n t p
 | .agg vs=>US s n m vs
 | .tup vs=>US s n m vs
 | .fn _ vs=>US s n m vs
 | v=>J2 (J3 (Jf v) s)
def US (s n m:Nat):List V→Bool
 | []=>true
 | v :: vs=>Jh (UR s n m v) (US s n m vs)
end
def KV:Ty→V→Bool
 | .slice _,.undef=>true
 | _,_=>false
def CP (t:Ty) (sl:List V) (b:BL) (a x:V):G BL:=
 match a with
 | .ptr s p=>match inl 9 b (UG t x) with
  | some (c1,y,b1)=>match Jh (Jh (JT y) (Js t y)) (Jh (Jh t.plain (J2 (Nat.beq t.size 0))) (J2 (J3 (Ju b1) s))) with
   | true=>match Jb b1 s with
    | some c=>match c.get p with
     | some (c2,z)=>match Jh (bor (Jh (bor (JT z) (c.outer p)) (Js t z)) (Jh (c.outer p) (KV t z))) (US s (Nat.succ (Ul p)) (Ul p) sl) with
      | true=>some (cat c1 c2,Jx b1 s (c.set p y))
      | false=>none
     | none=>none
    | none=>none
   | false=>none
  | none=>none
 | _=>none
def UA (A:Ann) (f:FuncId):Nat→List V→Bool
 | _,[]=>false
 | i,_ :: vs=>match A.mode f i with
  | .io=>true
  | .take=>true
  | _=>UA A f (i + 1) vs
def Un (A:Ann) (f:FuncId):Nat→List V→Option V
 | _,[]=>none
 | i,v :: vs=>match A.mode f i with
  | .io=>match UA A f (i + 1) vs with
   | true=>none
   | false=>some v
  | .take=>none
  | _=>Un A f (i + 1) vs
def H9 (A:Ann) (f:FuncId) (x:V):Nat→List V→List V
 | _,[]=>[]
 | i,v :: vs=>match A.mode f i with
  | .io=>x :: vs
  | _=>v :: H9 A f x (i + 1) vs
def Cp (A:Ann) (f:FuncId):Nat→List V→List V→Option V
 | i,_ :: vs,o :: os=>match A.mode f i with
  | .io=>some o
  | _=>Cp A f (i + 1) vs os
 | _,_,_=>none
def Od (a b:Nat):Nat:=match Nat.ble a b with
 | true=>a
 | false=>b
mutual
def Qr (k:Nat):V→Nat
 | .agg vs=>Nat.succ (Oe k vs)
 | .int _ _=>Nat.succ (Nat.succ (Nat.succ (Nat.succ k)))
 | .bool _=>Nat.succ (Nat.succ (Nat.succ (Nat.succ k)))
 | .str _=>Nat.succ (Nat.succ (Nat.succ (Nat.succ k)))
 | _=>Nat.succ k
def Oe (k:Nat):List V→Nat
 | []=>Nat.succ (Nat.succ (Nat.succ (Nat.succ k)))
 | v :: vs=>Od (Qr k v) (Oe k vs)
end
def KW:List Nat→List Nat
 | []=>[]
 | [_]=>[]
 | a :: l=>a :: KW l
mutual
def VH:V→Option (Nat × List Nat)
 | .full s p _=>some (s,p)
 | .agg vs=>match KX vs with
  | some (s,p)=>some (s,KW p)
  | none=>none
 | _=>none
def KX:List V→Option (Nat × List Nat)
 | []=>none
 | v :: vs=>match VH v with
  | some x=>some x
  | none=>KX vs
end
def eqP:List Nat→List Nat→Option (List Jm)
 | [],[]=>some []
 | a :: p,b :: q=>match eqP p q with
  | some c=>some (.le a b :: .le b a :: c)
  | none=>none
 | _,_=>none
mutual
def alC (s:Nat):List Nat→V→V→Option (List Jm)
 | p,.full t q _,.own _ _=>match Nat.beq t s with
  | true=>eqP q p
  | false=>none
 | _,.int k a,.int k' b=>match keq k k' with
  | true=>some [.eqI a b]
  | false=>none
 | _,.bool a,.bool b=>some [.eqB a b]
 | p,.agg vs,.agg xs=>OT s p 0 vs xs
 | _,_,_=>none
def OT (s:Nat):List Nat→Nat→List V→List V→Option (List Jm)
 | _,_,[],[]=>some []
 | p,j,v :: vs,x :: xs=>match alC s (cat p [j]) v x with
  | some c=>match OT s p (j + 1) vs xs with
   | some c'=>some (cat c c')
   | none=>none
  | none=>none
 | _,_,_,_=>none
end
def WQ (s:Nat) (p:List Nat) (v x:V):Option (List Jm):=
 match v with
 | .full _ _ _=>match x with
  | .own _ _=>some []
  | _=>none
 | v=>alC s p v x
mutual
def QA:V→V→Bool
 | .int k _,.int k' _=>keq k k'
 | .bool _,.bool _=>true
 | .str _,.str _=>true
 | .own e _,.own e' _=>e.beq e'
 | .arr n e _,.arr m e' _=>Jh (Nat.beq n m) (e.beq e')
 | .agg vs,.agg xs=>Ca vs xs
 | _,_=>false
def Ca:List V→List V→Bool
 | [],[]=>true
 | v :: vs,x :: xs=>Jh (QA v x) (Ca vs xs)
 | _,_=>false
end
def place (sl:List V) (b:BL) (s:Nat) (v:V):Option Out:=
 match QY v with
 | true=>match Uh sl b v s with
  | true=>some (Qh s [] v,Jx b s v)
  | false=>none
 | false=>some (v,b)
def Hj (s:Nat):List V→BL→Nat→List V→Option (List V × BL)
 | _,b,_,[]=>some ([],b)
 | sl,b,j,v :: vs=>match place sl b (10000 + 16 * s + j) v with
  | some (x,b')=>match Hj s (x :: sl) b' (j + 1) vs with
   | some (xs,b'')=>some (x :: xs,b'')
   | none=>none
  | none=>none
def Q7 (sl:List V) (b:BL) (d:Option Nat) (v:V):Option Out:=
 match d with
 | some s=>match v with
  | .tup vs=>match Hj s sl b 0 vs with
   | some (xs,b')=>some (.tup xs,b')
   | none=>none
  | v=>place sl b s v
 | none=>some (.undef,b)
abbrev OC (R:Type):=FuncId→List V→(V→List V→Option R)→Option R
inductive Ex where
 | normal
 | exit (id:Nat)
 | ret
 deriving Inhabited
abbrev OL (R:Type):=Nat→Code→St→(Ex→St→Option R)→Option R
def QV:List V→Bool
 | []=>true
 | .tup _ :: _=>false
 | _ :: vs=>QV vs
def Hy:List V→Bool
 | []=>true
 | .tup _ :: _=>false
 | .agg _ :: _=>false
 | .arr _ _ _ :: _=>false
 | _ :: vs=>Hy vs
def X6 (A:Ann) (f:FuncId) (b:BL) (vs:List V):Option (Nat × List Nat × V × V):=
 match Un A f 0 vs with
 | some v=>match VH v with
  | some (s,p)=>match Jb b s with
   | some c=>match JT c with
    | true=>some (s,p,v,c)
    | false=>none
   | none=>none
  | none=>none
 | none=>none
def KY {R:Type} (oc:OC R) (A:Ann) (σ:St) (d:Option Nat) (f:FuncId) (ts:List Ty) (all:List V) (s:Nat) (p:List Nat) (v c:V) (κ:St→Option R):Option R:=
 match c.get p with
 | some (c1,x)=>match Jh (Jh (JT x) (J2 (J3 (Ju σ.bl) s))) (US s (Qr (Ul p) x) (Qr (Ul p) x) σ.sl) with
  | true=>match WQ s p v x with
   | some c2=>match Q4 A f (Qb σ.bl s) 0 ts (H9 A f x 0 all) with
    | some (c3,ws)=>QM (cat c1 (cat c2 c3)) (Uw ws (fun ws=>oc f ws (fun res outs=>
      match Cp A f 0 all outs with
      | some y=>match Jh (Qa res) (Jh (JT y) (QA x y)) with
       | true=>Hh (Jx σ.bl s (c.set p y)) (fun b2=>match Q7 σ.sl b2 d res with
        | some (r,b3)=>QU σ d r b3 κ
        | none=>none)
       | false=>none
      | none=>none)))
    | none=>none
   | none=>none
  | false=>none
 | none=>none
def KZ {R:Type} (oc:OC R) (A:Ann) (σ:St) (d:Option Nat) (f:FuncId) (ts:List Ty) (all:List V) (κ:St→Option R):Option R:=
 match Jh (U6 A f σ.bl 0 all) (Q6 (ioF A f 0 all) (ioP A f 0 all) σ.sl) with
 | true=>match OR A f σ.bl ts all with
  | some (c,ws,b1)=>QM c (Uw ws (fun ws=>Hh b1 (fun b1=>oc f ws (fun res outs=>
    match Qa res with
    | true=>match Q5 A (UH A f 0 ws) f 0 b1 all outs with
     | some b2=>match Q7 σ.sl b2 d res with
      | some (v,b3)=>QU σ d v b3 κ
      | none=>none
     | none=>none
    | false=>none))))
  | none=>none
 | false=>none
def K0 {R:Type} (oc:OC R) (A:Ann) (σ:St) (d:Option Nat) (f:FuncId) (ts:List Ty) (args caps:List V) (κ:St→Option R):Option R:=
 match Jh (QV args) (Hy caps) with
 | true=>match UA A f 0 (cat args caps) with
  | false=>match Q4 A f σ.bl 0 ts (cat args caps) with
   | some (c,ws)=>QM c (Uw ws (fun ws=>oc f ws (fun res _=>
     match Qa res with
     | true=>match Q7 σ.sl σ.bl d res with
      | some (v,b'')=>QU σ d v b'' κ
      | none=>none
     | false=>none)))
   | none=>none
  | true=>match X6 A f σ.bl (cat args caps) with
   | some (s,p,v,c)=>KY oc A σ d f ts (cat args caps) s p v c κ
   | none=>KZ oc A σ d f ts (cat args caps) κ
 | false=>none
def VI (A:Ann):List TypeId→List Ty
 | []=>[]
 | t :: ts=>A.ty t :: VI A ts
def VJ {R:Type} (A:Ann) (σ:St) (o:Oper) (κ:St→Option R):Option R:=
 match JI A σ.sl σ.bl o.dst o.op with
 | some (c,v,b)=>QM c (QU σ o.dst v b κ)
 | none=>none
def X7 (sl:List V) (b:BL):List Nat→Bool
 | []=>true
 | s :: r=>Jh (J2 (bor (J3 (Jn sl) s) (J3 (Ju b) s))) (X7 sl b r)
def X8 (A:Ann) (sl:List V) (b:BL) (d:Option Nat) (t:TypeId) (x:Operand):G (Out × Nat × V):=
 match x with
 | .tmp u=>match Jy sl u with
  | .agg vs=>match Jn vs with
   | []=>none
   | s :: r=>match Jh (X7 (JF sl u .undef) b (s :: r)) (Js (A.ty t) (.agg vs)) with
    | true=>match inl 9 b (.agg vs) with
     | some (c,y,b')=>match d with
      | some e=>match Uh sl b' (.obox (Um (A.ty t) y)) e with
       | true=>some (c,(.ptr e [0],Jx b' e (.obox (Um (A.ty t) y))),u,Qh e [0] (Um (A.ty t) y))
       | false=>none
      | none=>none
     | none=>none
    | false=>none
  | _=>none
 | _=>none
def X9 (A:Ann) (sl:List V) (b:BL) (t:TypeId) (a x:Operand):G BL:=
 match x with
 | .tmp u=>match Jy sl u with
  | .agg vs=>match Jn vs with
   | []=>none
   | s :: r=>match X7 (JF sl u .undef) b (s :: r) with
    | true=>CP (A.ty t) sl b (opd sl a) (opd sl x)
    | false=>none
  | _=>none
 | _=>none
def VK (t:Ty) (b:BL) (a x:V):G BL:=
 match a with
 | .ptr s p=>match Jb b s with
  | some c=>match c.get p with
   | some (cs,.undef)=>match Jh (Jh (Uz t) (Js t x)) (Jh (UQ x) (c.outer p)) with
    | true=>some (cs,Jx b s (c.set p x))
    | false=>none
   | _=>none
  | none=>none
 | _=>none
def Cq {R:Type} (oc:OC R) (A:Ann) (σ:St) (o:Oper) (κ:St→Option R):Option R:=
 match o.op with
 | .call c=>match c.callee with
  | .value f=>match opd σ.sl f with
   | .fn g caps=>K0 oc A σ o.dst g (VI A c.argTypes.toList) (Jo σ.sl c.args.toList) caps κ
   | _=>none
  | _=>VJ A σ o κ
 | .store t a x=>match X9 A σ.sl σ.bl t a x with
  | some (c,b)=>QM c (QU σ o.dst .void b κ)
  | none=>match JI A σ.sl σ.bl o.dst o.op with
   | some (c,v,b)=>QM c (QU σ o.dst v b κ)
   | none=>match VK (A.ty t) σ.bl (opd σ.sl a) (opd σ.sl x) with
    | some (c,b)=>QM c (QU σ o.dst .void b κ)
    | none=>match CP (A.ty t) σ.sl σ.bl (opd σ.sl a) (opd σ.sl x) with
     | some (c,b)=>QM c (QU σ o.dst .void b κ)
     | none=>none
 | .box t x=>match X8 A σ.sl σ.bl o.dst t x with
  | some (c,(v,b),u,y)=>QM c (QD y (fun y=>U5 σ.sl u y (fun sl=>QU ⟨sl,σ.bl⟩ o.dst v b κ)))
  | none=>VJ A σ o κ
 | _=>VJ A σ o κ
def Hz (s n m:Nat):List V→List V
 | []=>[]
 | v :: vs=>(match UR s n m v with
  | true=>v
  | false=>.undef) :: Hz s n m vs
def K3 (A:Ann) (σ:St) (o:Oper) (t:TypeId) (a x:Operand):Option (List Jm × List V × BL):=
 match opd σ.sl a with
 | .ptr s p=>match US s (Nat.succ (Ul p)) (Ul p) σ.sl with
  | true=>none
  | false=>match X9 A σ.sl σ.bl t a x with
   | some _=>none
   | none=>match JI A σ.sl σ.bl o.dst o.op with
    | some _=>none
    | none=>match VK (A.ty t) σ.bl (opd σ.sl a) (opd σ.sl x) with
     | some _=>none
     | none=>match CP (A.ty t) (Hz s (Nat.succ (Ul p)) (Ul p) σ.sl) σ.bl (opd σ.sl a) (opd σ.sl x) with
      | some (c,b)=>some (c,Hz s (Nat.succ (Ul p)) (Ul p) σ.sl,b)
      | none=>none
 | _=>none
def HA {R:Type} (oc:OC R) (A:Ann) (σ:St) (o:Oper) (κ:St→Option R):Option R:=
 match o.op with
 | .store t a x=>match K3 A σ o t a x with
  | some (c,sl,b)=>QM c (Uw sl (fun sl=>QU ⟨sl,σ.bl⟩ o.dst .void b κ))
  | none=>Cq oc A σ o κ
 | _=>Cq oc A σ o κ
def Hk:List Oper→Nat→Option Nat
 | [],_=>none
 | o :: _,0=>o.dst
 | _ :: l,n + 1=>Hk l n
def Of (b:BL):Nat→List Nat→List Nat→List Nat
 | 0,acc,_=>acc
 | _ + 1,acc,[]=>acc
 | n + 1,acc,s :: r=>match J3 acc s with
  | true=>Of b n acc r
  | false=>match Jb b s with
   | some c=>Of b n (cat acc [s]) (cat (Jf c) r)
   | none=>Of b n (cat acc [s]) r
def Hl {R:Type} (oc:OC R) (A:Ann) (all:List Oper):List Oper→St→(St→Option R)→Option R
 | [],σ,κ=>κ σ
 | o :: rest,σ,κ=>
  match o.guard with
  | none=>HA oc A σ o (fun σ'=>Hl oc A all rest σ' κ)
  | some (j,want)=>match Hk all j with
   | some t=>match Jy σ.sl t with
    | .void=>QU σ o.dst .void σ.bl (fun σ'=>Hl oc A all rest σ' κ)
    | .bool b=>bif b
     then U5 σ.sl t (.bool true) (fun sl=>match want with
      | true=>HA oc A ⟨sl,σ.bl⟩ o (fun σ'=>Hl oc A all rest σ' κ)
      | false=>QU ⟨sl,σ.bl⟩ o.dst .void σ.bl (fun σ'=>Hl oc A all rest σ' κ))
     else U5 σ.sl t (.bool false) (fun sl=>match want with
      | true=>QU ⟨sl,σ.bl⟩ o.dst .void σ.bl (fun σ'=>Hl oc A all rest σ' κ)
      | false=>HA oc A ⟨sl,σ.bl⟩ o (fun σ'=>Hl oc A all rest σ' κ))
    | _=>none
   | none=>none
def Qs:Code→Nat
 | .region id _ _=>id
 | .seq a b=>match a with
  | .skip=>Qs b
  | _=>Qs a
 | .cond _ a _=>Qs a
 | .block _ b=>Qs b
 | .loop b=>Qs b + 100000
 | _=>0
def Cr:List Nat→Nat→List V→List V
 | _,_,[]=>[]
 | ks,t,v :: vs=>(match J3 ks t with
   | true=>v
   | false=>.undef) :: Cr ks ((t + 1)) vs
mutual
def ren (f:Nat→Nat):V→V
 | .full s p e=>.full (f s) p e
 | .sub s p o l e=>.sub (f s) p o l e
 | .ptr s p=>.ptr (f s) p
 | .agg vs=>.agg (QB f vs)
 | .lst e vs=>.lst e (QB f vs)
 | .tup vs=>.tup (QB f vs)
 | .fn g caps=>.fn g (QB f caps)
 | .obox v=>.obox (ren f v)
 | .rp v=>.rp (ren f v)
 | v=>v
def QB (f:Nat→Nat):List V→List V
 | []=>[]
 | v :: vs=>ren f v :: QB f vs
end
def HO:List Nat→Nat→Nat→Nat
 | [],k,_=>k
 | a :: l,k,s=>match Nat.beq a s with
  | true=>k
  | false=>HO l ((k + 1)) s
def Cb (f:Nat→Nat) (b:BL):List Nat→BL
 | []=>[]
 | s :: r=>match Jb b s with
  | some c=>(f s,ren f c) :: Cb f b r
  | none=>Cb f b r
def OU (L:List Nat):List Nat→Bool
 | []=>true
 | s :: r=>Jh (J3 L s) (OU L r)
def OV (b:BL) (L:List Nat):List Nat→Bool
 | []=>true
 | s :: r=>match Jb b s with
  | some c=>Jh (OU L (Jf c)) (OV b L r)
  | none=>OV b L r
def OW {R:Type} (ks:List Nat) (σ:St) (κ:St→Option R):Option R:=
 Uw (Cr ks 0 σ.sl) (fun m=>Ux (Of σ.bl 60 [] (Jn m)) (fun L=>
  match Jh (OU L (Jn m)) (OV σ.bl L L) with
  | true=>Uw (QB (HO L 1000) m) (fun sl=>Hh (Cb (HO L 1000) σ.bl L) (fun b=>κ ⟨sl,b⟩))
  | false=>none))
end Go.Rai
namespace Go.Rai
def QO (w:World) (a:Addr) (cs:List Value):Prop:=∀ j v,cs[j]?=some v→w.cell? (a.add j)=some v
def QP (w:World) (a:Addr) (n:Nat):Prop:=∀ j,j<n→(∃ v,w.cell? (a.add j)=some v)∧w.frozen? (a.add j)=false
def Row (R:D→List Value→List Nat→Prop):List D→List Value→List Nat→Prop
 | [],cs,F=>cs=[]∧F=[]
 | d :: l,cs,F=>∃ c1 c2 F1 F2,cs=c1 ++ c2∧F=F1 ++ F2∧R d c1 F1∧Row R l c2 F2
def UI (o:Bool) (w:World) (R:D→List Value→List Nat→Prop) (size:Nat) (A:Option Addr) (c:Nat) (l:List D) (F:List Nat):Prop:=
 (l=[]∧c=0∧F=[]) ∨
 ∃ a cs F',A=some a∧Row R l cs F'∧QO w a cs∧F=a.block :: F'∧l.length≤c∧a.block<w.heap.size∧(o=true→QP w a (c * size))
mutual
def DIn (o:Bool) (w:World):Ty→D→List Value→List Nat→Prop
 | .int k,d,cs,F=>cs=[.int k d.toInt]∧F=[]
 | .bool,d,cs,F=>cs=[.bool d.toBool]∧F=[]
 | .str,d,cs,F=>cs=[.string d.toStr]∧F=[]
 | .struct ts,d,cs,F=>Qv o w ts 0 d cs F
 | .arr n e,d,cs,F=>d.items.length=n∧Row (DIn o w e) d.items cs F
 | .slice e,d,cs,F=>∃ A c,cs=[.slice A d.items.length c]∧UI o w (DIn o w e) e.size A c d.items F
 | _,_,_,_=>False
def Qv (o:Bool) (w:World):List Ty→Nat→D→List Value→List Nat→Prop
 | [],_,_,cs,F=>cs=[]∧F=[]
 | t :: ts,j,d,cs,F=>∃ c1 c2 F1 F2,cs=c1 ++ c2∧F=F1 ++ F2∧DIn o w t (d.fld j) c1 F1∧Qv o w ts (j + 1) d c2 F2
end
inductive Jj where
 | reg (cs:List Value)
 | mem (a:Addr)
def Jj.shift:Jj→Nat→Jj
 | .reg cs,n=>.reg (cs.drop n)
 | .mem a,n=>.mem (a.add n)
def Jj.head (w:World):Jj→Option Value
 | .reg cs=>cs[0]?
 | .mem a=>w.cell? a
def Jj.holds (w:World) (L:Jj) (cs:List Value):Prop:=
 match L with
 | .reg ds=>∃ r,ds=cs ++ r
 | .mem a=>QO w a cs
mutual
def vsz:V→Nat
 | .agg vs=>Jt vs
 | .arr n e _=>n * e.size
 | _=>1
def Jt:List V→Nat
 | []=>0
 | v :: vs=>vsz v + Jt vs
end
def Jg (w:World):V→Jj→List Nat→Option (V × Jj)
 | v,L,[]=>some (v,L)
 | v,L,j :: p=>match v with
  | .agg vs=>match nth vs j with
   | some x=>Jg w x (L.shift (Jt (vs.take j))) p
   | none=>none
  | .arr _ e l=>if j<l.length then Jg w (dec true e (l.getD j (.int 0))) (L.shift (j * e.size)) p else none
  | .own e l=>if j<l.length then
    match L.head w with
    | some (.slice (some a) _ _)=>Jg w (dec true e (l.getD j (.int 0))) (.mem (a.add (j * e.size))) p
    | _=>none
   else none
  | .lst _ vs=>match nth vs j with
   | some x=>match L.head w with
    | some (.slice (some a) _ _)=>Jg w x (.mem (a.add (Jt (vs.take j)))) p
    | _=>none
   | none=>none
  | .obox x=>match L.head w with
   | some (.pointer (some a))=>Jg w x (.mem a) p
   | _=>none
  | .fn _ caps=>match nth caps j with
   | some x=>match L.head w with
    | some (.func _ _ vals)=>Jg w x (.reg (vals.toList.drop (Jt (caps.take j)))) p
    | _=>none
   | none=>none
  | _=>none
def QE:V→Bool
 | .own _ _=>true
 | .lst _ _=>true
 | .undef=>true
 | _=>false
structure Env where
 w:World
 S:Nat→Prop
 K:Nat→Prop
 bl:BL
 G:Nat→Option (List Value × List Nat)
def Env.Sb (E:Env) (e:Ty) (b:Nat):Prop:=E.S b∧(H3 e=true→E.K b)
mutual
def InV (E:Env):V→List Value→List Nat→Prop
 | .undef,cs,F=>(∃ v,cs=[v])∧F=[]
 | .void,cs,F=>cs=[undef]∧F=[]
 | .int k n,cs,F=>cs=[.int k n]∧F=[]
 | .bool b,cs,F=>cs=[.bool b]∧F=[]
 | .str s,cs,F=>cs=[.string s]∧F=[]
 | .agg vs,cs,F=>Ji E vs cs F
 | .arr n e l,cs,F=>l.length=n∧e.flat=true∧Row (DIn true E.w e) l cs F
 | .own e l,cs,F=>e.plain=true∧∃ A c,cs=[.slice A l.length c]∧UI true E.w (DIn true E.w e) e.size A c l F
 | .rd e l,cs,F=>F=[]∧e.plain=true∧∃ A c F',cs=[.slice A l.length c]∧UI false E.w (DIn false E.w e) e.size A c l F'∧∀ b ∈ F',E.Sb e b
 | .lst e vs,cs,F=>∃ a c cs' F',cs=[.slice (some a) vs.length c]∧vs.length≤c∧True∧Ji E vs cs' F'∧QO E.w a cs'∧F=a.block :: F'∧a.block<E.w.heap.size∧QP E.w a (c * e.size)∧QP E.w a (Jt vs)
 | .nilsl,cs,F=>cs=[.slice none 0 0]∧F=[]
 | .emp _,cs,F=>(∃ A,cs=[.slice A 0 0])∧F=[]
 | .obox v,cs,F=>∃ a cs' F',cs=[.pointer (some a)]∧InV E v cs' F'∧QO E.w a cs'∧F=a.block :: F'∧a.block<E.w.heap.size∧QP E.w a cs'.length
 | .rp v,cs,F=>F=[]∧∃ a cs',cs=[.pointer (some a)]∧InV E v cs' []∧QO E.w a cs'∧E.S a.block
 | .full s p _,cs,F=>F=[]∧(∃ A n k,cs=[.slice A n k])∧∀ c rc F0,Jb E.bl s=some c→E.G s=some (rc,F0)→∀ x L,Jg E.w c (.reg rc) p=some (x,L)→QE x=true→∃ v,L.head E.w=some v∧cs=[v]
 | .sub s p off len e,cs,F=>F=[]∧(∃ A k,cs=[.slice A len k]∧len≤k)∧∀ c rc F0,Jb E.bl s=some c→E.G s=some (rc,F0)→∀ x L,Jg E.w c (.reg rc) p=some (x,L)→QE x=true →
   ∃ A n k A',L.head E.w=some (.slice A n k)∧off + len≤k∧cs=[.slice A' len (k - off)]∧(off<k→∃ a,A=some a∧A'=some (a.add (off * e.size)))
 | .ptr s p,cs,F=>F=[]∧(∃ a,cs=[.pointer (some a)])∧∀ c rc F0,Jb E.bl s=some c→E.G s=some (rc,F0)→∀ x L,Jg E.w c (.reg rc) p=some (x,L)→∃ a,L=.mem a∧cs=[.pointer (some a)]
 | .fn f caps,cs,F=>∃ vals,cs=[.func (.func f) #[] vals]∧Ji E caps vals.toList F∧Jt caps=caps.length
 | .nilfn,cs,F=>cs=[.nilFunc]∧F=[]
 | .nilptr,cs,F=>cs=[.pointer none]∧F=[]
 | .tup _,_,_=>False
def Ji (E:Env):List V→List Value→List Nat→Prop
 | [],cs,F=>cs=[]∧F=[]
 | v :: vs,cs,F=>∃ c1 c2 F1 F2,cs=c1 ++ c2∧F=F1 ++ F2∧InV E v c1 F1∧Ji E vs c2 F2
end
def isA:V→Bool
 | .agg _=>true
 | .arr _ _ _=>true
 | _=>false
def Qi (x:V) (cs:List Value) (v:Value):Prop:=
 match isA x with
 | true=>v=.agg cs.toArray
 | false=>cs=[v]
def One (E:Env) (x:V) (v:Value) (F:List Nat):Prop:=∃ cs,InV E x cs F∧Qi x cs v
def Tup (E:Env):List V→List Value→List Nat→Prop
 | [],vs,F=>vs=[]∧F=[]
 | x :: xs,vs,F=>∃ v r F1 F2,vs=v :: r∧F=F1 ++ F2∧One E x v F1∧Tup E xs r F2
def Val (E:Env) (x:V) (v:Value) (F:List Nat):Prop:=
 match x with
 | .tup xs=>∃ vs,v=.tuple vs∧Tup E xs vs.toList F
 | .undef=>F=[]
 | x=>One E x v F
end Go.Rai
namespace Go.Rai
theorem U7 (a:Addr) (i j:Nat):(a.add i).add j=a.add (i + j):=by
 unfold Addr.add
 by_cases hi:i=0
 ·subst hi; simp
 ·by_cases hj:j=0
  ·subst hj; simp [hi]
  ·simp [hi,hj,Nat.add_assoc]
theorem QZ (a:Addr) (i:Nat):(a.add i).block=a.block:=by
 unfold Addr.add; split <;> rfl
theorem Og {w w':World} {a:Addr} (h:w'.heap[a.block]?=w.heap[a.block]?):w'.cell? a=w.cell? a:=by
 unfold World.cell?; rw [h]
theorem Ya {w w':World} {a:Addr} (h:w'.heap[a.block]?=w.heap[a.block]?):w'.frozen? a=w.frozen? a:=by
 unfold World.frozen?; rw [h]
theorem HP {w w':World} {a:Addr} {cs:List Value} (h:w'.heap[a.block]?=w.heap[a.block]?) (hc:QO w a cs):QO w' a cs:=by
 intro j v hj
 rw [Og (w:=w) (w':=w') (by rw [QZ]; exact h)]
 exact hc j v hj
theorem OX {w w':World} {a:Addr} {n:Nat} (h:w'.heap[a.block]?=w.heap[a.block]?) (hc:QP w a n):QP w' a n:=by
 intro j hj
 rw [Og (w:=w) (w':=w') (by rw [QZ]; exact h),Ya (w:=w) (w':=w') (by rw [QZ]; exact h)]
 exact hc j hj
theorem Cs {R R':D→List Value→List Nat→Prop}:∀ {l:List D} {cs:List Value} {F:List Nat},
  (∀ d ∈ l,∀ c G,(∀ b ∈ G,b ∈ F)→R d c G→R' d c G)→Row R l cs F→Row R' l cs F
 | [],cs,F,_,h=>h
 | d :: l,cs,F,hR,⟨c1,c2,F1,F2,e1,e2,h1,h2⟩=>by
  subst e2
  refine ⟨c1,c2,F1,F2,e1,rfl,hR d (by simp) _ _ (fun b hb=>by simp [hb]) h1,?_⟩
  exact Cs (fun d hd c G hG=>hR d (by simp [hd]) c G (fun b hb=>by simp [hG b hb])) h2
def QL (w w':World) (F:List Nat):Prop:=∀ b ∈ F,w'.heap[b]?=w.heap[b]?
theorem Yb {o:Bool} {w w':World} {R R':D→List Value→List Nat→Prop} {size:Nat} {A:Option Addr} {c:Nat} {l:List D} {F:List Nat}
  (hF:QL w w' F) (hs:w.heap.size≤w'.heap.size) (hR:∀ d ∈ l,∀ c G,(∀ b ∈ G,b ∈ F)→R d c G→R' d c G)
  (h:UI o w R size A c l F):UI o w' R' size A c l F:=by
 rcases h with h | ⟨a,cs,F',hA,hr,hc,hf,hl,hb,ho⟩
 ·exact .inl h
 ·have hblk:=hF a.block (by rw [hf]; simp)
  refine .inr ⟨a,cs,F',hA,Cs (fun d hd c G hG=>hR d hd c G (fun b hb=>by rw [hf]; simp [hG b hb])) hr,HP hblk hc,hf,hl,by omega,fun h=>OX hblk (ho h)⟩
mutual
theorem CQ {o:Bool} {w w':World} (hs:w.heap.size≤w'.heap.size):∀ (t:Ty) {d:D} {cs:List Value} {F:List Nat},QL w w' F→DIn o w t d cs F→DIn o w' t d cs F
 | .int _,_,_,_,_,h=>h
 | .bool,_,_,_,_,h=>h
 | .str,_,_,_,_,h=>h
 | .struct ts,d,cs,F,hF,h=>by
  unfold DIn at h ⊢
  exact K4 hs ts hF h
 | .arr n e,d,cs,F,hF,h=>by
  unfold DIn at h ⊢
  exact ⟨h.1,Cs (fun d _ c G hG hd=>CQ hs e (fun b hb=>hF b (hG b hb)) hd) h.2⟩
 | .slice e,d,cs,F,hF,h=>by
  unfold DIn at h ⊢
  obtain ⟨A,c,h1,h2⟩:=h
  exact ⟨A,c,h1,Yb hF hs (fun d _ c G hG hd=>CQ hs e (fun b hb=>hF b (hG b hb)) hd) h2⟩
 | .ptr,_,_,_,_,h=>by unfold DIn at h; exact h.elim
 | .fn,_,_,_,_,h=>by unfold DIn at h; exact h.elim
 | .other,_,_,_,_,h=>by unfold DIn at h; exact h.elim
theorem K4 {o:Bool} {w w':World} (hs:w.heap.size≤w'.heap.size):∀ (ts:List Ty) {j:Nat} {d:D} {cs:List Value} {F:List Nat},QL w w' F→Qv o w ts j d cs F→Qv o w' ts j d cs F
 | [],_,_,_,_,_,h=>h
 | t :: ts,j,d,cs,F,hF,h=>by
  unfold Qv at h ⊢
  obtain ⟨c1,c2,F1,F2,e1,e2,h1,h2⟩:=h
  subst e2
  exact ⟨c1,c2,F1,F2,e1,rfl,CQ hs t (fun b hb=>hF b (by simp [hb])) h1,K4 hs ts (fun b hb=>hF b (by simp [hb])) h2⟩
end
def Us (E E':Env) (s:Nat):Prop:=
 ∀ c' rc F',Jb E'.bl s=some c'→E'.G s=some (rc,F') →
  ∃ c F0,Jb E.bl s=some c∧E.G s=some (rc,F0) ∧
   ∀ p x' L,Jg E'.w c' (.reg rc) p=some (x',L)→∃ x,Jg E.w c (.reg rc) p=some (x,L)∧(QE x'=true→QE x=true∧L.head E'.w=L.head E.w)
structure Le (E E':Env):Prop where
 stab:∀ b,E.S b→E'.S b∧E'.w.heap[b]?=E.w.heap[b]?
 size:E.w.heap.size≤E'.w.heap.size
 kept:∀ b,E.S b→E.K b→E'.K b
theorem Le.sb {E E':Env} (h:Le E E') {e:Ty} {b:Nat} (hb:E.Sb e b):E'.Sb e b:=⟨(h.stab b hb.1).1,fun he=>h.kept b hb.1 (hb.2 he)⟩
mutual
theorem U8 {E E':Env} (hE:Le E E'):∀ (v:V) {cs:List Value} {F:List Nat},(∀ s ∈ Jf v,Us E E' s)→QL E.w E'.w F→InV E v cs F→InV E' v cs F
 | .undef,_,_,_,_,h=>h
 | .void,_,_,_,_,h=>h
 | .int _ _,_,_,_,_,h=>h
 | .bool _,_,_,_,_,h=>h
 | .str _,_,_,_,_,h=>h
 | .nilsl,_,_,_,_,h=>h
 | .emp _,_,_,_,_,h=>h
 | .nilfn,_,_,_,_,h=>h
 | .nilptr,_,_,_,_,h=>h
 | .agg vs,cs,F,hs,hF,h=>by
  unfold InV at h ⊢
  exact HB hE vs (by simpa [Jf] using hs) hF h
 | .arr n e l,cs,F,hs,hF,h=>by
  unfold InV at h ⊢
  exact ⟨h.1,h.2.1,Cs (fun d _ c G hG hd=>CQ hE.size e (fun b hb=>hF b (hG b hb)) hd) h.2.2⟩
 | .own e l,cs,F,hs,hF,h=>by
  unfold InV at h ⊢
  obtain ⟨hp,A,c,h1,h2⟩:=h
  exact ⟨hp,A,c,h1,Yb hF hE.size (fun d _ c G hG hd=>CQ hE.size e (fun b hb=>hF b (hG b hb)) hd) h2⟩
 | .rd e l,cs,F,hs,hF,h=>by
  unfold InV at h ⊢
  obtain ⟨h0,hp,A,c,F',h1,h2,h3⟩:=h
  have hF':QL E.w E'.w F':=fun b hb=>(hE.stab b (h3 b hb).1).2
  exact ⟨h0,hp,A,c,F',h1,Yb hF' hE.size (fun d _ c G hG hd=>CQ hE.size e (fun b hb=>hF' b (hG b hb)) hd) h2,fun b hb=>hE.sb (h3 b hb)⟩
 | .lst e vs,cs,F,hs,hF,h=>by
  unfold InV at h ⊢
  obtain ⟨a,c,cs',F',h1,hl,he,h2,h3,h4,h5,h6⟩:=h
  have hb:=hF a.block (by rw [h4]; simp)
  exact ⟨a,c,cs',F',h1,hl,he,HB hE vs (by simpa [Jf] using hs) (fun b hb=>hF b (by rw [h4]; simp [hb])) h2,HP hb h3,h4,by have:=hE.size; omega,OX hb h6.1,OX hb h6.2⟩
 | .obox v,cs,F,hs,hF,h=>by
  unfold InV at h ⊢
  obtain ⟨a,cs',F',h1,h2,h3,h4,h5,h6⟩:=h
  have hb:=hF a.block (by rw [h4]; simp)
  exact ⟨a,cs',F',h1,U8 hE v (by simpa [Jf] using hs) (fun b hb=>hF b (by rw [h4]; simp [hb])) h2,HP hb h3,h4,by have:=hE.size; omega,OX hb h6⟩
 | .rp v,cs,F,hs,hF,h=>by
  unfold InV at h ⊢
  obtain ⟨h0,a,cs',h1,h2,h3,h4⟩:=h
  exact ⟨h0,a,cs',h1,U8 hE v (by simpa [Jf] using hs) (fun b hb=>by simp at hb) h2,HP (hE.stab _ h4).2 h3,(hE.stab _ h4).1⟩
 | .full s p e,cs,F,hs,hF,h=>by
  unfold InV at h ⊢
  obtain ⟨h0,h1,h2⟩:=h
  refine ⟨h0,h1,fun c' rc F' hc hg x' L hl ho=>?_⟩
  obtain ⟨c,F0,hc0,hg0,hal⟩:=hs s (by simp [Jf]) c' rc F' hc hg
  obtain ⟨x,hx,hown⟩:=hal p x' L hl
  obtain ⟨ho',hh⟩:=hown ho
  obtain ⟨v,hv,hcs⟩:=h2 c rc F0 hc0 hg0 x L hx ho'
  exact ⟨v,by rw [hh]; exact hv,hcs⟩
 | .sub s p off len e,cs,F,hs,hF,h=>by
  unfold InV at h ⊢
  obtain ⟨h0,h1,h2⟩:=h
  refine ⟨h0,h1,fun c' rc F' hc hg x' L hl ho=>?_⟩
  obtain ⟨c,F0,hc0,hg0,hal⟩:=hs s (by simp [Jf]) c' rc F' hc hg
  obtain ⟨x,hx,hown⟩:=hal p x' L hl
  obtain ⟨ho',hh⟩:=hown ho
  obtain ⟨A,n,k,A',hv,hcs⟩:=h2 c rc F0 hc0 hg0 x L hx ho'
  exact ⟨A,n,k,A',by rw [hh]; exact hv,hcs⟩
 | .ptr s p,cs,F,hs,hF,h=>by
  unfold InV at h ⊢
  obtain ⟨h0,h1,h2⟩:=h
  refine ⟨h0,h1,fun c' rc F' hc hg x' L hl=>?_⟩
  obtain ⟨c,F0,hc0,hg0,hal⟩:=hs s (by simp [Jf]) c' rc F' hc hg
  obtain ⟨x,hx,_⟩:=hal p x' L hl
  exact h2 c rc F0 hc0 hg0 x L hx
 | .fn f caps,cs,F,hs,hF,h=>by
  unfold InV at h ⊢
  obtain ⟨vals,h1,h2,h3⟩:=h
  exact ⟨vals,h1,HB hE caps (by simpa [Jf] using hs) hF h2,h3⟩
 | .tup _,_,_,_,_,h=>by unfold InV at h; exact h.elim
theorem HB {E E':Env} (hE:Le E E'):∀ (vs:List V) {cs:List Value} {F:List Nat},(∀ s ∈ Jn vs,Us E E' s)→QL E.w E'.w F→Ji E vs cs F→Ji E' vs cs F
 | [],_,_,_,_,h=>h
 | v :: vs,cs,F,hs,hF,h=>by
  unfold Ji at h ⊢
  obtain ⟨c1,c2,F1,F2,e1,e2,h1,h2⟩:=h
  subst e2
  have cat_mem:∀ {α:Type} (l m:List α) (x:α),x ∈ cat l m ↔ x ∈ l ∨ x ∈ m:=by
   intro α l m x
   induction l with
   | nil=>simp [cat]
   | cons a l ih=>simp [cat,ih,or_assoc]
  exact ⟨c1,c2,F1,F2,e1,rfl,U8 hE v (fun s hs'=>hs s (by simp [Jn,cat_mem,hs'])) (fun b hb=>hF b (by simp [hb])) h1,
   HB hE vs (fun s hs'=>hs s (by simp [Jn,cat_mem,hs'])) (fun b hb=>hF b (by simp [hb])) h2⟩
end
end Go.Rai
namespace Go.Rai
theorem Je {a b:Bool}:Jh a b=true ↔ a=true∧b=true:=by cases a <;> cases b <;> simp [Jh]
theorem Cc {a b:Bool}:bor a b=true ↔ a=true ∨ b=true:=by cases a <;> cases b <;> simp [bor]
theorem UT {a b:IntKind} (h:keq a b=true):a=b:=by cases a <;> cases b <;> first | rfl | simp [keq] at h
theorem WR (a:IntKind):keq a a=true:=by cases a <;> rfl
theorem Jv {α:Type} (l m:List α) (x:α):x ∈ cat l m ↔ x ∈ l ∨ x ∈ m:=by
 induction l with
 | nil=>simp [cat]
 | cons a l ih=>simp [cat,ih,or_assoc]
theorem J8 {α:Type} (l m:List α):cat l m=l ++ m:=by
 induction l with
 | nil=>rfl
 | cons a l ih=>simp [cat,ih]
mutual
theorem Ty.beq_eq:∀ (a b:Ty),a.beq b=true→a=b
 | .int k,b,h=>by cases b <;> simp [Ty.beq] at h; rw [UT h]
 | .bool,b,h=>by cases b <;> simp [Ty.beq] at h; rfl
 | .str,b,h=>by cases b <;> simp [Ty.beq] at h; rfl
 | .ptr,b,h=>by cases b <;> simp [Ty.beq] at h; rfl
 | .fn,b,h=>by cases b <;> simp [Ty.beq] at h; rfl
 | .struct fs,b,h=>by
  cases b <;> simp [Ty.beq] at h
  rw [Ty.beqs_eq _ _ h]
 | .slice e,b,h=>by
  cases b <;> simp [Ty.beq] at h
  rw [Ty.beq_eq _ _ h]
 | .arr n e,b,h=>by
  cases b <;> simp [Ty.beq,Je] at h
  rw [h.1,Ty.beq_eq _ _ h.2]
 | .other,b,h=>by cases b <;> simp [Ty.beq] at h
theorem Ty.beqs_eq:∀ (a b:List Ty),Ty.beqs a b=true→a=b
 | [],b,h=>by cases b <;> simp [Ty.beqs] at h; rfl
 | x :: xs,b,h=>by
  cases b <;> simp [Ty.beqs,Je] at h
  rw [Ty.beq_eq _ _ h.1,Ty.beqs_eq _ _ h.2]
end
mutual
theorem U9:∀ (t:Ty),t.flat=true→t.plain=true
 | .int _,_=>rfl
 | .bool,_=>rfl
 | .str,_=>rfl
 | .struct fs,h=>by
  unfold Ty.flat at h
  unfold Ty.plain
  exact K5 fs h
 | .arr _ e,h=>by
  unfold Ty.flat at h
  unfold Ty.plain
  exact h
 | .slice _,h=>by simp [Ty.flat] at h
 | .ptr,h=>by simp [Ty.flat] at h
 | .fn,h=>by simp [Ty.flat] at h
 | .other,h=>by simp [Ty.flat] at h
theorem K5:∀ (ts:List Ty),Ty.flats ts=true→Ty.plains ts=true
 | [],_=>rfl
 | t :: ts,h=>by
  unfold Ty.flats at h
  unfold Ty.plains
  rw [Je] at h ⊢
  exact ⟨U9 t h.1,K5 ts h.2⟩
end
theorem HC {R:D→List Value→List Nat→Prop} {sz:Nat} (hR:∀ d c G,R d c G→c.length=sz):∀ {l:List D} {cs:List Value} {F:List Nat},Row R l cs F→cs.length=l.length * sz
 | [],cs,F,h=>by simp [Row] at h; simp [h.1]
 | d :: l,cs,F,h=>by
  obtain ⟨c1,c2,F1,F2,e1,e2,h1,h2⟩:=h
  subst e1
  rw [List.length_append,hR _ _ _ h1,HC hR h2,List.length_cons,Nat.succ_mul,Nat.add_comm]
mutual
theorem Qt {o:Bool} {w:World}:∀ (t:Ty) {d:D} {cs:List Value} {F:List Nat},DIn o w t d cs F→cs.length=t.size
 | .int _,_,_,_,h=>by unfold DIn at h; simp [h.1,Ty.size]
 | .bool,_,_,_,h=>by unfold DIn at h; simp [h.1,Ty.size]
 | .str,_,_,_,h=>by unfold DIn at h; simp [h.1,Ty.size]
 | .struct ts,_,_,_,h=>by
  unfold DIn at h
  unfold Ty.size
  exact K6 ts h
 | .arr n e,_,_,_,h=>by
  unfold DIn at h
  unfold Ty.size
  rw [← h.1]
  exact HC (fun d c G hd=>Qt e hd) h.2
 | .slice e,_,_,_,h=>by
  unfold DIn at h
  obtain ⟨A,c,h1,_⟩:=h
  simp [h1,Ty.size]
 | .ptr,_,_,_,h=>by unfold DIn at h; exact h.elim
 | .fn,_,_,_,h=>by unfold DIn at h; exact h.elim
 | .other,_,_,_,h=>by unfold DIn at h; exact h.elim
theorem K6 {o:Bool} {w:World}:∀ (ts:List Ty) {j:Nat} {d:D} {cs:List Value} {F:List Nat},Qv o w ts j d cs F→cs.length=Ty.sizes ts
 | [],_,_,_,_,h=>by unfold Qv at h; simp [h.1,Ty.sizes]
 | t :: ts,j,d,cs,F,h=>by
  unfold Qv at h
  obtain ⟨c1,c2,F1,F2,e1,e2,h1,h2⟩:=h
  subst e1
  rw [List.length_append,Qt t h1,K6 ts h2]
  simp [Ty.sizes]
end
mutual
theorem Qp {E:Env}:∀ (v:V) {cs:List Value} {F:List Nat},InV E v cs F→cs.length=vsz v
 | .undef,_,_,h=>by unfold InV at h; obtain ⟨⟨v,rfl⟩,_⟩:=h; rfl
 | .void,_,_,h=>by unfold InV at h; simp [h.1,vsz]
 | .int _ _,_,_,h=>by unfold InV at h; simp [h.1,vsz]
 | .bool _,_,_,h=>by unfold InV at h; simp [h.1,vsz]
 | .str _,_,_,h=>by unfold InV at h; simp [h.1,vsz]
 | .nilsl,_,_,h=>by unfold InV at h; simp [h.1,vsz]
 | .emp _,_,_,h=>by unfold InV at h; obtain ⟨⟨A,rfl⟩,_⟩:=h; rfl
 | .nilfn,_,_,h=>by unfold InV at h; simp [h.1,vsz]
 | .nilptr,_,_,h=>by unfold InV at h; simp [h.1,vsz]
 | .agg vs,cs,F,h=>by
  unfold InV at h
  unfold vsz
  exact Ct vs h
 | .arr n e l,cs,F,h=>by
  unfold InV at h
  unfold vsz
  rw [← h.1]
  exact HC (fun d c G hd=>Qt e hd) h.2.2
 | .own e l,cs,F,h=>by unfold InV at h; obtain ⟨_,A,c,h1,_⟩:=h; simp [h1,vsz]
 | .rd e l,cs,F,h=>by unfold InV at h; obtain ⟨_,_,A,c,F',h1,_⟩:=h; simp [h1,vsz]
 | .lst e vs,cs,F,h=>by unfold InV at h; obtain ⟨a,c,cs',F',h1,_⟩:=h; simp [h1,vsz]
 | .obox v,cs,F,h=>by unfold InV at h; obtain ⟨a,cs',F',h1,_⟩:=h; simp [h1,vsz]
 | .rp v,cs,F,h=>by unfold InV at h; obtain ⟨_,a,cs',h1,_⟩:=h; simp [h1,vsz]
 | .full s p e,cs,F,h=>by unfold InV at h; obtain ⟨_,⟨A,n,k,rfl⟩,_⟩:=h; rfl
 | .sub s p off len e,cs,F,h=>by unfold InV at h; obtain ⟨_,⟨A,k,rfl,_⟩,_⟩:=h; rfl
 | .ptr s p,cs,F,h=>by unfold InV at h; obtain ⟨_,⟨a,rfl⟩,_⟩:=h; rfl
 | .fn f caps,cs,F,h=>by unfold InV at h; obtain ⟨vals,h1,_⟩:=h; simp [h1,vsz]
 | .tup _,_,_,h=>by unfold InV at h; exact h.elim
theorem Ct {E:Env}:∀ (vs:List V) {cs:List Value} {F:List Nat},Ji E vs cs F→cs.length=Jt vs
 | [],_,_,h=>by unfold Ji at h; simp [h.1,Jt]
 | v :: vs,cs,F,h=>by
  unfold Ji at h
  obtain ⟨c1,c2,F1,F2,e1,e2,h1,h2⟩:=h
  subst e1
  rw [List.length_append,Qp v h1,Ct vs h2]
  simp [Jt]
end
mutual
theorem Hm {E:Env}:∀ (t:Ty) {d:D} {cs:List Value} {F:List Nat},t.plain=true→DIn true E.w t d cs F→InV E (dec true t d) cs F
 | .int _,_,_,_,_,h=>by unfold DIn at h; unfold dec InV; exact h
 | .bool,_,_,_,_,h=>by unfold DIn at h; unfold dec InV; exact h
 | .str,_,_,_,_,h=>by unfold DIn at h; unfold dec InV; exact h
 | .struct ts,d,cs,F,hp,h=>by
  unfold DIn at h; unfold dec InV
  unfold Ty.plain at hp
  exact K7 ts hp h
 | .arr n e,d,cs,F,hp,h=>by
  unfold DIn at h; unfold dec InV
  unfold Ty.plain at hp
  exact ⟨h.1,hp,h.2⟩
 | .slice e,d,cs,F,hp,h=>by
  unfold DIn at h; unfold dec
  unfold Ty.plain at hp
  show InV E (.own e d.items) cs F
  unfold InV
  exact ⟨hp,h⟩
 | .ptr,_,_,_,_,h=>by unfold DIn at h; exact h.elim
 | .fn,_,_,_,_,h=>by unfold DIn at h; exact h.elim
 | .other,_,_,_,_,h=>by unfold DIn at h; exact h.elim
theorem K7 {E:Env}:∀ (ts:List Ty) {j:Nat} {d:D} {cs:List Value} {F:List Nat},Ty.plains ts=true→Qv true E.w ts j d cs F→Ji E (Uv true ts j d) cs F
 | [],_,_,_,_,_,h=>by unfold Qv at h; unfold Uv Ji; exact h
 | t :: ts,j,d,cs,F,hp,h=>by
  unfold Qv at h
  obtain ⟨c1,c2,F1,F2,e1,e2,h1,h2⟩:=h
  unfold Ty.plains at hp
  rw [Je] at hp
  unfold Uv Ji
  exact ⟨c1,c2,F1,F2,e1,e2,Hm t hp.1 h1,K7 ts hp.2 h2⟩
end
theorem Ha {R:D→List Value→List Nat→Prop} (hR:∀ d c G,R d c G→G=[]):∀ {l:List D} {cs:List Value} {F:List Nat},Row R l cs F→F=[]
 | [],cs,F,h=>h.2
 | d :: l,cs,F,h=>by
  obtain ⟨c1,c2,F1,F2,e1,e2,h1,h2⟩:=h
  rw [e2,hR _ _ _ h1,Ha hR h2]; rfl
mutual
theorem Hb {o:Bool} {w:World}:∀ (t:Ty) {d:D} {cs:List Value} {F:List Nat},t.flat=true→DIn o w t d cs F→F=[]
 | .int _,_,_,_,_,h=>by unfold DIn at h; exact h.2
 | .bool,_,_,_,_,h=>by unfold DIn at h; exact h.2
 | .str,_,_,_,_,h=>by unfold DIn at h; exact h.2
 | .struct ts,_,_,_,hf,h=>by
  unfold DIn at h
  unfold Ty.flat at hf
  exact K8 ts hf h
 | .arr n e,_,_,_,hf,h=>by
  unfold DIn at h
  unfold Ty.flat at hf
  exact Ha (fun d c G hd=>Hb e hf hd) h.2
 | .slice e,_,_,_,hf,h=>by simp [Ty.flat] at hf
 | .ptr,_,_,_,_,h=>by unfold DIn at h; exact h.elim
 | .fn,_,_,_,_,h=>by unfold DIn at h; exact h.elim
 | .other,_,_,_,_,h=>by unfold DIn at h; exact h.elim
theorem K8 {o:Bool} {w:World}:∀ (ts:List Ty) {j:Nat} {d:D} {cs:List Value} {F:List Nat},Ty.flats ts=true→Qv o w ts j d cs F→F=[]
 | [],_,_,_,_,_,h=>by unfold Qv at h; exact h.2
 | t :: ts,j,d,cs,F,hf,h=>by
  unfold Qv at h
  obtain ⟨c1,c2,F1,F2,e1,e2,h1,h2⟩:=h
  unfold Ty.flats at hf
  rw [Je] at hf
  rw [e2,Hb t hf.1 h1,K8 ts hf.2 h2]; rfl
end
theorem WS {w:World} {R R':D→List Value→List Nat→Prop} (hR:∀ d c G,R d c G→R' d c G) {l:List D} {cs:List Value} {F:List Nat} (h:Row R l cs F):Row R' l cs F:=
 Cs (fun d _ c G _ hd=>hR d c G hd) h
theorem WT {w:World} {R R':D→List Value→List Nat→Prop} (hR:∀ d c G,R d c G→R' d c G) {size:Nat} {A:Option Addr} {c:Nat} {l:List D} {F:List Nat}
  (h:UI true w R size A c l F):UI false w R' size A c l F:=by
 rcases h with h | ⟨a,cs,F',hA,hr,hc,hf,hl,hb,ho⟩
 ·exact .inl h
 ·exact .inr ⟨a,cs,F',hA,WS (w:=w) hR hr,hc,hf,hl,hb,fun h=>by cases h⟩
mutual
theorem Oh {w:World}:∀ (t:Ty) {d:D} {cs:List Value} {F:List Nat},DIn true w t d cs F→DIn false w t d cs F
 | .int _,_,_,_,h=>h
 | .bool,_,_,_,h=>h
 | .str,_,_,_,h=>h
 | .struct ts,d,cs,F,h=>by
  unfold DIn at h ⊢
  exact K9 ts h
 | .arr n e,d,cs,F,h=>by
  unfold DIn at h ⊢
  exact ⟨h.1,WS (w:=w) (fun d c G hd=>Oh e hd) h.2⟩
 | .slice e,d,cs,F,h=>by
  unfold DIn at h ⊢
  obtain ⟨A,c,h1,h2⟩:=h
  exact ⟨A,c,h1,WT (fun d c G hd=>Oh e hd) h2⟩
 | .ptr,_,_,_,h=>by unfold DIn at h; exact h.elim
 | .fn,_,_,_,h=>by unfold DIn at h; exact h.elim
 | .other,_,_,_,h=>by unfold DIn at h; exact h.elim
theorem K9 {w:World}:∀ (ts:List Ty) {j:Nat} {d:D} {cs:List Value} {F:List Nat},Qv true w ts j d cs F→Qv false w ts j d cs F
 | [],_,_,_,_,h=>h
 | t :: ts,j,d,cs,F,h=>by
  unfold Qv at h ⊢
  obtain ⟨c1,c2,F1,F2,e1,e2,h1,h2⟩:=h
  exact ⟨c1,c2,F1,F2,e1,e2,Oh t h1,K9 ts h2⟩
end
mutual
theorem WU {E:Env}:∀ (t:Ty) {d:D} {cs:List Value} {F:List Nat},t.plain=true→(∀ b ∈ F,E.Sb t b)→DIn false E.w t d cs F→InV E (dec false t d) cs []
 | .int _,_,_,_,_,_,h=>by unfold DIn at h; unfold dec InV; exact ⟨h.1,rfl⟩
 | .bool,_,_,_,_,_,h=>by unfold DIn at h; unfold dec InV; exact ⟨h.1,rfl⟩
 | .str,_,_,_,_,_,h=>by unfold DIn at h; unfold dec InV; exact ⟨h.1,rfl⟩
 | .struct ts,d,cs,F,hp,hS,h=>by
  unfold DIn at h; unfold dec InV
  unfold Ty.plain at hp
  exact Ta ts hp hS h
 | .arr n e,d,cs,F,hp,hS,h=>by
  unfold DIn at h; unfold dec InV
  unfold Ty.plain at hp
  have hF:=Ha (fun d c G hd=>Hb e hp hd) h.2
  subst hF
  refine ⟨h.1,hp,?_⟩
  exact WS (w:=E.w) (fun d c G hd=>WV e hp hd) h.2
 | .slice e,d,cs,F,hp,hS,h=>by
  unfold DIn at h; unfold dec
  unfold Ty.plain at hp
  show InV E (.rd e d.items) cs []
  unfold InV
  obtain ⟨A,c,h1,h2⟩:=h
  exact ⟨rfl,hp,A,c,F,h1,h2,hS⟩
 | .ptr,_,_,_,_,_,h=>by unfold DIn at h; exact h.elim
 | .fn,_,_,_,_,_,h=>by unfold DIn at h; exact h.elim
 | .other,_,_,_,_,_,h=>by unfold DIn at h; exact h.elim
theorem Ta {E:Env}:∀ (ts:List Ty) {j:Nat} {d:D} {cs:List Value} {F:List Nat},Ty.plains ts=true→(∀ b ∈ F,E.S b∧(VC ts=true→E.K b))→Qv false E.w ts j d cs F→Ji E (Uv false ts j d) cs []
 | [],_,_,_,_,_,_,h=>by unfold Qv at h; unfold Uv Ji; exact ⟨h.1,rfl⟩
 | t :: ts,j,d,cs,F,hp,hS,h=>by
  unfold Qv at h
  obtain ⟨c1,c2,F1,F2,e1,e2,h1,h2⟩:=h
  unfold Ty.plains at hp
  rw [Je] at hp
  subst e2
  unfold Uv Ji
  exact ⟨c1,c2,[],[],e1,rfl,WU t hp.1 (fun b hb=>⟨(hS b (by simp [hb])).1,fun ht=>(hS b (by simp [hb])).2 (by unfold VC; rw [ht]; rfl)⟩) h1,Ta ts hp.2 (fun b hb=>⟨(hS b (by simp [hb])).1,fun ht=>(hS b (by simp [hb])).2 (by unfold VC; rw [ht]; cases H3 t <;> rfl)⟩) h2⟩
theorem WV {w:World}:∀ (t:Ty) {d:D} {cs:List Value} {F:List Nat} {o o':Bool},t.flat=true→DIn o w t d cs F→DIn o' w t d cs F
 | .int _,_,_,_,_,_,_,h=>h
 | .bool,_,_,_,_,_,_,h=>h
 | .str,_,_,_,_,_,_,h=>h
 | .struct ts,d,cs,F,o,o',hp,h=>by
  unfold DIn at h ⊢
  unfold Ty.flat at hp
  exact Tb ts hp h
 | .arr n e,d,cs,F,o,o',hp,h=>by
  unfold DIn at h ⊢
  unfold Ty.flat at hp
  exact ⟨h.1,WS (w:=w) (fun d c G hd=>WV e hp hd) h.2⟩
 | .slice e,d,cs,F,o,o',hp,h=>by simp [Ty.flat] at hp
 | .ptr,_,_,_,_,_,_,h=>by unfold DIn at h; exact h.elim
 | .fn,_,_,_,_,_,_,h=>by unfold DIn at h; exact h.elim
 | .other,_,_,_,_,_,_,h=>by unfold DIn at h; exact h.elim
theorem Tb {w:World}:∀ (ts:List Ty) {j:Nat} {d:D} {cs:List Value} {F:List Nat} {o o':Bool},Ty.flats ts=true→Qv o w ts j d cs F→Qv o' w ts j d cs F
 | [],_,_,_,_,_,_,_,h=>h
 | t :: ts,j,d,cs,F,o,o',hp,h=>by
  unfold Qv at h ⊢
  obtain ⟨c1,c2,F1,F2,e1,e2,h1,h2⟩:=h
  unfold Ty.flats at hp
  rw [Je] at hp
  exact ⟨c1,c2,F1,F2,e1,e2,WV t hp.1 h1,Tb ts hp.2 h2⟩
end
mutual
def shp:Ty→V→Bool
 | .int k,.int k' _=>keq k k'
 | .bool,.bool _=>true
 | .str,.str _=>true
 | .struct ts,.agg vs=>Qu ts vs
 | .slice e,.own e' _=>e.beq e'
 | .arr n e,.arr m e' _=>Jh (Nat.beq n m) (e.beq e')
 | _,_=>false
def Qu:List Ty→List V→Bool
 | [],[]=>true
 | t :: ts,v :: vs=>Jh (shp t v) (Qu ts vs)
 | _,_=>false
end
theorem qP:True:=trivial
mutual
theorem Ty.beq_refl:∀ (t:Ty),t.plain=true→t.beq t=true
 | .int k,_=>by simp [Ty.beq,WR]
 | .bool,_=>rfl
 | .str,_=>rfl
 | .struct fs,h=>by
  unfold Ty.plain at h
  unfold Ty.beq
  exact Ty.beqs_refl fs h
 | .slice e,h=>by
  unfold Ty.plain at h
  unfold Ty.beq
  exact Ty.beq_refl e h
 | .arr n e,h=>by
  unfold Ty.plain at h
  unfold Ty.beq
  rw [Je]
  exact ⟨Nat.beq_refl n,Ty.beq_refl e (U9 e h)⟩
 | .ptr,h=>by simp [Ty.plain] at h
 | .fn,h=>by simp [Ty.plain] at h
 | .other,h=>by simp [Ty.plain] at h
theorem Ty.beqs_refl:∀ (ts:List Ty),Ty.plains ts=true→Ty.beqs ts ts=true
 | [],_=>rfl
 | t :: ts,h=>by
  unfold Ty.plains at h
  unfold Ty.beqs
  rw [Je] at h ⊢
  exact ⟨Ty.beq_refl t h.1,Ty.beqs_refl ts h.2⟩
end
mutual
theorem OY:∀ (t:Ty) (d:D),t.plain=true→shp t (dec true t d)=true
 | .int k,_,_=>by unfold dec shp; exact WR k
 | .bool,_,_=>rfl
 | .str,_,_=>rfl
 | .struct fs,d,h=>by
  unfold Ty.plain at h
  unfold dec shp
  exact Tc fs 0 d h
 | .slice e,d,h=>by
  unfold Ty.plain at h
  unfold dec shp
  exact Ty.beq_refl e h
 | .arr n e,d,h=>by
  unfold Ty.plain at h
  unfold dec shp
  rw [Je]
  exact ⟨Nat.beq_refl n,Ty.beq_refl e (U9 e h)⟩
 | .ptr,_,h=>by simp [Ty.plain] at h
 | .fn,_,h=>by simp [Ty.plain] at h
 | .other,_,h=>by simp [Ty.plain] at h
theorem Tc:∀ (ts:List Ty) (j:Nat) (d:D),Ty.plains ts=true→Qu ts (Uv true ts j d)=true
 | [],_,_,_=>rfl
 | t :: ts,j,d,h=>by
  unfold Ty.plains at h
  rw [Je] at h
  unfold Uv Qu
  rw [Je]
  exact ⟨OY t _ h.1,Tc ts _ d h.2⟩
end
mutual
theorem VL {E:Env}:∀ (t:Ty) {v:V} {cs:List Value} {F:List Nat},shp t v=true→InV E v cs F→DIn true E.w t (enc v) cs F
 | .int k,v,cs,F,hs,h=>by
  cases v <;> simp [shp] at hs
  unfold InV at h
  unfold DIn
  rw [UT hs]
  exact h
 | .bool,v,cs,F,hs,h=>by
  cases v <;> simp [shp] at hs
  unfold InV at h
  unfold DIn
  exact h
 | .str,v,cs,F,hs,h=>by
  cases v <;> simp [shp] at hs
  unfold InV at h
  unfold DIn
  exact h
 | .struct ts,v,cs,F,hs,h=>by
  cases v with
  | agg vs=>
   unfold shp at hs
   unfold InV at h
   unfold DIn enc
   exact Td ts [] hs h
  | _=>simp [shp] at hs
 | .arr n e,v,cs,F,hs,h=>by
  cases v with
  | arr m e' l=>
   unfold shp at hs
   rw [Je] at hs
   have h1:=Nat.eq_of_beq_eq_true hs.1
   have h2:=Ty.beq_eq _ _ hs.2
   subst h1; subst h2
   unfold InV at h
   unfold DIn enc
   exact ⟨h.1,h.2.2⟩
  | _=>simp [shp] at hs
 | .slice e,v,cs,F,hs,h=>by
  cases v with
  | own e' l=>
   unfold shp at hs
   have h2:=Ty.beq_eq _ _ hs
   subst h2
   unfold InV at h
   unfold DIn enc
   exact h.2
  | _=>simp [shp] at hs
 | .ptr,v,_,_,hs,h=>by cases v <;> simp [shp] at hs
 | .fn,v,_,_,hs,h=>by cases v <;> simp [shp] at hs
 | .other,v,_,_,hs,h=>by cases v <;> simp [shp] at hs
theorem Td {E:Env}:∀ (ts:List Ty) (pre:List D) {vs:List V} {cs:List Value} {F:List Nat},Qu ts vs=true→Ji E vs cs F→Qv true E.w ts pre.length (.node (pre ++ Ug vs)) cs F
 | [],pre,vs,cs,F,hs,h=>by
  cases vs with
  | nil=>unfold Ji at h; unfold Qv; exact h
  | cons _ _=>simp [Qu] at hs
 | t :: ts,pre,vs,cs,F,hs,h=>by
  cases vs with
  | nil=>simp [Qu] at hs
  | cons v vs=>
   unfold Qu at hs
   rw [Je] at hs
   unfold Ji at h
   obtain ⟨c1,c2,F1,F2,e1,e2,h1,h2⟩:=h
   unfold Qv
   refine ⟨c1,c2,F1,F2,e1,e2,?_,?_⟩
   ·have:(D.node (pre ++ Ug (v :: vs))).fld pre.length=enc v:=by simp [D.fld,D.items,Ug]
    rw [this]
    exact VL t hs.1 h1
   ·have h3:=Td ts (pre ++ [enc v]) hs.2 h2
    simpa [Ug] using h3
end
end Go.Rai
namespace Go.Rai
theorem Oi (a:Addr) (i:Nat):(a.add i).off=a.off + i:=by
 unfold Addr.add; split <;> simp_all
theorem CR (L:Jj) (i j:Nat):(L.shift i).shift j=L.shift (i + j):=by
 cases L with
 | reg cs=>simp [Jj.shift,List.drop_drop]
 | mem a=>simp [Jj.shift,U7]
theorem WW {w:World} {L:Jj} {c1 c2:List Value} (h:L.holds w (c1 ++ c2)):L.holds w c1:=by
 cases L with
 | reg ds=>obtain ⟨r,hr⟩:=h; exact ⟨c2 ++ r,by rw [hr]; simp⟩
 | mem a=>intro j v hj; exact h j v (by rw [List.getElem?_append_left (by have:=(List.getElem?_eq_some_iff.1 hj).1; exact this)]; exact hj)
theorem WX {w:World} {L:Jj} {c1 c2:List Value} (h:L.holds w (c1 ++ c2)):(L.shift c1.length).holds w c2:=by
 cases L with
 | reg ds=>obtain ⟨r,hr⟩:=h; exact ⟨r,by rw [hr]; simp⟩
 | mem a=>
  intro j v hj
  show w.cell? ((a.add c1.length).add j)=some v
  rw [U7]
  exact h (c1.length + j) v (by rw [List.getElem?_append_right (by omega)]; simpa using hj)
theorem Q0 {w:World} {L:Jj} {c1 c c2:List Value} (h:L.holds w (c1 ++ (c ++ c2))):(L.shift c1.length).holds w c:=
 WW (WX h)
theorem J0 {w:World} {L:Jj} {v:Value} {r:List Value} (h:L.holds w (v :: r)):L.head w=some v:=by
 cases L with
 | reg ds=>obtain ⟨q,hq⟩:=h; rw [hq]; simp [Jj.head]
 | mem a=>exact h 0 v rfl
theorem NL {α:Type}:∀ {l:List α} {j:Nat} {x:α},nth l j=some x→j<l.length∧l[j]?=some x
 | [],_,_,h=>by simp [nth] at h
 | a :: l,0,x,h=>by simp [nth] at h; simp [h]
 | a :: l,j + 1,x,h=>by
  obtain ⟨h1,h2⟩:=NL (l:=l) (j:=j) (by simpa [nth] using h)
  exact ⟨by simp; omega,by simpa using h2⟩
theorem OZ {α:Type}:∀ (l:List α) (j:Nat),nth l j=l[j]?
 | [],_=>by simp [nth]
 | a :: l,0=>by simp [nth]
 | a :: l,j + 1=>by simp [nth,OZ l j]
theorem WY:∀ {vs:List V} {j:Nat} {x y:V},nth vs j=some x→vsz y=vsz x→Jt (JF vs j y)=Jt vs
 | [],_,_,_,h,_=>by simp [nth] at h
 | a :: l,0,x,y,h,hy=>by simp [nth] at h; subst h; simp [JF,Jt,hy]
 | a :: l,j + 1,x,y,h,hy=>by
  have:=WY (vs:=l) (j:=j) (by simpa [nth] using h) hy
  simp [JF,Jt,this]
theorem O0:∀ {vs:List V} {j:Nat} {x:V},nth vs j=some x→Jt (vs.take j) + vsz x≤Jt vs
 | [],_,_,h=>by simp [nth] at h
 | a :: l,0,x,h=>by simp [nth] at h; subst h; simp [Jt]
 | a :: l,j + 1,x,h=>by
  have:=O0 (vs:=l) (j:=j) (by simpa [nth] using h)
  simp [Jt]; omega
theorem UU {E:Env}:∀ {vs:List V} {j:Nat} {x:V} {cs:List Value} {F:List Nat},Ji E vs cs F→nth vs j=some x →
  ∃ c1 c c2 F1 F0 F2,cs=c1 ++ (c ++ c2)∧F=F1 ++ (F0 ++ F2)∧c1.length=Jt (vs.take j)∧InV E x c F0 ∧
   ∀ (E':Env) (y:V) (c':List Value) (F':List Nat),Le E E'→(∀ s ∈ Jn vs,Us E E' s)→QL E.w E'.w F1→QL E.w E'.w F2→InV E' y c' F' →
    Ji E' (JF vs j y) (c1 ++ (c' ++ c2)) (F1 ++ (F' ++ F2))
 | [],_,_,_,_,_,h=>by simp [nth] at h
 | a :: l,0,x,cs,F,h,hx=>by
  simp [nth] at hx; subst hx
  unfold Ji at h
  obtain ⟨c1,c2,F1,F2,e1,e2,h1,h2⟩:=h
  refine ⟨[],c1,c2,[],F1,F2,by simp [e1],by simp [e2],by simp [Jt],h1,?_⟩
  intro E' y c' F' hE hs hF1 hF2 hy
  simp only [JF,List.nil_append]
  unfold Ji
  exact ⟨c',c2,F',F2,rfl,rfl,hy,HB hE l (fun s hs'=>hs s (by simp [Jn,Jv,hs'])) hF2 h2⟩
 | a :: l,j + 1,x,cs,F,h,hx=>by
  unfold Ji at h
  obtain ⟨d1,d2,G1,G2,e1,e2,h1,h2⟩:=h
  obtain ⟨c1,c,c2,F1,F0,F2,i1,i2,i3,i4,i5⟩:=UU (vs:=l) (j:=j) h2 (by simpa [nth] using hx)
  refine ⟨d1 ++ c1,c,c2,G1 ++ F1,F0,F2,by simp [e1,i1],by simp [e2,i2],by simp [Jt,i3,Qp a h1],i4,?_⟩
  intro E' y c' F' hE hs hF1 hF2 hy
  simp only [JF]
  unfold Ji
  exact ⟨d1,c1 ++ (c' ++ c2),G1,F1 ++ (F' ++ F2),by simp,by simp,U8 hE a (fun s hs'=>hs s (by simp [Jn,Jv,hs'])) (fun b hb=>hF1 b (by simp [hb])) h1,
   i5 E' y c' F' hE (fun s hs'=>hs s (by simp [Jn,Jv,hs'])) (fun b hb=>hF1 b (by simp [hb])) hF2 hy⟩
theorem Hn {R:D→List Value→List Nat→Prop} {sz:Nat} (hR:∀ d c G,R d c G→c.length=sz):∀ {l:List D} {j:Nat} {cs:List Value} {F:List Nat},Row R l cs F→j<l.length →
  ∃ c1 c c2 F1 F0 F2,cs=c1 ++ (c ++ c2)∧F=F1 ++ (F0 ++ F2)∧c1.length=j * sz∧R (l.getD j (.int 0)) c F0 ∧
   ∀ (R':D→List Value→List Nat→Prop) (y:D) (c':List Value) (F':List Nat),(∀ d c G,(∀ b ∈ G,b ∈ F1) ∨ (∀ b ∈ G,b ∈ F2)→R d c G→R' d c G)→R' y c' F' →
    Row R' (l.set j y) (c1 ++ (c' ++ c2)) (F1 ++ (F' ++ F2))
 | [],_,_,_,_,h=>by simp at h
 | a :: l,0,cs,F,h,_=>by
  obtain ⟨c1,c2,F1,F2,e1,e2,h1,h2⟩:=h
  refine ⟨[],c1,c2,[],F1,F2,by simp [e1],by simp [e2],by simp,by simpa using h1,?_⟩
  intro R' y c' F' hR' hy
  exact ⟨c',c2,F',F2,rfl,rfl,hy,Cs (fun d _ c G hG hd=>hR' d c G (.inr hG) hd) h2⟩
 | a :: l,j + 1,cs,F,h,hj=>by
  obtain ⟨d1,d2,G1,G2,e1,e2,h1,h2⟩:=h
  obtain ⟨c1,c,c2,F1,F0,F2,i1,i2,i3,i4,i5⟩:=Hn hR (l:=l) (j:=j) h2 (by simpa using hj)
  refine ⟨d1 ++ c1,c,c2,G1 ++ F1,F0,F2,by simp [e1,i1],by simp [e2,i2],by simp [i3,hR _ _ _ h1,Nat.succ_mul,Nat.add_comm],by simpa using i4,?_⟩
  intro R' y c' F' hR' hy
  refine ⟨d1,c1 ++ (c' ++ c2),G1,F1 ++ (F' ++ F2),by simp,by simp,hR' a d1 G1 (.inl fun b hb=>by simp [hb]) h1,?_⟩
  exact i5 R' y c' F' (fun d c G hG hd=>hR' d c G (hG.imp (fun h b hb=>by simp [h b hb]) id) hd) hy
theorem Te {E:Env}:∀ {vs:List V} {i:Nat} {x:V} {cs:List Value} {F:List Nat},Ji E vs cs F→nth vs i=some x →
  ∃ c F0,InV E x c F0∧(∀ b ∈ F0,b ∈ F)∧∀ k,k<c.length→c[k]?=cs[Jt (vs.take i) + k]?
 | [],_,_,_,_,_,h=>by simp [nth] at h
 | a :: l,0,x,cs,F,h,hx=>by
  simp [nth] at hx; subst hx
  unfold Ji at h
  obtain ⟨c1,c2,F1,F2,e1,e2,h1,h2⟩:=h
  refine ⟨c1,F1,h1,fun b hb=>by rw [e2]; simp [hb],fun k hk=>?_⟩
  simp [Jt,e1,List.getElem?_append_left hk]
 | a :: l,i + 1,x,cs,F,h,hx=>by
  unfold Ji at h
  obtain ⟨d1,d2,G1,G2,e1,e2,h1,h2⟩:=h
  obtain ⟨c,F0,i1,i2,i3⟩:=Te (vs:=l) (i:=i) h2 (by simpa [nth] using hx)
  refine ⟨c,F0,i1,fun b hb=>by rw [e2]; simp [i2 b hb],fun k hk=>?_⟩
  rw [i3 k hk,e1]
  simp only [List.take_succ_cons,Jt]
  rw [List.getElem?_append_right (by rw [Qp a h1]; omega),Qp a h1]
  congr 1; omega
theorem Tf {R:D→List Value→List Nat→Prop} {sz:Nat} (hR:∀ d c G,R d c G→c.length=sz):∀ {l:List D} {i:Nat} {cs:List Value} {F:List Nat},Row R l cs F→i<l.length →
  ∃ c F0,R (l.getD i (.int 0)) c F0∧(∀ b ∈ F0,b ∈ F)∧∀ k,k<c.length→c[k]?=cs[i * sz + k]?
 | [],_,_,_,_,h=>by simp at h
 | a :: l,0,cs,F,h,_=>by
  obtain ⟨c1,c2,F1,F2,e1,e2,h1,h2⟩:=h
  refine ⟨c1,F1,by simpa using h1,fun b hb=>by rw [e2]; simp [hb],fun k hk=>?_⟩
  simp [e1,List.getElem?_append_left hk]
 | a :: l,i + 1,cs,F,h,hi=>by
  obtain ⟨d1,d2,G1,G2,e1,e2,h1,h2⟩:=h
  obtain ⟨c,F0,i1,i2,i3⟩:=Tf hR (l:=l) (i:=i) h2 (by simpa using hi)
  refine ⟨c,F0,by simpa using i1,fun b hb=>by rw [e2]; simp [i2 b hb],fun k hk=>?_⟩
  rw [i3 k hk,e1,List.getElem?_append_right (by rw [hR _ _ _ h1,Nat.succ_mul]; omega),hR _ _ _ h1]
  congr 1; rw [Nat.succ_mul]; omega
theorem Tg {c1 c c' c2:List Value} {n:Nat} (hlen:c'.length=c.length) (hn:n<c1.length ∨ c1.length + c.length≤n):(c1 ++ (c' ++ c2))[n]?=(c1 ++ (c ++ c2))[n]?:=by
 rcases hn with hn | hn
 ·rw [List.getElem?_append_left hn,List.getElem?_append_left hn]
 ·rw [List.getElem?_append_right (by omega),List.getElem?_append_right (by omega),List.getElem?_append_right (by omega),List.getElem?_append_right (by omega),hlen]
theorem Th {E:Env}:∀ {vs:List V} {j:Nat} {x:V} {cs:List Value} {F:List Nat},Ji E vs cs F→nth vs j=some x →
  ∃ c1 c c2 F1 F0 F2,cs=c1 ++ (c ++ c2)∧F=F1 ++ (F0 ++ F2)∧c1.length=Jt (vs.take j)∧InV E x c F0 ∧
   (∀ (E':Env) (y:V) (c':List Value) (F':List Nat),Le E E'→(∀ s ∈ Jn vs,Us E E' s)→QL E.w E'.w F1→QL E.w E'.w F2→InV E' y c' F' →
    Ji E' (JF vs j y) (c1 ++ (c' ++ c2)) (F1 ++ (F' ++ F2))) ∧
   ∀ i xi,i ≠ j→nth vs i=some xi→∃ ci Fi,InV E xi ci Fi∧((∀ b ∈ Fi,b ∈ F1) ∨ (∀ b ∈ Fi,b ∈ F2))∧(∀ k,k<ci.length→ci[k]?=cs[Jt (vs.take i) + k]?) ∧
    (Jt (vs.take i) + ci.length≤c1.length ∨ c1.length + c.length≤Jt (vs.take i))
 | [],_,_,_,_,_,h=>by simp [nth] at h
 | a :: l,0,x,cs,F,h,hx=>by
  simp [nth] at hx; subst hx
  have h0:=h
  unfold Ji at h
  obtain ⟨c1,c2,F1,F2,e1,e2,h1,h2⟩:=h
  refine ⟨[],c1,c2,[],F1,F2,by simp [e1],by simp [e2],by simp [Jt],h1,?_,?_⟩
  ·intro E' y c' F' hE hs hF1 hF2 hy
   simp only [JF,List.nil_append]
   unfold Ji
   exact ⟨c',c2,F',F2,rfl,rfl,hy,HB hE l (fun s hs'=>hs s (by simp [Jn,Jv,hs'])) hF2 h2⟩
  ·intro i xi hne hi
   cases i with
   | zero=>exact absurd rfl hne
   | succ i=>
    obtain ⟨ci,Fi,g1,g2,g3⟩:=Te (vs:=l) (i:=i) h2 (by simpa [nth] using hi)
    refine ⟨ci,Fi,g1,.inr g2,fun k hk=>?_,.inr ?_⟩
    ·rw [g3 k hk,e1]
     simp only [List.take_succ_cons,Jt]
     rw [List.getElem?_append_right (by rw [Qp a h1]; omega),Qp a h1]
     congr 1; omega
    ·simp only [List.take_succ_cons,Jt,List.length_nil,Nat.zero_add,Qp a h1]; omega
 | a :: l,j + 1,x,cs,F,h,hx=>by
  unfold Ji at h
  obtain ⟨d1,d2,G1,G2,e1,e2,h1,h2⟩:=h
  obtain ⟨c1,c,c2,F1,F0,F2,i1,i2,i3,i4,i5,i6⟩:=Th (vs:=l) (j:=j) h2 (by simpa [nth] using hx)
  refine ⟨d1 ++ c1,c,c2,G1 ++ F1,F0,F2,by simp [e1,i1],by simp [e2,i2],by simp [Jt,i3,Qp a h1],i4,?_,?_⟩
  ·intro E' y c' F' hE hs hF1 hF2 hy
   simp only [JF]
   unfold Ji
   exact ⟨d1,c1 ++ (c' ++ c2),G1,F1 ++ (F' ++ F2),by simp,by simp,U8 hE a (fun s hs'=>hs s (by simp [Jn,Jv,hs'])) (fun b hb=>hF1 b (by simp [hb])) h1,
    i5 E' y c' F' hE (fun s hs'=>hs s (by simp [Jn,Jv,hs'])) (fun b hb=>hF1 b (by simp [hb])) hF2 hy⟩
  ·intro i xi hne hi
   cases i with
   | zero=>
    simp [nth] at hi; subst hi
    refine ⟨d1,G1,h1,.inl fun b hb=>by simp [hb],fun k hk=>?_,.inl ?_⟩
    ·simp [Jt,e1,List.getElem?_append_left hk]
    ·simp [Jt]
   | succ i=>
    obtain ⟨ci,Fi,g1,g2,g3,g4⟩:=i6 i xi (by omega) (by simpa [nth] using hi)
    refine ⟨ci,Fi,g1,g2.imp (fun h b hb=>by simp [h b hb]) id,fun k hk=>?_,?_⟩
    ·rw [g3 k hk,e1]
     simp only [List.take_succ_cons,Jt]
     rw [List.getElem?_append_right (by rw [Qp a h1]; omega),Qp a h1]
     congr 1; omega
    ·simp only [List.take_succ_cons,Jt,List.length_append,Qp a h1]
     rcases g4 with g4 | g4
     ·exact .inl (by omega)
     ·exact .inr (by omega)
theorem Ti {R:D→List Value→List Nat→Prop} {sz:Nat} (hR:∀ d c G,R d c G→c.length=sz):∀ {l:List D} {j:Nat} {cs:List Value} {F:List Nat},Row R l cs F→j<l.length →
  ∃ c1 c c2 F1 F0 F2,cs=c1 ++ (c ++ c2)∧F=F1 ++ (F0 ++ F2)∧c1.length=j * sz∧R (l.getD j (.int 0)) c F0 ∧
   (∀ (R':D→List Value→List Nat→Prop) (y:D) (c':List Value) (F':List Nat),(∀ d c G,(∀ b ∈ G,b ∈ F1) ∨ (∀ b ∈ G,b ∈ F2)→R d c G→R' d c G)→R' y c' F' →
    Row R' (l.set j y) (c1 ++ (c' ++ c2)) (F1 ++ (F' ++ F2))) ∧
   ∀ i,i ≠ j→i<l.length→∃ ci Fi,R (l.getD i (.int 0)) ci Fi∧((∀ b ∈ Fi,b ∈ F1) ∨ (∀ b ∈ Fi,b ∈ F2))∧(∀ k,k<ci.length→ci[k]?=cs[i * sz + k]?) ∧
    (i * sz + ci.length≤c1.length ∨ c1.length + c.length≤i * sz)
 | [],_,_,_,_,h=>by simp at h
 | a :: l,0,cs,F,h,_=>by
  obtain ⟨c1,c2,F1,F2,e1,e2,h1,h2⟩:=h
  refine ⟨[],c1,c2,[],F1,F2,by simp [e1],by simp [e2],by simp,by simpa using h1,?_,?_⟩
  ·intro R' y c' F' hR' hy
   exact ⟨c',c2,F',F2,rfl,rfl,hy,Cs (fun d _ c G hG hd=>hR' d c G (.inr hG) hd) h2⟩
  ·intro i hne hi
   cases i with
   | zero=>exact absurd rfl hne
   | succ i=>
    obtain ⟨ci,Fi,g1,g2,g3⟩:=Tf hR (l:=l) (i:=i) h2 (by simpa using hi)
    refine ⟨ci,Fi,by simpa using g1,.inr g2,fun k hk=>?_,.inr ?_⟩
    ·rw [g3 k hk,e1,List.getElem?_append_right (by rw [hR _ _ _ h1,Nat.succ_mul]; omega),hR _ _ _ h1]
     congr 1; rw [Nat.succ_mul]; omega
    ·rw [Nat.succ_mul,hR _ _ _ h1]; simp
 | a :: l,j + 1,cs,F,h,hj=>by
  obtain ⟨d1,d2,G1,G2,e1,e2,h1,h2⟩:=h
  obtain ⟨c1,c,c2,F1,F0,F2,i1,i2,i3,i4,i5,i6⟩:=Ti hR (l:=l) (j:=j) h2 (by simpa using hj)
  refine ⟨d1 ++ c1,c,c2,G1 ++ F1,F0,F2,by simp [e1,i1],by simp [e2,i2],by simp [i3,hR _ _ _ h1,Nat.succ_mul,Nat.add_comm],by simpa using i4,?_,?_⟩
  ·intro R' y c' F' hR' hy
   refine ⟨d1,c1 ++ (c' ++ c2),G1,F1 ++ (F' ++ F2),by simp,by simp,hR' a d1 G1 (.inl fun b hb=>by simp [hb]) h1,?_⟩
   exact i5 R' y c' F' (fun d c G hG hd=>hR' d c G (hG.imp (fun h b hb=>by simp [h b hb]) id) hd) hy
  ·intro i hne hi
   cases i with
   | zero=>
    refine ⟨d1,G1,by simpa using h1,.inl fun b hb=>by simp [hb],fun k hk=>?_,.inl ?_⟩
    ·simp [e1,List.getElem?_append_left hk]
    ·simp
   | succ i=>
    obtain ⟨ci,Fi,g1,g2,g3,g4⟩:=i6 i (by omega) (by simpa using hi)
    refine ⟨ci,Fi,by simpa using g1,g2.imp (fun h b hb=>by simp [h b hb]) id,fun k hk=>?_,?_⟩
    ·rw [g3 k hk,e1,List.getElem?_append_right (by rw [hR _ _ _ h1,Nat.succ_mul]; omega),hR _ _ _ h1]
     congr 1; rw [Nat.succ_mul]; omega
    ·rw [Nat.succ_mul,List.length_append,hR _ _ _ h1]
     rcases g4 with g4 | g4
     ·exact .inl (by omega)
     ·exact .inr (by omega)
theorem O1 {w:World} {L:Jj} {cs c:List Value} {n:Nat} (h:L.holds w cs) (hl:n + c.length≤cs.length) (hc:∀ k,k<c.length→c[k]?=cs[n + k]?):(L.shift n).holds w c:=by
 have hcs:cs=cs.take n ++ (c ++ cs.drop (n + c.length)):=by
  have h1:(cs.drop n).take c.length=c:=by
   apply List.ext_getElem?
   intro k
   by_cases hk:k<c.length
   ·rw [List.getElem?_take_of_lt hk,List.getElem?_drop,hc k hk]
   ·rw [List.getElem?_eq_none (by simp; omega),List.getElem?_eq_none (by omega)]
  rw [← h1]
  conv=>lhs; rw [← List.take_append_drop n cs]
  congr 1
  conv=>lhs; rw [← List.take_append_drop c.length (cs.drop n)]
  rw [List.drop_drop,h1]
 have hlen:(cs.take n).length=n:=by simp; omega
 have:=Q0 (w:=w) (L:=L) (c1:=cs.take n) (c:=c) (c2:=cs.drop (n + c.length)) (by rw [← hcs]; exact h)
 rwa [hlen] at this
mutual
theorem VM (o:Bool):∀ (t:Ty) (d:D),Jf (dec o t d)=[]
 | .int _,_=>rfl
 | .bool,_=>rfl
 | .str,_=>rfl
 | .struct ts,d=>by unfold dec Jf; exact Tj o ts 0 d
 | .slice _,_=>by unfold dec; cases o <;> rfl
 | .arr _ _,_=>rfl
 | .ptr,_=>rfl
 | .fn,_=>rfl
 | .other,_=>rfl
theorem Tj (o:Bool):∀ (ts:List Ty) (j:Nat) (d:D),Jn (Uv o ts j d)=[]
 | [],_,_=>rfl
 | t :: ts,j,d=>by unfold Uv Jn; rw [VM o t,Tj o ts]; rfl
end
mutual
theorem O2:∀ (t:Ty) (d:D),t.plain=true→vsz (dec true t d)=t.size
 | .int _,_,_=>rfl
 | .bool,_,_=>rfl
 | .str,_,_=>rfl
 | .struct ts,d,h=>by unfold Ty.plain at h; unfold dec vsz Ty.size; exact Tk ts 0 d h
 | .slice _,_,_=>rfl
 | .arr _ _,_,_=>by simp [dec,vsz,Ty.size]
 | .ptr,_,h=>by simp [Ty.plain] at h
 | .fn,_,h=>by simp [Ty.plain] at h
 | .other,_,h=>by simp [Ty.plain] at h
theorem Tk:∀ (ts:List Ty) (j:Nat) (d:D),Ty.plains ts=true→Jt (Uv true ts j d)=Ty.sizes ts
 | [],_,_,_=>rfl
 | t :: ts,j,d,h=>by
  unfold Ty.plains at h; rw [Je] at h
  unfold Uv Jt Ty.sizes; rw [O2 t _ h.1,Tk ts _ d h.2]
end
theorem Tl:∀ {ts:List Ty} {vs:List V} {j:Nat} {x y:V},Qu ts vs=true→nth vs j=some x→(∀ t,shp t x=true→shp t y=true)→Qu ts (JF vs j y)=true
 | [],[],_,_,_,_,h,_=>by simp [nth] at h
 | [],_ :: _,_,_,_,h,_,_=>by simp [Qu] at h
 | _ :: _,[],_,_,_,h,_,_=>by simp [Qu] at h
 | t :: ts,v :: vs,0,x,y,hs,hx,hy=>by
  simp [nth] at hx; subst hx
  simp only [Qu,JF,Je] at hs ⊢
  exact ⟨hy t hs.1,hs.2⟩
 | t :: ts,v :: vs,j + 1,x,y,hs,hx,hy=>by
  simp only [Qu,JF,Je] at hs ⊢
  exact ⟨hs.1,Tl hs.2 (by simpa [nth] using hx) hy⟩
theorem NM {t:Ty} {v x y:V} {j:Nat} {c:List Jm} (hs:shp t v=true) (hx:v.step j=some (c,x)) (hy:∀ t,shp t x=true→shp t y=true):shp t (v.put j y)=true:=by
 cases v with
 | agg vs=>
  cases t <;> simp [shp] at hs
  simp only [V.step] at hx
  split at hx
  ·rename_i v hv
   simp at hx; obtain ⟨_,rfl⟩:=hx
   simp only [V.put,shp]
   exact Tl hs hv hy
  ·simp at hx
 | own e l=>cases t <;> simp [shp] at hs; simp [V.put,shp,hs]
 | arr n e l=>cases t <;> simp [shp,Je] at hs; simp [V.put,shp,hs,Je]
 | _=>cases t <;> simp_all [shp,V.step]
def UV (w w':World):Jj→Nat→Prop
 | .reg _,_=>True
 | .mem a,n=>∀ b:Addr,b.block=a.block→b.spot=none→((b.off<a.off ∨ a.off + n≤b.off)→w'.cell? b=w.cell? b)∧w'.frozen? b=w.frozen? b∧((∃ v,w.cell? b=some v)→∃ v,w'.cell? b=some v)
theorem Tm (a:Addr) (i:Nat) (h:a.spot=none):(a.add i).spot=none:=by
 unfold Addr.add; split <;> simp_all
theorem WZ {w:World} {a:Addr} {v:Value} (h:w.cell? a=some v):a.spot=none:=by
 unfold World.cell? at h
 split at h
 ·split at h
  ·simp at h
  ·rename_i hs; simpa using hs
 ·simp at h
theorem Tn {w w':World} {a:Addr} {i n:Nat} {cs:List Value} (h:UV w w' (.mem (a.add i)) n) (hc:QO w a cs) (hi:cs.length≤i):QO w' a cs:=by
 intro j v hj
 have hv:=hc j v hj
 have hjl:=(List.getElem?_eq_some_iff.1 hj).1
 rw [(h (a.add j) (by simp [QZ]) (WZ hv)).1 (.inl (by simp [Oi]; omega))]
 exact hv
theorem To {w w':World} {a:Addr} {i n k:Nat} {cs:List Value} (h:UV w w' (.mem (a.add i)) n) (hc:QO w (a.add k) cs) (hi:i + n≤k):QO w' (a.add k) cs:=by
 intro j v hj
 have hv:=hc j v hj
 rw [(h ((a.add k).add j) (by simp [QZ]) (WZ hv)).1 (.inr (by simp [Oi]; omega))]
 exact hv
theorem Yc {w w':World} {a:Addr} {i n m:Nat} (h:UV w w' (.mem (a.add i)) n) (hc:QP w a m):QP w' a m:=by
 intro j hj
 obtain ⟨⟨v,hv⟩,hf⟩:=hc j hj
 obtain ⟨_,h2,h3⟩:=h (a.add j) (by simp [QZ]) (WZ hv)
 exact ⟨h3 ⟨v,hv⟩,by rw [h2]; exact hf⟩
theorem VN {w:World} {a:Addr} {c1 c2:List Value} (h1:QO w a c1) (h2:QO w (a.add c1.length) c2):QO w a (c1 ++ c2):=by
 intro j v hj
 by_cases hlt:j<c1.length
 ·rw [List.getElem?_append_left hlt] at hj; exact h1 j v hj
 ·rw [List.getElem?_append_right (by omega)] at hj
  have:=h2 _ v hj
  rw [U7] at this
  rwa [show c1.length + (j - c1.length)=j by omega] at this
theorem Tp {w w':World} {a:Addr} {c1 c c' c2:List Value} (hlen:c'.length=c.length) (hc:QO w a (c1 ++ (c ++ c2)))
  (hp:w'.heap[a.block]?=w.heap[a.block]? ∨ ∃ k n,UV w w' (.mem (a.add (c1.length + k))) n∧k + n≤c.length) (hc':QO w' (a.add c1.length) c'):QO w' a (c1 ++ (c' ++ c2)):=by
 have h1:QO w a c1:=WW (L:=.mem a) hc
 have h2:QO w (a.add (c1.length + c.length)) c2:=by
  have:=WX (w:=w) (L:=.mem a) (c1:=c1 ++ c) (c2:=c2) (by rw [List.append_assoc]; exact hc)
  rw [List.length_append] at this
  exact this
 refine VN ?_ (VN hc' ?_)
 ·rcases hp with hp | ⟨k,n,hp,hk⟩
  ·exact HP hp h1
  ·exact Tn hp h1 (by omega)
 ·rw [U7,hlen]
  rcases hp with hp | ⟨k,n,hp,hk⟩
  ·exact HP (by simpa [QZ] using hp) h2
  ·exact To hp h2 (by omega)
end Go.Rai
namespace Go.Rai
mutual
theorem Tq:∀ (t:Ty) {v:V},shp t v=true→dec true t (enc v)=v
 | .int k,v,hs=>by cases v <;> simp [shp] at hs; simp [enc,dec,D.toInt,UT hs]
 | .bool,v,hs=>by cases v <;> simp [shp] at hs; simp [enc,dec,D.toBool]
 | .str,v,hs=>by cases v <;> simp [shp] at hs; simp [enc,dec,D.toStr]
 | .struct ts,v,hs=>by
  cases v with
  | agg vs=>
   unfold shp at hs
   unfold enc dec
   have h3:=Tr ts [] hs
   simp at h3
   rw [h3]
  | _=>simp [shp] at hs
 | .slice e,v,hs=>by
  cases v with
  | own e' l=>
   unfold shp at hs
   rw [← Ty.beq_eq _ _ hs]
   simp [enc,dec,D.items]
  | _=>simp [shp] at hs
 | .arr n e,v,hs=>by
  cases v with
  | arr m e' l=>
   unfold shp at hs
   rw [Je] at hs
   rw [← Ty.beq_eq _ _ hs.2,← Nat.eq_of_beq_eq_true hs.1]
   simp [enc,dec,D.items]
  | _=>simp [shp] at hs
 | .ptr,v,hs=>by cases v <;> simp [shp] at hs
 | .fn,v,hs=>by cases v <;> simp [shp] at hs
 | .other,v,hs=>by cases v <;> simp [shp] at hs
theorem Tr:∀ (ts:List Ty) (pre:List D) {vs:List V},Qu ts vs=true→Uv true ts pre.length (.node (pre ++ Ug vs))=vs
 | [],pre,vs,hs=>by cases vs <;> simp [Qu] at hs; rfl
 | t :: ts,pre,vs,hs=>by
  cases vs with
  | nil=>simp [Qu] at hs
  | cons v vs=>
   unfold Qu at hs
   rw [Je] at hs
   unfold Uv
   have h1:(D.node (pre ++ Ug (v :: vs))).fld pre.length=enc v:=by simp [D.fld,D.items,Ug]
   rw [h1,Tq t hs.1]
   have h3:=Tr ts (pre ++ [enc v]) hs.2
   simp [Ug] at h3 ⊢
   exact h3
end
def Ts (w w':World) (L:Jj) (x:V):Prop:=∃ c,L.holds w c∧L.holds w' c∧c.length=vsz x
theorem NN {w w':World} {L:Jj} {x:V} (h:Ts w w' L x) (hx:QE x=true):L.head w'=L.head w:=by
 obtain ⟨c,h1,h2,h3⟩:=h
 have:vsz x=1:=by cases x <;> simp [QE] at hx <;> rfl
 rw [this] at h3
 match c,h3 with
 | [v],_=>rw [J0 h1,J0 h2]
theorem Oj (E:Env) {w':World}:∀ (p:List Nat) (v:V) (cs:List Value) (F:List Nat) (L:Jj),InV E v cs F→L.holds E.w cs→L.holds w' cs→QL E.w w' F →
  Jg w' v L p=Jg E.w v L p∧∀ x Lx,Jg E.w v L p=some (x,Lx)→Ts E.w w' Lx x
 | [],v,cs,F,L,hv,hL,hL',hF=>⟨rfl,fun x Lx h=>by
   simp [Jg] at h
   rw [← h.2,← h.1]
   exact ⟨cs,hL,hL',Qp v hv⟩⟩
 | j :: p,v,cs,F,L,hv,hL,hL',hF=>by
  cases v with
  | agg vs=>
   cases hj:nth vs j with
   | none=>simp [Jg,hj]
   | some xj=>
    unfold InV at hv
    obtain ⟨c1,c,c2,F1,F0,F2,e1,e2,e3,e4,e5⟩:=UU hv hj
    subst e1
    simp only [Jg,hj]
    exact Oj E p xj c F0 _ e4 (by rw [← e3]; exact Q0 hL) (by rw [← e3]; exact Q0 hL') (fun b hb=>hF b (by rw [e2]; simp [hb]))
  | own e l=>
   simp only [Jg]
   by_cases hjl:j<l.length
   ·simp only [hjl,if_true]
    unfold InV at hv
    obtain ⟨hp,A,c,hcs,hsl⟩:=hv
    have hhd:L.head E.w=some (.slice A l.length c):=J0 (by rw [← hcs]; exact hL)
    have hhd':L.head w'=some (.slice A l.length c):=J0 (by rw [← hcs]; exact hL')
    rw [hhd,hhd']
    rcases hsl with ⟨h0,_⟩ | ⟨a,cs0,F',hA,hr,hc,hf,hlc,hb,ho⟩
    ·subst h0; simp at hjl
    ·subst hA
     obtain ⟨c1,c',c2,F1,F0,F2,e1,e2,e3,e4,e5⟩:=Hn (fun d c G hd=>Qt e hd) hr hjl
     subst e1
     have hkb:=hF a.block (by rw [hf]; simp)
     refine Oj E p _ c' F0 (.mem (a.add (j * e.size))) (Hm e hp e4) ?_ ?_ (fun b hb=>hF b (by rw [hf,e2]; simp [hb]))
     ·have:=Q0 (L:=.mem a) (w:=E.w) (c1:=c1) (c:=c') (c2:=c2) hc
      rw [e3] at this
      exact this
     ·have:=Q0 (L:=.mem a) (w:=w') (c1:=c1) (c:=c') (c2:=c2) (HP hkb hc)
      rw [e3] at this
      exact this
   ·simp only [hjl,if_false]; simp
  | arr n e l=>
   simp only [Jg]
   by_cases hjl:j<l.length
   ·simp only [hjl,if_true]
    unfold InV at hv
    obtain ⟨hn,hfl,hr⟩:=hv
    obtain ⟨c1,c',c2,F1,F0,F2,e1,e2,e3,e4,e5⟩:=Hn (fun d c G hd=>Qt e hd) hr hjl
    subst e1
    exact Oj E p _ c' F0 _ (Hm e (U9 e hfl) e4) (by rw [← e3]; exact Q0 hL) (by rw [← e3]; exact Q0 hL') (fun b hb=>hF b (by rw [e2]; simp [hb]))
   ·simp only [hjl,if_false]; simp
  | lst e vs=>
   cases hj:nth vs j with
   | none=>simp [Jg,hj]
   | some xj=>
    simp only [Jg,hj]
    unfold InV at hv
    obtain ⟨a,c,cs0,F',hcs,hlc,he,hr,hc,hf,hb,ho⟩:=hv
    have hhd:L.head E.w=some (.slice (some a) vs.length c):=J0 (by rw [← hcs]; exact hL)
    have hhd':L.head w'=some (.slice (some a) vs.length c):=J0 (by rw [← hcs]; exact hL')
    rw [hhd,hhd']
    obtain ⟨c1,c',c2,F1,F0,F2,e1,e2,e3,e4,e5⟩:=UU hr hj
    subst e1
    have hkb:=hF a.block (by rw [hf]; simp)
    refine Oj E p xj c' F0 (.mem (a.add (Jt (vs.take j)))) e4 ?_ ?_ (fun b hb=>hF b (by rw [hf,e2]; simp [hb]))
    ·have:=Q0 (L:=.mem a) (w:=E.w) (c1:=c1) (c:=c') (c2:=c2) hc
     rw [e3] at this
     exact this
    ·have:=Q0 (L:=.mem a) (w:=w') (c1:=c1) (c:=c') (c2:=c2) (HP hkb hc)
     rw [e3] at this
     exact this
  | obox v0=>
   simp only [Jg]
   unfold InV at hv
   obtain ⟨a,cs0,F',hcs,hr,hc,hf,hb,ho⟩:=hv
   have hhd:L.head E.w=some (.pointer (some a)):=J0 (by rw [← hcs]; exact hL)
   have hhd':L.head w'=some (.pointer (some a)):=J0 (by rw [← hcs]; exact hL')
   rw [hhd,hhd']
   have hkb:=hF a.block (by rw [hf]; simp)
   exact Oj E p v0 cs0 F' (.mem a) hr hc (HP hkb hc) (fun b hb=>hF b (by rw [hf]; simp [hb]))
  | fn f caps=>
   cases hj:nth caps j with
   | none=>simp [Jg,hj]
   | some xj=>
    simp only [Jg,hj]
    unfold InV at hv
    obtain ⟨vals,hcs,hr,hsz⟩:=hv
    have hhd:L.head E.w=some (.func (.func f) #[] vals):=J0 (by rw [← hcs]; exact hL)
    have hhd':L.head w'=some (.func (.func f) #[] vals):=J0 (by rw [← hcs]; exact hL')
    rw [hhd,hhd']
    obtain ⟨c1,c',c2,F1,F0,F2,e1,e2,e3,e4,e5⟩:=UU hr hj
    refine Oj E p xj c' F0 _ e4 ?_ ?_ (fun b hb=>hF b (by rw [e2]; simp [hb]))
    ·rw [e1,← e3]; exact ⟨c2,by simp⟩
    ·rw [e1,← e3]; exact ⟨c2,by simp⟩
  | _=>simp [Jg]
def Tu (w w':World) (x x':V) (L:Jj):Prop:=QE x'=true→QE x=true∧L.head w'=L.head w
def Uc (w w':World) (v v':V) (L:Jj):Prop:=∀ q x' L',Jg w' v' L q=some (x',L')→∃ x0,Jg w v L q=some (x0,L')∧Tu w w' x0 x' L'
def Q1 (al:Bool) (n:Nat) (w w':World) (v v':V) (L:Jj):Prop:=∀ q,q.length<n→∀ x' L',Jg w' v' L q=some (x',L')→∃ x0,Jg w v L q=some (x0,L')∧(al=true→Tu w w' x0 x' L')
theorem Uc.n {w w':World} {v v':V} {L:Jj} {al:Bool} {n:Nat} (h:Uc w w' v v' L):Q1 al n w w' v v' L:=fun q _ x' L' hl=>by
 obtain ⟨x0,h1,h2⟩:=h q x' L' hl
 exact ⟨x0,h1,fun _=>h2⟩
theorem Q1.all {w w':World} {v v':V} {L:Jj} (h:∀ n,Q1 true n w w' v v' L):Uc w w' v v' L:=fun q x' L' hl=>by
 obtain ⟨x0,h1,h2⟩:=h (q.length + 1) q (Nat.lt_succ_self _) x' L' hl
 exact ⟨x0,h1,h2 rfl⟩
theorem Q1.mono {w w':World} {v v':V} {L:Jj} {al:Bool} {n m:Nat} (h:Q1 al n w w' v v' L) (hm:m≤n):Q1 al m w w' v v' L:=fun q hq=>h q (Nat.lt_of_lt_of_le hq hm)
theorem Uc.frame {E:Env} {w':World} {v:V} {cs:List Value} {F:List Nat} {L:Jj} (h1:InV E v cs F) (h2:L.holds E.w cs) (h3:L.holds w' cs) (h4:QL E.w w' F):Uc E.w w' v v L:=by
 intro q x' L' hl
 obtain ⟨g1,g2⟩:=Oj E q v cs F L h1 h2 h3 h4
 rw [g1] at hl
 exact ⟨x',hl,fun ho=>⟨ho,NN (g2 x' L' hl) ho⟩⟩
end Go.Rai
namespace Go.Rai
def NO (E:Env) (v:V) (p:List Nat) (cs:List Value) (L:Jj) (x:V) (Lx:Jj) (csx:List Value) (Fr:List Nat):Prop:=
 ∀ (Q:Prop) (E':Env) (y:V) (csy:List Value) (Fy:List Nat),
  vsz y=vsz x→(Q ∨ v.outer p=false→∀ t,shp t x=true→shp t y=true)→InV E' y csy Fy→Lx.holds E'.w csy →
  ((∃ ds,Lx=.reg ds)→csy=csx)→Le E E'→(∀ s ∈ Jf v,Us E E' s) →
  (∀ b ∈ Fr,(∀ a,Lx=.mem a→b ≠ a.block)→E'.w.heap[b]?=E.w.heap[b]?) →
  UV E.w E'.w Lx (vsz x) →
  (∀ a,L=.mem a→(∀ a',Lx=.mem a'→a'.block ≠ a.block)→E'.w.heap[a.block]?=E.w.heap[a.block]?) →
  ∃ cs' F',InV E' (v.set p y) cs' F'∧F'.Perm (Fr ++ Fy)∧L.holds E'.w cs'∧vsz (v.set p y)=vsz v∧((∃ ds,L=.reg ds)→cs'=cs)∧(Q→∀ t,shp t v=true→shp t (v.set p y)=true)∧(∀ al n,Q1 al n E.w E'.w x y Lx→Q1 al (n + p.length) E.w E'.w v (v.set p y) L)
def UW (E:Env) (v:V) (p:List Nat) (cs:List Value) (F:List Nat) (L:Jj) (x:V) (Lx:Jj):Prop:=
 ∃ csx Fx Fr,InV E x csx Fx∧Lx.holds E.w csx∧F.Perm (Fr ++ Fx) ∧
  ((∃ a,Lx=.mem a∧a.block ∈ Fr) ∨ (∃ k,Lx=L.shift k∧k + vsz x≤vsz v) ∨ (∃ ds,Lx=.reg ds))∧NO E v p cs L x Lx csx Fr
theorem Yd {F1 F0 F2 Fr Fx:List Nat} (h:F0.Perm (Fr ++ Fx)):(F1 ++ (F0 ++ F2)).Perm ((F1 ++ (Fr ++ F2)) ++ Fx):=by
 have h1:(F0 ++ F2).Perm ((Fr ++ F2) ++ Fx):=by
  refine (h.append_right F2).trans ?_
  rw [List.append_assoc,List.append_assoc]
  exact (List.perm_append_comm).append_left Fr
 have:=h1.append_left F1
 simpa [List.append_assoc] using this
theorem Tv {F1 Fi F2 Fr Fy:List Nat} (h:Fi.Perm (Fr ++ Fy)):(F1 ++ (Fi ++ F2)).Perm ((F1 ++ (Fr ++ F2)) ++ Fy):=Yd h
theorem W0 {v:V} {j:Nat} {p:List Nat} {x:V} {c:List Jm} (h:v.step j=some (c,x)) (ho:(∀ e l,v ≠ .own e l)∧(∀ n e l,v ≠ .arr n e l)):v.outer (j :: p)=x.outer p:=by
 cases v with
 | own e l=>exact absurd rfl (ho.1 e l)
 | arr n e l=>exact absurd rfl (ho.2 n e l)
 | _=>first | (simp only [V.outer,h]) | (simp [V.step] at h)
theorem O3 {v:V} {j:Nat} {p:List Nat} {x y:V} {c:List Jm} (h:v.step j=some (c,x)):v.set (j :: p) y=v.put j (x.set p y):=by
 simp only [V.set,h]
theorem Ye:∀ {vs:List V} {j:Nat} {x:V} {s:Nat},nth vs j=some x→s ∈ Jf x→s ∈ Jn vs
 | [],_,_,_,h,_=>by simp [nth] at h
 | a :: l,0,x,s,h,hs=>by simp [nth] at h; subst h; simp [Jn,Jv,hs]
 | a :: l,j + 1,x,s,h,hs=>by
  have:=Ye (vs:=l) (j:=j) (by simpa [nth] using h) hs
  simp [Jn,Jv,this]
theorem NP {l:List D} {i:Nat} {x d:D} (h:i<l.length):(l.set i x).getD i d=x:=by
 rw [List.getD_eq_getElem?_getD,List.getElem?_set_self h]; rfl
theorem NQ {l:List D} {i j:Nat} {x d:D} (h:j ≠ i):(l.set j x).getD i d=l.getD i d:=by
 rw [List.getD_eq_getElem?_getD,List.getD_eq_getElem?_getD,List.getElem?_set_ne h]
theorem Tw {E:Env} {e:Ty} {l:List D} {j:Nat} {p:List Nat} {cs:List Value} {F:List Nat} {L:Jj} {x:V} {Lx:Jj} (hp:e.plain=true)
  (hr:Row (DIn true E.w e) l cs F) (hL:L.holds E.w cs) (hj:j<l.length) (hnd:F.Nodup) (ha:∀ a,L=.mem a→a.block ∉ F)
  (ih:∀ ci Fi,InV E (dec true e (l.getD j (.int 0))) ci Fi→(L.shift (j * e.size)).holds E.w ci→Fi.Nodup→(∀ a,L.shift (j * e.size)=.mem a→a.block ∉ Fi)→UW E (dec true e (l.getD j (.int 0))) p ci Fi (L.shift (j * e.size)) x Lx) :
  ∃ csx Fx Fr,InV E x csx Fx∧Lx.holds E.w csx∧F.Perm (Fr ++ Fx) ∧
   ((∃ a,Lx=.mem a∧a.block ∈ Fr) ∨ (∃ k,Lx=L.shift k∧k + vsz x≤l.length * e.size) ∨ (∃ ds,Lx=.reg ds)) ∧
   ∀ (E':Env) (y:V) (csy:List Value) (Fy:List Nat),
    vsz y=vsz x→(∀ t,shp t x=true→shp t y=true)→InV E' y csy Fy→Lx.holds E'.w csy →
    ((∃ ds,Lx=.reg ds)→csy=csx)→Le E E' →
    (∀ b ∈ Fr,(∀ a,Lx=.mem a→b ≠ a.block)→E'.w.heap[b]?=E.w.heap[b]?) →
    UV E.w E'.w Lx (vsz x) →
    (∀ a,L=.mem a→(∀ a',Lx=.mem a'→a'.block ≠ a.block)→E'.w.heap[a.block]?=E.w.heap[a.block]?) →
    ∃ cs' F',Row (DIn true E'.w e) (l.set j (enc ((dec true e (l.getD j (.int 0))).set p y))) cs' F'∧F'.Perm (Fr ++ Fy)∧L.holds E'.w cs'∧((∃ ds,L=.reg ds)→cs'=cs) ∧
     (∀ al n,Q1 al n E.w E'.w x y Lx→∀ i,i<l.length→Q1 al (n + p.length) E.w E'.w (dec true e (l.getD i (.int 0))) (dec true e ((l.set j (enc ((dec true e (l.getD j (.int 0))).set p y))).getD i (.int 0))) (L.shift (i * e.size))):=by
 obtain ⟨c1,c,c2,F1,F0,F2,e1,e2,e3,e4,e5,e6⟩:=Ti (fun d c G hd=>Qt e hd) hr hj
 subst e1; subst e2
 have hx0:=Hm (E:=E) e hp e4
 have hclen:c.length=e.size:=Qt e e4
 have hsh:(L.shift (j * e.size)).holds E.w c:=by rw [← e3]; exact Q0 hL
 have hnd0:F0.Nodup:=(List.nodup_append.1 (List.nodup_append.1 hnd).2.1).1
 have hblk:∀ a,L.shift (j * e.size)=.mem a→a.block ∉ F0:=by
  intro a hLa hin
  cases L with
  | reg ds=>simp [Jj.shift] at hLa
  | mem a0=>
   simp only [Jj.shift,Jj.mem.injEq] at hLa
   subst hLa
   rw [QZ] at hin
   exact ha a0 rfl (by simp [hin])
 obtain ⟨csx,Fx,Fr,i1,i2,i3,i4,i5⟩:=ih c F0 hx0 hsh hnd0 hblk
 have d10:∀ b ∈ F1,b ∉ F0:=fun b h1 h0=>(List.nodup_append.1 hnd).2.2 b h1 b (by simp [h0]) rfl
 have d20:∀ b ∈ F2,b ∉ F0:=fun b h1 h0=>(List.nodup_append.1 (List.nodup_append.1 hnd).2.1).2.2 b h0 b h1 rfl
 have hFr:∀ b ∈ Fr,b ∈ F0:=fun b hb=>(i3.mem_iff).2 (by simp [hb])
 refine ⟨csx,Fx,F1 ++ (Fr ++ F2),i1,i2,Yd i3,?_,?_⟩
 ·rcases i4 with ⟨a,h1,h2⟩ | ⟨k,h1,h2⟩ | h1
  ·exact .inl ⟨a,h1,by simp [h2]⟩
  ·refine .inr (.inl ⟨j * e.size + k,by rw [← CR]; exact h1,?_⟩)
   rw [O2 e _ hp] at h2
   have:(j + 1) * e.size≤l.length * e.size:=Nat.mul_le_mul_right _ hj
   rw [Nat.succ_mul] at this
   omega
  ·exact .inr (.inr h1)
 ·intro E' y csy Fy hy1 hy2 hy3 hy4 hy5 hE hFr' hps hLa
  have hother:∀ b,b ∉ F0→(∀ a,L=.mem a→b ≠ a.block)→∀ a,Lx=.mem a→b ≠ a.block:=by
   intro b hb hbl a hLx hab
   rcases i4 with ⟨a',h1,h2⟩ | ⟨k,h1,h2⟩ | ⟨ds,h1⟩
   ·rw [h1] at hLx; simp at hLx; subst hLx
    exact hb (hFr _ (hab ▸ h2))
   ·rw [h1,CR] at hLx
    cases L with
    | reg ds=>simp [Jj.shift] at hLx
    | mem a0=>
     simp only [Jj.shift,Jj.mem.injEq] at hLx
     subst hLx
     rw [QZ] at hab
     exact hbl a0 rfl hab
   ·rw [h1] at hLx; cases hLx
  have hS1:QL E.w E'.w F1:=fun b hb=>hFr' b (by simp [hb]) (hother b (d10 b hb) (fun a hLa' hab=>ha a hLa' (by simp [← hab,hb])))
  have hS2:QL E.w E'.w F2:=fun b hb=>hFr' b (by simp [hb]) (hother b (d20 b hb) (fun a hLa' hab=>ha a hLa' (by simp [← hab,hb])))
  obtain ⟨ci,Fi,k1,k2,k3,k4,k5,k6,k7⟩:=i5 True E' y csy Fy hy1 (fun _=>hy2) hy3 hy4 hy5 hE (by rw [VM]; simp)
   (fun b hb=>hFr' b (by simp [hb])) hps (by
    intro a hLa'
    cases L with
    | reg ds=>simp [Jj.shift] at hLa'
    | mem a0=>
     simp only [Jj.shift,Jj.mem.injEq] at hLa'
     subst hLa'
     rw [QZ]
     intro hne
     exact hLa a0 rfl hne)
  have hshp:shp e ((dec true e (l.getD j (.int 0))).set p y)=true:=k6 trivial e (OY e _ hp)
  have hcilen:ci.length=c.length:=by rw [Qp _ k1,k4,O2 e _ hp,hclen]
  have hLnew:L.holds E'.w (c1 ++ (ci ++ c2)):=by
   cases L with
   | reg ds=>
    have:ci=c:=k5 ⟨_,rfl⟩
    rw [this]; exact hL
   | mem a0=>
    refine Tp (c:=c) hcilen hL ?_ (by rw [e3]; exact k3)
    rcases i4 with ⟨a,h1,h2⟩ | ⟨k,h1,h2⟩ | ⟨ds,h1⟩
    ·refine .inl (hLa a0 rfl (fun a' ha' hab=>?_))
     rw [h1] at ha'; simp at ha'; subst ha'
     exact ha a0 rfl (by rw [← hab]; simp [hFr _ h2])
    ·refine .inr ⟨k,vsz x,?_,by rw [O2 e _ hp] at h2; omega⟩
     rw [h1,CR] at hps
     rw [e3]; exact hps
    ·exact .inl (hLa a0 rfl (fun a' ha' _=>by rw [h1] at ha'; cases ha'))
  refine ⟨c1 ++ (ci ++ c2),F1 ++ (Fi ++ F2),e5 (DIn true E'.w e) _ ci Fi ?_ (VL e hshp k1),Tv k2,hLnew,?_,?_⟩
  ·intro d cc G hG hd
   refine CQ hE.size e (fun b hb=>?_) hd
   rcases hG with hG | hG
   ·exact hS1 b (hG b hb)
   ·exact hS2 b (hG b hb)
  ·intro hreg
   cases L with
   | reg ds=>
    have:ci=c:=k5 ⟨_,rfl⟩
    rw [this]
   | mem a0=>obtain ⟨ds,hds⟩:=hreg; cases hds
  ·intro al n hY i hi
   by_cases hij:i=j
   ·subst hij
    rw [NP hi,Tq e hshp]
    exact k7 al n hY
   ·rw [NQ (fun h=>hij h.symm)]
    obtain ⟨di,Gi,g1,g2,g3,g4⟩:=e6 i hij hi
    have gl:di.length=e.size:=Qt e g1
    have hle:i * e.size + di.length≤(c1 ++ (c ++ c2)).length:=by
     rw [HC (fun d c G hd=>Qt e hd) hr,gl]
     have:(i + 1) * e.size≤l.length * e.size:=Nat.mul_le_mul_right _ hi
     rw [Nat.succ_mul] at this; omega
    refine (Uc.frame (Hm e hp g1) (O1 hL hle g3) (O1 hLnew (by simp only [List.length_append] at hle ⊢; omega) (fun k hk=>?_)) ?_).n
    ·rw [g3 k hk,Tg hcilen]
     rcases g4 with g4 | g4
     ·exact .inl (by omega)
     ·exact .inr (by omega)
    ·rcases g2 with g2 | g2
     ·exact fun b hb=>hS1 b (g2 b hb)
     ·exact fun b hb=>hS2 b (g2 b hb)
theorem NR {vs:List V} {j:Nat} {y:V}:(JF vs j y).take j=vs.take j:=by
 induction vs generalizing j with
 | nil=>rfl
 | cons a l ih=>cases j with
  | zero=>rfl
  | succ j=>simp [JF,ih]
theorem NS {vs:List V} {j:Nat} {x y:V} (h:nth vs j=some x):nth (JF vs j y) j=some y:=by
 induction vs generalizing j with
 | nil=>simp [nth] at h
 | cons a l ih=>cases j with
  | zero=>rfl
  | succ j=>simp only [JF,nth] at h ⊢; exact ih h
theorem NT {vs:List V} {i j:Nat} {y:V} (h:i ≠ j):nth (JF vs j y) i=nth vs i:=by
 induction vs generalizing i j with
 | nil=>rfl
 | cons a l ih=>cases j with
  | zero=>cases i with
   | zero=>exact absurd rfl h
   | succ i=>rfl
  | succ j=>cases i with
   | zero=>rfl
   | succ i=>simp only [JF,nth]; exact ih (by omega)
theorem NU {vs:List V} {i j:Nat} {x y:V} (h:nth vs j=some x) (hy:vsz y=vsz x):Jt ((JF vs j y).take i)=Jt (vs.take i):=by
 induction vs generalizing i j with
 | nil=>rfl
 | cons a l ih=>cases j with
  | zero=>
   simp [nth] at h; subst h
   cases i with
   | zero=>rfl
   | succ i=>simp [JF,Jt,hy]
  | succ j=>cases i with
   | zero=>rfl
   | succ i=>
    simp only [JF,nth,List.take_succ_cons,Jt] at h ⊢
    rw [ih h]
theorem Yf {E:Env} {vs:List V} {j:Nat} {xj:V} {p:List Nat} {cs:List Value} {F:List Nat} {L:Jj} {x:V} {Lx:Jj}
  (hr:Ji E vs cs F) (hL:L.holds E.w cs) (hj:nth vs j=some xj) (hnd:F.Nodup) (ha:∀ a,L=.mem a→a.block ∉ F)
  (ih:∀ ci Fi,InV E xj ci Fi→(L.shift (Jt (vs.take j))).holds E.w ci→Fi.Nodup→(∀ a,L.shift (Jt (vs.take j))=.mem a→a.block ∉ Fi)→UW E xj p ci Fi (L.shift (Jt (vs.take j))) x Lx) :
  ∃ csx Fx Fr,InV E x csx Fx∧Lx.holds E.w csx∧F.Perm (Fr ++ Fx) ∧
   ((∃ a,Lx=.mem a∧a.block ∈ Fr) ∨ (∃ k,Lx=L.shift k∧k + vsz x≤Jt vs) ∨ (∃ ds,Lx=.reg ds)) ∧
   ∀ (Q:Prop) (E':Env) (y:V) (csy:List Value) (Fy:List Nat),
    vsz y=vsz x→(Q ∨ xj.outer p=false→∀ t,shp t x=true→shp t y=true)→InV E' y csy Fy→Lx.holds E'.w csy →
    ((∃ ds,Lx=.reg ds)→csy=csx)→Le E E'→(∀ s ∈ Jn vs,Us E E' s) →
    (∀ b ∈ Fr,(∀ a,Lx=.mem a→b ≠ a.block)→E'.w.heap[b]?=E.w.heap[b]?) →
    UV E.w E'.w Lx (vsz x) →
    (∀ a,L=.mem a→(∀ a',Lx=.mem a'→a'.block ≠ a.block)→E'.w.heap[a.block]?=E.w.heap[a.block]?) →
    ∃ cs' F',Ji E' (JF vs j (xj.set p y)) cs' F'∧F'.Perm (Fr ++ Fy)∧L.holds E'.w cs'∧vsz (xj.set p y)=vsz xj∧((∃ ds,L=.reg ds)→cs'=cs)∧cs'.length=cs.length∧(Q→∀ t,shp t xj=true→shp t (xj.set p y)=true) ∧
     (∀ al n,Q1 al n E.w E'.w x y Lx→∀ i xi',nth (JF vs j (xj.set p y)) i=some xi'→∃ xi,nth vs i=some xi∧Jt ((JF vs j (xj.set p y)).take i)=Jt (vs.take i)∧Q1 al (n + p.length) E.w E'.w xi xi' (L.shift (Jt (vs.take i)))):=by
 obtain ⟨c1,c,c2,F1,F0,F2,e1,e2,e3,e4,e5,e6⟩:=Th hr hj
 subst e1; subst e2
 have hclen:c.length=vsz xj:=Qp xj e4
 have hsh:(L.shift (Jt (vs.take j))).holds E.w c:=by rw [← e3]; exact Q0 hL
 have hnd0:F0.Nodup:=(List.nodup_append.1 (List.nodup_append.1 hnd).2.1).1
 have hblk:∀ a,L.shift (Jt (vs.take j))=.mem a→a.block ∉ F0:=by
  intro a hLa hin
  cases L with
  | reg ds=>simp [Jj.shift] at hLa
  | mem a0=>
   simp only [Jj.shift,Jj.mem.injEq] at hLa
   subst hLa
   rw [QZ] at hin
   exact ha a0 rfl (by simp [hin])
 obtain ⟨csx,Fx,Fr,i1,i2,i3,i4,i5⟩:=ih c F0 e4 hsh hnd0 hblk
 have d10:∀ b ∈ F1,b ∉ F0:=fun b h1 h0=>(List.nodup_append.1 hnd).2.2 b h1 b (by simp [h0]) rfl
 have d20:∀ b ∈ F2,b ∉ F0:=fun b h1 h0=>(List.nodup_append.1 (List.nodup_append.1 hnd).2.1).2.2 b h0 b h1 rfl
 have hFr:∀ b ∈ Fr,b ∈ F0:=fun b hb=>(i3.mem_iff).2 (by simp [hb])
 refine ⟨csx,Fx,F1 ++ (Fr ++ F2),i1,i2,Yd i3,?_,?_⟩
 ·rcases i4 with ⟨a,h1,h2⟩ | ⟨k,h1,h2⟩ | h1
  ·exact .inl ⟨a,h1,by simp [h2]⟩
  ·refine .inr (.inl ⟨Jt (vs.take j) + k,by rw [← CR]; exact h1,?_⟩)
   have:=O0 hj
   omega
  ·exact .inr (.inr h1)
 ·intro Q E' y csy Fy hy1 hy2 hy3 hy4 hy5 hE hal hFr' hps hLa
  have hother:∀ b,b ∉ F0→(∀ a,L=.mem a→b ≠ a.block)→∀ a,Lx=.mem a→b ≠ a.block:=by
   intro b hb hbl a hLx hab
   rcases i4 with ⟨a',h1,h2⟩ | ⟨k,h1,h2⟩ | ⟨ds,h1⟩
   ·rw [h1] at hLx; simp at hLx; subst hLx
    exact hb (hFr _ (hab ▸ h2))
   ·rw [h1,CR] at hLx
    cases L with
    | reg ds=>simp [Jj.shift] at hLx
    | mem a0=>
     simp only [Jj.shift,Jj.mem.injEq] at hLx
     subst hLx
     rw [QZ] at hab
     exact hbl a0 rfl hab
   ·rw [h1] at hLx; cases hLx
  have hS1:QL E.w E'.w F1:=fun b hb=>hFr' b (by simp [hb]) (hother b (d10 b hb) (fun a hLa' hab=>ha a hLa' (by simp [← hab,hb])))
  have hS2:QL E.w E'.w F2:=fun b hb=>hFr' b (by simp [hb]) (hother b (d20 b hb) (fun a hLa' hab=>ha a hLa' (by simp [← hab,hb])))
  obtain ⟨ci,Fi,k1,k2,k3,k4,k5,k6,k7⟩:=i5 Q E' y csy Fy hy1 hy2 hy3 hy4 hy5 hE (fun s hs=>hal s (Ye hj hs))
   (fun b hb=>hFr' b (by simp [hb])) hps (by
    intro a hLa'
    cases L with
    | reg ds=>simp [Jj.shift] at hLa'
    | mem a0=>
     simp only [Jj.shift,Jj.mem.injEq] at hLa'
     subst hLa'
     rw [QZ]
     intro hne
     exact hLa a0 rfl hne)
  have hcilen:ci.length=c.length:=by rw [Qp _ k1,k4,hclen]
  have hLnew:L.holds E'.w (c1 ++ (ci ++ c2)):=by
   cases L with
   | reg ds=>
    have:ci=c:=k5 ⟨_,rfl⟩
    rw [this]; exact hL
   | mem a0=>
    refine Tp (c:=c) hcilen hL ?_ (by rw [e3]; exact k3)
    rcases i4 with ⟨a,h1,h2⟩ | ⟨k,h1,h2⟩ | ⟨ds,h1⟩
    ·refine .inl (hLa a0 rfl (fun a' ha' hab=>?_))
     rw [h1] at ha'; simp at ha'; subst ha'
     exact ha a0 rfl (by rw [← hab]; simp [hFr _ h2])
    ·refine .inr ⟨k,vsz x,?_,by omega⟩
     rw [h1,CR] at hps
     rw [e3]; exact hps
    ·exact .inl (hLa a0 rfl (fun a' ha' _=>by rw [h1] at ha'; cases ha'))
  refine ⟨c1 ++ (ci ++ c2),F1 ++ (Fi ++ F2),e5 E' _ ci Fi hE hal hS1 hS2 k1,Tv k2,hLnew,k4,?_,by simp [hcilen],k6,?_⟩
  ·intro hreg
   cases L with
   | reg ds=>
    have:ci=c:=k5 ⟨_,rfl⟩
    rw [this]
   | mem a0=>obtain ⟨ds,hds⟩:=hreg; cases hds
  ·intro al n hY i xi' hi
   by_cases hij:i=j
   ·subst hij
    refine ⟨xj,hj,by rw [NR],?_⟩
    rw [NS hj] at hi
    simp only [oj] at hi
    subst hi
    exact k7 al n hY
   ·rw [NT hij] at hi
    refine ⟨xi',hi,NU hj k4,?_⟩
    obtain ⟨di,Gi,g1,g2,g3,g4⟩:=e6 i xi' hij hi
    have gl:di.length=vsz xi':=Qp _ g1
    have hle:Jt (vs.take i) + di.length≤(c1 ++ (c ++ c2)).length:=by
     rw [Ct vs hr,gl]; exact O0 hi
    refine (Uc.frame g1 (O1 hL hle g3) (O1 hLnew (by simp only [List.length_append] at hle ⊢; omega) (fun k hk=>?_)) ?_).n
    ·rw [g3 k hk,Tg hcilen]
     rcases g4 with g4 | g4
     ·exact .inl (by omega)
     ·exact .inr (by omega)
    ·rcases g2 with g2 | g2
     ·exact fun b hb=>hS1 b (g2 b hb)
     ·exact fun b hb=>hS2 b (g2 b hb)
theorem Yg {α:Type}:∀ (l:List α) (j:Nat) (x:α),(JF l j x).length=l.length
 | [],_,_=>rfl
 | a :: l,0,x=>rfl
 | a :: l,j + 1,x=>by simp [JF,Yg l j x]
theorem Cd {w w':World} {L:Jj} {cs:List Value} (h:L.holds w cs) (hb:∀ a,L=.mem a→w'.heap[a.block]?=w.heap[a.block]?):L.holds w' cs:=by
 cases L with
 | reg ds=>exact h
 | mem a=>exact HP (hb a rfl) h
theorem Tx {t e:Ty} {l l':List D} (h:shp t (.own e l)=true):shp t (.own e l')=true:=by cases t <;> simp_all [shp]
theorem Tz {t e:Ty} {n:Nat} {l l':List D} (h:shp t (.arr n e l)=true):shp t (.arr n e l')=true:=by cases t <;> simp_all [shp]
theorem Yh {L Lx:Jj} {a:Addr} {F Fr Fx:List Nat} {n:Nat} {x:V} (ha:∀ a0,L=.mem a0→a0.block ∉ a.block :: F) (i3:F.Perm (Fr ++ Fx))
  (i4:(∃ a',Lx=.mem a'∧a'.block ∈ Fr) ∨ (∃ k,Lx=(Jj.mem a).shift k∧k + vsz x≤n) ∨ (∃ ds,Lx=.reg ds)):∀ a0,L=.mem a0→∀ a',Lx=.mem a'→a'.block ≠ a0.block:=by
 intro a0 hL0 a' hLx hab
 rcases i4 with ⟨a1,h1,h2⟩ | ⟨k',h1,h2⟩ | ⟨ds,h1⟩
 ·rw [h1] at hLx; cases hLx
  exact ha a0 hL0 (by rw [← hab]; simp [(i3.mem_iff).2 (List.mem_append_left Fx h2)])
 ·rw [h1] at hLx; simp only [Jj.shift,Jj.mem.injEq] at hLx; subst hLx
  rw [QZ] at hab
  exact ha a0 hL0 (by rw [← hab]; simp)
 ·rw [h1] at hLx; cases hLx
theorem Yi {L Lx:Jj} {a:Addr} {Fr:List Nat} {n m:Nat} {x:V}
  (i4:(∃ a',Lx=.mem a'∧a'.block ∈ Fr) ∨ (∃ k,Lx=(Jj.mem a).shift k∧k + vsz x≤n) ∨ (∃ ds,Lx=.reg ds)) :
  (∃ a',Lx=.mem a'∧a'.block ∈ a.block :: Fr) ∨ (∃ k,Lx=L.shift k∧k + vsz x≤m) ∨ (∃ ds,Lx=.reg ds):=by
 rcases i4 with ⟨a'',h1,h2⟩ | ⟨k',h1,h2⟩ | h1
 ·exact .inl ⟨a'',h1,by simp [h2]⟩
 ·exact .inl ⟨a.add k',by rw [h1]; rfl,by simp [QZ]⟩
 ·exact .inr (.inr h1)
theorem W1 {E E':Env} {Lx:Jj} {a:Addr} {F Fr Fx:List Nat} {n m:Nat} {x:V} (hnd:a.block ∉ F) (i3:F.Perm (Fr ++ Fx))
  (i4:(∃ a',Lx=.mem a'∧a'.block ∈ Fr) ∨ (∃ k,Lx=(Jj.mem a).shift k∧k + vsz x≤n) ∨ (∃ ds,Lx=.reg ds))
  (hblk:(∀ a',Lx=.mem a'→a'.block ≠ a.block)→E'.w.heap[a.block]?=E.w.heap[a.block]?) (hps:UV E.w E'.w Lx (vsz x)) (ho:QP E.w a m):QP E'.w a m:=by
 rcases i4 with ⟨a'',h1,h2⟩ | ⟨k',h1,h2⟩ | ⟨ds,h1⟩
 ·refine OX (hblk (fun a' h' hab=>?_)) ho
  rw [h1] at h'; cases h'
  exact hnd (by rw [← hab]; exact (i3.mem_iff).2 (List.mem_append_left Fx h2))
 ·rw [h1] at hps
  exact Yc hps ho
 ·exact OX (hblk (fun a' h'=>by rw [h1] at h'; cases h')) ho
theorem NV {E:Env} {e:Ty} {l:List D} {j:Nat} {p:List Nat} {cs:List Value} {F:List Nat} {L:Jj} {x:V} {Lx:Jj}
  (hv:InV E (.own e l) cs F) (hL:L.holds E.w cs) (hl:Jg E.w (.own e l) L (j :: p)=some (x,Lx)) (hnd:F.Nodup) (ha:∀ a,L=.mem a→a.block ∉ F)
  (ih:∀ ci Fi Li,Jg E.w (dec true e (l.getD j (.int 0))) Li p=some (x,Lx)→InV E (dec true e (l.getD j (.int 0))) ci Fi→Li.holds E.w ci→Fi.Nodup→(∀ a,Li=.mem a→a.block ∉ Fi)→UW E (dec true e (l.getD j (.int 0))) p ci Fi Li x Lx) :
  UW E (.own e l) (j :: p) cs F L x Lx:=by
 simp only [Jg] at hl
 split at hl
 ·rename_i hjl
  split at hl
  ·rename_i a n k hh
   unfold InV at hv
   obtain ⟨hp,A,c,hcs,hsl⟩:=hv
   have hhd:L.head E.w=some (.slice A l.length c):=J0 (by rw [← hcs]; exact hL)
   rw [hhd] at hh
   simp only [oj,Value.slice.injEq] at hh
   obtain ⟨rfl,_,_⟩:=hh
   rcases hsl with ⟨h0,_⟩ | ⟨a',cs0,F',hA,hr,hc,hf,hlc,hb,ho⟩
   ·subst h0; simp at hjl
   ·simp only [oj] at hA
    subst hA
    subst hf
    have hnd':=(List.nodup_cons.1 hnd)
    obtain ⟨csx,Fx,Fr,i1,i2,i3,i4,i5⟩:=Tw (L:=.mem a) hp hr hc hjl hnd'.2 (fun a0 h0=>by cases h0; exact hnd'.1)
     (fun ci Fi h1 h2 h3 h4=>ih ci Fi _ hl h1 h2 h3 h4)
    have hdiff:=Yh ha i3 i4
    refine ⟨csx,Fx,a.block :: Fr,i1,i2,by simpa using i3.cons a.block,Yi i4,?_⟩
    have hst:(V.own e l).step j=some ([.le (j + 1) l.length],dec true e (l.getD j (.int 0))):=rfl
    intro Q E' y csy Fy hy1 hy2 hy3 hy4 hy5 hE hal hFr' hps hLa
    have hcompat:=hy2 (.inr rfl)
    have hblk:(∀ a',Lx=.mem a'→a'.block ≠ a.block)→E'.w.heap[a.block]?=E.w.heap[a.block]?:=fun h=>hFr' a.block (by simp) (fun a' h' hab=>h a' h' hab.symm)
    obtain ⟨cs',F',k1,k2,k3,_,k7⟩:=i5 E' y csy Fy hy1 hcompat hy3 hy4 hy5 hE (fun b hb=>hFr' b (by simp [hb])) hps (fun a0 h0=>by cases h0; exact hblk)
    rw [O3 hst]
    refine ⟨cs,a.block :: F',?_,by simpa using k2.cons a.block,Cd hL (fun a0 h0=>hLa a0 h0 (hdiff a0 h0)),rfl,fun _=>rfl,fun hQ t ht=>Tx ht,?_⟩
    ·simp only [V.put]
     unfold InV
     exact ⟨hp,some a,c,by simpa using hcs,.inr ⟨a,cs',F',rfl,k1,k3,rfl,by simpa using hlc,by have:=hE.size; omega,fun ho'=>W1 hnd'.1 i3 i4 hblk hps (ho ho')⟩⟩
    ·intro al n hY q hq x' L' hlq
     have hL2:L.holds E'.w cs:=Cd hL (fun a0 h0=>hLa a0 h0 (hdiff a0 h0))
     have hh2:L.head E'.w=some (.slice (some a) l.length c):=J0 (by rw [← hcs]; exact hL2)
     simp only [V.put] at hlq
     cases q with
     | nil=>
      simp only [Jg,oj,pj] at hlq
      obtain ⟨rfl,rfl⟩:=hlq
      exact ⟨_,rfl,fun _ _=>⟨rfl,by rw [hh2,hhd]⟩⟩
     | cons i q=>
      simp only [Jg,hh2,List.length_set] at hlq
      simp only [Jg,hhd]
      by_cases hi:i<l.length
      ·simp only [hi,if_true] at hlq ⊢
       exact k7 al n hY i hi q (by simp only [List.length_cons] at hq; omega) x' L' hlq
      ·simp [hi] at hlq
  ·simp at hl
 ·simp at hl
theorem NW {E:Env} {v0:V} {j:Nat} {p:List Nat} {cs:List Value} {F:List Nat} {L:Jj} {x:V} {Lx:Jj}
  (hv:InV E (.obox v0) cs F) (hL:L.holds E.w cs) (hl:Jg E.w (.obox v0) L (j :: p)=some (x,Lx)) (hnd:F.Nodup) (ha:∀ a,L=.mem a→a.block ∉ F)
  (ih:∀ ci Fi Li,Jg E.w v0 Li p=some (x,Lx)→InV E v0 ci Fi→Li.holds E.w ci→Fi.Nodup→(∀ a,Li=.mem a→a.block ∉ Fi)→UW E v0 p ci Fi Li x Lx) :
  UW E (.obox v0) (j :: p) cs F L x Lx:=by
 simp only [Jg] at hl
 split at hl
 ·rename_i a hh
  unfold InV at hv
  obtain ⟨a',cs0,F',hcs,hr,hc,hf,hb,ho⟩:=hv
  have hhd:L.head E.w=some (.pointer (some a')):=J0 (by rw [← hcs]; exact hL)
  rw [hhd] at hh
  simp only [oj,Value.pointer.injEq] at hh
  subst hh
  subst hf
  have hnd':=(List.nodup_cons.1 hnd)
  obtain ⟨csx,Fx,Fr,i1,i2,i3,i4,i5⟩:=ih cs0 F' (.mem a') hl hr hc hnd'.2 (fun a0 h0=>by cases h0; exact hnd'.1)
  have hdiff:=Yh ha i3 i4
  refine ⟨csx,Fx,a'.block :: Fr,i1,i2,by simpa using i3.cons a'.block,Yi i4,?_⟩
  have hst:(V.obox v0).step j=some ([],v0):=rfl
  intro Q E' y csy Fy hy1 hy2 hy3 hy4 hy5 hE hal hFr' hps hLa
  have hblk:(∀ a1,Lx=.mem a1→a1.block ≠ a'.block)→E'.w.heap[a'.block]?=E.w.heap[a'.block]?:=fun h=>hFr' a'.block (by simp) (fun a1 h' hab=>h a1 h' hab.symm)
  obtain ⟨cs',F'',k1,k2,k3,k4,k5,k6,k7⟩:=i5 Q E' y csy Fy hy1 (by rw [W0 hst ⟨by simp,by simp⟩] at hy2; exact hy2) hy3 hy4 hy5 hE (by simpa [Jf] using hal) (fun b hb=>hFr' b (by simp [hb])) hps (fun a0 h0=>by cases h0; exact hblk)
  rw [O3 hst]
  have hlen:cs'.length=cs0.length:=by rw [Qp _ k1,k4,Qp _ hr]
  refine ⟨cs,a'.block :: F'',?_,by simpa using k2.cons a'.block,Cd hL (fun a0 h0=>hLa a0 h0 (hdiff a0 h0)),rfl,fun _=>rfl,fun hQ t ht=>by cases t <;> simp [shp] at ht,?_⟩
  ·simp only [V.put]
   unfold InV
   refine ⟨a',cs',F'',hcs,k1,k3,rfl,by have:=hE.size; omega,?_⟩
   rw [hlen]
   exact W1 hnd'.1 i3 i4 hblk hps ho
  ·intro al n hY q hq x' L' hlq
   have hL2:L.holds E'.w cs:=Cd hL (fun a0 h0=>hLa a0 h0 (hdiff a0 h0))
   have hh2:L.head E'.w=some (.pointer (some a')):=J0 (by rw [← hcs]; exact hL2)
   simp only [V.put] at hlq
   cases q with
   | nil=>
    simp only [Jg,oj,pj] at hlq
    obtain ⟨rfl,rfl⟩:=hlq
    exact ⟨_,rfl,fun _ h=>by simp [QE] at h⟩
   | cons i q=>
    simp only [Jg,hh2] at hlq
    simp only [Jg,hhd]
    exact k7 al n hY q (by simp only [List.length_cons] at hq; omega) x' L' hlq
 ·simp at hl
theorem NX {E:Env} {e:Ty} {vs:List V} {xj:V} {j:Nat} {p:List Nat} {cs:List Value} {F:List Nat} {L:Jj} {x:V} {Lx:Jj}
  (hv:InV E (.lst e vs) cs F) (hL:L.holds E.w cs) (hj:nth vs j=some xj) (hl:Jg E.w (.lst e vs) L (j :: p)=some (x,Lx)) (hnd:F.Nodup) (ha:∀ a,L=.mem a→a.block ∉ F)
  (ih:∀ ci Fi Li,Jg E.w xj Li p=some (x,Lx)→InV E xj ci Fi→Li.holds E.w ci→Fi.Nodup→(∀ a,Li=.mem a→a.block ∉ Fi)→UW E xj p ci Fi Li x Lx) :
  UW E (.lst e vs) (j :: p) cs F L x Lx:=by
 simp only [Jg] at hl
 rw [hj] at hl
 simp only at hl
 split at hl
 ·rename_i a n k hh
  unfold InV at hv
  obtain ⟨a',c,cs0,F',hcs,hlc,he,hr,hc,hf,hb,ho⟩:=hv
  have hhd:L.head E.w=some (.slice (some a') vs.length c):=J0 (by rw [← hcs]; exact hL)
  rw [hhd] at hh
  simp only [oj,Value.slice.injEq] at hh
  obtain ⟨rfl,_,_⟩:=hh
  subst hf
  have hnd':=(List.nodup_cons.1 hnd)
  obtain ⟨csx,Fx,Fr,i1,i2,i3,i4,i5⟩:=Yf (L:=.mem a') hr hc hj hnd'.2 (fun a0 h0=>by cases h0; exact hnd'.1) (fun ci Fi h1 h2 h3 h4=>ih ci Fi _ hl h1 h2 h3 h4)
  have hdiff:=Yh ha i3 i4
  refine ⟨csx,Fx,a'.block :: Fr,i1,i2,by simpa using i3.cons a'.block,Yi i4,?_⟩
  have hst:(V.lst e vs).step j=some ([],xj):=by simp [V.step,hj]
  intro Q E' y csy Fy hy1 hy2 hy3 hy4 hy5 hE hal hFr' hps hLa
  have hblk:(∀ a1,Lx=.mem a1→a1.block ≠ a'.block)→E'.w.heap[a'.block]?=E.w.heap[a'.block]?:=fun h=>hFr' a'.block (by simp) (fun a1 h' hab=>h a1 h' hab.symm)
  obtain ⟨cs',F'',k1,k2,k3,k4,k5,k5',k6,k7⟩:=i5 Q E' y csy Fy hy1 (by rw [W0 hst ⟨by simp,by simp⟩] at hy2; exact hy2) hy3 hy4 hy5 hE (by simpa [Jf] using hal) (fun b hb=>hFr' b (by simp [hb])) hps (fun a0 h0=>by cases h0; exact hblk)
  rw [O3 hst]
  have hvl:(JF vs j (xj.set p y)).length=vs.length:=Yg _ _ _
  refine ⟨cs,a'.block :: F'',?_,by simpa using k2.cons a'.block,Cd hL (fun a0 h0=>hLa a0 h0 (hdiff a0 h0)),rfl,fun _=>rfl,fun hQ t ht=>by cases t <;> simp [shp] at ht,?_⟩
  rotate_left
  ·intro al n hY q hq x' L' hlq
   have hL2:L.holds E'.w cs:=Cd hL (fun a0 h0=>hLa a0 h0 (hdiff a0 h0))
   have hh2:L.head E'.w=some (.slice (some a') vs.length c):=J0 (by rw [← hcs]; exact hL2)
   simp only [V.put] at hlq
   cases q with
   | nil=>
    simp only [Jg,oj,pj] at hlq
    obtain ⟨rfl,rfl⟩:=hlq
    exact ⟨_,rfl,fun _ _=>⟨rfl,by rw [hh2,hhd]⟩⟩
   | cons i q=>
    simp only [Jg,hh2] at hlq
    cases hi:nth (JF vs j (xj.set p y)) i with
    | none=>rw [hi] at hlq; simp at hlq
    | some xi'=>
     obtain ⟨xi,g1,g2,g3⟩:=k7 al n hY i xi' hi
     simp only [hi,g2] at hlq
     simp only [Jg,hhd,g1]
     exact g3 q (by simp only [List.length_cons] at hq; omega) x' L' hlq
  simp only [V.put]
  unfold InV
  exact ⟨a',c,cs',F'',by rw [hvl]; exact hcs,by rw [hvl]; exact hlc,he,k1,k3,rfl,by have:=hE.size; omega,W1 hnd'.1 i3 i4 hblk hps ho.1,by rw [WY hj k4]; exact W1 hnd'.1 i3 i4 hblk hps ho.2⟩
 ·simp at hl
theorem NY {E:Env} {f:FuncId} {caps:List V} {xj:V} {j:Nat} {p:List Nat} {cs:List Value} {F:List Nat} {L:Jj} {x:V} {Lx:Jj}
  (hv:InV E (.fn f caps) cs F) (hL:L.holds E.w cs) (hj:nth caps j=some xj) (hl:Jg E.w (.fn f caps) L (j :: p)=some (x,Lx)) (hnd:F.Nodup) (ha:∀ a,L=.mem a→a.block ∉ F)
  (ih:∀ ci Fi Li,Jg E.w xj Li p=some (x,Lx)→InV E xj ci Fi→Li.holds E.w ci→Fi.Nodup→(∀ a,Li=.mem a→a.block ∉ Fi)→UW E xj p ci Fi Li x Lx) :
  UW E (.fn f caps) (j :: p) cs F L x Lx:=by
 simp only [Jg] at hl
 rw [hj] at hl
 simp only at hl
 split at hl
 ·rename_i fn0 fst vals0 hh
  unfold InV at hv
  obtain ⟨vals,hcs,hr,hsz⟩:=hv
  have hhd:L.head E.w=some (.func (.func f) #[] vals):=J0 (by rw [← hcs]; exact hL)
  rw [hhd] at hh
  simp only [oj,Value.func.injEq] at hh
  obtain ⟨_,_,rfl⟩:=hh
  obtain ⟨csx,Fx,Fr,i1,i2,i3,i4,i5⟩:=Yf (L:=.reg vals.toList) hr ⟨[],by simp⟩ hj hnd (fun a0 h0=>by cases h0) (fun ci Fi h1 h2 h3 h4=>ih ci Fi _ hl h1 h2 h3 h4)
  have hdiff:∀ a0,L=.mem a0→∀ a'',Lx=.mem a''→a''.block ≠ a0.block:=by
   intro a0 hL0 a'' hLx hab
   rcases i4 with ⟨a1,h1,h2⟩ | ⟨k',h1,h2⟩ | ⟨ds,h1⟩
   ·rw [h1] at hLx; cases hLx
    exact ha a0 hL0 (by rw [← hab]; exact (i3.mem_iff).2 (List.mem_append_left Fx h2))
   ·rw [h1] at hLx; simp [Jj.shift] at hLx
   ·rw [h1] at hLx; cases hLx
  have hst:(V.fn f caps).step j=some ([],xj):=by simp [V.step,hj]
  refine ⟨csx,Fx,Fr,i1,i2,i3,?_,?_⟩
  ·rcases i4 with h1 | ⟨k',h1,h2⟩ | h1
   ·exact .inl h1
   ·exact .inr (.inr ⟨_,by rw [h1]; rfl⟩)
   ·exact .inr (.inr h1)
  intro Q E' y csy Fy hy1 hy2 hy3 hy4 hy5 hE hal hFr' hps hLa
  obtain ⟨cs',F'',k1,k2,k3,k4,k5,k5',k6,k7⟩:=i5 Q E' y csy Fy hy1 (by rw [W0 hst ⟨by simp,by simp⟩] at hy2; exact hy2) hy3 hy4 hy5 hE (by simpa [Jf] using hal) hFr' hps (fun a0 h0=>by cases h0)
  rw [O3 hst]
  have:=k5 ⟨_,rfl⟩
  subst this
  refine ⟨cs,F'',?_,k2,Cd hL (fun a0 h0=>hLa a0 h0 (hdiff a0 h0)),rfl,fun _=>rfl,fun hQ t ht=>by cases t <;> simp [shp] at ht,?_⟩
  ·simp only [V.put]
   unfold InV
   exact ⟨vals,hcs,k1,by rw [WY hj k4,Yg]; exact hsz⟩
  ·intro al n hY q hq x' L' hlq
   have hL2:L.holds E'.w cs:=Cd hL (fun a0 h0=>hLa a0 h0 (hdiff a0 h0))
   have hh2:L.head E'.w=some (.func (.func f) #[] vals):=J0 (by rw [← hcs]; exact hL2)
   simp only [V.put] at hlq
   cases q with
   | nil=>
    simp only [Jg,oj,pj] at hlq
    obtain ⟨rfl,rfl⟩:=hlq
    exact ⟨_,rfl,fun _ h=>by simp [QE] at h⟩
   | cons i q=>
    simp only [Jg,hh2] at hlq
    cases hi:nth (JF caps j (xj.set p y)) i with
    | none=>rw [hi] at hlq; simp at hlq
    | some xi'=>
     obtain ⟨xi,g1,g2,g3⟩:=k7 al n hY i xi' hi
     simp only [hi,g2] at hlq
     simp only [Jg,hhd,g1]
     exact g3 q (by simp only [List.length_cons] at hq; omega) x' L' hlq
 ·simp at hl
theorem NZ {E:Env} {vs:List V} {xj:V} {j:Nat} {p:List Nat} {cs:List Value} {F:List Nat} {L:Jj} {x:V} {Lx:Jj}
  (hv:InV E (.agg vs) cs F) (hL:L.holds E.w cs) (hj:nth vs j=some xj) (hl:Jg E.w (.agg vs) L (j :: p)=some (x,Lx)) (hnd:F.Nodup) (ha:∀ a,L=.mem a→a.block ∉ F)
  (ih:∀ ci Fi Li,Jg E.w xj Li p=some (x,Lx)→InV E xj ci Fi→Li.holds E.w ci→Fi.Nodup→(∀ a,Li=.mem a→a.block ∉ Fi)→UW E xj p ci Fi Li x Lx) :
  UW E (.agg vs) (j :: p) cs F L x Lx:=by
 simp only [Jg] at hl
 rw [hj] at hl
 unfold InV at hv
 obtain ⟨csx,Fx,Fr,i1,i2,i3,i4,i5⟩:=Yf hv hL hj hnd ha (fun ci Fi h1 h2 h3 h4=>ih ci Fi _ hl h1 h2 h3 h4)
 refine ⟨csx,Fx,Fr,i1,i2,i3,by simpa [vsz] using i4,?_⟩
 have hst:(V.agg vs).step j=some ([],xj):=by simp [V.step,hj]
 intro Q E' y csy Fy hy1 hy2 hy3 hy4 hy5 hE hal hFr' hps hLa
 obtain ⟨cs',F',k1,k2,k3,k4,k5,k5',k6,k7⟩:=i5 Q E' y csy Fy hy1 (by rw [W0 hst ⟨by simp,by simp⟩] at hy2; exact hy2) hy3 hy4 hy5 hE (by simpa [Jf] using hal) hFr' hps hLa
 rw [O3 hst]
 refine ⟨cs',F',by simp only [V.put]; unfold InV; exact k1,k2,k3,by simp only [V.put,vsz]; exact WY hj k4,k5,fun hQ t ht=>NM ht hst (k6 hQ),?_⟩
 intro al n hY q hq x' L' hlq
 simp only [V.put] at hlq
 cases q with
 | nil=>
  simp only [Jg,oj,pj] at hlq
  obtain ⟨rfl,rfl⟩:=hlq
  exact ⟨_,rfl,fun _ h=>by simp [QE] at h⟩
 | cons i q=>
  simp only [Jg] at hlq
  cases hi:nth (JF vs j (xj.set p y)) i with
  | none=>rw [hi] at hlq; simp at hlq
  | some xi'=>
   obtain ⟨xi,g1,g2,g3⟩:=k7 al n hY i xi' hi
   simp only [hi,g2] at hlq
   simp only [Jg,g1]
   exact g3 q (by simp only [List.length_cons] at hq; omega) x' L' hlq
theorem N0 {E:Env} {n:Nat} {e:Ty} {l:List D} {j:Nat} {p:List Nat} {cs:List Value} {F:List Nat} {L:Jj} {x:V} {Lx:Jj}
  (hv:InV E (.arr n e l) cs F) (hL:L.holds E.w cs) (hl:Jg E.w (.arr n e l) L (j :: p)=some (x,Lx)) (hnd:F.Nodup) (ha:∀ a,L=.mem a→a.block ∉ F)
  (ih:∀ ci Fi Li,Jg E.w (dec true e (l.getD j (.int 0))) Li p=some (x,Lx)→InV E (dec true e (l.getD j (.int 0))) ci Fi→Li.holds E.w ci→Fi.Nodup→(∀ a,Li=.mem a→a.block ∉ Fi)→UW E (dec true e (l.getD j (.int 0))) p ci Fi Li x Lx) :
  UW E (.arr n e l) (j :: p) cs F L x Lx:=by
 simp only [Jg] at hl
 split at hl
 ·rename_i hjl
  unfold InV at hv
  obtain ⟨hn,hfl,hr⟩:=hv
  have hp:=U9 e hfl
  obtain ⟨csx,Fx,Fr,i1,i2,i3,i4,i5⟩:=Tw hp hr hL hjl hnd ha (fun ci Fi h1 h2 h3 h4=>ih ci Fi _ hl h1 h2 h3 h4)
  refine ⟨csx,Fx,Fr,i1,i2,i3,by simpa [vsz,hn] using i4,?_⟩
  have hst:(V.arr n e l).step j=some ([.le (j + 1) l.length],dec true e (l.getD j (.int 0))):=rfl
  intro Q E' y csy Fy hy1 hy2 hy3 hy4 hy5 hE hal hFr' hps hLa
  obtain ⟨cs',F',k1,k2,k3,k4,k7⟩:=i5 E' y csy Fy hy1 (hy2 (.inr rfl)) hy3 hy4 hy5 hE hFr' hps hLa
  rw [O3 hst]
  refine ⟨cs',F',by simp only [V.put]; unfold InV; exact ⟨by simpa using hn,hfl,k1⟩,k2,k3,rfl,k4,fun hQ t ht=>Tz ht,?_⟩
  intro al n hY q hq x' L' hlq
  simp only [V.put] at hlq
  cases q with
  | nil=>
   simp only [Jg,oj,pj] at hlq
   obtain ⟨rfl,rfl⟩:=hlq
   exact ⟨_,rfl,fun _ h=>by simp [QE] at h⟩
  | cons i q=>
   simp only [Jg,List.length_set] at hlq
   simp only [Jg]
   by_cases hi:i<l.length
   ·simp only [hi,if_true] at hlq ⊢
    exact k7 al n hY i hi q (by simp only [List.length_cons] at hq; omega) x' L' hlq
   ·simp [hi] at hlq
 ·simp at hl
theorem Ol (E:Env):∀ (p:List Nat) (v:V) (cs:List Value) (F:List Nat) (L:Jj) (x:V) (Lx:Jj),
  InV E v cs F→L.holds E.w cs→Jg E.w v L p=some (x,Lx)→F.Nodup→(∀ a,L=.mem a→a.block ∉ F)→UW E v p cs F L x Lx
 | [],v,cs,F,L,x,Lx,hv,hL,hl,hnd,ha=>by
  simp only [Jg,oj,pj] at hl
  obtain ⟨rfl,rfl⟩:=hl
  refine ⟨cs,F,[],hv,hL,by simp,.inr (.inl ⟨0,by cases L <;> simp [Jj.shift,Addr.add],by omega⟩),?_⟩
  intro Q E' y csy Fy hy1 hy2 hy3 hy4 hy5 hE hal hFr' hps hLa
  exact ⟨csy,Fy,hy3,by simp,hy4,hy1,hy5,fun hQ=>hy2 (.inl hQ),fun _ _ h=>h⟩
 | j :: p,v,cs,F,L,x,Lx,hv,hL,hl,hnd,ha=>by
  cases v with
  | agg vs=>
   cases hj:nth vs j with
   | none=>simp [Jg,hj] at hl
   | some xj=>exact NZ hv hL hj hl hnd ha (fun ci Fi Li h0 h1 h2 h3 h4=>Ol E p xj ci Fi Li x Lx h1 h2 h0 h3 h4)
  | own e l=>exact NV hv hL hl hnd ha (fun ci Fi Li h0 h1 h2 h3 h4=>Ol E p _ ci Fi Li x Lx h1 h2 h0 h3 h4)
  | arr n e l=>exact N0 hv hL hl hnd ha (fun ci Fi Li h0 h1 h2 h3 h4=>Ol E p _ ci Fi Li x Lx h1 h2 h0 h3 h4)
  | obox v0=>exact NW hv hL hl hnd ha (fun ci Fi Li h0 h1 h2 h3 h4=>Ol E p _ ci Fi Li x Lx h1 h2 h0 h3 h4)
  | lst e vs=>
   cases hj:nth vs j with
   | none=>simp [Jg,hj] at hl
   | some xj=>exact NX hv hL hj hl hnd ha (fun ci Fi Li h0 h1 h2 h3 h4=>Ol E p xj ci Fi Li x Lx h1 h2 h0 h3 h4)
  | fn f caps=>
   cases hj:nth caps j with
   | none=>simp [Jg,hj] at hl
   | some xj=>exact NY hv hL hj hl hnd ha (fun ci Fi Li h0 h1 h2 h3 h4=>Ol E p xj ci Fi Li x Lx h1 h2 h0 h3 h4)
  | _=>simp [Jg] at hl
end Go.Rai
namespace Go.Rai
theorem HD (E:Env):∀ (p:List Nat) (v:V) (cs:List Value) (F:List Nat) (L:Jj) (c:List Jm) (x:V),InV E v cs F→L.holds E.w cs→v.get p=some (c,x)→(∀ k ∈ c,k.ok) →
  ∃ Lx,Jg E.w v L p=some (x,Lx)
 | [],v,cs,F,L,c,x,hv,hL,hg,hc=>by
  simp only [V.get,oj,pj] at hg
  exact ⟨L,by simp [Jg,hg.2]⟩
 | j :: p,v,cs,F,L,c,x,hv,hL,hg,hc=>by
  simp only [V.get] at hg
  cases hst:v.step j with
  | none=>rw [hst] at hg; simp at hg
  | some r=>
   obtain ⟨k1,xj⟩:=r
   rw [hst] at hg
   simp only at hg
   cases hgx:xj.get p with
   | none=>rw [hgx] at hg; simp at hg
   | some r2=>
    obtain ⟨k2,x2⟩:=r2
    rw [hgx] at hg
    simp only [oj,pj] at hg
    obtain ⟨rfl,rfl⟩:=hg
    have hc1:∀ k ∈ k1,k.ok:=fun k hk=>hc k (by rw [Jv]; exact .inl hk)
    have hc2:∀ k ∈ k2,k.ok:=fun k hk=>hc k (by rw [Jv]; exact .inr hk)
    cases v with
    | agg vs=>
     simp only [V.step] at hst
     cases hj:nth vs j with
     | none=>rw [hj] at hst; simp at hst
     | some xj'=>
      rw [hj] at hst
      simp only [oj,pj] at hst
      obtain ⟨rfl,rfl⟩:=hst
      unfold InV at hv
      obtain ⟨c1,ci,c2,F1,F0,F2,e1,e2,e3,e4,e5⟩:=UU hv hj
      subst e1
      simp only [Jg,hj]
      exact HD E p xj' ci F0 _ k2 x2 e4 (by rw [← e3]; exact Q0 hL) hgx hc2
    | own e l=>
     simp only [V.step,oj,pj] at hst
     obtain ⟨rfl,rfl⟩:=hst
     have hjl:j<l.length:=hc1 (.le (j + 1) l.length) (by simp)
     simp only [Jg,hjl,if_true]
     unfold InV at hv
     obtain ⟨hp,A,cc,hcs,hsl⟩:=hv
     have hhd:L.head E.w=some (.slice A l.length cc):=J0 (by rw [← hcs]; exact hL)
     rw [hhd]
     rcases hsl with ⟨h0,_⟩ | ⟨a,cs0,F',hA,hr,hc',hf,hlc,hb,ho⟩
     ·subst h0; simp at hjl
     ·subst hA
      obtain ⟨c1,c',c2,F1,F0,F2,e1,e2,e3,e4,e5⟩:=Hn (fun d c G hd=>Qt e hd) hr hjl
      subst e1
      refine HD E p _ c' F0 (.mem (a.add (j * e.size))) k2 x2 (Hm e hp e4) ?_ hgx hc2
      have:=Q0 (L:=.mem a) (w:=E.w) (c1:=c1) (c:=c') (c2:=c2) hc'
      rw [e3] at this
      exact this
    | arr n e l=>
     simp only [V.step,oj,pj] at hst
     obtain ⟨rfl,rfl⟩:=hst
     have hjl:j<l.length:=hc1 (.le (j + 1) l.length) (by simp)
     simp only [Jg,hjl,if_true]
     unfold InV at hv
     obtain ⟨hn,hfl,hr⟩:=hv
     obtain ⟨c1,c',c2,F1,F0,F2,e1,e2,e3,e4,e5⟩:=Hn (fun d c G hd=>Qt e hd) hr hjl
     subst e1
     exact HD E p _ c' F0 _ k2 x2 (Hm e (U9 e hfl) e4) (by rw [← e3]; exact Q0 hL) hgx hc2
    | lst e vs=>
     simp only [V.step] at hst
     cases hj:nth vs j with
     | none=>rw [hj] at hst; simp at hst
     | some xj'=>
      rw [hj] at hst
      simp only [oj,pj] at hst
      obtain ⟨rfl,rfl⟩:=hst
      simp only [Jg,hj]
      unfold InV at hv
      obtain ⟨a,cc,cs0,F',hcs,hlc,he,hr,hc',hf,hb,ho⟩:=hv
      have hhd:L.head E.w=some (.slice (some a) vs.length cc):=J0 (by rw [← hcs]; exact hL)
      rw [hhd]
      obtain ⟨c1,c',c2,F1,F0,F2,e1,e2,e3,e4,e5⟩:=UU hr hj
      subst e1
      refine HD E p xj' c' F0 (.mem (a.add (Jt (vs.take j)))) k2 x2 e4 ?_ hgx hc2
      have:=Q0 (L:=.mem a) (w:=E.w) (c1:=c1) (c:=c') (c2:=c2) hc'
      rw [e3] at this
      exact this
    | obox v0=>
     simp only [V.step,oj,pj] at hst
     obtain ⟨rfl,rfl⟩:=hst
     simp only [Jg]
     unfold InV at hv
     obtain ⟨a,cs0,F',hcs,hr,hc',hf,hb,ho⟩:=hv
     have hhd:L.head E.w=some (.pointer (some a)):=J0 (by rw [← hcs]; exact hL)
     rw [hhd]
     exact HD E p v0 cs0 F' (.mem a) k2 x2 hr hc' hgx hc2
    | fn f caps=>
     simp only [V.step] at hst
     cases hj:nth caps j with
     | none=>rw [hj] at hst; simp at hst
     | some xj'=>
      rw [hj] at hst
      simp only [oj,pj] at hst
      obtain ⟨rfl,rfl⟩:=hst
      simp only [Jg,hj]
      unfold InV at hv
      obtain ⟨vals,hcs,hr,hsz⟩:=hv
      have hhd:L.head E.w=some (.func (.func f) #[] vals):=J0 (by rw [← hcs]; exact hL)
      rw [hhd]
      obtain ⟨c1,c',c2,F1,F0,F2,e1,e2,e3,e4,e5⟩:=UU hr hj
      refine HD E p xj' c' F0 _ k2 x2 e4 ?_ hgx hc2
      rw [e1,← e3]
      exact ⟨c2,by simp⟩
    | _=>simp [V.step] at hst
end Go.Rai
namespace Go.Rai
theorem Uo:∀ (b:BL) (s t:Nat),Jb (Qb b s) t=if t=s then none else Jb b t
 | [],s,t=>by simp [Qb,Jb]
 | (k,v) :: r,s,t=>by
  have ih:=Uo r s t
  unfold Qb
  cases hk:Nat.beq k s with
  | true=>
   have hks:=Nat.eq_of_beq_eq_true hk
   simp only
   rw [ih]
   by_cases ht:t=s
   ·simp [ht]
   ·have:Nat.beq k t=false:=by
     cases h:Nat.beq k t with
     | false=>rfl
     | true=>exact absurd ((Nat.eq_of_beq_eq_true h).symm.trans hks) ht
    simp [ht,Jb,this]
  | false=>
   simp only [Jb]
   cases hkt:Nat.beq k t with
   | true=>
    have:=Nat.eq_of_beq_eq_true hkt
    have hne:t ≠ s:=by
     intro h; subst h; subst this
     rw [Nat.beq_refl] at hk; cases hk
    simp [hne]
   | false=>simpa using ih
theorem N1 (b:BL) (s t:Nat) (v:V):Jb (b ++ [(s,v)]) t=match Jb b t with | some x=>some x | none=>if t=s then some v else none:=by
 induction b with
 | nil=>
  simp only [List.nil_append,Jb]
  cases h:Nat.beq s t with
  | true=>have:=Nat.eq_of_beq_eq_true h; simp [this]
  | false=>
   have:t ≠ s:=by intro h'; subst h'; rw [Nat.beq_refl] at h; cases h
   simp [this]
 | cons x r ih=>
  obtain ⟨k,u⟩:=x
  simp only [List.cons_append,Jb]
  cases h:Nat.beq k t with
  | true=>rfl
  | false=>simpa using ih
theorem JU (b:BL) (s t:Nat) (v:V):Jb (Jx b s v) t=if t=s then some v else Jb b t:=by
 unfold Jx
 rw [J8,N1,Uo]
 by_cases h:t=s
 ·simp [h]
 ·simp only [h,if_false]
  cases Jb b t <;> simp
abbrev GT:=Nat→Option (List Value × List Nat)
def Ud (bl:BL) (G:GT) (X:List Nat) (b:Nat):Prop:=b ∈ X ∨ ∃ s c rc F,Jb bl s=some c∧G s=some (rc,F)∧b ∈ F
def Qe:Type:=Nat→Prop
instance anyK:Inhabited Qe:=⟨fun _=>True⟩
def Kept.K [Inhabited Qe]:Nat→Prop:=(default:Qe)
variable [Inhabited Qe]
def Ja (w:World) (bl:BL) (G:GT) (X:List Nat):Env:={ w:=w,S:=fun b=>b<w.heap.size∧¬ Ud bl G X b,K:=Kept.K,bl:=bl,G:=G }
structure Ok (w:World) (bl:BL) (G:GT) (X:List Nat):Prop where
 root:∀ s c,Jb bl s=some c→∃ rc F F0,G s=some (rc,F)∧InV (Ja w bl G X) c rc F0∧F0.Perm F∧F.Nodup∧∀ b ∈ F,b<w.heap.size∧b ∉ X
 apart:∀ s s' c c' rc rc' F F',s ≠ s'→Jb bl s=some c→Jb bl s'=some c'→G s=some (rc,F)→G s'=some (rc',F')→∀ b ∈ F,b ∉ F'
 xnd:X.Nodup
 xlt:∀ b ∈ X,b<w.heap.size
structure Jz (E E':Env) (N:Nat→Prop):Prop where
 le:Le E E'
 al:∀ s,¬ N s→Us E E' s
theorem Jz.inV {E E':Env} {N:Nat→Prop} (h:Jz E E' N) {v:V} {cs:List Value} {F:List Nat} (hs:∀ s ∈ Jf v,¬ N s) (hF:QL E.w E'.w F) (hv:InV E v cs F):InV E' v cs F:=
 U8 h.le v (fun s hs'=>h.al s (hs s hs')) hF hv
theorem Us.same {E E':Env} {s:Nat} (hb:Jb E'.bl s=Jb E.bl s) (hg:E'.G s=E.G s)
  (hl:∀ c rc F,Jb E.bl s=some c→E.G s=some (rc,F)→Uc E.w E'.w c c (.reg rc)):Us E E' s:=by
 intro c' rc F' hc hgs
 rw [hb] at hc; rw [hg] at hgs
 exact ⟨c',F',hc,hgs,fun p x' L h=>hl c' rc F' hc hgs p x' L h⟩
theorem Uc.refl {w:World} {v:V} {L:Jj}:Uc w w v v L:=fun q x' L' h=>⟨x',h,fun ho=>⟨ho,rfl⟩⟩
theorem Ok.modifyN {w:World} {bl:BL} {G:GT} {X:List Nat} (h:Ok w bl G X) {s:Nat} {c:V} {rc:List Value} {F:List Nat} {p:List Nat} {x:V} {Lx:Jj}
  (hc:Jb bl s=some c) (hg:G s=some (rc,F)) (hl:Jg w c (.reg rc) p=some (x,Lx)) :
  ∃ csx Fx Fr,InV (Ja w bl G X) x csx Fx∧Lx.holds w csx∧F.Perm (Fr ++ Fx) ∧
   ((∃ a,Lx=.mem a∧a.block ∈ Fr) ∨ (∃ ds,Lx=.reg ds)) ∧
   ∀ (w':World) (y:V) (csy:List Value) (Fy X':List Nat) (N:Nat→Prop),(∀ t,N t→t=s)→(N s→∀ t ct,Jb bl t=some ct→s ∉ Jf ct) →
    vsz y=vsz x→(c.outer p=false→∀ t,shp t x=true→shp t y=true) →
    w.heap.size≤w'.heap.size →
    (∀ b,b<w.heap.size→b ∉ Fx→(∀ a,Lx=.mem a→b ≠ a.block)→w'.heap[b]?=w.heap[b]?) →
    UV w w' Lx (vsz x)→Lx.holds w' csy→((∃ ds,Lx=.reg ds)→csy=csx) →
    (Fy ++ X').Nodup→(∀ b ∈ Fy ++ X',b<w'.heap.size∧(b ∈ Fx ∨ b ∈ X ∨ w.heap.size≤b)) →
    (¬ N s→Uc w w' x y Lx) →
    (Le (Ja w bl G X) { Ja w' (Jx bl s (c.set p y)) (fun t=>if t=s then some (rc,Fr ++ Fy) else G t) X' with bl:=[] }→InV { Ja w' (Jx bl s (c.set p y)) (fun t=>if t=s then some (rc,Fr ++ Fy) else G t) X' with bl:=[] } y csy Fy) →
    (Jz (Ja w bl G X) (Ja w' (Jx bl s (c.set p y)) (fun t=>if t=s then some (rc,Fr ++ Fy) else G t) X') N→InV (Ja w' (Jx bl s (c.set p y)) (fun t=>if t=s then some (rc,Fr ++ Fy) else G t) X') y csy Fy) →
    Ok w' (Jx bl s (c.set p y)) (fun t=>if t=s then some (rc,Fr ++ Fy) else G t) X' ∧
    Jz (Ja w bl G X) (Ja w' (Jx bl s (c.set p y)) (fun t=>if t=s then some (rc,Fr ++ Fy) else G t) X') N∧(∀ al m,Q1 al m w w' x y Lx→Q1 al (m + p.length) w w' c (c.set p y) (.reg rc)):=by
 obtain ⟨rc',F',F0,hg',hv,hperm,hnd,hlt⟩:=h.root s c hc
 rw [hg] at hg'
 simp only [oj,pj] at hg'
 obtain ⟨rfl,rfl⟩:=hg'
 obtain ⟨csx,Fx,Fr,i1,i2,i3,i4,i5⟩:=Ol (Ja w bl G X) p c rc F0 (.reg rc) x Lx hv ⟨[],by simp⟩ hl (hperm.nodup_iff.2 hnd) (fun a ha=>by cases ha)
 have hF:F.Perm (Fr ++ Fx):=hperm.symm.trans i3
 have i4':(∃ a,Lx=.mem a∧a.block ∈ Fr) ∨ (∃ ds,Lx=.reg ds):=by
  rcases i4 with h1 | ⟨k,h1,_⟩ | h1
  ·exact .inl h1
  ·exact .inr ⟨_,h1⟩
  ·exact .inr h1
 refine ⟨csx,Fx,Fr,i1,i2,hF,i4',?_⟩
 intro w' y csy Fy X' N hN hno hy1 hy2 hsz hmem hps hho hreg hnd' hlt' hloc hyv0 hyv1
 generalize hE':Ja w' (Jx bl s (c.set p y)) (fun t=>if t=s then some (rc,Fr ++ Fy) else G t) X'=E' at hyv0 hyv1 ⊢
 have hEw:E'.w=w':=by rw [← hE']; rfl
 have hEbl:E'.bl=Jx bl s (c.set p y):=by rw [← hE']; rfl
 have hEG:E'.G=fun t=>if t=s then some (rc,Fr ++ Fy) else G t:=by rw [← hE']; rfl
 have hEK:E'.K=Kept.K:=by rw [← hE']; rfl
 have hES:∀ b,E'.S b ↔ b<w'.heap.size∧¬ Ud (Jx bl s (c.set p y)) (fun t=>if t=s then some (rc,Fr ++ Fy) else G t) X' b:=by intro b; rw [← hE']; exact Iff.rfl
 have hFrF:∀ b ∈ Fr,b ∈ F:=fun b hb=>(hF.mem_iff).2 (by simp [hb])
 have hFxF:∀ b ∈ Fx,b ∈ F:=fun b hb=>(hF.mem_iff).2 (by simp [hb])
 have hLxF:∀ a,Lx=.mem a→a.block ∈ F:=by
  intro a ha
  rcases i4' with ⟨a',h1,h2⟩ | ⟨ds,h1⟩
  ·rw [h1] at ha; cases ha; exact hFrF _ h2
  ·rw [h1] at ha; cases ha
 have hnd2:=hF.nodup_iff.1 hnd
 have hmemF:∀ b,b<w.heap.size→b ∉ F→w'.heap[b]?=w.heap[b]?:=fun b hb hbF=>hmem b hb (fun h'=>hbF (hFxF b h')) (fun a ha hab=>hbF (hab ▸ hLxF a ha))
 have hOwn:∀ b,b<w.heap.size→Ud (Jx bl s (c.set p y)) (fun t=>if t=s then some (rc,Fr ++ Fy) else G t) X' b→Ud bl G X b:=by
  intro b hb ho
  have key:b ∈ Fy ++ X'→Ud bl G X b:=by
   intro hm
   rcases (hlt' b hm).2 with h1 | h1 | h1
   ·exact .inr ⟨s,c,rc,F,hc,hg,hFxF b h1⟩
   ·exact .inl h1
   ·omega
  rcases ho with h1 | ⟨t,ct,rct,Ft,h1,h2,h3⟩
  ·exact key (by simp [h1])
  ·simp only at h2
   by_cases hts:t=s
   ·subst hts
    simp only [if_true,oj,pj] at h2
    obtain ⟨_,rfl⟩:=h2
    rcases List.mem_append.1 h3 with h4 | h4
    ·exact .inr ⟨t,c,rc,F,hc,hg,hFrF b h4⟩
    ·exact key (by simp [h4])
   ·rw [JU] at h1
    simp only [hts,if_false] at h1 h2
    exact .inr ⟨t,ct,rct,Ft,h1,h2,h3⟩
 have hle:Le (Ja w bl G X) E':=by
  refine ⟨fun b hb=>?_,by rw [hEw]; exact hsz,fun b _ hb=>by rw [hEK]; exact hb⟩
  obtain ⟨h1,h2⟩:=hb
  have hbF:b ∉ F:=fun hm=>h2 (.inr ⟨s,c,rc,F,hc,hg,hm⟩)
  refine ⟨(hES b).2 ⟨Nat.lt_of_lt_of_le h1 hsz,fun ho=>h2 (hOwn b h1 ho)⟩,?_⟩
  rw [hEw]; exact hmemF b h1 hbF
 have hother:∀ t ct rct Ft,t ≠ s→Jb bl t=some ct→G t=some (rct,Ft)→QL w w' Ft:=by
  intro t ct rct Ft hts h1 h2 b hb
  obtain ⟨rc2,F2,F02,g1,_,_,_,g4⟩:=h.root t ct h1
  rw [h2] at g1; simp only [oj,pj] at g1; obtain ⟨rfl,rfl⟩:=g1
  exact hmemF b (g4 b hb).1 (h.apart t s ct c _ _ _ _ hts h1 hc h2 hg b hb)
 have hFr':∀ b ∈ Fr,(∀ a,Lx=.mem a→b ≠ a.block)→w'.heap[b]?=w.heap[b]?:=by
  intro b hb hne
  exact hmem b (hlt b (hFrF b hb)).1 (fun hx=>(List.nodup_append.1 hnd2).2.2 b hb b hx rfl) hne
 have hlocs:(∀ al m,Q1 al m w w' x y Lx→Q1 al (m + p.length) w w' c (c.set p y) (.reg rc)):=by
  have hy':InV { E' with bl:=[] } y csy Fy:=hyv0 ⟨fun b hb=>hle.stab b hb,hle.size,hle.kept⟩
  obtain ⟨_,_,_,_,_,_,_,_,k⟩:=i5 False { E' with bl:=[] } y csy Fy hy1 (fun hQ=>hy2 (hQ.resolve_left id)) hy' (by show Lx.holds E'.w csy; rw [hEw]; exact hho) hreg
   ⟨fun b hb=>hle.stab b hb,hle.size,hle.kept⟩ (fun t _ c' rc' F' hlk=>by simp [Jb] at hlk) (by show ∀ b ∈ Fr,_→E'.w.heap[b]?=_; rw [hEw]; exact hFr') (by show UV w E'.w Lx _; rw [hEw]; exact hps) (fun a ha=>by cases ha)
  intro al m hm
  have k':=k al m (by show Q1 al m w E'.w x y Lx; rw [hEw]; exact hm)
  have k'':Q1 al (m + p.length) w E'.w c (c.set p y) (.reg rc):=k'
  rwa [hEw] at k''
 have hloc':¬ N s→Uc w w' c (c.set p y) (.reg rc):=fun hns=>Q1.all (fun m=>(hlocs true m (hloc hns).n).mono (by omega))
 have hal:∀ t,¬ N t→Us (Ja w bl G X) E' t:=by
  intro t hNt
  by_cases hts:t=s
  ·subst hts
   intro c' rc' F' h1 h2
   rw [hEbl,JU] at h1
   simp only [if_true,oj] at h1
   rw [hEG] at h2
   simp only [if_true,oj,pj] at h2
   obtain ⟨rfl,_⟩:=h2
   subst h1
   refine ⟨c,F,hc,hg,fun q x' L hq=>?_⟩
   rw [hEw] at hq ⊢
   exact hloc' hNt q x' L hq
  ·refine Us.same (by rw [hEbl,JU]; simp [hts]; rfl) (by rw [hEG]; simp [hts]; rfl) (fun ct rct Ft h1 h2=>?_)
   rw [hEw]
   obtain ⟨rc2,F2,F02,g1,g2,g3,g4,g5⟩:=h.root t ct h1
   have h2':G t=some (rct,Ft):=h2
   rw [h2'] at g1; simp only [oj,pj] at g1; obtain ⟨rfl,rfl⟩:=g1
   exact Uc.frame (E:=Ja w bl G X) g2 ⟨[],by simp⟩ ⟨[],by simp⟩ (fun b hb=>hother t ct _ _ hts h1 h2' b ((g3.mem_iff).1 hb))
 have hgoes:Jz (Ja w bl G X) E' N:=⟨hle,fun t ht=>hal t ht⟩
 have hcont:∀ t ct,Jb bl t=some ct→∀ u ∈ Jf ct,¬ N u:=fun t ct hct u hu hNu=>by
  have:=hN u hNu
  subst this
  exact hno hNu t ct hct hu
 have hyv:=hyv1 hgoes
 refine ⟨?_,hgoes,hlocs⟩
 obtain ⟨cs',F1,k1,k2,k3,k4,k5,_,_⟩:=i5 False E' y csy Fy hy1 (fun hQ=>hy2 (hQ.resolve_left id)) hyv (by rw [hEw]; exact hho) hreg hle (fun t ht=>hal t (hcont s c hc t ht))
  (by rw [hEw]; exact hFr') (by rw [hEw]; exact hps) (fun a ha=>by cases ha)
 have hcs:=k5 ⟨_,rfl⟩
 rw [hcs] at k1
 have hnd3:(Fr ++ Fy).Nodup:=by
  refine List.nodup_append.2 ⟨(List.nodup_append.1 hnd2).1,(List.nodup_append.1 hnd').1,fun a ha b hb hab=>?_⟩
  subst hab
  rcases (hlt' a (by simp [hb])).2 with h1 | h1 | h1
  ·exact (List.nodup_append.1 hnd2).2.2 a ha a h1 rfl
  ·exact (hlt a (hFrF a ha)).2 h1
  ·have:=(hlt a (hFrF a ha)).1; omega
 have hX':∀ b ∈ X',b ∉ Fr ++ Fy:=by
  intro b hb hm
  rcases List.mem_append.1 hm with h1 | h1
  ·rcases (hlt' b (by simp [hb])).2 with h2 | h2 | h2
   ·exact (List.nodup_append.1 hnd2).2.2 b h1 b h2 rfl
   ·exact (hlt b (hFrF b h1)).2 h2
   ·have:=(hlt b (hFrF b h1)).1; omega
  ·exact (List.nodup_append.1 hnd').2.2 b h1 b hb rfl
 have hnew:∀ b ∈ Fr ++ Fy,b ∈ F ∨ b ∈ X ∨ w.heap.size≤b:=by
  intro b hb
  rcases List.mem_append.1 hb with h1 | h1
  ·exact .inl (hFrF b h1)
  ·rcases (hlt' b (by simp [h1])).2 with h2 | h2 | h2
   ·exact .inl (hFxF b h2)
   ·exact .inr (.inl h2)
   ·exact .inr (.inr h2)
 constructor
 ·intro t ct h1
  rw [JU] at h1
  by_cases hts:t=s
  ·subst hts
   simp only [if_true,oj] at h1
   subst h1
   refine ⟨rc,Fr ++ Fy,F1,by simp,by rw [hE']; exact k1,k2,hnd3,fun b hb=>⟨?_,fun hx=>hX' b hx hb⟩⟩
   rcases List.mem_append.1 hb with h1 | h1
   ·exact Nat.lt_of_lt_of_le (hlt b (hFrF b h1)).1 hsz
   ·exact (hlt' b (by simp [h1])).1
  ·simp only [hts,if_false] at h1
   obtain ⟨rc2,F2,F02,g1,g2,g3,g4,g5⟩:=h.root t ct h1
   refine ⟨rc2,F2,F02,by simpa [hts] using g1,?_,g3,g4,fun b hb=>⟨Nat.lt_of_lt_of_le (g5 b hb).1 hsz,fun hx=>?_⟩⟩
   ·rw [hE']
    refine hgoes.inV (hcont t ct h1) (fun b hb=>?_) g2
    rw [hEw]; exact hother t ct _ _ hts h1 g1 b ((g3.mem_iff).1 hb)
   ·rcases (hlt' b (by simp [hx])).2 with h2 | h2 | h2
    ·exact h.apart t s ct c _ _ _ _ hts h1 hc g1 hg b hb (hFxF b h2)
    ·exact (g5 b hb).2 h2
    ·have:=(g5 b hb).1; omega
 ·intro t t' ct ct' rct rct' Ft Ft' hne h1 h1' h2 h2' b hb hb'
  rw [JU] at h1 h1'
  have keyS:∀ u cu rcu Fu,u ≠ s→Jb bl u=some cu→G u=some (rcu,Fu)→b ∈ Fu→b ∉ Fr ++ Fy:=by
   intro u cu rcu Fu hus hu1 hu2 hub hbs
   obtain ⟨rc2,F2,F02,g1,g2,g3,g4,g5⟩:=h.root u cu hu1
   rw [hu2] at g1; simp only [oj,pj] at g1; obtain ⟨rfl,rfl⟩:=g1
   rcases hnew b hbs with h3 | h3 | h3
   ·exact h.apart u s cu c _ _ _ _ hus hu1 hc hu2 hg b hub h3
   ·exact (g5 b hub).2 h3
   ·have:=(g5 b hub).1; omega
  by_cases hts:t=s
  ·subst hts
   have hts':t' ≠ t:=fun h=>hne h.symm
   simp only [if_true,oj,pj] at h2
   simp only [hts',if_false] at h1' h2'
   obtain ⟨_,rfl⟩:=h2
   exact keyS t' ct' rct' Ft' hts' h1' h2' hb' hb
  ·simp only [hts,if_false] at h1 h2
   by_cases hts':t'=s
   ·subst hts'
    simp only [if_true,oj,pj] at h2'
    obtain ⟨_,rfl⟩:=h2'
    exact keyS t ct rct Ft hts h1 h2 hb hb'
   ·simp only [hts',if_false] at h1' h2'
    exact h.apart t t' ct ct' rct rct' Ft Ft' hne h1 h1' h2 h2' b hb hb'
 ·exact (List.nodup_append.1 hnd').2.1
 ·intro b hb
  exact (hlt' b (by simp [hb])).1
theorem Ok.modify {w:World} {bl:BL} {G:GT} {X:List Nat} (h:Ok w bl G X) {s:Nat} {c:V} {rc:List Value} {F:List Nat} {p:List Nat} {x:V} {Lx:Jj}
  (hc:Jb bl s=some c) (hg:G s=some (rc,F)) (hl:Jg w c (.reg rc) p=some (x,Lx)) :
  ∃ csx Fx Fr,InV (Ja w bl G X) x csx Fx∧Lx.holds w csx∧F.Perm (Fr ++ Fx) ∧
   ((∃ a,Lx=.mem a∧a.block ∈ Fr) ∨ (∃ ds,Lx=.reg ds)) ∧
   ∀ (w':World) (y:V) (csy:List Value) (Fy X':List Nat),
    vsz y=vsz x→(c.outer p=false→∀ t,shp t x=true→shp t y=true) →
    w.heap.size≤w'.heap.size →
    (∀ b,b<w.heap.size→b ∉ Fx→(∀ a,Lx=.mem a→b ≠ a.block)→w'.heap[b]?=w.heap[b]?) →
    UV w w' Lx (vsz x)→Lx.holds w' csy→((∃ ds,Lx=.reg ds)→csy=csx) →
    (Fy ++ X').Nodup→(∀ b ∈ Fy ++ X',b<w'.heap.size∧(b ∈ Fx ∨ b ∈ X ∨ w.heap.size≤b)) →
    Uc w w' x y Lx →
    (Le (Ja w bl G X) { Ja w' (Jx bl s (c.set p y)) (fun t=>if t=s then some (rc,Fr ++ Fy) else G t) X' with bl:=[] }→InV { Ja w' (Jx bl s (c.set p y)) (fun t=>if t=s then some (rc,Fr ++ Fy) else G t) X' with bl:=[] } y csy Fy) →
    (Jz (Ja w bl G X) (Ja w' (Jx bl s (c.set p y)) (fun t=>if t=s then some (rc,Fr ++ Fy) else G t) X') (fun _=>False)→InV (Ja w' (Jx bl s (c.set p y)) (fun t=>if t=s then some (rc,Fr ++ Fy) else G t) X') y csy Fy) →
    Ok w' (Jx bl s (c.set p y)) (fun t=>if t=s then some (rc,Fr ++ Fy) else G t) X' ∧
    Jz (Ja w bl G X) (Ja w' (Jx bl s (c.set p y)) (fun t=>if t=s then some (rc,Fr ++ Fy) else G t) X') (fun _=>False):=by
 obtain ⟨csx,Fx,Fr,m1,m2,m3,m4,m5⟩:=h.modifyN hc hg hl
 refine ⟨csx,Fx,Fr,m1,m2,m3,m4,?_⟩
 intro w' y csy Fy X' h1 h2 h3 h4 h5 h6 h7 h8 h9 h10 h11 h12
 obtain ⟨k1,k2,_⟩:=m5 w' y csy Fy X' (fun _=>False) (fun _=>False.elim) (fun h=>h.elim) h1 h2 h3 h4 h5 h6 h7 h8 h9 (fun _=>h10) h11 h12
 exact ⟨k1,k2⟩
theorem Jz.refl_ (E:Env) (N:Nat→Prop):Jz E E N:=⟨⟨fun b hb=>⟨hb,rfl⟩,Nat.le_refl _,fun _ _ h=>h⟩,fun s _=>Us.same rfl rfl (fun _ _ _ _ _=>Uc.refl)⟩
theorem Ok.drop {w:World} {bl:BL} {G:GT} {X:List Nat} (h:Ok w bl G X) {s:Nat} {c:V} (hc:Jb bl s=some c) :
  ∃ rc F F0,G s=some (rc,F)∧F0.Perm F∧F.Nodup∧InV (Ja w bl G X) c rc F0∧InV (Ja w (Qb bl s) G (F0 ++ X)) c rc F0∧Ok w (Qb bl s) G (F0 ++ X)∧Jz (Ja w bl G X) (Ja w (Qb bl s) G (F0 ++ X)) (fun _=>False):=by
 obtain ⟨rc,F,F0,hg,hv,hperm,hnd,hlt⟩:=h.root s c hc
 have hOwn:∀ b,Ud (Qb bl s) G (F0 ++ X) b→Ud bl G X b:=by
  intro b ho
  rcases ho with h1 | ⟨t,ct,rct,Ft,h1,h2,h3⟩
  ·rcases List.mem_append.1 h1 with h1 | h1
   ·exact .inr ⟨s,c,rc,F,hc,hg,(hperm.mem_iff).1 h1⟩
   ·exact .inl h1
  ·rw [Uo] at h1
   by_cases hts:t=s
   ·simp [hts] at h1
   ·simp only [hts,if_false] at h1
    exact .inr ⟨t,ct,rct,Ft,h1,h2,h3⟩
 have hgoes:Jz (Ja w bl G X) (Ja w (Qb bl s) G (F0 ++ X)) (fun _=>False):=by
  refine ⟨⟨fun b hb=>⟨⟨hb.1,fun ho=>hb.2 (hOwn b ho)⟩,rfl⟩,Nat.le_refl _,fun _ _ h=>h⟩,fun t _=>?_⟩
  by_cases hts:t=s
  ·intro c' rc' F' h1
   have h1':Jb (Qb bl s) t=some c':=h1
   rw [Uo] at h1'
   simp [hts] at h1'
  ·exact Us.same (by show Jb (Qb bl s) t=Jb bl t; rw [Uo]; simp [hts]) rfl (fun _ _ _ _ _=>Uc.refl)
 refine ⟨rc,F,F0,hg,hperm,hnd,hv,hgoes.inV (fun _ _=>id) (fun b _=>rfl) hv,?_,hgoes⟩
 constructor
 ·intro t ct h1
  rw [Uo] at h1
  by_cases hts:t=s
  ·simp [hts] at h1
  ·simp only [hts,if_false] at h1
   obtain ⟨rc2,F2,F02,g1,g2,g3,g4,g5⟩:=h.root t ct h1
   refine ⟨rc2,F2,F02,g1,hgoes.inV (fun _ _=>id) (fun b _=>rfl) g2,g3,g4,fun b hb=>⟨(g5 b hb).1,fun hx=>?_⟩⟩
   rcases List.mem_append.1 hx with h2 | h2
   ·exact h.apart t s ct c _ _ _ _ hts h1 hc g1 hg b hb ((hperm.mem_iff).1 h2)
   ·exact (g5 b hb).2 h2
 ·intro t t' ct ct' rct rct' Ft Ft' hne h1 h1' h2 h2' b hb hb'
  rw [Uo] at h1 h1'
  by_cases hts:t=s
  ·simp [hts] at h1
  ·by_cases hts':t'=s
   ·simp [hts'] at h1'
   ·simp only [hts,hts',if_false] at h1 h1'
    exact h.apart t t' ct ct' rct rct' Ft Ft' hne h1 h1' h2 h2' b hb hb'
 ·exact List.nodup_append.2 ⟨hperm.nodup_iff.2 hnd,h.xnd,fun a ha b hb hab=>by subst hab; exact (hlt a ((hperm.mem_iff).1 ha)).2 hb⟩
 ·intro b hb
  rcases List.mem_append.1 hb with h1 | h1
  ·exact (hlt b ((hperm.mem_iff).1 h1)).1
  ·exact h.xlt b h1
theorem Ok.add {w:World} {bl:BL} {G:GT} {F X:List Nat} (h:Ok w bl G (F ++ X)) {d:Nat} {x:V} {rc:List Value} (hd:Jb bl d=none)
  (hm:∀ s c,Jb bl s=some c→d ∉ Jf c) (hx:InV (Ja w bl G (F ++ X)) x rc F) (hdx:d ∉ Jf x) :
  Ok w (Jx bl d x) (fun t=>if t=d then some (rc,F) else G t) X∧Jz (Ja w bl G (F ++ X)) (Ja w (Jx bl d x) (fun t=>if t=d then some (rc,F) else G t) X) (fun s=>s=d):=by
 generalize hE':Ja w (Jx bl d x) (fun t=>if t=d then some (rc,F) else G t) X=E'
 have hOwn:∀ b,Ud (Jx bl d x) (fun t=>if t=d then some (rc,F) else G t) X b→Ud bl G (F ++ X) b:=by
  intro b ho
  rcases ho with h1 | ⟨t,ct,rct,Ft,h1,h2,h3⟩
  ·exact .inl (by simp [h1])
  ·rw [JU] at h1
   by_cases htd:t=d
   ·subst htd
    simp only [if_true,oj,pj] at h2
    obtain ⟨_,rfl⟩:=h2
    exact .inl (by simp [h3])
   ·simp only [htd,if_false] at h1 h2
    exact .inr ⟨t,ct,rct,Ft,h1,h2,h3⟩
 have hgoes:Jz (Ja w bl G (F ++ X)) E' (fun s=>s=d):=by
  rw [← hE']
  refine ⟨⟨fun b hb=>⟨⟨hb.1,fun ho=>hb.2 (hOwn b ho)⟩,rfl⟩,Nat.le_refl _,fun _ _ h=>h⟩,fun t hts=>?_⟩
  exact Us.same (by show Jb (Jx bl d x) t=Jb bl t; rw [JU]; simp [hts]) (by show (if t=d then _ else G t)=G t; simp [hts]) (fun _ _ _ _ _=>Uc.refl)
 have hEw:E'.w=w:=by rw [← hE']; rfl
 refine ⟨?_,hgoes⟩
 constructor
 ·intro t ct h1
  rw [JU] at h1
  by_cases htd:t=d
  ·subst htd
   simp only [if_true,oj] at h1
   subst h1
   refine ⟨rc,F,F,by simp,?_,.refl _,(List.nodup_append.1 h.xnd).1,fun b hb=>⟨h.xlt b (by simp [hb]),fun hx=>(List.nodup_append.1 h.xnd).2.2 b hb b hx rfl⟩⟩
   rw [hE']
   exact hgoes.inV (fun s hs hsd=>hdx (hsd ▸ hs)) (fun b _=>by rw [hEw]; rfl) hx
  ·simp only [htd,if_false] at h1
   obtain ⟨rc2,F2,F02,g1,g2,g3,g4,g5⟩:=h.root t ct h1
   refine ⟨rc2,F2,F02,by simpa [htd] using g1,?_,g3,g4,fun b hb=>⟨(g5 b hb).1,fun hx=>(g5 b hb).2 (by simp [hx])⟩⟩
   rw [hE']
   exact hgoes.inV (fun s hs hsd=>hm t ct h1 (hsd ▸ hs)) (fun b _=>by rw [hEw]; rfl) g2
 ·intro t t' ct ct' rct rct' Ft Ft' hne h1 h1' h2 h2' b hb hb'
  rw [JU] at h1 h1'
  have keyD:∀ u cu rcu Fu,Jb bl u=some cu→G u=some (rcu,Fu)→b ∈ Fu→b ∉ F:=by
   intro u cu rcu Fu hu1 hu2 hub hbF
   obtain ⟨rc2,F2,F02,g1,g2,g3,g4,g5⟩:=h.root u cu hu1
   rw [hu2] at g1; simp only [oj,pj] at g1; obtain ⟨rfl,rfl⟩:=g1
   exact (g5 b hub).2 (by simp [hbF])
  by_cases htd:t=d
  ·subst htd
   have htd':t' ≠ t:=fun h=>hne h.symm
   simp only [if_true,oj,pj] at h2
   simp only [htd',if_false] at h1' h2'
   obtain ⟨_,rfl⟩:=h2
   exact keyD t' ct' rct' Ft' h1' h2' hb' hb
  ·simp only [htd,if_false] at h1 h2
   by_cases htd':t'=d
   ·subst htd'
    simp only [if_true,oj,pj] at h2'
    obtain ⟨_,rfl⟩:=h2'
    exact keyD t ct rct Ft h1 h2 hb hb'
   ·simp only [htd',if_false] at h1' h2'
    exact h.apart t t' ct ct' rct rct' Ft Ft' hne h1 h1' h2 h2' b hb hb'
 ·exact (List.nodup_append.1 h.xnd).2.1
 ·intro b hb
  exact h.xlt b (by simp [hb])
theorem Ok.world {w w':World} {bl:BL} {G:GT} {X X':List Nat} (h:Ok w bl G X) (hsz:w.heap.size≤w'.heap.size) (hmem:∀ b,b<w.heap.size→b ∉ X→w'.heap[b]?=w.heap[b]?)
  (hnd:X'.Nodup) (hx:∀ b ∈ X',b<w'.heap.size∧(b ∈ X ∨ w.heap.size≤b)) :
  Ok w' bl G X'∧Jz (Ja w bl G X) (Ja w' bl G X') (fun _=>False):=by
 have hOwn:∀ b,b<w.heap.size→Ud bl G X' b→Ud bl G X b:=by
  intro b hb ho
  rcases ho with h1 | h1
  ·rcases (hx b h1).2 with h2 | h2
   ·exact .inl h2
   ·omega
  ·exact .inr h1
 have hF:∀ t ct rct Ft,Jb bl t=some ct→G t=some (rct,Ft)→QL w w' Ft:=by
  intro t ct rct Ft h1 h2 b hb
  obtain ⟨rc2,F2,F02,g1,g2,g3,g4,g5⟩:=h.root t ct h1
  rw [h2] at g1; simp only [oj,pj] at g1; obtain ⟨rfl,rfl⟩:=g1
  exact hmem b (g5 b hb).1 (g5 b hb).2
 have hgoes:Jz (Ja w bl G X) (Ja w' bl G X') (fun _=>False):=by
  refine ⟨⟨fun b hb=>⟨⟨Nat.lt_of_lt_of_le hb.1 hsz,fun ho=>hb.2 (hOwn b hb.1 ho)⟩,hmem b hb.1 (fun hbX=>hb.2 (.inl hbX))⟩,hsz,fun _ _ h=>h⟩,fun t _=>?_⟩
  refine Us.same rfl rfl (fun ct rct Ft h1 h2=>?_)
  obtain ⟨rc2,F2,F02,g1,g2,g3,g4,g5⟩:=h.root t ct h1
  have h2':G t=some (rct,Ft):=h2
  rw [h2'] at g1; simp only [oj,pj] at g1; obtain ⟨rfl,rfl⟩:=g1
  exact Uc.frame (E:=Ja w bl G X) g2 ⟨[],by simp⟩ ⟨[],by simp⟩ (fun b hb=>hF t ct _ _ h1 h2' b ((g3.mem_iff).1 hb))
 refine ⟨⟨?_,h.apart,hnd,fun b hb=>(hx b hb).1⟩,hgoes⟩
 intro t ct h1
 obtain ⟨rc2,F2,F02,g1,g2,g3,g4,g5⟩:=h.root t ct h1
 refine ⟨rc2,F2,F02,g1,hgoes.inV (fun _ _=>id) (fun b hb=>hF t ct _ _ h1 g1 b ((g3.mem_iff).1 hb)) g2,g3,g4,fun b hb=>⟨Nat.lt_of_lt_of_le (g5 b hb).1 hsz,fun hxb=>?_⟩⟩
 rcases (hx b hxb).2 with h2 | h2
 ·exact (g5 b hb).2 h2
 ·have:=(g5 b hb).1; omega
end Go.Rai
namespace Go.Rai
variable [Inhabited Qe]
def HQ (T:TypeId→Ty):Ty→TypeDesc→Prop
 | .int k,.int k'=>k'=k
 | .bool,.bool=>True
 | .str,.string=>True
 | .slice e,.slice te=>T te=e∧e ≠ .other
 | .struct fs, .struct fields => fields.size = fs.length ∧ ∀ j f, fields[j]? = some f → fs[j]? = some (T f.type) ∧ T f.type ≠ .other ∧ (T f.type).size ≠ 0 ∧ f.offset = Ty.sizes (fs.take j) ∧ f.name ≠ "_"
 | .arr n e,.array n' te=>n'=n∧T te=e∧e ≠ .other
 | .ptr,.pointer _=>True
 | .fn,.func _ _ _=>True
 | _,_=>False
mutual
def JJ:Ty→List Value
 | .int k=>[.int k 0]
 | .bool=>[.bool false]
 | .str=>[.string ⟨#[]⟩]
 | .struct fs=>HR fs
 | .slice _=>[.slice none 0 0]
 | .arr n e=>J5 n (JJ e)
 | .ptr=>[.pointer none]
 | .fn=>[.nilFunc]
 | .other=>[]
def HR:List Ty→List Value
 | []=>[]
 | t :: ts=>JJ t ++ HR ts
def J5:Nat→List Value→List Value
 | 0,_=>[]
 | n + 1,l=>l ++ J5 n l
end
def Qq:Ty→Bool
 | .struct _=>true
 | .arr _ _=>true
 | _=>false
def Q8 (b:Bool) (cs:List Value):Value:=match b with
 | true=>.agg cs.toArray
 | false=>cs.headD undef
structure UX (P:Program) (T:TypeId→Ty) (t:TypeId):Prop where
 info:∃ i z,P.info? t=some i∧i.size=(T t).size∧i.zero=some z∧i.bytes≤32768∧(T t).size≤65536∧z=Q8 (Qq (T t)) (JJ (T t))
 desc:∃ d,P.underlying t=some d∧HQ T (T t) d
 eqs:Qq (T t)=true→P.eqGuardType P.depth t=false∧P.stoodInHeld t=false
def JY (P:Program) (T:TypeId→Ty):Prop:=∀ t,T t ≠ .other→UX P T t
structure J7 (w:World) (bl:BL) (G:GT) (w0:World) (F0:List Nat):Prop where
 ok:Ok w bl G []
 frame:∀ b,b<w0.heap.size→b ∉ F0→w.heap[b]?=w0.heap[b]?
 own:∀ b,Ud bl G [] b→b ∈ F0 ∨ w0.heap.size≤b
 size:w0.heap.size≤w.heap.size
 os:w.os=w0.os
 tape:w.tape=w0.tape
 output:w.output=w0.output
def JA (E:Env) (sl:List V) (a:Act):Prop:=∀ t,Val E (Jy sl t) (a.tmps.getD t undef) []
structure Rel (Pn:Nat→Option Value) (w0:World) (F0:List Nat) (σ:St) (a:Act) (w:World):Prop where
 core:∃ G,J7 w σ.bl G w0 F0∧JA (Ja w σ.bl G []) σ.sl a
 len:a.tmps.size=σ.sl.length
 defers:a.defers=[]
 pin:∀ t v,Pn t=some v→a.tmps.getD t undef=v
theorem JV {E:Env} {x:V} {v:Value} {F:List Nat} (ha:isA x=false) (ht:∀ xs,x ≠ .tup xs) (hu:x ≠ .undef):Val E x v F ↔ InV E x [v] F:=by
 have h:Val E x v F ↔ One E x v F:=by
  cases x <;> first | exact Iff.rfl | exact absurd rfl (ht _) | exact absurd rfl hu
 rw [h]
 constructor
 ·rintro ⟨cs,h1,h2⟩
  unfold Qi at h2
  rw [ha] at h2
  subst h2
  exact h1
 ·intro h1
  exact ⟨[v],h1,by unfold Qi; rw [ha]⟩
theorem VO {E:Env} {vs:List V} {v:Value} {F:List Nat}:Val E (.agg vs) v F ↔ ∃ cs,v=.agg cs.toArray∧Ji E vs cs F:=by
 constructor
 ·rintro ⟨cs,h1,h2⟩
  unfold InV at h1
  exact ⟨cs,h2,h1⟩
 ·rintro ⟨cs,h1,h2⟩
  exact ⟨cs,by unfold InV; exact h2,h1⟩
theorem Qk {E:Env} {k:IntKind} {n:Int} {v:Value} {F:List Nat}:Val E (.int k n) v F ↔ v=.int k n∧F=[]:=by
 rw [JV rfl (by simp) (by simp)]; unfold InV; simp
theorem QI {E:Env} {b:Bool} {v:Value} {F:List Nat}:Val E (.bool b) v F ↔ v=.bool b∧F=[]:=by
 rw [JV rfl (by simp) (by simp)]; unfold InV; simp
theorem Ho {E:Env} {s:ByteArray} {v:Value} {F:List Nat}:Val E (.str s) v F ↔ v=.string s∧F=[]:=by
 rw [JV rfl (by simp) (by simp)]; unfold InV; simp
theorem VP {E:Env} {v:Value} {F:List Nat}:Val E .void v F ↔ v=undef∧F=[]:=by
 rw [JV rfl (by simp) (by simp)]; unfold InV; simp
theorem Ce {E:Env} {v:Value}:Val E .undef v []:=rfl
theorem qQ (sl:List V) (t:Nat):Jy sl t=(nth sl t).getD .undef:=by
 induction sl generalizing t with
 | nil=>rfl
 | cons a l ih=>cases t with
  | zero=>rfl
  | succ t=>exact ih t
theorem N2 {E:Env} (v:Value):Val E (WN v) v []:=by
 cases v with
 | int k n=>exact Qk.2 ⟨rfl,rfl⟩
 | bool b=>exact QI.2 ⟨rfl,rfl⟩
 | string s=>exact Ho.2 ⟨rfl,rfl⟩
 | slice a n c=>
  cases a with
  | some a=>exact Ce
  | none=>
   cases n with
   | succ n=>exact Ce
   | zero=>cases c with
    | succ c=>exact Ce
    | zero=>
     show Val E .nilsl _ []
     rw [JV rfl (by simp) (by simp)]; unfold InV; simp
 | pointer a=>
  cases a with
  | some a=>exact Ce
  | none=>
   show Val E .nilptr _ []
   rw [JV rfl (by simp) (by simp)]; unfold InV; simp
 | nilFunc=>show Val E .nilfn _ []; rw [JV rfl (by simp) (by simp)]; unfold InV; simp
 | _=>exact Ce
theorem JZ {E:Env} {sl:List V} {a:Act} (h:JA E sl a) (x:Operand):Val E (opd sl x) (a.eval x) []:=by
 cases x with
 | tmp t=>exact h t
 | const v=>exact N2 v
 | func f=>show Val E (.fn f []) (.func (.func f) #[] #[]) []; rw [JV rfl (by simp) (by simp)]; unfold InV Ji; exact ⟨#[],rfl,by simp,rfl⟩
 | global g=>exact Ce
mutual
theorem TA {E E':Env} {N:Nat→Prop} (h:Jz E E' N):∀ {x:V} {v:Value} {F:List Nat},(∀ s ∈ Jf x,¬ N s)→QL E.w E'.w F→Val E x v F→Val E' x v F:=by
 intro x v F hs hF hv
 have one:∀ {x:V} {v:Value} {F:List Nat},(∀ s ∈ Jf x,¬ N s)→QL E.w E'.w F→One E x v F→One E' x v F:=by
  rintro x v F hs hF ⟨cs,h1,h2⟩
  exact ⟨cs,h.inV hs hF h1,h2⟩
 have tup:∀ {xs:List V} {vs:List Value} {F:List Nat},(∀ s ∈ Jn xs,¬ N s)→QL E.w E'.w F→Tup E xs vs F→Tup E' xs vs F:=by
  intro xs
  induction xs with
  | nil=>intro vs F _ _ h; exact h
  | cons x xs ih=>
   rintro vs F hs hF ⟨v,r,F1,F2,e1,e2,h1,h2⟩
   subst e2
   exact ⟨v,r,F1,F2,e1,rfl,one (fun s hs'=>hs s (by simp [Jn,Jv,hs'])) (fun b hb=>hF b (by simp [hb])) h1,
    ih (fun s hs'=>hs s (by simp [Jn,Jv,hs'])) (fun b hb=>hF b (by simp [hb])) h2⟩
 cases x with
 | tup xs=>
  obtain ⟨vs,h1,h2⟩:=hv
  exact ⟨vs,h1,tup (by simpa [Jf] using hs) hF h2⟩
 | undef=>exact hv
 | _=>exact one hs hF hv
end
theorem Yj {sl:List V} {t s:Nat} (h:s ∈ Jf (Jy sl t)):s ∈ Jn sl:=by
 induction sl generalizing t with
 | nil=>simp [Jy,Jf] at h
 | cons a l ih=>cases t with
  | zero=>simp only [Jy] at h; simp [Jn,Jv,h]
  | succ t=>simp only [Jy] at h; simp [Jn,Jv,ih h]
theorem JA.goes {E E':Env} {N:Nat→Prop} (h:Jz E E' N) {sl:List V} {a:Act} (hs:∀ s ∈ Jn sl,¬ N s) (hv:JA E sl a):JA E' sl a:=by
 intro t
 exact TA h (fun s hs'=>hs s (Yj hs')) (fun b hb=>by simp at hb) (hv t)
theorem UB {l:List Nat} {s:Nat}:J3 l s=true ↔ s ∈ l:=by
 induction l with
 | nil=>simp [J3]
 | cons a l ih=>
  unfold J3
  cases h:Nat.beq a s with
  | true=>have:=Nat.eq_of_beq_eq_true h; simp [this]
  | false=>
   have:¬ s=a:=by intro h'; subst h'; rw [Nat.beq_refl] at h; cases h
   simp [ih,this]
theorem Cu {b:BL} {t s:Nat} {c:V} (h:Jb b t=some c) (hs:s ∈ Jf c):s ∈ Ju b:=by
 induction b with
 | nil=>simp [Jb] at h
 | cons x r ih=>
  obtain ⟨k,u⟩:=x
  simp only [Jb] at h
  simp only [Ju,Jv]
  split at h
  ·simp only [oj] at h; subst h; exact .inl hs
  ·exact .inr (ih h)
theorem CS {sl:List V} {b:BL} {x:V} {t:Nat} (h:Uh sl b x t=true):Jb b t=none∧t ∉ Jn sl∧(∀ s c,Jb b s=some c→t ∉ Jf c)∧t ∉ Jf x:=by
 unfold Uh at h
 split at h
 ·rename_i hl
  have h1:bor (J3 (Jn sl) t) (bor (J3 (Ju b) t) (J3 (Jf x) t))=false:=by
   cases hb:bor (J3 (Jn sl) t) (bor (J3 (Ju b) t) (J3 (Jf x) t)) with
   | false=>rfl
   | true=>rw [hb] at h; simp [J2] at h
  have h2:¬ (J3 (Jn sl) t=true ∨ J3 (Ju b) t=true ∨ J3 (Jf x) t=true):=by
   rw [← Cc,← Cc,h1]; simp
  simp only [UB,not_or] at h2
  exact ⟨hl,h2.1,fun s c hc hm=>h2.2.1 (Cu hc hm),h2.2.2⟩
 ·cases h
structure Jr (P:Program) (w0:World) (F0:List Nat) (sl:List V) (a:Act) (w:World) (o:Oper) (v:V) (bl':BL):Prop where
 out:∃ vv w' G',((execOp a.eval o).run P w=.ok (.value vv) w' ∨ ((execOp a.eval o).run P w=.ok .skip w'∧vv=undef)) ∧
  J7 w' bl' G' w0 F0∧JA (Ja w' bl' G' []) sl a∧Val (Ja w' bl' G' []) v vv []
theorem Jr.pure {P:Program} {w0 w:World} {F0:List Nat} {sl:List V} {a:Act} {o:Oper} {v:V} {bl:BL} {G:GT} {vv:Value}
  (hc:J7 w bl G w0 F0) (hs:JA (Ja w bl G []) sl a) (hr:(execOp a.eval o).run P w=.ok (.value vv) w) (hv:Val (Ja w bl G []) v vv []):Jr P w0 F0 sl a w o v bl:=
 ⟨vv,w,G,.inl hr,hc,hs,hv⟩
end Go.Rai
