/- An evaluator of the model's programs over plain values, proved sound, part 3 of 6. It is used by the claim's law; it has no condition of its own. -/
import Derived.Test.YtaahhnjdbejfhaaRaiU2
import Derived.Laws.BytesString
import Derived.Tactics
set_option linter.unusedVariables false
set_option linter.unusedSectionVars false
set_option linter.unusedSimpArgs false
namespace Go.Rai
variable [Inhabited Qi]
theorem OJ {R:D→List Value→List Nat→Prop}:∀ {l l':List D} {cs cs':List Value} {F F':List Nat},Row R l cs F→Row R l' cs' F'→Row R (l ++ l') (cs ++ cs') (F ++ F')
 | [],l',cs,cs',F,F',h,h'=>by obtain ⟨rfl,rfl⟩:=h;exact h'
 | d :: l,l',cs,cs',F,F',⟨c1,c2,F1,F2,e1,e2,h1,h2⟩,h'=>by
  subst e1;subst e2
  exact ⟨c1,c2 ++ cs',F1,F2 ++ F',by simp,by simp,h1,OJ h2 h'⟩
section
variable {P:Program} {A:Ann} {w w' w0:World} {F0:List Nat} {sl:List V} {a:Act} {bl b':BL} {G:GT} {o:Oper} {X:List Nat}
theorem Vz {e:Ty} {te:TypeId} (hp:e.plain=true) (hte:A.ty te=e) (hT:U3 P A.ty te) :
  ∃ i z,P.info? te=some i∧i.zero=some z∧i.size=e.size∧i.bytes≤32768∧z.cells=(JE e).toArray∧(JE e).length=e.size:=by
 obtain ⟨i,z,hi,hsz,hiz,hby,hsmall,hzv⟩:=hT.info
 rw [hte] at hsz hzv hsmall
 have hin:=Cp (o:=true) (w:=⟨#[],fun _ _=>0,0,default,#[]⟩) e hp
 have hzlen:(JE e).length=e.size:=Ql e hin
 refine ⟨i,z,hi,hiz,hsz,hby,?_,hzlen⟩
 rw [hzv]
 unfold Ua
 cases hA:Qo e with
 | true=>rfl
 | false=>
  have h1:=U4 hA
  rw [h1] at hzlen
  match hq:JE e,hzlen with
  | [u],_=>exact Vs (H6 e hin u (by rw [hq];simp))
theorem Ws {e:Ty} {l:List D} {cs:List Value} {F:List Nat} (hs:w.heap.size≤w'.heap.size) (hF:QL w w' F) (h:Row (DIn true w e) l cs F):Row (DIn true w' e) l cs F:=
 HK (fun d _ c G' hG hd=>H0 hs e (fun b hb=>hF b (hG b hb)) hd) h
def Fed (w:World) (vx:Value) (n:Nat) (news:List Value):Prop:=∃ Ad cap,vx=.slice Ad n cap∧(n ≠ 0→∃ ad,Ad=some ad∧QF w ad news)
theorem Fed.src {vx:Value} {n:Nat} {news:List Value} {size:Nat} {tx e':TypeId} (h:Fed w vx n news) (hk:P.underlying tx=some (.slice e')) (hl:news.length=n * size) (h1:∀ u ∈ news,u.oneCell'=true):Src P size tx vx n news w:=by
 obtain ⟨Ad,cap,rfl,hA⟩:=h
 by_cases hn:n=0
 ·subst hn
  have:news=[]:=List.eq_nil_of_length_eq_zero (by simpa using hl)
  subst this
  cases Ad with
  | none=>exact Src.ofNil w hk cap
  | some ad=>exact Src.ofSlice w hk ad 0 cap [] (by simp) (by simp) (by simp)
 ·obtain ⟨ad,rfl,hc⟩:=hA hn
  exact Src.ofSlice w hk ad n cap news hl hc h1
theorem jb {e:Ty} {t te tx ty:TypeId} {k:IntKind} (hp:e.plain=true) (hz:e.size ≠ 0) (hte:A.ty te=e) (hT:U3 P A.ty te) (ht:P.underlying t=some (.slice te)) (hk:P.underlying tx=some (.int k)) {n:Nat} (hn:n≤4294967296) :
  (n=0→(Builtin.append_ #[t,tx] ty #[.slice none 0 0,.int .i64 (n:Int)]).run P w=.ok (.slice none 0 0) w) ∧
  (0<n→(Builtin.append_ #[t,tx] ty #[.slice none 0 0,.int .i64 (n:Int)]).run P w =
   .ok (.slice (some ⟨w.heap.size,0,none⟩) n (grownCap w n 0 te)) (w.drew.alloc (.cells ((JW n (JE e)).toArray ++ Builtin.zeroCells (JE e).toArray (grownCap w n 0 te - n)) te))):=by
 obtain ⟨i,z,hi,hiz,hisz,hby,hzc,hzl⟩:=Vz (P:=P) hp hte hT
 have hw:IntKind.i64.wrap (n:Int)=(n:Int):=by
  unfold IntKind.wrap
  simp [IntKind.signed,IntKind.bits]
  omega
 have hb1:(n:Int) * (i.bytes:Int)≤4294967296 * 32768:=Int.mul_le_mul (by omega) (by omega) (by omega) (by omega)
 have hnb:n * i.bytes≤4294967296 * 32768:=Nat.mul_le_mul hn hby
 have h1:¬ ((n:Int)<0):=by omega
 have h2:¬ (281474976710656<(n:Int) * (i.bytes:Int)):=by omega
 constructor
 ·intro h0
  subst h0
  have hw0:IntKind.i64.wrap 0=0:=by decide
  simp [Builtin.append_,run_underlying ht,run_underlying hk,sizeOf,typeInfo,hi,asInt,asIntOf,hw0]
 ·intro hpos
  have hne:¬ n=0:=by omega
  have hne2:¬ (n≤0):=by omega
  have h3:¬ (9223372036854775807<(n:Int)):=by omega
  have h4:¬ (281474976710656<Builtin.nextslicecap n 0 * i.bytes):=by
   have:Builtin.nextslicecap n 0=n:=by unfold Builtin.nextslicecap;rw [if_pos (by omega)]
   rw [this];omega
  have h5:¬ (n * i.size=0):=by rw [hisz];exact Nat.mul_ne_zero hne hz
  have hzr:Builtin.zeroCells (JE e).toArray n=(JW n (JE e)).toArray:=by
   have:=Wn (n:=n) hzl
   rw [← this];unfold Builtin.zeroCells;rw [List.size_toArray,hzl]
  simp [Builtin.append_,run_underlying ht,run_underlying hk,sizeOf,typeInfo,zeroValue,hi,hiz,hw,h1,h2,hne,hne2,h3,h4,h5,asInt,asIntOf,Builtin.firstCells,Question.forced,newRow,grownCap,hzc,hzr]
structure App (P:Program) (t tx ty te:TypeId) (i:TypeInfo) (z vx:Value) (n:Nat) (news:List Value) (w:World):Prop where
 zero:n=0→∀ (Ad:Option Addr) (m cap:Nat),m≤cap→(Builtin.append_ #[t,tx] ty #[.slice Ad m cap,vx]).run P w=.ok (.slice Ad m cap) w
 room:∀ b off m cap:Nat,m + n≤cap→(∀ j,j<news.length→(w.cell? ⟨b,off + m * i.size + j,none⟩).isSome=true)→(∀ j,j<news.length→w.frozen? ⟨b,off + m * i.size + j,none⟩=false) →
  (Builtin.append_ #[t,tx] ty #[.slice (some ⟨b,off,none⟩) m cap,vx]).run P w=.ok (.slice (some ⟨b,off,none⟩) (m + n) cap) (w.setCells b (off + m * i.size) news)
 grow:∀ (base:Option Addr) (m cap:Nat) (olds:List Value),(Builtin.firstCells i.size m (.slice base m cap)).run P w.drew=.ok olds.toArray w.drew→cap<m + n→((m + n:Nat):Int)≤9223372036854775807→Builtin.nextslicecap (m + n) cap * i.bytes≤281474976710656 →
  (Builtin.append_ #[t,tx] ty #[.slice base m cap,vx]).run P w=.ok (.slice (some ⟨w.heap.size,0,none⟩) (m + n) (grownCap w (m + n) cap te)) (w.drew.alloc (.cells ((olds ++ news).toArray ++ Builtin.zeroCells z.cells (grownCap w (m + n) cap te - (m + n))) te))
theorem App.ofSrc {t tx ty te:TypeId} {i:TypeInfo} {z vx:Value} {n:Nat} {news:List Value} (ht:P.underlying t=some (.slice te)) (hi:P.info? te=some i) (hz:i.zero=some z) (h:Src P i.size tx vx n news w):App P t tx ty te i z vx n news w:=by
 refine ⟨fun h0 Ad m cap hm=>?_,fun b off m cap h1 h2 h3=>run_append_room_src (P:=P) w t tx ty te i ht hi b off m cap vx n news h h1 h2 h3,fun base m cap olds h1 h2 h3 h4=>run_append_grow_src (P:=P) w t tx ty te i z ht hi hz base m cap olds h1 vx n news h h2 h3 h4⟩
 subst h0
 have hn:news=[]:=List.eq_nil_of_length_eq_zero (by rw [h.newsLen];simp)
 subst hn
 have e1:=h.len w
 have e2:=h.cells
 rcases h.kind with ⟨e',hk⟩ | hk<;>cases Ad<;>simp [Builtin.append_,run_underlying ht,run_underlying hk,sizeOf,typeInfo,hi,e1,e2,storeCells,hm]
theorem App.ofInt {t tx ty te:TypeId} {k:IntKind} {e:Ty} {i:TypeInfo} {z:Value} {n:Nat} (hz0:e.size ≠ 0) (ht:P.underlying t=some (.slice te)) (hk:P.underlying tx=some (.int k)) (hi:P.info? te=some i) (hz:i.zero=some z) (hisz:i.size=e.size) (hby:i.bytes≤32768) (hzc:z.cells=(JE e).toArray) (hzl:(JE e).length=e.size) (hn:n≤4294967296) (hone:∀ u ∈ JW n (JE e),u.oneCell'=true) :
  App P t tx ty te i z (.int .i64 (n:Int)) n (JW n (JE e)) w:=by
 have hw:IntKind.i64.wrap (n:Int)=(n:Int):=by
  unfold IntKind.wrap
  simp [IntKind.signed,IntKind.bits]
  omega
 have hb1:(n:Int) * (i.bytes:Int)≤4294967296 * 32768:=Int.mul_le_mul (by omega) (by omega) (by omega) (by omega)
 have h1:¬ ((n:Int)<0):=by omega
 have h2:¬ (281474976710656<(n:Int) * (i.bytes:Int)):=by omega
 have hzr:Builtin.zeroCells (JE e).toArray n=(JW n (JE e)).toArray:=by
  have:=Wn (n:=n) hzl
  rw [← this];unfold Builtin.zeroCells;rw [List.size_toArray,hzl]
 refine ⟨fun h0 Ad m cap hm=>?_,fun b off m cap hr h3 h4=>?_,fun base m cap olds hold hg h63 hfit=>?_⟩
 ·subst h0
  have hw0:IntKind.i64.wrap 0=0:=by decide
  cases Ad<;>simp [Builtin.append_,run_underlying ht,run_underlying hk,sizeOf,typeInfo,hi,asInt,asIntOf,hw0,hm,storeCells]
 ·have hst:=run_storeCells_cells (P:=P) b (off + m * i.size) (JW n (JE e)) 0 w (by simpa using h3) (by simpa using h4) hone
  simp only [Nat.add_zero] at hst
  by_cases hn0:n=0
  ·subst hn0
   have hw0:IntKind.i64.wrap 0=0:=by decide
   have hr0:JW 0 (JE e)=[]:=rfl
   rw [hr0] at hst ⊢
   simp [storeCells] at hst
   simp [Builtin.append_,run_underlying ht,run_underlying hk,sizeOf,typeInfo,hi,asInt,asIntOf,hw0,show m≤cap by omega,storeCells,Addr.add_lit,← hst]
  ·have h5:¬ (n * i.size=0):=by rw [hisz];exact Nat.mul_ne_zero hn0 hz0
   have h6:¬ (n=0 ∨ i.size=0):=by rw [hisz];omega
   simp [Builtin.append_,run_underlying ht,run_underlying hk,sizeOf,typeInfo,zeroValue,hi,hz,hw,h1,h2,h5,h6,hr,asInt,asIntOf,hzc,hzr,Addr.add_lit,hst]
 ·have hn0:¬ (m + n≤cap):=by omega
  have h63':¬ (9223372036854775807<((m:Int) + (n:Int))):=by omega
  have h48':¬ (281474976710656<Builtin.nextslicecap (m + n) cap * i.bytes):=by omega
  by_cases hnz:n=0
  ·subst hnz
   have hw0:IntKind.i64.wrap 0=0:=by decide
   have hr0:JW 0 (JE e)=[]:=rfl
   rw [hr0]
   have hn0':¬ m≤cap:=by omega
   have h63'':¬ (9223372036854775807<(m:Int)):=by omega
   have h48'':¬ (281474976710656<Builtin.nextslicecap m cap * i.bytes):=by simpa using h48'
   simp [Builtin.append_,run_underlying ht,run_underlying hk,sizeOf,typeInfo,zeroValue,hi,hz,hw0,hn0',h63'',h48'',asInt,asIntOf,hold,Question.forced,newRow,grownCap]
  ·have h5:¬ (n * i.size=0):=by rw [hisz];exact Nat.mul_ne_zero hnz hz0
   have h6:¬ (n=0 ∨ i.size=0):=by rw [hisz];omega
   simp [Builtin.append_,run_underlying ht,run_underlying hk,sizeOf,typeInfo,zeroValue,hi,hz,hw,h1,h2,h5,h6,hn0,h63',h48',asInt,asIntOf,hold,Question.forced,newRow,grownCap,hzc,hzr]
   congr 2
   apply Array.ext'
   simp [List.append_assoc]
theorem SC {Fl Fs:List Nat} (hc:JK w bl G (Fl ++ (Fs ++ X)) w0 F0) {e:Ty} {t te tx ty:TypeId} (hp:e.plain=true) (hz:e.size ≠ 0) (hte:A.ty te=e) (hT:U3 P A.ty te)
  {Ad:Option Addr} {cap:Nat} {l xs:List D} {news:List Value} {vx:Value}
  (hl:UF true w (DIn true w e) e.size Ad cap l Fl) (hx:Row (DIn true w e) xs news Fs) (happ:∀ i z,P.info? te=some i→i.zero=some z→i.size=e.size→i.bytes≤32768→z.cells=(JE e).toArray→(JE e).length=e.size→App P t tx ty te i z vx xs.length news w) (hsz:l.length + xs.length≤4294967296) :
  ∃ v' w' F',(Builtin.append_ #[t,tx] ty #[.slice Ad l.length cap,vx]).run P w=.ok v' w'∧JK w' bl G (F' ++ X) w0 F0∧InV (Ja w' bl G (F' ++ X)) (.own e (l ++ xs)) [v'] F' ∧
   Jx (Ja w bl G (Fl ++ (Fs ++ X))) (Ja w' bl G (F' ++ X)) (fun _=>False):=by
 obtain ⟨i,z,hi,hiz,hisz,hby,hzc,hzl⟩:=Vz (P:=P) hp hte hT
 have hnl:news.length=xs.length * e.size:=Hh (fun d c G hd=>Ql e hd) hx
 have hone:∀ u ∈ news,u.oneCell'=true:=CJ (fun d c F=>H6 e) hx
 have hsrc:=happ i z hi hiz hisz hby hzc hzl
 have hnd:=hc.ok.xnd
 have hlt:=hc.ok.xlt
 have hbytes:(l.length + xs.length) * i.bytes≤140737488355328:=by
  have:(l.length + xs.length) * i.bytes≤4294967296 * 32768:=Nat.mul_le_mul hsz hby
  omega
 have grow:∀ (olds:List Value) (F':List Nat),Row (DIn true w e) l olds F'→F'.Sublist Fl→cap<l.length + xs.length→(Builtin.firstCells i.size l.length (.slice Ad l.length cap)).run P w.drew=.ok olds.toArray w.drew →
   ∃ v' w' F',(Builtin.append_ #[t,tx] ty #[.slice Ad l.length cap,vx]).run P w=.ok v' w'∧JK w' bl G (F' ++ X) w0 F0∧InV (Ja w' bl G (F' ++ X)) (.own e (l ++ xs)) [v'] F' ∧
    Jx (Ja w bl G (Fl ++ (Fs ++ X))) (Ja w' bl G (F' ++ X)) (fun _=>False):=by
  intro olds F' hrow hsub hg hold
  have hr:=hsrc.grow Ad l.length cap olds hold hg (by omega) (growslice_fits hg hbytes)
  obtain ⟨d1,d2⟩:=hc.drew
  have hndd:(F' ++ (Fs ++ X)).Nodup:=(hsub.append_right (Fs ++ X)).nodup hnd
  obtain ⟨s1,s2⟩:=d1.sub hndd (fun b hb=>(hsub.append_right (Fs ++ X)).subset hb)
  have hge:=grownCap_ge w (l.length + xs.length) cap te
  generalize hN:grownCap w (l.length + xs.length) cap te=N at hr hge
  have hcells:(olds ++ news).toArray ++ Builtin.zeroCells z.cells (N - (l.length + xs.length))=((olds ++ news) ++ (Builtin.zeroCells z.cells (N - (l.length + xs.length))).toList).toArray:=by
   apply Array.ext';simp
  rw [hcells] at hr
  obtain ⟨k1,k2⟩:=s1.alloc (.cells ((olds ++ news) ++ (Builtin.zeroCells z.cells (N - (l.length + xs.length))).toList).toArray te)
  have hrl:Row (DIn true w.drew e) l olds F':=Ws (w:=w) (w':=w.drew) (Nat.le_refl _) (fun b hb=>rfl) hrow
  have hrx:Row (DIn true w.drew e) xs news Fs:=Ws (w:=w) (w':=w.drew) (Nat.le_refl _) (fun b hb=>rfl) hx
  have hXe:(w.heap.size :: (F' ++ Fs)) ++ X=w.heap.size :: (F' ++ (Fs ++ X)):=by simp
  have hzl2:(Builtin.zeroCells z.cells (N - (l.length + xs.length))).toList.length=(N - (l.length + xs.length)) * e.size:=by rw [Array.length_toList,size_zeroCells,hzc,List.size_toArray,hzl]
  refine ⟨_,_,w.heap.size :: (F' ++ Fs),hr,?_,?_,?_⟩
  ·rw [hXe]
   exact k1
  ·have hrow2:=OJ hrl hrx
   have hw2:Row (DIn true (w.drew.alloc (.cells ((olds ++ news) ++ (Builtin.zeroCells z.cells (N - (l.length + xs.length))).toList).toArray te)) e) (l ++ xs) (olds ++ news) (F' ++ Fs):=by
    refine Ws (by simp) (fun b hb=>?_) hrow2
    have hb':b<w.drew.heap.size:=by
     refine s1.ok.xlt b ?_
     rw [← List.append_assoc]
     exact List.mem_append.2 (.inl hb)
    exact Go.RowKit.Below.heap_alloc _ _ _ hb'
   have hol:olds.length=l.length * e.size:=Hh (fun d c G hd=>Ql e hd) hrow
   have:=YQ (te:=te) (E:=Ja (w.drew.alloc (.cells ((olds ++ news) ++ (Builtin.zeroCells z.cells (N - (l.length + xs.length))).toList).toArray te)) bl G ((w.heap.size :: (F' ++ Fs)) ++ X)) (w1:=w.drew) (c:=N) hp rfl hw2 (by simp;exact hge) (by
    rw [hzl2,List.length_append,hol,hnl]
    rw [← Nat.add_mul,← Nat.add_mul]
    congr 1
    omega)
   simpa using this
  ·rw [hXe]
   exact (d2.trans s2).trans k2
 rcases hl with ⟨h1,h2,h3⟩ | ⟨ad,cs,F',h1,h2,h3,h4,h5,h6,h7⟩
 ·subst h1;subst h2;subst h3
  by_cases hx0:xs.length=0
  ·have hxs:xs=[]:=List.eq_nil_of_length_eq_zero hx0
   subst hxs
   obtain ⟨rfl,rfl⟩:=hx
   refine ⟨.slice Ad 0 0,w,[],?_,by simpa using hc,?_,by simpa using Jx.refl_ _ _⟩
   ·exact hsrc.zero rfl Ad 0 0 (Nat.le_refl _)
   ·unfold InV
    exact ⟨hp,Ad,0,rfl,.inl ⟨rfl,rfl,rfl⟩⟩
  ·refine grow [] [] ⟨rfl,rfl⟩ (List.Sublist.refl _) (by simp;omega) ?_
   cases Ad with
   | none=>simp [Builtin.firstCells]
   | some ad=>exact run_firstCells_some w.drew i.size 0 ad 0 0 [] (by simp) (by simp)
 ·subst h1
  have hcl:cs.length=l.length * e.size:=Hh (fun d c G hd=>Ql e hd) h2
  by_cases hroom:l.length + xs.length≤cap
  ·by_cases hx0:xs.length=0
   ·have hxs:xs=[]:=List.eq_nil_of_length_eq_zero hx0
    subst hxs
    obtain ⟨rfl,rfl⟩:=hx
    refine ⟨.slice (some ad) l.length cap,w,Fl,?_,by simpa using hc,?_,by simpa using Jx.refl_ _ _⟩
    ·exact hsrc.zero rfl (some ad) l.length cap h5
    ·unfold InV
     refine ⟨hp,some ad,cap,by simp,.inr ⟨ad,cs,F',rfl,by rw [List.append_nil];exact h2,h3,h4,by rw [List.append_nil];exact h5,h6,h7⟩⟩
   ·have hun:=h7 rfl
    have hcap0:cap * e.size ≠ 0:=by
     have:0<cap:=by omega
     exact Nat.mul_ne_zero (by omega) hz
    have hsp:=U6 hun hcap0
    have hadd:=C5 hsp
    have had:ad=⟨ad.block,ad.off,none⟩:=by cases ad;simp_all
    have hfit:l.length * e.size + news.length≤cap * e.size:=by rw [hnl,← Nat.add_mul];exact Nat.mul_le_mul_right _ hroom
    have hun2:QH w (ad.add (l.length * e.size)) news.length:=CI hun hfit
    have hr:=hsrc.room ad.block ad.off l.length cap hroom
     (fun j hj=>by
      obtain ⟨⟨u,hu⟩,_⟩:=hun2 j hj
      rw [Hf,hadd] at hu
      rw [hisz,Nat.add_assoc,hu];rfl)
     (fun j hj=>by
      obtain ⟨_,hu⟩:=hun2 j hj
      rw [Hf,hadd] at hu
      rw [hisz,Nat.add_assoc,hu])
    rw [← had] at hr
    rw [hisz] at hr
    have hbl:ad.block ∈ Fl:=by rw [h4];simp
    have hsz':(w.setCells ad.block (ad.off + l.length * e.size) news).heap.size=w.heap.size:=Hl _ _ _ _
    obtain ⟨e1,e2,e3⟩:=OI ad.block news (ad.off + l.length * e.size) w
    have hpm:(Fl ++ (Fs ++ X)).Perm ((ad.block :: (F' ++ Fs)) ++ X):=by rw [h4];simp
    obtain ⟨k1,k2⟩:=hc.world (w':=w.setCells ad.block (ad.off + l.length * e.size) news) (X':=(ad.block :: (F' ++ Fs)) ++ X) (by rw [hsz'];exact Nat.le_refl _) (fun b hb hbX=>HN _ _ (fun e=>hbX (by rw [e];exact List.mem_append.2 (.inl hbl))) _ _ _)
     ((hpm.nodup_iff).1 hnd) (fun b hb=>⟨by rw [hsz'];exact hlt b ((hpm.mem_iff).2 hb),.inl ((hpm.mem_iff).2 hb)⟩) e1 e2 e3
    refine ⟨_,_,ad.block :: (F' ++ Fs),hr,k1,?_,k2⟩
    have hnd2:=(hpm.nodup_iff).1 hnd
    have hnotF:ad.block ∉ F' ++ Fs:=fun hm=>(List.nodup_cons.1 hnd2).1 (List.mem_append.2 (.inl hm))
    have hsame:QL w (w.setCells ad.block (ad.off + l.length * e.size) news) (F' ++ Fs):=fun b hb=>HN _ _ (fun e=>hnotF (by rw [← e];exact hb)) _ _ _
    unfold InV
    refine ⟨hp,some ad,cap,by simp,.inr ⟨ad,cs ++ news,F' ++ Fs,rfl,?_,?_,rfl,by simpa using hroom,by show _<(World.setCells _ _ _ _).heap.size;rw [hsz'];exact h6,fun _=>?_⟩⟩
    ·exact Ws (by show w.heap.size≤(World.setCells _ _ _ _).heap.size;rw [hsz'];exact Nat.le_refl _) hsame (OJ h2 hx)
    ·have hat:=Vx (w:=w) (ad:=ad.add (l.length * e.size)) (cs:=news) (U6 hun2) hun2
     rw [QZ] at hat
     have hoff:(ad.add (l.length * e.size)).off=ad.off + l.length * e.size:=Oz _ _
     rw [hoff] at hat
     refine Wb ?_ (by rw [hcl];exact hat)
     intro j v hj
     have hv:=h3 j v hj
     have hjl:=(List.getElem?_eq_some_iff.1 hj).1
     show (World.setCells _ _ _ _).cell? _=_
     rw [Wp _ _ _ _ _ (by rw [Oz];omega)]
     exact hv
    ·intro j hj
     obtain ⟨⟨u,hu⟩,hf⟩:=hun j hj
     have hpart:=Vw (w:=w) (ad:=ad.add (l.length * e.size)) (n:=news.length) (cs:=news) (U6 hun2) hun2 rfl
     rw [QZ,Oz] at hpart
     exact Xi (a:=ad) (i:=l.length * e.size) hpart hun j hj
  ·refine grow cs F' h2 ?_ (by omega) ?_
   ·rw [h4];exact List.sublist_cons_self _ _
   ·exact run_firstCells_some w.drew i.size l.length ad l.length cap cs (by rw [hisz];exact hcl) (fun j v hj=>by rw [World.cell?_drew];exact h3 j v hj)
theorem SD {Fl Fs:List Nat} (hc:JK w bl G (Fl ++ (Fs ++ X)) w0 F0) {e:Ty} {t te tx e' ty:TypeId} (hp:e.plain=true) (hz:e.size ≠ 0) (hte:A.ty te=e) (hT:U3 P A.ty te)
  (ht:P.underlying t=some (.slice te)) (hk:P.underlying tx=some (.slice e')) {Ad:Option Addr} {cap:Nat} {l xs:List D} {news:List Value} {vx:Value}
  (hl:UF true w (DIn true w e) e.size Ad cap l Fl) (hx:Row (DIn true w e) xs news Fs) (hfed:Fed w vx xs.length news) (hsz:l.length + xs.length≤4294967296) :
  ∃ v' w' F',(Builtin.append_ #[t,tx] ty #[.slice Ad l.length cap,vx]).run P w=.ok v' w'∧JK w' bl G (F' ++ X) w0 F0∧InV (Ja w' bl G (F' ++ X)) (.own e (l ++ xs)) [v'] F' ∧
   Jx (Ja w bl G (Fl ++ (Fs ++ X))) (Ja w' bl G (F' ++ X)) (fun _=>False):=by
 have hnl:news.length=xs.length * e.size:=Hh (fun d c G hd=>Ql e hd) hx
 have hone:∀ u ∈ news,u.oneCell'=true:=CJ (fun d c F=>H6 e) hx
 refine SC hc hp hz hte hT hl hx (fun i z hi hiz hisz _ _ _=>App.ofSrc ht hi hiz (hfed.src hk (by rw [hisz];exact hnl) hone)) hsz
end
end Go.Rai
namespace Go.Rai
variable [Inhabited Qi]
section
variable {P:Program} {A:Ann} {w w' w0:World} {F0:List Nat} {sl:List V} {a:Act} {bl b':BL} {G:GT} {o:Oper} {X:List Nat}
theorem jc {e:Ty} (hp:e.plain=true) {F:List Nat} {v:V} {cs:List Value} {d:D} {c:List Jk} (hc:JK w bl G (F ++ X) w0 F0) (hv:InV (Ja w bl G (F ++ X)) v cs F) (h:Yj e bl v=some (c,d,b')) (hk:∀ k ∈ c,k.ok) :
  CK w (Ja w bl G (F ++ X)) w0 F0 X b' (fun E F'=>DIn true w e d cs F'):=by
 unfold Yj at h
 split at h
 ·rename_i c2 x b2 hin
  split at h
  ·rename_i hb
   simp only [oj,pj] at h
   obtain ⟨rfl,rfl,rfl⟩:=h
   rw [Jd] at hb
   obtain ⟨F',G',q1,q2,q3⟩:=(C7 9).1 hc (Vt e hv) hin hk
   exact ⟨F',G',q1,Ve e (Vy hp hb.2 hb.1) q2,q3⟩
  ·simp at h
 ·simp at h
theorem SE {e:Ty} (hp:e.plain=true):∀ {vs:List V} {bl b':BL} {G:GT} {X F:List Nat} {cs:List Value} {ds:List D} {c:List Jk},JK w bl G (F ++ X) w0 F0→Jj (Ja w bl G (F ++ X)) vs cs F→CV e bl vs=some (c,ds,b')→(∀ k ∈ c,k.ok) →
  CK w (Ja w bl G (F ++ X)) w0 F0 X b' (fun E F'=>Row (DIn true w e) ds cs F')
 | [],bl,b',G,X,F,cs,ds,c,hc,hv,h,hk=>by
  simp only [CV,oj,pj] at h
  obtain ⟨rfl,rfl,rfl⟩:=h
  unfold Jj at hv
  exact ⟨F,G,hc,hv,Jx.refl_ _ _⟩
 | v :: vs,bl,b',G,X,F,cs,ds,c,hc,hv,h,hk=>by
  simp only [CV] at h
  split at h
  ·rename_i c1 d1 b1 h1
   split at h
   ·rename_i c2 ds2 b2 h2
    simp only [oj,pj] at h
    obtain ⟨rfl,rfl,rfl⟩:=h
    obtain ⟨hk1,hk2⟩:=QU hk
    unfold Jj at hv
    obtain ⟨cs1,cs2,F1,F2,rfl,rfl,i1,i2⟩:=hv
    obtain ⟨p1,p2⟩:=hc.perm (show ((F1 ++ F2) ++ X).Perm (F1 ++ (F2 ++ X)) by rw [List.append_assoc])
    obtain ⟨F1',G1,q1,q2,q3⟩:=jc hp p1 (p2.inV (fun _ _=>id) (fun _ _=>rfl) i1) h1 hk1
    obtain ⟨r1,r2⟩:=q1.perm (show (F1' ++ (F2 ++ X)).Perm (F2 ++ (F1' ++ X)) by
     rw [← List.append_assoc,← List.append_assoc]
     exact List.Perm.append_right X List.perm_append_comm)
    have g1:=(p2.trans q3).trans r2
    obtain ⟨F2',G2,s1,s2,s3⟩:=SE hp r1 (HL g1.le vs (fun s _=>g1.al s id) (fun b _=>rfl) i2) h2 hk2
    obtain ⟨t1,t2⟩:=s1.perm (show (F2' ++ (F1' ++ X)).Perm ((F1' ++ F2') ++ X) by
     rw [← List.append_assoc]
     exact List.Perm.append_right X List.perm_append_comm)
    exact ⟨F1' ++ F2',G2,t1,⟨cs1,cs2,F1',F2',rfl,rfl,q2,s2⟩,(g1.trans s3).trans t2⟩
   ·simp at h
  ·simp at h
theorem SF {e:Ty}:∀ {b b':BL} {vs:List V} {ws:List D} {c:List Jk},CV e b vs=some (c,ws,b')→ws.length=vs.length
 | b,b',[],ws,c,h=>by simp [CV] at h;rw [h.2.1];rfl
 | b,b',v :: vs,ws,c,h=>by
  simp only [CV] at h
  split at h
  ·split at h
   ·rename_i h2
    simp only [oj,pj] at h
    obtain ⟨_,rfl,_⟩:=h
    simp [SF h2]
   ·simp at h
  ·simp at h
theorem OK (hc:JX w bl G w0 F0) {e:Ty} {x:V} {vx:Value} (hx:Val (Ja w bl G []) x vx []) {c:List Jk} {xs:List D} (hp:e.plain=true) (h:Q1 e bl x=some (c,xs,b')) (hk:∀ k ∈ c,k.ok) :
  CK w (Ja w bl G []) w0 F0 [] b' (fun E F'=>∃ news,Row (DIn true w e) xs news F'∧Fed w vx xs.length news):=by
 have flatE:∀ {c:List Jk} {l:List D},e.flat=true→UX bl x=some (c,e,l)→(∀ k ∈ c,k.ok)→CK w (Ja w bl G []) w0 F0 [] bl (fun E F'=>∃ news,Row (DIn true w e) l news F'∧Fed w vx l.length news):=by
  intro c l hf he hk
  obtain ⟨Ad,cap,F,h1,h2,h3,h4⟩:=Wh hc hx he hk
  rcases h2 with ⟨g1,g2,g3⟩ | ⟨ad,cs,F',g1,g2,g3,g4,g5,g6,_⟩
  ·subst g1
   exact ⟨[],G,hc.x,⟨[],⟨rfl,rfl⟩,Ad,cap,h1,fun hn=>absurd rfl hn⟩,Jx.refl_ _ _⟩
  ·have hrow:Row (DIn true w e) l cs F':=HK (fun d _ c G' _ hd=>Xd e hf hd) g2
   have hF:F'=[]:=Hi (fun d c G' hd=>Hj e hf hd) g2
   subst hF
   exact ⟨[],G,hc.x,⟨cs,hrow,Ad,cap,h1,fun _=>⟨ad,g1,g3⟩⟩,Jx.refl_ _ _⟩
 unfold Q1 at h
 split at h
 ·simp only [oj,pj] at h
  obtain ⟨rfl,rfl,rfl⟩:=h
  obtain ⟨rfl,_⟩:=OF.1 hx
  exact ⟨[],G,hc.x,⟨[],⟨rfl,rfl⟩,none,0,rfl,fun hn=>absurd rfl hn⟩,Jx.refl_ _ _⟩
 ·rename_i e1
  simp only [oj,pj] at h
  obtain ⟨rfl,rfl,rfl⟩:=h
  have hx':=(JM rfl (by simp) (by simp)).1 hx
  unfold InV at hx'
  obtain ⟨⟨Ad,hx'⟩,_⟩:=hx'
  simp only [List.cons.injEq,and_true] at hx'
  exact ⟨[],G,hc.x,⟨[],⟨rfl,rfl⟩,Ad,0,hx',fun hn=>absurd rfl hn⟩,Jx.refl_ _ _⟩
 ·rename_i s p e1
  split at h
  ·rename_i c1 e2 vs hg
   split at h
   ·split at h
    ·rename_i c2 ds b2 hin
     simp only [oj,pj] at h
     obtain ⟨rfl,rfl,rfl⟩:=h
     obtain ⟨hk1,hk2⟩:=QU hk
     obtain ⟨c0,rc,F,i1,i2,i3,_⟩:=Uv hc hg hk1
     have hc0:c0=.lst e2 vs:=by
      simp only [V.get,oj,pj] at i3
      exact i3.2
     subst hc0
     have ht:QS bl s []=some (.lst e2 vs,Qh bl s):=by unfold QS;rw [i1]
     obtain ⟨c0',rc',Fs,Lv,csv,Fv,G',k1,k2,k3,k4,k5,k6,k7,k8⟩:=C6 hc.x ht
     have hh:=H3 hx k1 k2 k3 rfl
     unfold InV at k6
     obtain ⟨ad,cc,cs',F',hcs',hlc,hes,hin',hca,hF,hbl,hun⟩:=k6
     rw [hcs'] at k4
     have hhd:=JL k4
     rw [show (Ja w bl G []).w=w from rfl,hhd] at hh
     simp only [oj] at hh
     subst hF
     have hnd:=k7.ok.xnd
     obtain ⟨p1,p2⟩:=k7.sub (X':=F' ++ []) (by simpa using (List.nodup_cons.1 (by simpa using hnd)).2) (fun b hb=>by simp at hb ⊢;exact .inr hb)
     obtain ⟨F2,G2,q1,q2,q3⟩:=SE hp (X:=[]) (F:=F') p1 (HL p2.le vs (fun s _=>p2.al s id) (fun b _=>rfl) hin') hin hk2
     have hlen:ds.length=vs.length:=by
      exact SF hin
     exact ⟨F2,G2,q1,⟨cs',q2,some ad,cc,by rw [hlen];exact hh.symm,fun _=>⟨ad,rfl,hca⟩⟩,(k8.trans p2).trans q3⟩
    ·simp at h
   ·simp at h
  ·rename_i c1 e2 l hg
   split at h
   ·rename_i hbeq
    have hee:=Ty.beq_eq _ _ hbeq
    subst hee
    split at h
    ·rename_i hf
     simp only [oj,pj] at h
     obtain ⟨rfl,rfl,rfl⟩:=h
     exact flatE hf (by simp [UX,hg]) hk
    ·split at h
     ·rename_i v2 b2 ht
      simp only [oj,pj] at h
      obtain ⟨rfl,rfl,rfl⟩:=h
      obtain ⟨c0,rc,F,i1,i2,i3,Lx,csx,Fx,i4,_⟩:=Uv hc hg hk
      obtain ⟨c0',rc',Fs,Lv,csv,Fv,G',k1,k2,k3,k4,k5,k6,k7,k8⟩:=C6 hc.x ht
      rw [i1] at k1;simp only [oj] at k1;subst k1
      rw [i2] at k2;simp only [oj,pj] at k2;obtain ⟨rfl,rfl⟩:=k2
      rw [i4] at k3;simp only [oj,pj] at k3;obtain ⟨rfl,rfl⟩:=k3
      have hh:=H3 hx i1 i2 i4 rfl
      unfold InV at k6
      obtain ⟨_,Ad,cap,hcs',hsl⟩:=k6
      rw [hcs'] at k4
      have hhd:=JL k4
      rw [show (Ja w bl G []).w=w from rfl,hhd] at hh
      simp only [oj] at hh
      rcases hsl with ⟨g1,g2,g3⟩ | ⟨ad,cs,F',g1,g2,g3,g4,g5,g6,_⟩
      ·subst g1;subst g3
       exact ⟨[],G',k7,⟨[],⟨rfl,rfl⟩,Ad,cap,hh.symm,fun hn=>absurd rfl hn⟩,k8⟩
      ·subst g4
       have hnd:=k7.ok.xnd
       obtain ⟨p1,p2⟩:=k7.sub (X':=F' ++ []) (by simpa using (List.nodup_cons.1 (by simpa using hnd)).2) (fun b hb=>by simp at hb ⊢;exact .inr hb)
       exact ⟨F',G',p1,⟨cs,g2,Ad,cap,hh.symm,fun _=>⟨ad,g1,g3⟩⟩,k8.trans p2⟩
     ·simp at h
   ·simp at h
  ·simp at h
 ·split at h
  ·rename_i hf
   split at h
   ·rename_i c1 e2 l he
    split at h
    ·rename_i hbeq
     have hee:=Ty.beq_eq _ _ hbeq
     subst hee
     simp only [oj,pj] at h
     obtain ⟨rfl,rfl,rfl⟩:=h
     exact flatE hf he hk
    ·simp at h
   ·simp at h
  ·simp at h
theorem YV (hc:JK w bl G X w0 F0) {s:Nat} {p:List Nat} {c0:V} {rc:List Value} {F:List Nat} {e:Ty} {l xs:List D} {Lx:Ji} {Ad:Option Addr} {n k i:Nat} {news:List Value}
  (hl:Jb bl s=some c0) (hg:G s=some (rc,F)) (hloc:Je w c0 (.reg rc) p=some (.own e l,Lx)) (hhd:Lx.head w=some (.slice Ad n k)) (hf:e.flat=true) (hz:e.size ≠ 0)
  (hi:i + xs.length≤l.length) (hrow:Row (DIn true w e) xs news []) (hgt:(c0.get p).isSome=true) :
  ∃ w' G',(xs=[]→w'=w)∧(∀ ad,Ad=some ad→w'=w.setCells ad.block (ad.off + i * e.size) news∧(xs ≠ []→QH w (ad.add (i * e.size)) news.length∧ad.spot=none))∧(xs ≠ []→∃ ad,Ad=some ad)∧l.length≤k ∧
   JK w' (Jp bl s (c0.set p (.own e (l.take i ++ xs ++ l.drop (i + xs.length))))) G' X w0 F0∧(∃ F2,G' s=some (rc,F2)) ∧
   Jx (Ja w bl G X) (Ja w' (Jp bl s (c0.set p (.own e (l.take i ++ xs ++ l.drop (i + xs.length))))) G' X) (fun _=>False):=by
 obtain ⟨csx,Fx,Fr,m1,m2,m3,m4,m5⟩:=hc.modify hl hg hloc hgt
 obtain ⟨rc',F',F1,g1,g2,g3,g4,g5⟩:=hc.ok.root s c0 hl
 rw [hg] at g1;simp only [oj,pj] at g1;obtain ⟨rfl,rfl⟩:=g1
 have hnd:=(m3.nodup_iff).1 g4
 have m1':=m1
 unfold InV at m1'
 obtain ⟨hp,Ad',k',hcs,hsl⟩:=m1'
 have hnews:news.length=xs.length * e.size:=Hh (fun d c G hd=>Ql e hd) hrow
 have hhd':Lx.head w=some (.slice Ad' l.length k'):=JL (by rw [← hcs];exact m2)
 rw [hhd] at hhd'
 simp only [oj,Value.slice.injEq] at hhd'
 obtain ⟨rfl,rfl,rfl⟩:=hhd'
 have hlen':(l.take i ++ xs ++ l.drop (i + xs.length)).length=l.length:=by simp;omega
 have hndX:(Fx ++ X).Nodup:=List.nodup_append.2 ⟨(List.nodup_append.1 hnd).2.1,hc.ok.xnd,fun a ha b hb hab=>by subst hab;exact (g5 a ((m3.mem_iff).2 (by simp [ha]))).2 hb⟩
 have hlt':∀ (w':World),w'.heap.size=w.heap.size→∀ b ∈ Fx ++ X,b<w'.heap.size∧(b ∈ Fx ∨ b ∈ X ∨ w.heap.size≤b):=by
  intro w' hw b hb
  rw [hw]
  rcases List.mem_append.1 hb with q | q
  ·exact ⟨(g5 b ((m3.mem_iff).2 (by simp [q]))).1,.inl q⟩
  ·exact ⟨hc.ok.xlt b q,.inr (.inl q)⟩
 rcases hsl with ⟨h1,h2,h3⟩ | ⟨ad,cs,F',h1,h2,h3,h4,h5,h6,h7⟩
 ·-- nothing there
  subst h1;subst h3
  obtain ⟨hi0,hxs⟩:i=0∧xs=[]:=by simpa using hi
  subst hxs
  subst hi0
  obtain ⟨rfl,_⟩:=hrow
  obtain ⟨p1,p2⟩:=m5 w (.own e ([].take 0 ++ [] ++ [].drop (0 + 0))) csx [] X rfl (fun _ t ht=>by cases t<;>simp [shp] at ht;simpa [shp] using ht) (Nat.le_refl _) (fun _ _ _ _ _=>rfl) (fun _ _=>.inr (.inr trivial))
   (by cases Lx with
     | reg _=>exact True.intro
     | mem a=>exact fun b _ _=>⟨fun _=>rfl,rfl,fun h=>h⟩) m2 (fun _=>rfl) (by simpa using hc.ok.xnd) (by intro b hb;exact ⟨hc.ok.xlt b (by simpa using hb),.inr (.inl (by simpa using hb))⟩)
   Uh.refl rfl rfl rfl (fun _ _ _ _=>rfl) (fun hle=>UZ hle _ (fun s _ c' rc' F' hlk=>by simp [Jb] at hlk) (fun b hb=>rfl) m1) (fun hgo=>hgo.inV (fun _ _=>id) (fun _ _=>rfl) m1)
  refine ⟨w,_,fun _=>rfl,fun ad _=>⟨rfl,fun h=>absurd rfl h⟩,fun h=>absurd rfl h,Nat.zero_le _,p1,?_,p2⟩
  exact ⟨_,if_pos rfl⟩
 ·subst h1
  have hF':F'=[]:=Hi (fun d c G hd=>Hj e hf hd) h2
  subst hF'
  have hcl:cs.length=l.length * e.size:=Hh (fun d c G hd=>Ql e hd) h2
  have hbl:ad.block ∈ Fx:=by rw [h4];simp
  have hun:=h7 rfl
  obtain ⟨c1,c2,G1,G2,i1,i2,i3,i4,i5⟩:=OE (fun d c G hd=>Ql e hd) (n:=i) h2 (by omega)
  obtain ⟨d1,d2,K1,K2,j1,j2,j3,j4,j5⟩:=OE (fun d c G hd=>Ql e hd) (n:=xs.length) i5 (by simp;omega)
  subst i1;subst j1
  have hG1:G1=[]:=Hi (fun d c G hd=>Hj e hf hd) i4
  have hK2:K2=[]:=Hi (fun d c G hd=>Hj e hf hd) j5
  subst hG1;subst hK2
  have hfit:i * e.size + news.length≤k * e.size:=by rw [hnews,← Nat.add_mul];exact Nat.mul_le_mul_right _ (by omega)
  have hun2:QH w (ad.add (i * e.size)) news.length:=CI hun hfit
  have hsz':(w.setCells ad.block (ad.off + i * e.size) news).heap.size=w.heap.size:=Hl _ _ _ _
  obtain ⟨e1,e2,e3⟩:=OI ad.block news (ad.off + i * e.size) w
  have hmem:∀ b,b<w.heap.size→b ∉ Fx→(∀ a,Lx=.mem a→b ≠ a.block)→(w.setCells ad.block (ad.off + i * e.size) news).heap[b]?=w.heap[b]?:=
   fun b hb hbF _=>HN _ _ (fun e=>hbF (by rw [e];exact hbl)) _ _ _
  have hLx:∀ a,Lx=.mem a→(w.setCells ad.block (ad.off + i * e.size) news).heap[a.block]?=w.heap[a.block]?:=by
   intro a ha
   refine HN _ _ (fun e=>?_) _ _ _
   rcases m4 with ⟨a',ha',hin⟩ | ⟨ds,hds⟩
   ·rw [ha] at ha';cases ha'
    exact (List.nodup_append.1 hnd).2.2 _ hin _ hbl e
   ·rw [ha] at hds;cases hds
  have hpart:=Vw (w:=w) (ad:=ad.add (i * e.size)) (n:=news.length) (cs:=news) (U6 hun2) hun2 rfl
  have hat:=Vx (w:=w) (ad:=ad.add (i * e.size)) (cs:=news) (U6 hun2) hun2
  rw [QZ,Oz] at hpart hat
  have hnew:InV (Ja (w.setCells ad.block (ad.off + i * e.size) news) bl G X) (.own e (l.take i ++ xs ++ l.drop (i + xs.length))) csx Fx:=by
   unfold InV
   refine ⟨hp,some ad,k,by rw [hlen'];exact hcs,.inr ⟨ad,c1 ++ (news ++ d2),[],rfl,?_,?_,h4,by rw [hlen'];exact h5,by show _<(World.setCells _ _ _ _).heap.size;rw [hsz'];exact h6,fun _=>?_⟩⟩
   ·have r1:=OJ (OJ i4 hrow) j5
    rw [List.drop_drop,List.append_assoc c1] at r1
    exact Ws (w:=w) (by show w.heap.size≤(World.setCells _ _ _ _).heap.size;rw [hsz'];exact Nat.le_refl _) (fun b hb=>by cases hb) r1
   ·refine Wb ?_ (Wb (by rw [i3];exact hat) ?_)
    ·exact TI hpart (fun j v hj=>h3 j v (by rw [List.getElem?_append_left (List.getElem?_eq_some_iff.1 hj).1];exact hj)) (by rw [i3];exact Nat.le_refl _)
    ·rw [Hf,i3]
     refine TJ hpart ?_ (Nat.le_refl _)
     have:=QI (L:=.mem ad) (w:=w) (c1:=c1 ++ d1) (c:=d2) (c2:=[]) (by rw [List.append_nil,List.append_assoc];exact h3)
     rw [List.length_append,i3,j3,← hnews] at this
     exact this
   ·exact Xi hpart hun
  have hkeep:Lx.holds (w.setCells ad.block (ad.off + i * e.size) news) csx:=by
   cases hLxe:Lx with
   | reg ds=>rw [hLxe] at m2;exact m2
   | mem a=>
    rw [hLxe] at m2
    exact Hx (hLx a hLxe) m2
  have hps:UP w (w.setCells ad.block (ad.off + i * e.size) news) Lx (vsz (.own e l)):=by
   cases hLxe:Lx with
   | reg ds=>exact True.intro
   | mem a=>
    intro b hb hs
    have hbb:=hLx a hLxe
    rw [← hb] at hbb
    exact ⟨fun _=>Ow hbb,Yq hbb,fun ⟨v,hv⟩=>⟨v,by rw [Ow hbb];exact hv⟩⟩
  have hhd2:Lx.head (w.setCells ad.block (ad.off + i * e.size) news)=some (.slice (some ad) l.length k):=by
   have:=JL (by rw [← hcs];exact hkeep)
   exact this
  obtain ⟨p1,p2⟩:=m5 (w.setCells ad.block (ad.off + i * e.size) news) (.own e (l.take i ++ xs ++ l.drop (i + xs.length))) csx Fx X rfl (fun _ t ht=>by cases t<;>simp [shp] at ht;simpa [shp] using ht) (by rw [hsz'];exact Nat.le_refl _)
   (fun b hb hbF _ hba=>hmem b hb hbF hba) (fun _ _=>.inr (.inr trivial)) hps hkeep (fun _=>rfl) hndX (hlt' _ hsz')
   (by
    intro q x' L' hq
    cases q with
    | nil=>
     simp only [Je,oj,pj] at hq
     obtain ⟨rfl,rfl⟩:=hq
     exact ⟨_,rfl,fun _=>⟨rfl,by rw [hhd2,hhd]⟩⟩
    | cons j q=>
     simp only [Je] at hq ⊢
     split at hq
     ·rename_i hj
      rw [hlen'] at hj
      rw [hhd2] at hq
      rw [if_pos hj,hhd]
      simp only at hq ⊢
      have hnew':=hnew
      unfold InV at hnew'
      obtain ⟨_,A3,k3,hcs3,hsl3⟩:=hnew'
      rcases hsl3 with ⟨z1,_⟩ | ⟨ad3,cs3,F3,_,z2,_⟩
      ·rw [z1] at hlen';simp at hlen';omega
      ·obtain ⟨_,_,_,_,_,_,_,_,_,f4,_⟩:=U1 (fun d c G hd=>Ql _ hd) z2 (show j<_ by rw [hlen'];exact hj)
       obtain ⟨_,_,_,_,_,_,_,_,_,e4,_⟩:=U1 (fun d c G hd=>Ql _ hd) h2 hj
       obtain ⟨y',r1,r2⟩:=Xs (E:=Ja (w.setCells ad.block (ad.off + i * e.size) news) bl G X) (E':=Ja w bl G X) q (Wq (Vd e _ hp)) (Wq (Vd e _ hp)) (Wr e _ hf) (Wr e _ hf) (UO e hp f4) (UO e hp e4) hq
       exact ⟨y',r1,fun ho=>by rw [r2] at ho;cases ho⟩
     ·simp at hq) e1 e2 e3 hmem
   (fun hle=>by
    unfold InV at hnew ⊢
    exact hnew)
   (fun hgo=>by
    unfold InV at hnew ⊢
    exact hnew)
  refine ⟨_,_,?_,?_,fun _=>⟨ad,rfl⟩,h5,p1,⟨_,if_pos rfl⟩,p2⟩
  ·intro hxs
   subst hxs
   have:news=[]:=List.eq_nil_of_length_eq_zero (by rw [hnews];simp)
   rw [this];rfl
  ·intro ad' hadd
   cases hadd
   refine ⟨rfl,fun hxs=>⟨hun2,?_⟩⟩
   have hnz:news.length ≠ 0:=by
    rw [hnews]
    exact Nat.mul_ne_zero (fun h0=>hxs (List.eq_nil_of_length_eq_zero h0)) hz
   exact U6 hun (by omega)
end
end Go.Rai
namespace Go.Rai
variable [Inhabited Qi]
section
variable {P:Program} {A:Ann} {w w' w0:World} {F0:List Nat} {sl:List V} {a:Act} {bl b':BL} {G:GT} {o:Oper} {X:List Nat}
theorem VA {c:Call} {f:Builtin} {xs:List Operand} {R:Result Next} (h:o.op=.call c) (hcal:c.callee=.builtin f) (hargs:c.args.toList=xs)
  (hr:∀ cs,(builtin f c.argTypes o.type cs (xs.map a.eval).toArray).run P w=R):(execOp a.eval o).run P w=R:=by
 have:c.args=xs.toArray:=by apply Array.toList_inj.1;rw [hargs]
 rw [← hr (xs.map fun x=>match x with | .const _=>true | _=>false).toArray]
 simp [execOp,h,resolve,hcal,this,invoke]
 rfl
theorem jd {E E':Env} (hgo:Jx E E' (fun _=>False)) {s:Nat} {p:List Nat} {c0:V} {rc:List Value} {F:List Nat} {x0:V} {Lx:Ji} {A A':Option Addr} {n k off len:Nat} {e:Ty}
  (hl:Jb E.bl s=some c0) (hg:E.G s=some (rc,F)) (hloc:Je E.w c0 (.reg rc) p=some (x0,Lx)) (hhd:Lx.head E.w=some (.slice A n k)) (hle:off + len≤k) (hA:off<k→∃ a,A=some a∧A'=some (a.add (off * e.size))) :
  InV E' (.sub s p off len e) [.slice A' len (k - off)] []:=by
 unfold InV
 refine ⟨rfl,⟨A',k - off,rfl,by omega⟩,fun c rc' F0 k1 k2 x L k3 k4=>?_⟩
 obtain ⟨c1,F1,g1,g2,g3⟩:=hgo.al s id c rc' F0 k1 k2
 rw [hl] at g1;simp only [oj] at g1;subst g1
 rw [hg] at g2;simp only [oj,pj] at g2;obtain ⟨rfl,_⟩:=g2
 obtain ⟨x1,q1,q2⟩:=g3 p x L k3
 rw [hloc] at q1
 simp only [oj,pj] at q1
 obtain ⟨rfl,rfl⟩:=q1
 exact ⟨A,n,k,A',by rw [(q2 k4).2];exact hhd,hle,rfl,hA⟩
theorem je (HT:JN P A.ty) (hc:JX w bl G w0 F0) (hs:Jy (Ja w bl G []) sl a) {c:Call} {s x:Operand} {t tx:TypeId} {e:Ty} {co:List Jk} {v:V} {b:BL} (h:o.op=.call c) (hcal:c.callee=.builtin .append)
  (hargs:c.args.toList=[s,x]) (hts:c.argTypes.toList=[t,tx]) (hty:A.ty t=.slice e) (hit:O2 (A.ty tx)=true) (hv:Yk e sl bl o.dst (opd sl s) (opd sl x)=some (co,v,b)) (hk:∀ k ∈ co,k.ok):Jo P w0 F0 sl a w o v b:=by
 obtain ⟨kx,hxt⟩:∃ k,A.ty tx=.int k:=by
  cases hq:A.ty tx with
  | int k=>exact ⟨k,rfl⟩
  | _=>rw [hq] at hit;simp [O2] at hit
 obtain ⟨dx,hdx,hdxk⟩:=(HT tx (by rw [hxt];simp)).desc
 rw [hxt] at hdxk
 have hdx':=OD hdxk
 subst hdx'
 obtain ⟨d,hd,hdk⟩:=(HT t (by rw [hty];simp)).desc
 rw [hty] at hdk
 obtain ⟨te,rfl,hte,hne⟩:=Uq hdk
 have hT:=HT te (by rw [hte];exact hne)
 have hats:c.argTypes=#[t,tx]:=by apply Array.toList_inj.1;rw [hts]
 have hrun:∀ vv w2,(Builtin.append_ #[t,tx] o.type #[a.eval s,a.eval x]).run P w=.ok vv w2→(execOp a.eval o).run P w=.ok (.value vv) w2:=by
  intro vv w2 hr
  refine VA h hcal hargs (fun cs=>?_)
  rw [hats]
  simp [builtin,hr]
 have hsv:=JJ hs s
 have hxv:=JJ hs x
 unfold Yk at hv
 split at hv
 ·rename_i hse
  rw [hse] at hsv
  obtain ⟨hes,_⟩:=OF.1 hsv
  split at hv
  ·rename_i k n hxe
   rw [hxe] at hxv
   obtain ⟨hex,_⟩:=Qe.1 hxv
   split at hv
   ·rename_i hkq
    have hk64:=Uz hkq
    subst hk64
    obtain ⟨hpz,hv⟩:=Ur hv
    rw [Jd] at hpz
    obtain ⟨hp,hz'⟩:=hpz
    have hz:e.size ≠ 0:=by
     intro h0;rw [h0] at hz';simp [JO] at hz'
    obtain ⟨rfl,hfr⟩:=HA hv
    obtain ⟨m1,_,m3⟩:0≤n∧n≤n∧n≤4294967296:=hk (.mk n n) (by simp)
    obtain ⟨m,rfl⟩:∃ m:Nat,n=(m:Int):=⟨n.toNat,by omega⟩
    simp only [tn] at hfr
    obtain ⟨r0,r1⟩:=jb (w:=w) (ty:=o.type) hp hz hte hT hd hdx (n:=m) (by omega)
    by_cases hm0:m=0
    ·subst hm0
     have hin:InV (Ja w bl G ([] ++ [])) (.own e (List.replicate 0 (QQ e))) [.slice none 0 0] []:=by
      unfold InV
      exact ⟨hp,none,0,rfl,.inl ⟨rfl,rfl,rfl⟩⟩
     obtain ⟨G',g1,g2,g3⟩:=OH (F:=[]) (X:=[]) hc.x hs (v:=.slice none 0 0) hin (by unfold Qd;rfl) hfr
     exact ⟨_,w,G',.inl (hrun _ _ (by rw [hes,hex];exact r0 rfl)),g1.c,g2,g3⟩
    ·have hr:=r1 (by omega)
     have hge:=grownCap_ge w m 0 te
     generalize hN:grownCap w m 0 te=N at hr hge
     obtain ⟨i,z,hi,hiz,hisz,hby,hzc,hzl⟩:=Vz (P:=P) hp hte hT
     have hcells:(JW m (JE e)).toArray ++ Builtin.zeroCells (JE e).toArray (N - m)=((JW m (JE e)) ++ (Builtin.zeroCells (JE e).toArray (N - m)).toList).toArray:=by
      apply Array.ext';simp
     rw [hcells] at hr
     obtain ⟨d1,d2⟩:=hc.x.drew
     obtain ⟨k1,k2⟩:=d1.alloc (.cells ((JW m (JE e)) ++ (Builtin.zeroCells (JE e).toArray (N - m)).toList).toArray te)
     have hzl2:(Builtin.zeroCells (JE e).toArray (N - m)).toList.length=(N - m) * e.size:=by rw [Array.length_toList,size_zeroCells,List.size_toArray,hzl]
     have hin:=YQ (te:=te) (E:=Ja (w.drew.alloc (.cells ((JW m (JE e)) ++ (Builtin.zeroCells (JE e).toArray (N - m)).toList).toArray te)) bl G ([w.drew.heap.size] ++ [])) (w1:=w.drew) (c:=N) (l:=List.replicate m (QQ e)) (F:=[]) hp rfl (OG (Cp e hp) m) (by simp;exact hge) (by
      rw [hzl2,Vv,hzl,← Nat.add_mul]
      congr 1
      omega)
     rw [List.length_replicate] at hin
     obtain ⟨G',g1,g2,g3⟩:=OH (F:=[w.drew.heap.size]) (X:=[]) k1 (hs.go0 (d2.trans k2)) (v:=.slice (some ⟨w.heap.size,0,none⟩) m N) hin (by unfold Qd;rfl) hfr
     exact ⟨_,_,G',.inl (hrun _ _ (by rw [hes,hex];exact hr)),g1.c,g2,g3⟩
   ·cases hv
  ·cases hv
 ·rename_i t2 p e2 hse
  split at hv
  ·rename_i k n hxe
   rw [hxe] at hxv
   obtain ⟨hex,_⟩:=Qe.1 hxv
   split at hv
   ·rename_i hkq
    have hk64:=Uz hkq
    subst hk64
    obtain ⟨hpz,hv⟩:=Ur hv
    rw [Jd,Jd] at hpz
    obtain ⟨hb1,hp,hz'⟩:=hpz
    have hz:e.size ≠ 0:=by
     intro h0;rw [h0] at hz';simp [JO] at hz'
    split at hv
    ·rename_i e3 l b2 ht
     obtain ⟨hb2,hv2⟩:=Ur hv
     have hee:=Ty.beq_eq _ _ hb2
     subst hee
     obtain ⟨rfl,hfr⟩:=HA hv2
     obtain ⟨m1,_,m3⟩:0≤n∧n≤n∧n≤4294967296:=hk (.mk n n) (by simp)
     obtain ⟨m,rfl⟩:∃ m:Nat,n=(m:Int):=⟨n.toNat,by omega⟩
     have hsz:l.length + ((m:Int)).toNat≤4294967296:=hk (.sz l.length ((m:Int)).toNat) (by simp)
     simp only [tn] at hfr hsz
     rw [hse] at hsv
     obtain ⟨c0,rc,Fz,Lv,csv,Fv,G2,k1,k2,k3,k4,k5,k6,k7,k8⟩:=C6 hc.x ht
     have hh:=H3 hsv k1 k2 k3 rfl
     have hh2:Lv.head w=some (a.eval s):=hh
     unfold InV at k6
     obtain ⟨_,Ad,cap,hcs',hsl⟩:=k6
     rw [hcs'] at k4
     have hhd:=JL k4
     rw [hhd] at hh2
     simp only [oj] at hh2
     have hrow:Row (DIn true w e) (List.replicate m (QQ e)) (JW m (JE e)) []:=OG (Cp e hp) m
     have hone:∀ u ∈ JW m (JE e),u.oneCell'=true:=CJ (fun d c F=>H6 e) hrow
     obtain ⟨v',w',F',r1,r2,r3,r4⟩:=SC (P:=P) (A:=A) (w:=w) (ty:=o.type) (t:=t) (tx:=tx) (vx:=.int .i64 (m:Int)) (Fs:=[]) (X:=[]) (xs:=List.replicate m (QQ e)) (by simpa using k7) hp hz hte hT hsl hrow (fun i z hi hiz hisz hby hzc hzl=>by
      rw [List.length_replicate]
      exact App.ofInt hz hd hdx hi hiz hisz hby hzc hzl (by omega) hone) (by rw [List.length_replicate];exact hsz)
     rw [← hex,hh2] at r1
     obtain ⟨G',g1,g2,g3⟩:=OH (F:=F') (X:=[]) r2 (hs.go0 (k8.trans r4)) (v:=v') r3 (by unfold Qd;rfl) hfr
     exact ⟨v',w',G',.inl (hrun _ _ r1),g1.c,g2,g3⟩
    ·cases hv
   ·cases hv
  ·cases hv
 ·cases hv
theorem jf (HT:JN P A.ty) (hc:JX w bl G w0 F0) (hs:Jy (Ja w bl G []) sl a) {c:Call} {co:List Jk} {v:V} {b:BL} (h:o.op=.call c) (hcal:c.callee=.builtin .append)
  (hv:Qj A sl bl o.dst .append c.argTypes.toList (Jm sl c.args.toList)=some (co,v,b)) (hk:∀ k ∈ co,k.ok):Jo P w0 F0 sl a w o v b:=by
 match hargs:c.args.toList with
 | []=>rw [hargs] at hv;simp [Jm,Qj] at hv
 | [x]=>rw [hargs] at hv;simp [Jm,Qj] at hv
 | x :: y :: z :: r=>rw [hargs] at hv;simp [Jm,Qj] at hv
 | [s,x]=>
  rw [hargs] at hv
  simp only [Jm,Qj] at hv
  split at hv
  ·rename_i t tx hts
   split at hv
   ·rename_i e hty
    split at hv
    ·rename_i hit
     exact je HT hc hs h hcal hargs hts hty hit hv hk
    rename_i hnit
    obtain ⟨htx,hv⟩:=Ur hv
    obtain ⟨e',hd'⟩:=Wj HT htx
    obtain ⟨d,hd,hdk⟩:=(HT t (by rw [hty];simp)).desc
    rw [hty] at hdk
    obtain ⟨te,rfl,hte,hne⟩:=Uq hdk
    have hT:=HT te (by rw [hte];exact hne)
    have hats:c.argTypes=#[t,tx]:=by apply Array.toList_inj.1;rw [hts]
    have hrun:∀ vv w2,(Builtin.append_ #[t,tx] o.type #[a.eval s,a.eval x]).run P w=.ok vv w2→(execOp a.eval o).run P w=.ok (.value vv) w2:=by
     intro vv w2 hr
     refine VA h hcal hargs (fun cs=>?_)
     rw [hats]
     simp [builtin,hr]
    unfold Ol at hv
    split at hv
    rotate_left
    ·unfold W2 at hv
     split at hv
     ·rename_i c1 xs b1 hsrc
      obtain ⟨hpz,hsrc⟩:=Ur hsrc
      rw [Jd] at hpz
      obtain ⟨hp,hz'⟩:=hpz
      have hz:e.size ≠ 0:=by
       intro h0;rw [h0] at hz';simp [JO] at hz'
      have fin:∀ (Fl Fs:List Nat) (Ad:Option Addr) (cap:Nat) (l:List D) (G1:GT) (b2:BL) (news:List Value),JK w b2 G1 (Fl ++ (Fs ++ [])) w0 F0→Jx (Ja w bl G []) (Ja w b2 G1 (Fl ++ (Fs ++ []))) (fun _=>False) →
        UF true w (DIn true w e) e.size Ad cap l Fl→Row (DIn true w e) xs news Fs→Fed w (a.eval x) xs.length news→l.length + xs.length≤4294967296→a.eval s=.slice Ad l.length cap→fresh sl b2 o.dst (.own e (l ++ xs))=some (v,b)→Jo P w0 F0 sl a w o v b:=by
       intro Fl Fs Ad cap l G1 b2 news hcx hgo hsl hrow hfed hsz hes hfr
       obtain ⟨v',w',F',r1,r2,r3,r4⟩:=SD (P:=P) (A:=A) (ty:=o.type) hcx hp hz hte hT hd hd' hsl hrow hfed hsz
       rw [← hes] at r1
       obtain ⟨G',g1,g2,g3⟩:=OH (F:=F') (X:=[]) r2 (hs.go0 (hgo.trans r4)) (v:=v') r3 (by unfold Qd;rfl) hfr
       exact ⟨v',w',G',.inl (hrun _ _ r1),g1.c,g2,g3⟩
      split at hv
      ·rename_i t2 p e2 hse
       split at hv
       ·rename_i i0
        split at hv
        ·rename_i e3 l hl
         split at hv
         ·rename_i hbb
          rw [Jd] at hbb
          have hee:=Ty.beq_eq _ _ hbb.1
          have hee2:=Ty.beq_eq _ _ hbb.2
          subst hee hee2
          obtain ⟨rfl,hfr⟩:=HA hv
          obtain ⟨hk1,hk2⟩:=QU hk
          obtain ⟨Fs,G1,q1,⟨news,q2,q3⟩,q4⟩:=OK hc (JJ hs x) hp hsrc hk1
          have hsv1:=JJ (hs.go0 q4) s
          rw [hse] at hsv1
          have hi0:i0 + 1≤l.length:=hk2 (.le (i0 + 1) l.length) (by simp)
          have hsz:(l.getD i0 (.int 0)).items.length + xs.length≤4294967296:=hk2 (.sz (l.getD i0 (.int 0)).items.length xs.length) (by simp)
          obtain ⟨rc,Fz,Lv,csv,Fv,G2,k2,k3,k4,k6,k7,k8⟩:=M9 q1 hl (show i0<l.length by omega)
          have hh:=H3 hsv1 hl k2 k3 rfl
          have hh2:Lv.head w=some (a.eval s):=hh
          unfold InV at k6
          obtain ⟨_,Ad,cap,hcs',hsl⟩:=k6
          rw [hcs'] at k4
          have hhd:=JL k4
          rw [hhd] at hh2
          simp only [oj] at hh2
          exact fin Fv Fs Ad cap _ G2 _ news k7 (q4.trans k8) hsl q2 q3 hsz hh2.symm hfr
         ·simp at hv
        ·simp at hv
       ·simp at hv
      ·simp at hv
     ·simp at hv
    rename_i rr hrr
    simp only [oj] at hv
    subst hv
    have hv:=hrr
    unfold Hr at hv
    split at hv
    ·rename_i c1 xs b1 hsrc
     obtain ⟨hpz,hsrc⟩:=Ur hsrc
     rw [Jd] at hpz
     obtain ⟨hp,hz'⟩:=hpz
     have hz:e.size ≠ 0:=by
      intro h0;rw [h0] at hz';simp [JO] at hz'
     have fin:∀ (Fl Fs:List Nat) (Ad:Option Addr) (cap:Nat) (l:List D) (G1:GT) (b2:BL) (news:List Value),JK w b2 G1 (Fl ++ (Fs ++ [])) w0 F0→Jx (Ja w bl G []) (Ja w b2 G1 (Fl ++ (Fs ++ []))) (fun _=>False) →
       UF true w (DIn true w e) e.size Ad cap l Fl→Row (DIn true w e) xs news Fs→Fed w (a.eval x) xs.length news→l.length + xs.length≤4294967296→a.eval s=.slice Ad l.length cap→fresh sl b2 o.dst (.own e (l ++ xs))=some (v,b)→Jo P w0 F0 sl a w o v b:=by
      intro Fl Fs Ad cap l G1 b2 news hcx hgo hsl hrow hfed hsz hes hfr
      obtain ⟨v',w',F',r1,r2,r3,r4⟩:=SD (P:=P) (A:=A) (ty:=o.type) hcx hp hz hte hT hd hd' hsl hrow hfed hsz
      rw [← hes] at r1
      obtain ⟨G',g1,g2,g3⟩:=OH (F:=F') (X:=[]) r2 (hs.go0 (hgo.trans r4)) (v:=v') r3 (by unfold Qd;rfl) hfr
      exact ⟨v',w',G',.inl (hrun _ _ r1),g1.c,g2,g3⟩
     have hsv:=JJ hs s
     split at hv
     ·rename_i hse
      obtain ⟨rfl,hfr⟩:=HA hv
      obtain ⟨hk1,hk2⟩:=QU hk
      obtain ⟨Fs,G1,q1,⟨news,q2,q3⟩,q4⟩:=OK hc (JJ hs x) hp hsrc hk1
      rw [hse] at hsv
      obtain ⟨hes,_⟩:=OF.1 hsv
      have hsz:0 + xs.length≤4294967296:=hk2 (.sz 0 xs.length) (by simp)
      exact fin [] Fs none 0 [] G1 b1 news q1 q4 (.inl ⟨rfl,rfl,rfl⟩) q2 q3 hsz hes hfr
     ·rename_i e2 hse
      split at hv
      ·obtain ⟨rfl,hfr⟩:=HA hv
       obtain ⟨hk1,hk2⟩:=QU hk
       obtain ⟨Fs,G1,q1,⟨news,q2,q3⟩,q4⟩:=OK hc (JJ hs x) hp hsrc hk1
       rw [hse] at hsv
       have hx':=(JM rfl (by simp) (by simp)).1 hsv
       unfold InV at hx'
       obtain ⟨⟨Ad,hx'⟩,_⟩:=hx'
       simp only [List.cons.injEq,and_true] at hx'
       have hsz:0 + xs.length≤4294967296:=hk2 (.sz 0 xs.length) (by simp)
       exact fin [] Fs Ad 0 [] G1 b1 news q1 q4 (.inl ⟨rfl,rfl,rfl⟩) q2 q3 hsz hx' hfr
      ·simp at hv
     ·rename_i t2 p e2 hse
      split at hv
      ·rename_i hb1
       split at hv
       ·rename_i e3 l b2 ht
        obtain ⟨hb2,hv2⟩:=Ur hv
        have hee:=Ty.beq_eq _ _ hb2
        subst hee
        obtain ⟨rfl,hfr⟩:=HA hv2
        obtain ⟨hk1,hk2⟩:=QU hk
        obtain ⟨Fs,G1,q1,⟨news,q2,q3⟩,q4⟩:=OK hc (JJ hs x) hp hsrc hk1
        have hsv1:=JJ (hs.go0 q4) s
        rw [hse] at hsv1
        obtain ⟨c0,rc,Fz,Lv,csv,Fv,G2,k1,k2,k3,k4,k5,k6,k7,k8⟩:=C6 q1 ht
        have hh:=H3 hsv1 k1 k2 k3 rfl
        have hh2:Lv.head w=some (a.eval s):=hh
        unfold InV at k6
        obtain ⟨_,Ad,cap,hcs',hsl⟩:=k6
        rw [hcs'] at k4
        have hhd:=JL k4
        rw [hhd] at hh2
        simp only [oj] at hh2
        have hsz:l.length + xs.length≤4294967296:=hk2 (.sz l.length xs.length) (by simp)
        exact fin Fv Fs Ad cap l G2 b2 news k7 (q4.trans k8) hsl q2 q3 hsz hh2.symm hfr
       ·simp at hv
      ·simp at hv
     ·rename_i t2 p off len e2 hse
      split at hv
      ·rename_i hb1
       rw [Jd] at hb1
       obtain ⟨hbe,hf⟩:=hb1
       have hee0:=Ty.beq_eq _ _ hbe
       subst hee0
       split at hv
       ·rename_i c2 e3 l hga
        split at hv
        ·rename_i cx b2 hset
         obtain ⟨hb2,hv2⟩:=Ur hv
         have hee:=Ty.beq_eq _ _ hb2
         subst hee
         simp only [oj,pj] at hv2
         obtain ⟨rfl,rfl,rfl⟩:=hv2
         obtain ⟨hk12,hk3⟩:=QU hk
         obtain ⟨hk1,hk2⟩:=QU hk12
         obtain ⟨Fs,G1,q1,⟨news,q2,q3⟩,q4⟩:=OK hc (JJ hs x) hp hsrc hk1
         have hFs:Fs=[]:=Hi (fun d c G hd=>Hj e hf hd) q2
         subst hFs
         have hroom:off + len + xs.length≤l.length:=hk3 (.le (off + len + xs.length) l.length) (by simp)
         have hc1:JX w b1 G1 w0 F0:=q1.c
         have hs1:Jy (Ja w b1 G1 []) sl a:=hs.go0 q4
         have hsv1:=JJ hs1 s
         rw [hse] at hsv1
         obtain ⟨c0,rc,F,i1,i2,i3,Lx,csx,Fx,i4,i5,i6,i7,i8,i9⟩:=Uv hc1 hga hk2
         obtain ⟨A0,n0,k0,A1,j1,j2,j3,j4⟩:=Wg hsv1 i1 i2 i4 rfl
         have j1':Lx.head w=some (.slice A0 n0 k0):=j1
         obtain ⟨w',G',z1,z2,z3,z4,z5,⟨F2,z6⟩,z7⟩:=YV (X:=[]) hc1.x (i:=off + len) (xs:=xs) (news:=news) i1 i2 i4 j1' hf hz hroom q2 (by rw [i3];rfl)
         have hb':b2=Jp b1 t2 (c0.set p (.own e (l.take (off + len) ++ xs ++ l.drop (off + len + xs.length)))):=by
          unfold Hc at hset
          rw [i1] at hset
          simp only [i3,oj,pj] at hset
          exact hset.2.symm
         subst hb'
         have hal:=jd z7 (len:=len + xs.length) (off:=off) (e:=e) (A':=A1) i1 i2 i4 j1 (by omega) j4
         obtain ⟨i,z,hi,hiz,hisz,hby,hzc,hzl⟩:=Vz (P:=P) hp hte hT
         have hnl:news.length=xs.length * e.size:=Hh (fun d c G hd=>Ql e hd) q2
         have hone:∀ u ∈ news,u.oneCell'=true:=CJ (fun d c F=>H6 e) q2
         have hsr:Src P i.size tx (a.eval x) xs.length news w:=q3.src hd' (by rw [hisz];exact hnl) hone
         have hex:a.eval s=.slice A1 len (k0 - off):=j3
         have hgoal:(Builtin.append_ #[t,tx] o.type #[.slice A1 len (k0 - off),a.eval x]).run P w=.ok (.slice A1 (len + xs.length) (k0 - off)) w':=by
          by_cases hx0:xs=[]
          ·have hw:=z1 hx0
           subst hw
           subst hx0
           have hn0:news=[]:=List.eq_nil_of_length_eq_zero (by simpa using hnl)
           subst hn0
           have e1:=hsr.len w'
           have e2:=hsr.cells
           simp only [List.length_nil] at e1 e2
           have hr0:len≤k0 - off:=by omega
           cases A1 with
           | none=>simp [Builtin.append_,run_underlying hd,run_underlying hd',sizeOf,typeInfo,hi,e1,e2,hr0]
           | some ad1=>simp [Builtin.append_,run_underlying hd,run_underlying hd',sizeOf,typeInfo,hi,e1,e2,hr0,storeCells]
          ·obtain ⟨ad,rfl⟩:=z3 hx0
           obtain ⟨hw,hu⟩:=z2 ad rfl
           obtain ⟨hun,hsp⟩:=hu hx0
           subst hw
           have hpos:0<xs.length:=List.length_pos_iff.2 hx0
           obtain ⟨ad',r1,r2⟩:=j4 (by omega)
           simp only [oj] at r1
           subst r1
           rw [C5 hsp] at r2
           subst r2
           have hsp2:(ad.add ((off + len) * e.size)).spot=none:=TH _ _ hsp
           have hr:=run_append_room_src (P:=P) w t tx o.type te i hd hi ad.block (ad.off + off * e.size) len (k0 - off) (a.eval x) xs.length news hsr (by omega)
            (fun j hj=>by
             obtain ⟨⟨u,hu⟩,_⟩:=hun j hj
             rw [Hf,C5 hsp] at hu
             rw [hisz,show ad.off + off * e.size + len * e.size + j=ad.off + ((off + len) * e.size + j) by rw [Nat.add_mul];omega,hu];rfl)
            (fun j hj=>by
             obtain ⟨_,hu⟩:=hun j hj
             rw [Hf,C5 hsp] at hu
             rw [hisz,show ad.off + off * e.size + len * e.size + j=ad.off + ((off + len) * e.size + j) by rw [Nat.add_mul];omega,hu])
           rw [hisz,show ad.off + off * e.size + len * e.size=ad.off + (off + len) * e.size by rw [Nat.add_mul];omega] at hr
           exact hr
         rw [← hex] at hgoal
         refine ⟨_,w',G',.inl (hrun _ _ hgoal),z5.c,hs1.go0 z7,?_⟩
         rw [JM rfl (by simp) (by simp)]
         exact hal
        ·simp at hv
       ·simp at hv
      ·simp at hv
     ·simp at hv
    ·simp at hv
   ·simp at hv
  ·simp at hv
theorem SG {o:Bool} {w:World}:∀ {l:List D} {cs:List Value} {F:List Nat},Row (DIn o w (.int .u8)) l cs F→cs=(l.map D.toInt).map (Value.int .u8)
 | [],cs,F,h=>by obtain ⟨rfl,_⟩:=h;rfl
 | d :: l,cs,F,⟨c1,c2,F1,F2,e1,e2,h1,h2⟩=>by
  unfold DIn at h1
  rw [e1,h1.1,SG h2];rfl
theorem jg (HT:JN P A.ty) (hc:JX w bl G w0 F0) (hs:Jy (Ja w bl G []) sl a) {s t:TypeId} {x:Operand} {e:Ty} {c:List Jk} {v:V} {b:BL} (h:o.op=.convert s t x) (hts:A.ty s=.slice e) (htt:A.ty t=.str)
  (hv:W6 e bl (opd sl x)=some (c,v,b)) (hk:∀ k ∈ c,k.ok):Jo P w0 F0 sl a w o v b:=by
 unfold W6 at hv
 split at hv
 ·rename_i he8
  have he:=Ty.beq_eq _ _ he8
  subst he
  split at hv
  ·rename_i c1 e1 l hel
   split at hv
   ·rename_i hbe
    have hee:=Ty.beq_eq _ _ hbe
    subst hee
    simp only [oj,pj] at hv
    obtain ⟨rfl,rfl,rfl⟩:=hv
    obtain ⟨d,hd,hdk⟩:=(HT s (by rw [hts];simp)).desc
    rw [hts] at hdk
    obtain ⟨te,rfl,hte,hne⟩:=Uq hdk
    obtain ⟨d2,hd2,hk2⟩:=(HT te (by rw [hte];simp)).desc
    rw [hte] at hk2
    have e2:=OD hk2
    subst e2
    obtain ⟨d3,hd3,hk3⟩:=(HT t (by rw [htt];simp)).desc
    rw [htt] at hk3
    have e3:=CH hk3
    subst e3
    obtain ⟨Ad,cap,F,h1,h2,h3,h4⟩:=Wh hc (JJ hs x) hel hk
    have hrun:(convert s t (.slice Ad l.length cap)).run P w=.ok (.string (V5 l)) w:=by
     rw [run_convert_bytes_string w s t te Ad l.length cap hd hd2 hd3]
     rcases h2 with ⟨g1,g2,g3⟩ | ⟨ad,cs,F',g1,g2,g3,_⟩
     ·subst g1
      cases Ad with
      | none=>simp [Conv.bytesToString,V5]
      | some ad=>
       have:=run_bytesToString (P:=P) w ad 0 cap [] (by simpa using run_loadCells_list (P:=P) w ad [] (by simp))
       simpa [V5] using this
     ·subst g1
      have hcs:=SG g2
      subst hcs
      have:=run_loadCells_list (P:=P) w ad _ g3
      rw [List.length_map,List.length_map] at this
      exact run_bytesToString w ad l.length cap (l.map D.toInt) this
    refine Jo.pure hc hs (vv:=.string (V5 l)) ?_ (Hy.2 ⟨rfl,rfl⟩)
    simp [execOp,h,h1,hrun]
   ·simp at hv
  ·simp at hv
 ·simp at hv
theorem jh {t tx ty te:TypeId} {i:TypeInfo} {e':TypeId} (hd:P.underlying t=some (.slice te)) (hd':P.underlying tx=some (.slice e')) (hi:P.info? te=some i) {A1 Ad:Option Addr} {len cp n cap m:Nat} {news:List Value} (hm:m=Nat.min n len)
  (hfed:m ≠ 0→∃ ad,Ad=some ad∧QF w ad news) (hnl:news.length=m * i.size) (hone:∀ u ∈ news,u.oneCell'=true)
  (hw:(m=0∧w'=w) ∨ ∃ ad1,A1=some ad1∧ad1.spot=none∧QH w ad1 news.length∧w'=w.setCells ad1.block ad1.off news) :
  (Builtin.copy_ #[t,tx] ty #[.slice A1 len cp,.slice Ad n cap]).run P w=.ok (.int .i64 m) w':=by
 have hsr:Src P i.size tx (.slice Ad m cap) m news w:=Fed.src ⟨Ad,cap,rfl,hfed⟩ hd' hnl hone
 have hcells:(Builtin.firstCells i.size m (.slice Ad n cap)).run P w=.ok news.toArray w:=by
  have h1:=hsr.cells
  cases Ad<;>exact h1
 rcases hw with ⟨h0,rfl⟩ | ⟨ad1,rfl,hsp,hun,rfl⟩
 ·have hn0:news=[]:=List.eq_nil_of_length_eq_zero (by rw [hnl,h0];simp)
  subst hn0
  cases A1 with
  | none=>simp [Builtin.copy_,run_underlying hd,sizeOf,typeInfo,hi,Builtin.lenOf,← hm,hcells,goInt]
  | some ad=>simp [Builtin.copy_,run_underlying hd,sizeOf,typeInfo,hi,Builtin.lenOf,← hm,hcells,goInt,storeCells]
 ·obtain ⟨b,of,sp⟩:=ad1
  simp only at hsp
  subst hsp
  have hst:=run_storeCells_cells (P:=P) b of news 0 w (fun j hj=>by
   obtain ⟨⟨u,hu⟩,_⟩:=hun j hj
   rw [Addr.add_lit] at hu
   rw [Nat.add_zero,hu];rfl) (fun j hj=>by
   obtain ⟨_,hu⟩:=hun j hj
   rw [Addr.add_lit] at hu
   rw [Nat.add_zero];exact hu) hone
  simp only [Nat.add_zero] at hst
  simp [Builtin.copy_,run_underlying hd,sizeOf,typeInfo,hi,Builtin.lenOf,← hm,hcells,goInt,hst]
theorem ji (HT:JN P A.ty) (hc:JX w bl G w0 F0) (hs:Jy (Ja w bl G []) sl a) {c:Call} {co:List Jk} {v:V} {b:BL} (h:o.op=.call c) (hcal:c.callee=.builtin .copy)
  (hv:Qj A sl bl o.dst .copy c.argTypes.toList (Jm sl c.args.toList)=some (co,v,b)) (hk:∀ k ∈ co,k.ok):Jo P w0 F0 sl a w o v b:=by
 match hargs:c.args.toList with
 | []=>rw [hargs] at hv;simp [Jm,Qj] at hv
 | [x]=>rw [hargs] at hv;simp [Jm,Qj] at hv
 | x :: y :: z :: r=>rw [hargs] at hv;simp [Jm,Qj] at hv
 | [s,x]=>
  rw [hargs] at hv
  simp only [Jm,Qj] at hv
  split at hv
  ·rename_i t tx hts
   split at hv
   ·rename_i e hty
    obtain ⟨htx,hv⟩:=Ur hv
    obtain ⟨e',hd'⟩:=Wj HT htx
    obtain ⟨d,hd,hdk⟩:=(HT t (by rw [hty];simp)).desc
    rw [hty] at hdk
    obtain ⟨te,rfl,hte,hne⟩:=Uq hdk
    have hT:=HT te (by rw [hte];exact hne)
    have hats:c.argTypes=#[t,tx]:=by apply Array.toList_inj.1;rw [hts]
    have hrun:∀ vv w2,(Builtin.copy_ #[t,tx] o.type #[a.eval s,a.eval x]).run P w=.ok vv w2→(execOp a.eval o).run P w=.ok (.value vv) w2:=by
     intro vv w2 hr
     refine VA h hcal hargs (fun cs=>?_)
     rw [hats]
     simp [builtin,hr]
    unfold O3 at hv
    split at hv
    ·rename_i c1 xs b1 hsrc
     obtain ⟨hpz,hsrc⟩:=Ur hsrc
     rw [Jd] at hpz
     obtain ⟨hp,hz0⟩:=hpz
     have hz:e.size ≠ 0:=by
      intro h0
      rw [h0] at hz0
      simp [JO] at hz0
     split at hv
     ·rename_i hf
      obtain ⟨i,z,hi,hiz,hisz,hby,hzc,hzl⟩:=Vz (P:=P) hp hte hT
      have fin:∀ {t2:Nat} {p:List Nat} {off len:Nat} {l:List D} {c0:V} {rc:List Value} {F:List Nat} {G1:GT} {Lx:Ji} {A0 A1:Option Addr} {n0 k0 cp:Nat} {news:List Value},JK w b1 G1 [] w0 F0→Jy (Ja w b1 G1 []) sl a →
        Row (DIn true w e) xs news []→Fed w (a.eval x) xs.length news→Jb b1 t2=some c0→G1 t2=some (rc,F)→Je w c0 (.reg rc) p=some (.own e l,Lx)→(c0.get p).isSome=true→Lx.head w=some (.slice A0 n0 k0) →
        off + len≤l.length→a.eval s=.slice A1 len cp→((xs.take len) ≠ []→∀ ad,A0=some ad→ad.spot=none→A1=some (ad.add (off * e.size))) →
        Jo P w0 F0 sl a w o (.int .i64 (xs.take len).length) (Jp b1 t2 (c0.set p (.own e (l.take off ++ xs.take len ++ l.drop (off + (xs.take len).length))))):=by
       intro t2 p off len l c0 rc F G1 Lx A0 A1 n0 k0 cp news hc1 hs1 q2 q3 i1 i2 i4 hgt j1 hroom hex hA
       obtain ⟨Ad,cap,hvx,hfed⟩:=q3
       obtain ⟨d1,d2,K1,K2,y1,y2,y3,y4,y5⟩:=OE (fun d c G hd=>Ql e hd) (n:=(xs.take len).length) q2 (by simp;omega)
       have hK1:K1=[]:=by
        have:K1 ++ K2=[]:=y2.symm
        simpa using (List.append_eq_nil_iff.1 this).1
       subst hK1
       have htk:xs.take (xs.take len).length=xs.take len:=by
        rw [List.length_take]
        rcases Nat.le_total len xs.length with hl | hl
        ·rw [Nat.min_eq_left hl]
        ·rw [Nat.min_eq_right hl,List.take_of_length_le (Nat.le_refl _),List.take_of_length_le hl]
       rw [htk] at y4
       have hone:∀ u ∈ d1,u.oneCell'=true:=CJ (fun d c F=>H6 e) y4
       obtain ⟨w',G',z1,z2,z3,z4,z5,⟨F2,z6⟩,z7⟩:=YV (X:=[]) hc1 (i:=off) (xs:=xs.take len) (news:=d1) i1 i2 i4 j1 hf hz (by simp;omega) y4 hgt
       have hm:(xs.take len).length=Nat.min xs.length len:=by rw [List.length_take];exact Nat.min_comm _ _
       have hgoal:(Builtin.copy_ #[t,tx] o.type #[.slice A1 len cp,.slice Ad xs.length cap]).run P w=.ok (.int .i64 ((xs.take len).length:Nat)) w':=by
        refine jh (w':=w') hd hd' hi hm (news:=d1) (fun hm0=>?_) (by rw [y3,hisz]) hone ?_
        ·obtain ⟨ad,e1,e2⟩:=hfed (by intro h0;apply hm0;rw [hm,h0];simp)
         refine ⟨ad,e1,fun j u hj=>e2 j u ?_⟩
         rw [y1,List.getElem?_append_left (List.getElem?_eq_some_iff.1 hj).1];exact hj
        ·by_cases hx0:xs.take len=[]
         ·exact .inl ⟨by rw [hx0];rfl,z1 hx0⟩
         ·obtain ⟨ad,rfl⟩:=z3 hx0
          obtain ⟨hw,hu⟩:=z2 ad rfl
          obtain ⟨hun,hsp⟩:=hu hx0
          refine .inr ⟨ad.add (off * e.size),hA hx0 ad rfl hsp,TH _ _ hsp,hun,?_⟩
          rw [hw,QZ,Oz]
       rw [← hex,← hvx] at hgoal
       exact ⟨_,w',G',.inl (hrun _ _ hgoal),z5.c,hs1.go0 z7,Qe.2 ⟨rfl,rfl⟩⟩
      split at hv
      ·rename_i t2 p e2 hse
       split at hv
       ·rename_i hb1
        have hee0:=Ty.beq_eq _ _ hb1
        subst hee0
        split at hv
        ·rename_i c2 e3 l hga
         split at hv
         ·rename_i cx b2 hset
          obtain ⟨hb2,hv2⟩:=Ur hv
          have hee:=Ty.beq_eq _ _ hb2
          subst hee
          simp only [oj,pj] at hv2
          obtain ⟨rfl,rfl,rfl⟩:=hv2
          obtain ⟨hk1,hk2⟩:=QU hk
          obtain ⟨Fs,G1,q1,⟨news,q2,q3⟩,q4⟩:=OK hc (JJ hs x) hp hsrc hk1
          have hFs:Fs=[]:=Hi (fun d c G hd=>Hj e hf hd) q2
          subst hFs
          have hc1:JX w b1 G1 w0 F0:=q1.c
          have hs1:Jy (Ja w b1 G1 []) sl a:=hs.go0 q4
          have hsv1:=JJ hs1 s
          rw [hse] at hsv1
          obtain ⟨c0,rc,F,i1,i2,i3,Lx,csx,Fx,i4,i5,i6,i7,i8,i9⟩:=Uv hc1 hga hk2
          have hh:=H3 hsv1 i1 i2 i4 rfl
          have hh2:Lx.head w=some (a.eval s):=hh
          have i5':=i5
          unfold InV at i5'
          obtain ⟨_,Ad,cap,hcs',hsl⟩:=i5'
          rw [hcs'] at i6
          have hhd:Lx.head w=some (.slice Ad l.length cap):=JL i6
          rw [hhd] at hh2
          simp only [oj] at hh2
          have hb':b2=Jp b1 t2 (c0.set p (.own e (l.take 0 ++ xs.take l.length ++ l.drop (0 + (xs.take l.length).length)))):=by
           unfold Hc at hset
           rw [i1] at hset
           simp only [i3,oj,pj] at hset
           exact hset.2.symm
          subst hb'
          exact fin (off:=0) (len:=l.length) hc1.x hs1 q2 q3 i1 i2 i4 (by rw [i3];rfl) hhd (by omega) hh2.symm (fun _ ad ha hsp=>by rw [ha];simp [Addr.add])
         ·simp at hv
        ·simp at hv
       ·simp at hv
      ·rename_i t2 p off len e2 hse
       split at hv
       ·rename_i hb1
        have hee0:=Ty.beq_eq _ _ hb1
        subst hee0
        split at hv
        ·rename_i c2 e3 l hga
         split at hv
         ·rename_i cx b2 hset
          obtain ⟨hb2,hv2⟩:=Ur hv
          have hee:=Ty.beq_eq _ _ hb2
          subst hee
          simp only [oj,pj] at hv2
          obtain ⟨rfl,rfl,rfl⟩:=hv2
          obtain ⟨hk12,hk3⟩:=QU hk
          obtain ⟨hk1,hk2⟩:=QU hk12
          obtain ⟨Fs,G1,q1,⟨news,q2,q3⟩,q4⟩:=OK hc (JJ hs x) hp hsrc hk1
          have hFs:Fs=[]:=Hi (fun d c G hd=>Hj e hf hd) q2
          subst hFs
          have hroom:off + len≤l.length:=hk3 (.le (off + len) l.length) (by simp)
          have hc1:JX w b1 G1 w0 F0:=q1.c
          have hs1:Jy (Ja w b1 G1 []) sl a:=hs.go0 q4
          have hsv1:=JJ hs1 s
          rw [hse] at hsv1
          obtain ⟨c0,rc,F,i1,i2,i3,Lx,csx,Fx,i4,i5,i6,i7,i8,i9⟩:=Uv hc1 hga hk2
          obtain ⟨A0,n0,k0,A1,j1,j2,j3,j4⟩:=Wg hsv1 i1 i2 i4 rfl
          have j1':Lx.head w=some (.slice A0 n0 k0):=j1
          have hex:a.eval s=.slice A1 len (k0 - off):=j3
          have hb':b2=Jp b1 t2 (c0.set p (.own e (l.take off ++ xs.take len ++ l.drop (off + (xs.take len).length)))):=by
           unfold Hc at hset
           rw [i1] at hset
           simp only [i3,oj,pj] at hset
           exact hset.2.symm
          subst hb'
          refine fin (off:=off) (len:=len) hc1.x hs1 q2 q3 i1 i2 i4 (by rw [i3];rfl) j1' hroom hex (fun hx0 ad ha hsp=>?_)
          have hpos:0<(xs.take len).length:=List.length_pos_iff.2 hx0
          have hlen:0<len:=by rw [List.length_take] at hpos;omega
          obtain ⟨ad',r1,r2⟩:=j4 (by omega)
          rw [ha] at r1
          simp only [oj] at r1
          rw [r2,r1]
         ·simp at hv
        ·simp at hv
       ·simp at hv
      ·simp at hv
     ·simp at hv
    ·simp at hv
   ·simp at hv
  ·simp at hv
theorem jj {cs:List Value} {n s:Nat} (h:cs.length=s):Builtin.zeroCells cs.toArray n=(JW n cs).toArray:=by
 have h1:=Wn (n:=n) h
 rw [← h1]
 unfold Builtin.zeroCells
 rw [List.size_toArray,h]
theorem jk (HT:JN P A.ty) (hc:JX w bl G w0 F0) (hs:Jy (Ja w bl G []) sl a) {c:Call} {co:List Jk} {v:V} {b:BL} (h:o.op=.call c) (hcal:c.callee=.builtin .clear)
  (hv:Qj A sl bl o.dst .clear c.argTypes.toList (Jm sl c.args.toList)=some (co,v,b)) (hk:∀ k ∈ co,k.ok):Jo P w0 F0 sl a w o v b:=by
 match hargs:c.args.toList with
 | []=>rw [hargs] at hv;simp [Jm,Qj] at hv
 | x :: z :: r=>rw [hargs] at hv;simp [Jm,Qj] at hv
 | [s]=>
  rw [hargs] at hv
  simp only [Jm,Qj] at hv
  split at hv
  ·rename_i t hts
   split at hv
   ·rename_i e hty
    obtain ⟨d,hd,hdk⟩:=(HT t (by rw [hty];simp)).desc
    rw [hty] at hdk
    obtain ⟨te,rfl,hte,hne⟩:=Uq hdk
    have hT:=HT te (by rw [hte];exact hne)
    have hats:c.argTypes=#[t]:=by apply Array.toList_inj.1;rw [hts]
    have hrun:∀ w2,(Builtin.clear_ #[t] o.type #[a.eval s]).run P w=.ok (.tuple #[]) w2→(execOp a.eval o).run P w=.ok (.value (.tuple #[])) w2:=by
     intro w2 hr
     refine VA h hcal hargs (fun cs=>?_)
     rw [hats]
     simp [builtin,hr]
    unfold Te at hv
    split at hv
    ·rename_i t2 p off len e' hse
     split at hv
     ·rename_i hb1
      rw [Jd,Jd] at hb1
      obtain ⟨hf,hbe,hz0⟩:=hb1
      have hee0:=Ty.beq_eq _ _ hbe
      subst hee0
      have hz:e.size ≠ 0:=by
       intro h0
       rw [h0] at hz0
       simp [JO] at hz0
      split at hv
      ·rename_i c2 e3 l hga
       split at hv
       ·rename_i cx b2 hset
        obtain ⟨hb2,hv2⟩:=Ur hv
        have hee:=Ty.beq_eq _ _ hb2
        subst hee
        simp only [oj,pj] at hv2
        obtain ⟨rfl,rfl,rfl⟩:=hv2
        obtain ⟨hk1,hk2⟩:=QU hk
        have hroom:off + len≤l.length:=hk2 (.le (off + len) l.length) (by simp)
        have hsv1:=JJ hs s
        rw [hse] at hsv1
        obtain ⟨c0,rc,F,i1,i2,i3,Lx,csx,Fx,i4,i5,i6,i7,i8,i9⟩:=Uv hc hga hk1
        obtain ⟨A0,n0,k0,A1,j1,j2,j3,j4⟩:=Wg hsv1 i1 i2 i4 rfl
        have j1':Lx.head w=some (.slice A0 n0 k0):=j1
        have hex:a.eval s=.slice A1 len (k0 - off):=j3
        have hp:e.plain=true:=by
         unfold InV at i5
         exact i5.1
        obtain ⟨i,z,hi,hiz,hisz,hby,hzc,hzl⟩:=Vz (P:=P) hp hte hT
        have hb':b2=Jp bl t2 (c0.set p (.own e (l.take off ++ List.replicate len (QQ e) ++ l.drop (off + (List.replicate len (QQ e)).length)))):=by
         unfold Hc at hset
         rw [i1] at hset
         simp only [i3,oj,pj] at hset
         exact hset.2.symm
        subst hb'
        have hrow:Row (DIn true w e) (List.replicate len (QQ e)) (JW len (JE e)) []:=OG (Cp e hp) len
        obtain ⟨w',G',z1,z2,z3,z4,z5,⟨F2,z6⟩,z7⟩:=YV (X:=[]) hc.x (i:=off) (xs:=List.replicate len (QQ e)) (news:=JW len (JE e)) i1 i2 i4 j1' hf hz (by simpa using hroom) hrow (by rw [i3];rfl)
        have hone:∀ u ∈ JW len (JE e),u.oneCell'=true:=CJ (fun d c F=>H6 e) hrow
        have hgoal:(Builtin.clear_ #[t] o.type #[.slice A1 len (k0 - off)]).run P w=.ok (.tuple #[]) w':=by
         by_cases hl0:len=0
         ·subst hl0
          have hw:=z1 rfl
          subst hw
          cases A1<;>simp [Builtin.clear_,run_underlying hd]
         ·have hx0:List.replicate len (QQ e) ≠ []:=by
           intro h0
           have:=congrArg List.length h0
           simp at this;exact hl0 this
          obtain ⟨ad,rfl⟩:=z3 hx0
          obtain ⟨hw,hu⟩:=z2 ad rfl
          obtain ⟨hun,hsp⟩:=hu hx0
          subst hw
          obtain ⟨ad',r1,r2⟩:=j4 (by omega)
          simp only [oj] at r1
          subst r1
          rw [C5 hsp] at r2 hun
          subst r2
          have hst:=run_storeCells_cells (P:=P) ad.block (ad.off + off * e.size) (JW len (JE e)) 0 w (fun j hj=>by
           obtain ⟨⟨u,hu⟩,_⟩:=hun j hj
           rw [Addr.add_lit] at hu
           rw [Nat.add_zero,hu];rfl) (fun j hj=>by
           obtain ⟨_,hu⟩:=hun j hj
           rw [Addr.add_lit] at hu
           rw [Nat.add_zero];exact hu) hone
          simp only [Nat.add_zero] at hst
          obtain ⟨ln,rfl⟩:∃ m,len=m + 1:=⟨len - 1,by omega⟩
          have hzr:Builtin.zeroCells z.cells (ln + 1)=(JW (ln + 1) (JE e)).toArray:=by rw [hzc];exact jj hzl
          simp [Builtin.clear_,run_underlying hd,zeroValue,typeInfo,hi,hiz,hzr,hst]
        rw [← hex] at hgoal
        exact ⟨_,w',G',.inl (hrun _ hgoal),z5.c,hs.go0 z7,⟨#[],rfl,rfl,rfl⟩⟩
       ·simp at hv
      ·simp at hv
     ·simp at hv
    ·simp at hv
   ·simp at hv
  ·simp at hv
end
end Go.Rai
namespace Go.Rai
variable [Inhabited Qi]
section
variable {P:Program} {A:Ann} {w w' w0:World} {F0:List Nat} {sl:List V} {a:Act} {bl b':BL} {G:GT} {o:Oper} {X:List Nat}
theorem jl {t:Ty} (h:CZ t=true):t=.imap:=by
 cases t<;>simp [CZ] at h
 rfl
theorem SH (HT:JN P A.ty) {t:TypeId} (h:CZ (A.ty t)=true):∃ k e,P.underlying t=some (.map k e)∧P.underlying k=some (.int .i64)∧A.ty e=.int .i64:=by
 have ht:=jl h
 obtain ⟨d,hd,hdk⟩:=(HT t (by rw [ht];simp)).desc
 rw [ht] at hdk
 cases d<;>simp only [Hk] at hdk
 rename_i k e
 obtain ⟨h1,h2⟩:=hdk
 obtain ⟨dk,hk,hkk⟩:=(HT k (by rw [h1];simp)).desc
 rw [h1] at hkk
 cases dk<;>simp only [Hk] at hkk
 subst hkk
 exact ⟨k,e,hd,hk,h2⟩
theorem YW {r:Nat} {es:Array MapEntry} {clk:Nat} (hb:w.heap[r]?=some (.map es clk)):(getObj r).run P w=.ok (.map es clk) w:=by
 simp [getObj,Sem.run,hb]
theorem SI {r:Nat} {es:Array MapEntry} {clk:Nat} (ob:Obj) (hb:w.heap[r]?=some (.map es clk)):(setObj r ob).run P w=.ok () { w with heap:=w.heap.setIfInBounds r ob }:=by
 simp [setObj,Sem.run,hb]
theorem YX {b:Bool} {t:TypeId} {v:Value} (h:P.underlying t=some (.int .i64)):(Instr.checkKey b 10000 t v).run P w=.ok () w:=by
 unfold Instr.checkKey
 simp [run_underlying h]
theorem SJ (n:Int):∀ (es:List MapEntry) (l:List D) (i:Nat),Ut es l→Instr.findNow (.int .i64) (.int .i64 n) es i=some (match l.findIdx? (fun d=>decide (n=(d.fld 0).toInt)) with
  | some j=>some (i + j,.int .i64 ((l.getD j (.int 0)).fld 1).toInt)
  | none=>none)
 | [],[],i,_=>rfl
 | [],_ :: _,i,h=>h.elim
 | _ :: _,[],i,h=>h.elim
 | e :: es,d :: l,i,⟨⟨k,v,h1,h2,h3⟩,h4⟩=>by
  have ih:=SJ n es l (i + 1) h4
  have hd0:(d.fld 0).toInt=k:=by rw [h3];rfl
  have hd1:(d.fld 1).toInt=v:=by rw [h3];rfl
  unfold Instr.findNow
  rw [h1,List.findIdx?_cons,hd0]
  by_cases hk:n=k
  ·subst hk
   simp [Instr.sameNow,h2,hd1]
  ·have hk':(n == k)=false:=by simp [hk]
   simp only [Instr.sameNow,if_true,hk',ih,hk,decide_false]
   cases l.findIdx? (fun d=>decide (n=(d.fld 0).toInt)) with
   | none=>rfl
   | some j=>simp;omega
theorem YY {t:TypeId} {n:Int} {es:List MapEntry} {l:List D} (h:P.underlying t=some (.int .i64)) (he:Ut es l):(Instr.findKey t (.int .i64 n) es).run P w=.ok (match HY l n with
  | some j=>some (j,.int .i64 ((l.getD j (.int 0)).fld 1).toInt)
  | none=>none) w:=by
 unfold Instr.findKey
 simp only [Sem.run_bind,run_underlying h,Result.andThen_ok,SJ n es l 0 he,Sem.run_pure,Nat.zero_add]
 rfl
theorem Ut.len:∀ {es:List MapEntry} {l:List D},Ut es l→es.length=l.length
 | [],[],_=>rfl
 | [],_ :: _,h=>h.elim
 | _ :: _,[],h=>h.elim
 | _ :: _,_ :: _,h=>by simp [Ut.len h.2]
theorem Ut.get:∀ {es:List MapEntry} {l:List D} {j:Nat} {e:MapEntry},Ut es l→es[j]?=some e→∃ k v,e.key=.int .i64 k∧e.val=.int .i64 v∧l.getD j (.int 0)=.node [.int k,.int v]
 | [],[],j,e,_,he=>by simp at he
 | [],_ :: _,j,e,h,_=>h.elim
 | _ :: _,[],j,e,h,_=>h.elim
 | e' :: es,d :: l,0,e,h,he=>by
  simp only [List.getElem?_cons_zero,oj] at he
  subst he
  obtain ⟨k,v,h1,h2,h3⟩:=h.1
  exact ⟨k,v,h1,h2,by simp [h3]⟩
 | e' :: es,d :: l,j + 1,e,h,he=>by
  obtain ⟨k,v,h1,h2,h3⟩:=Ut.get h.2 (j:=j) (by simpa using he)
  exact ⟨k,v,h1,h2,by simpa using h3⟩
theorem Ut.push:∀ {es:List MapEntry} {l:List D} {e:MapEntry} {k v:Int},Ut es l→e.key=.int .i64 k→e.val=.int .i64 v→Ut (es ++ [e]) (l ++ [.node [.int k,.int v]])
 | [],[],e,k,v,_,h1,h2=>⟨⟨k,v,h1,h2,rfl⟩,trivial⟩
 | [],_ :: _,e,k,v,h,_,_=>h.elim
 | _ :: _,[],e,k,v,h,_,_=>h.elim
 | _ :: _,_ :: _,e,k,v,h,h1,h2=>⟨h.1,Ut.push h.2 h1 h2⟩
theorem Ut.modify:∀ {es:List MapEntry} {l:List D} {j:Nat} {f:MapEntry→MapEntry} {k v:Int},Ut es l→(∀ e,(f e).key=.int .i64 k∧(f e).val=.int .i64 v)→Ut (es.modify j f) (l.set j (.node [.int k,.int v]))
 | [],[],j,f,k,v,_,_=>by cases j<;>trivial
 | [],_ :: _,j,f,k,v,h,_=>h.elim
 | _ :: _,[],j,f,k,v,h,_=>h.elim
 | e :: es,d :: l,0,f,k,v,h,hf=>by
  simp only [List.modify_zero_cons,List.set_cons_zero]
  exact ⟨⟨k,v,(hf e).1,(hf e).2,rfl⟩,h.2⟩
 | e :: es,d :: l,j + 1,f,k,v,h,hf=>by
  simp only [List.modify_succ_cons,List.set_cons_succ]
  exact ⟨h.1,Ut.modify h.2 hf⟩
theorem jm (HT:JN P A.ty) (hc:JX w bl G w0 F0) (hs:Jy (Ja w bl G []) sl a) {t:TypeId} {v:V} {b':BL} (h:o.op=.makeMap t none) (hf:fresh sl bl o.dst (.mp [])=some (v,b')):Jo P w0 F0 sl a w o v b':=by
 obtain ⟨k1,k2⟩:=hc.x.alloc (.map #[] 0)
 have hx:InV (Ja (w.alloc (.map #[] 0)) bl G [w.heap.size]) (.mp []) [.map (some w.heap.size)] [w.heap.size]:=by
  unfold InV
  exact ⟨w.heap.size,#[],0,rfl,(by show (w.heap.push _)[w.heap.size]?=_;simp),trivial,rfl,by simp [Ja]⟩
 obtain ⟨G',g1,g2,g3⟩:=OH (F:=[w.heap.size]) (X:=[]) k1 (hs.go0 k2) (v:=.map (some w.heap.size)) hx (by unfold Qd;rfl) hf
 refine ⟨.map (some w.heap.size),_,G',.inl ?_,g1.c,g2,g3⟩
 simp [execOp,h,Instr.makeMap]
theorem SK {s:Nat} {v:Value} {l:List D} {rc:List Value} {F:List Nat} (hv:Val (Ja w bl G X) (.mref s) v []) (hl:Jb bl s=some (.mp l)) (hg:G s=some (rc,F)):rc[0]?=some v:=by
 have h:=(JM rfl (by simp) (by simp)).1 hv
 unfold InV at h
 obtain ⟨_,_,h2⟩:=h
 obtain ⟨u,h3,h4⟩:=h2 _ rc F hl hg rfl
 simp only [List.cons.injEq,and_true] at h4
 rw [h4];exact h3
theorem jn {b:BL} {m k:V} {v:V} (h:Oo b m k=some v):∃ s l n,m=.mref s∧Jb b s=some (.mp l)∧k=.int .i64 n∧v=.int .i64 (Qq l n):=by
 unfold Oo at h
 split at h
 ·rename_i s
  split at h
  ·rename_i l hl
   split at h
   ·rename_i kk n
    split at h
    ·rename_i hk
     have:=Uz hk
     subst this
     simp only [oj] at h
     exact ⟨s,l,n,rfl,hl,rfl,h.symm⟩
    ·cases h
   ·cases h
  ·cases h
 ·cases h
theorem jo {b b':BL} {m k x:V} (h:W7 b m k x=some b'):∃ s l n v,m=.mref s∧Jb b s=some (.mp l)∧k=.int .i64 n∧x=.int .i64 v∧b'=Jp b s (.mp (QW l n v)):=by
 unfold W7 at h
 split at h
 ·rename_i s
  split at h
  ·rename_i l hl
   split at h
   ·rename_i kk n
    split at h
    ·rename_i kx v
     split at h
     ·rename_i hk
      rw [Jd] at hk
      have h1:=Uz hk.1
      have h2:=Uz hk.2
      subst h1;subst h2
      simp only [oj] at h
      exact ⟨s,l,n,v,rfl,hl,rfl,rfl,h.symm⟩
     ·cases h
    ·cases h
   ·cases h
  ·cases h
 ·cases h
theorem jp (HT:JN P A.ty) (hc:JX w bl G w0 F0) (hs:Jy (Ja w bl G []) sl a) {t:TypeId} {m k:Operand} {v:V} (h:o.op=.lookup t m k false) (ht:CZ (A.ty t)=true) (hv:Oo bl (opd sl m) (opd sl k)=some v):Jo P w0 F0 sl a w o v bl:=by
 obtain ⟨s,l,n,hm,hl,hkk,rfl⟩:=jn hv
 obtain ⟨kt,et,d1,d2,d3⟩:=SH HT ht
 have hmv:=JJ hs m
 rw [hm] at hmv
 have hkv:=JJ hs k
 rw [hkk] at hkv
 obtain ⟨hkv,_⟩:=Qe.1 hkv
 obtain ⟨rc,F,F1,g1,g2,g3,g4,g5⟩:=hc.ok.root s _ hl
 have hr:=SK hmv hl g1
 unfold InV at g2
 obtain ⟨r,es,clk,e1,e2,e3,e4,e5⟩:=g2
 subst e1
 simp only [List.getElem?_cons_zero,oj] at hr
 have e2':w.heap[r]?=some (.map es clk):=e2
 have hE:=HT et (by rw [d3];simp)
 refine Jo.pure hc hs (vv:=.int .i64 (Qq l n)) ?_ (Qe.2 ⟨rfl,rfl⟩)
 have hz:(zeroValue et).run P w=.ok (.int .i64 0) w:=by
  have:=Wd (w:=w) hE
  rw [d3] at this
  simpa [Ua,Qo,JE] using this
 simp only [execOp,h,Instr.lookup,Sem.run_bind,run_underlying d1,Result.andThen_ok,← hr,hkv,YW e2',YX d2,YY d2 e3,Sem.run_pure]
 unfold Qq
 cases HY l n with
 | none=>simp [hz]
 | some j=>simp
theorem jq (HT:JN P A.ty) (hc:JX w bl G w0 F0) (hs:Jy (Ja w bl G []) sl a) {t:TypeId} {m k x:Operand} {b':BL} (h:o.op=.mapUpdate t m k x) (ht:CZ (A.ty t)=true) (hv:W7 bl (opd sl m) (opd sl k) (opd sl x)=some b'):Jo P w0 F0 sl a w o .void b':=by
 obtain ⟨s,l,n,v,hm,hl,hkk,hxx,rfl⟩:=jo hv
 obtain ⟨kt,et,d1,d2,d3⟩:=SH HT ht
 have hmv:=JJ hs m
 rw [hm] at hmv
 have hkv:=JJ hs k
 rw [hkk] at hkv
 obtain ⟨hkv,_⟩:=Qe.1 hkv
 have hxv:=JJ hs x
 rw [hxx] at hxv
 obtain ⟨hxv,_⟩:=Qe.1 hxv
 obtain ⟨rc,F,F1,g1,g2,g3,g4,g5⟩:=hc.ok.root s _ hl
 have hr:=SK hmv hl g1
 obtain ⟨csx,Fx,Fr,m1,m2,m3,m4,m5⟩:=hc.x.modify (p:=[]) (x:=.mp l) (Lx:=.reg rc) hl g1 rfl rfl
 unfold InV at m1
 obtain ⟨r,es,clk,e1,e2,e3,e4,e5⟩:=m1
 subst e1
 obtain ⟨q,hq⟩:=m2
 subst hq
 simp only [List.cons_append,List.nil_append,List.getElem?_cons_zero,oj] at hr
 have e2':w.heap[r]?=some (.map es clk):=e2
 have hlt:r<w.heap.size:=e5
 obtain ⟨es',clk',hrun,hents⟩:∃ es' clk',(execOp a.eval o).run P w=.ok .skip { w with heap:=w.heap.setIfInBounds r (.map es' clk') }∧Ut es'.toList (QW l n v):=by
  unfold QW
  cases hix:HY l n with
  | none=>
   refine ⟨es.push { key:=.int .i64 n,val:=.int .i64 v,born:=clk },clk + 1,?_,?_⟩
   ·simp only [execOp,h,Instr.mapUpdate,Sem.run_bind,run_underlying d1,Result.andThen_ok,← hr,hkv,hxv,YW e2',YX d2,YY d2 e3,hix,SI _ e2',Sem.run_pure]
   ·rw [Array.toList_push];exact e3.push rfl rfl
  | some j=>
   have hj:∃ hj:j<l.length,n=((l[j]).fld 0).toInt:=by
    unfold HY at hix
    rw [List.findIdx?_eq_some_iff_getElem] at hix
    obtain ⟨h1,h2,_⟩:=hix
    exact ⟨h1,by simpa using h2⟩
   obtain ⟨hjl,hjn⟩:=hj
   have hjes:j<es.size:=by have:=e3.len;simp at this;omega
   obtain ⟨k0,v0,k1,k2,k3⟩:=e3.get (j:=j) (e:=es[j]) (by simp [hjes])
   have hk0:k0=n:=by
    rw [hjn]
    have:l.getD j (.int 0)=l[j]:=by rw [List.getD_eq_getElem?_getD,List.getElem?_eq_getElem hjl];rfl
    rw [← this,k3];rfl
   subst hk0
   have hstay:(Instr.keyThatStays (((es[j]?).map (·.key)).getD (.int .i64 k0)) (.int .i64 k0)).run P w=.ok (.int .i64 k0) w:=by
    have:((es[j]?).map (·.key)).getD (.int .i64 k0)=.int .i64 k0:=by
     rw [Array.getElem?_eq_getElem hjes];simp [k1]
    rw [this]
    simp [Instr.keyThatStays,Instr.sameBits]
   refine ⟨es.modify j fun e=>{ e with key:=.int .i64 k0,val:=.int .i64 v },clk,?_,?_⟩
   ·simp only [execOp,h,Instr.mapUpdate,Sem.run_bind,run_underlying d1,Result.andThen_ok,← hr,hkv,hxv,YW e2',YX d2,YY d2 e3,hix,hstay,SI _ e2',Sem.run_pure]
   ·rw [Array.toList_modify];exact e3.modify (fun e=>⟨rfl,rfl⟩)
 have hheap:∀ b,b ≠ r→(w.heap.setIfInBounds r (.map es' clk'))[b]?=w.heap[b]?:=fun b hb=>by
  rw [Array.getElem?_setIfInBounds_ne (fun e=>hb e.symm)]
 have hnew:∀ E:Env,E.w={ w with heap:=w.heap.setIfInBounds r (.map es' clk') }→InV E (.mp (QW l n v)) [.map (some r)] [r]:=by
  intro E hE
  unfold InV
  refine ⟨r,es',clk',rfl,?_,hents,rfl,?_⟩
  ·rw [hE];simp [hlt]
  ·rw [hE];simpa using hlt
 have hrF:r ∈ F:=(m3.mem_iff).2 (by rw [e4];simp)
 have hmem:∀ b,b<w.heap.size→b ∉ Fx→(∀ a,Ji.reg (Value.map (some r) :: q)=.mem a→b ≠ a.block)→(w.heap.setIfInBounds r (.map es' clk'))[b]?=w.heap[b]?:=
  fun b _ hb _=>hheap b (fun e=>hb (by rw [e4,e];simp))
 obtain ⟨p1,p2⟩:=m5 { w with heap:=w.heap.setIfInBounds r (.map es' clk') } (.mp (QW l n v)) [.map (some r)] [r] [] rfl (fun ho=>by simp [V.outer] at ho)
  (by simp) (fun b hb hbF _ hba=>hmem b hb hbF hba) (fun b hb=>by cases hb) trivial ⟨q,rfl⟩ (fun _=>rfl) (by simp)
  (fun b hb=>by
   simp only [List.append_nil,List.mem_singleton] at hb
   subst hb
   exact ⟨by simpa using hlt,.inl (by rw [e4];simp)⟩)
  (fun q x' L' hq=>by
   cases q with
   | nil=>
    simp only [Je,oj,pj] at hq
    obtain ⟨rfl,rfl⟩:=hq
    exact ⟨_,rfl,fun _=>⟨rfl,rfl⟩⟩
   | cons j q=>simp [Je] at hq)
  rfl rfl rfl hmem (fun _=>hnew _ rfl) (fun _=>hnew _ rfl)
 exact ⟨undef,_,_,.inr ⟨hrun,rfl⟩,p1.c,hs.go0 p2,OB.2 ⟨rfl,rfl⟩⟩
end
end Go.Rai
namespace Go.Rai
variable [Inhabited Qi]
section
variable {P:Program} {A:Ann} {w w' w0:World} {F0:List Nat} {sl:List V} {a:Act} {bl b':BL} {G:GT} {o:Oper} {X:List Nat}
theorem YZ {E:Env} (hs:Jy E sl a) {f:Int→Int→Int} {g:Value→Value→Sem Value} (hg:∀ k x k' y,(g (.int k x) (.int k' y)).run P w=.ok (.int k (f x y)) w) :
  ∀ (ys:List Operand) {x:V} {vx:Value} {v:V},Val E x vx []→CX f x (Jm sl ys)=some v→(∃ k n,v=.int k n)→∃ vv,((ys.map a.eval).foldlM g vx).run P w=.ok vv w∧Val E v vv []
 | [],x,vx,v,hx,h,hv=>by
  simp only [Jm,CX,oj] at h
  subst h
  exact ⟨vx,by simp,hx⟩
 | y :: ys,x,vx,v,hx,h,hv=>by
  have hy:=JJ hs y
  simp only [Jm] at h
  cases x with
  | int k p=>
   cases hye:opd sl y with
   | int k' q=>
    rw [hye] at h hy
    simp only [CX] at h
    split at h
    ·obtain ⟨rfl,_⟩:=Qe.1 hx
     obtain ⟨hy,_⟩:=Qe.1 hy
     obtain ⟨vv,r1,r2⟩:=YZ hs hg ys (x:=.int k (f p q)) (vx:=.int k (f p q)) (Qe.2 ⟨rfl,rfl⟩) h hv
     refine ⟨vv,?_,r2⟩
     simp only [List.map_cons,List.foldlM_cons,Sem.run_bind,hy,hg,Result.andThen_ok]
     exact r1
    ·simp at h
   | _=>rw [hye] at h;simp [CX] at h
  | _=>simp [CX] at h
theorem SL (hc:JX w bl G w0 F0) (hs:Jy (Ja w bl G []) sl a) {c:Call} {bu:Builtin} (hbu:bu=.max ∨ bu=.min) {co:List Jk} {v:V} {b:BL} (h:o.op=.call c) (hcal:c.callee=.builtin bu)
  (hv:Qj A sl bl o.dst bu c.argTypes.toList (Jm sl c.args.toList)=some (co,v,b)):Jo P w0 F0 sl a w o v b:=by
 match hargs:c.args.toList with
 | []=>rw [hargs] at hv;rcases hbu with rfl | rfl<;>simp [Jm,Qj] at hv
 | x :: ys=>
  rw [hargs] at hv
  rcases hbu with rfl | rfl
  ·simp only [Jm,Qj] at hv
   split at hv
   ·rename_i k n hm
    simp only [oj,pj] at hv
    obtain ⟨rfl,rfl,rfl⟩:=hv
    obtain ⟨vv,r1,r2⟩:=YZ (P:=P) (w:=w) hs (g:=Builtin.max2) (fun k x k' y=>by simp [Builtin.max2]) ys (JJ hs x) hm ⟨_,_,rfl⟩
    refine Jo.pure hc hs (vv:=vv) (VA h hcal hargs (fun cs=>?_)) r2
    simp [builtin,Builtin.max_,r1]
   ·simp at hv
  ·simp only [Jm,Qj] at hv
   split at hv
   ·rename_i k n hm
    simp only [oj,pj] at hv
    obtain ⟨rfl,rfl,rfl⟩:=hv
    obtain ⟨vv,r1,r2⟩:=YZ (P:=P) (w:=w) hs (g:=Builtin.min2) (fun k x k' y=>by simp [Builtin.min2]) ys (JJ hs x) hm ⟨_,_,rfl⟩
    refine Jo.pure hc hs (vv:=vv) (VA h hcal hargs (fun cs=>?_)) r2
    simp [builtin,Builtin.min_,r1]
   ·simp at hv
theorem jr (HT:JN P A.ty) (hc:JX w bl G w0 F0) (hs:Jy (Ja w bl G []) sl a) {op:Op} (h:o.op=op) {c:List Jk} {v:V} {b:BL} (hv:JD A sl bl o.dst op=some (c,v,b)) (hk:∀ k ∈ c,k.ok) :
  Jo P w0 F0 sl a w o v b:=by
 unfold JD at hv
 split at hv
 ·simp only [oj,pj] at hv
  obtain ⟨rfl,rfl,rfl⟩:=hv
  exact Jo.pure hc hs (My h) (JJ hs _)
 ·simp only [oj,pj] at hv
  obtain ⟨rfl,rfl,rfl⟩:=hv
  exact Jo.pure hc hs (Mz h) (JJ hs _)
 ·split at hv
  ·rename_i hp
   simp only [oj,pj] at hv
   obtain ⟨rfl,rfl,rfl⟩:=hv
   exact MA hc hs h hp
  ·simp at hv
 ·split at hv
  ·rename_i hz
   exact MY HT hc hs h hz (HA hv).2
  ·simp at hv
 ·split at hv
  ·rename_i hz
   exact MZ hc hs h hz (HA hv).2
  ·simp at hv
 ·split at hv
  ·rename_i fs hty
   split at hv
   ·rename_i hz
    split at hv
    ·rename_i vs hf
     simp only [oj,pj] at hv
     obtain ⟨rfl,rfl,rfl⟩:=hv
     exact M0 HT hc hs h hty hz hf
    ·simp at hv
   ·simp at hv
  ·rename_i n e hty
   split at hv
   ·rename_i hz
    rw [Jd] at hz
    split at hv
    ·rename_i hps
     simp only [oj,pj] at hv
     obtain ⟨rfl,rfl,rfl⟩:=hv
     exact M3 HT hc hs h hty hz.1 hps
    ·simp at hv
   ·simp at hv
  ·simp at hv
 ·split at hv
  ·rename_i e hty
   split at hv
   ·rename_i hz
    rw [Jd] at hz
    split at hv
    ·rename_i vs hf
     exact M4 HT hc hs h hty hz.1 (Nat.le_of_ble_eq_true hz.2) hf hv
    ·simp at hv
   ·simp at hv
  ·simp at hv
 ·exact MJ HT hc hs h hv hk
 ·split at hv
  ·simp at hv
  ·rename_i hz
   exact M7 HT hc hs h (fun h0=>by rw [h0] at hz;simp at hz) hv hk
 ·split at hv
  ·rename_i hx
   simp only [oj,pj] at hv
   obtain ⟨rfl,rfl,rfl⟩:=hv
   exact YD hc hs h hx (.inl ⟨_,_,rfl⟩)
  ·rename_i hx
   simp only [oj,pj] at hv
   obtain ⟨rfl,rfl,rfl⟩:=hv
   exact YD hc hs h hx (.inr (.inl ⟨_,rfl⟩))
  ·rename_i hx
   simp only [oj,pj] at hv
   obtain ⟨rfl,rfl,rfl⟩:=hv
   exact YD hc hs h hx (.inr (.inr ⟨_,_,rfl⟩))
  ·simp at hv
 ·split at hv
  ·rename_i hb
   simp only [oj,pj] at hv
   obtain ⟨rfl,rfl,rfl⟩:=hv
   exact MV HT hc hs h hb hk
  ·simp at hv
 ·split at hv
  ·rename_i hb
   simp only [oj,pj] at hv
   obtain ⟨rfl,rfl,rfl⟩:=hv
   exact MB hc hs h hb
  ·simp at hv
 ·split at hv
  ·rename_i hsl
   split at hv
   ·rename_i e hts htt
    exact jg HT hc hs h hts htt hv hk
   ·simp at hv
  ·exact MC HT hc hs h hv
 ·split at hv
  ·rename_i f hfi
   split at hv
   ·rename_i hcap
    simp only [oj,pj] at hv
    obtain ⟨rfl,rfl,rfl⟩:=hv
    exact MF hc hs h hfi hcap
   ·simp at hv
  ·simp at hv
 ·split at hv
  ·rename_i e hty
   split at hv
   ·rename_i hp
    split at hv
    ·rename_i ln cn h1 h2
     obtain ⟨rfl,hfr⟩:=HA hv
     exact M5 HT hc hs h hty hp h1 h2 (hk _ (by simp)) hfr
    ·simp at hv
   ·simp at hv
  ·simp at hv
 ·exact MR HT hc hs h hv hk
 ·exact ML HT hc hs h hv hk
 ·split at hv
  ·rename_i hf
   simp only [oj,pj] at hv
   obtain ⟨rfl,rfl,rfl⟩:=hv
   exact MM HT hc hs h hf
  ·simp at hv
 ·exact MO HT hc hs h hv hk
 ·split at hv
  ·rename_i hty
   exact ME HT hc hs h hty hv hk
  ·simp at hv
 ·split at hv
  ·rename_i vs hx
   split at hv
   ·rename_i hn
    simp only [oj,pj] at hv
    obtain ⟨rfl,rfl,rfl⟩:=hv
    exact MD hc hs h hx hn
   ·simp at hv
  ·simp at hv
 ·split at hv
  ·split at hv
   ·exact jm HT hc hs h (HA hv).2
   ·simp at hv
  ·simp at hv
 ·split at hv
  ·split at hv
   ·rename_i ht
    split at hv
    ·rename_i v' hv'
     simp only [oj,pj] at hv
     obtain ⟨rfl,rfl,rfl⟩:=hv
     exact jp HT hc hs h ht hv'
    ·simp at hv
   ·simp at hv
  ·simp at hv
 ·split at hv
  ·rename_i ht
   split at hv
   ·rename_i b2 hv'
    simp only [oj,pj] at hv
    obtain ⟨rfl,rfl,rfl⟩:=hv
    exact jq HT hc hs h ht hv'
   ·simp at hv
  ·simp at hv
 ·rename_i cl
  split at hv
  ·rename_i f hcal
   cases f with
   | len=>exact MH (xs:=[]) HT hc hs h hcal hv hk
   | cap=>exact MI HT hc hs h hcal hv
   | append=>exact jf HT hc hs h hcal hv hk
   | copy=>exact ji HT hc hs h hcal hv hk
   | clear=>exact jk HT hc hs h hcal hv hk
   | max=>exact SL hc hs (.inl rfl) h hcal hv
   | min=>exact SL hc hs (.inr rfl) h hcal hv
   | _=>simp [Qj] at hv
  ·simp at hv
 ·simp at hv
end
end Go.Rai
namespace Go.Rai
variable [Inhabited Qi]
mutual
theorem CL {R:Type}:∀ (v:V) (κ:V→Option R),Qx v κ=κ v
 | .agg vs,κ=>by unfold Qx;rw [U7 vs]
 | .lst e vs,κ=>by unfold Qx;rw [U7 vs]
 | .tup vs,κ=>by unfold Qx;rw [U7 vs]
 | .fn f vs,κ=>by unfold Qx;rw [U7 vs]
 | .obox v,κ=>by unfold Qx;rw [CL v]
 | .rp v,κ=>by unfold Qx;rw [CL v]
 | .full s p e,κ=>by unfold Qx;rw [OM p]
 | .sub s p o l e,κ=>by unfold Qx;rw [OM p]
 | .ptr s p,κ=>by unfold Qx;rw [OM p]
 | .undef,κ=>by unfold Qx;rfl
 | .void,κ=>by unfold Qx;rfl
 | .int k n,κ=>by unfold Qx;rfl
 | .bool b,κ=>by unfold Qx;rfl
 | .str s,κ=>by unfold Qx;rfl
 | .arr n e l,κ=>by unfold Qx;rfl
 | .own e l,κ=>by unfold Qx;rfl
 | .ownh e l i,κ=>by unfold Qx;rfl
 | .rd e l,κ=>by unfold Qx;rfl
 | .nilsl,κ=>by unfold Qx;rfl
 | .emp e,κ=>by unfold Qx;rfl
 | .nilfn,κ=>by unfold Qx;rfl
 | .nilptr,κ=>by unfold Qx;rfl
 | .mp l,κ=>by unfold Qx;rfl
 | .mref s,κ=>by unfold Qx;rfl
theorem U7 {R:Type}:∀ (vs:List V) (κ:List V→Option R),Ux vs κ=κ vs
 | [],κ=>by unfold Ux;rfl
 | v :: vs,κ=>by unfold Ux;rw [CL v,U7 vs]
theorem OM {R:Type}:∀ (p:List Nat) (κ:List Nat→Option R),Uy p κ=κ p
 | [],κ=>by unfold Uy;rfl
 | n :: p,κ=>by unfold Uy;rw [OM p]
end
theorem H7 {R:Type}:∀ (b:BL) (κ:BL→Option R),Hs b κ=κ b
 | [],κ=>rfl
 | (k,v) :: r,κ=>by unfold Hs;rw [CL,H7 r]
theorem HO {R:Type}:∀ (l:List V) (n:Nat) (x:V) (κ:List V→Option R),Hd l n x κ=κ (JC l n x)
 | [],_,_,_=>rfl
 | _ :: _,0,_,_=>rfl
 | a :: l,n + 1,x,κ=>by unfold Hd JC;rw [HO l]
def Qw (sl:List V):Option Nat→V→List V
 | some t,v=>JC sl t v
 | none,_=>sl
theorem UQ {R:Type} (σ:St) (d:Option Nat) (v:V) (b:BL) (κ:St→Option R):QX σ d v b κ=κ ⟨Qw σ.sl d v,b⟩:=by
 unfold QX Qw
 cases d with
 | none=>simp [H7]
 | some t=>simp [CL,HO,H7]
theorem UR {R:Type}:∀ {c:List Jk} {k:Option R} {r:R},QR c k=some r→(∀ x ∈ c,x.ok)∧k=some r
 | [],k,r,h=>⟨fun x hx=>(by cases hx),h⟩
 | x :: c,k,r,h=>by
  have step:∀ (p:Prop) [Decidable p],(p→x.ok)→(if p then QR c k else none)=some r→(∀ y ∈ x :: c,y.ok)∧k=some r:=by
   intro p _ hp hh
   split at hh
   ·rename_i hc
    obtain ⟨h1,h2⟩:=UR hh
    refine ⟨fun y hy=>?_,h2⟩
    rcases List.mem_cons.1 hy with rfl | hy
    ·exact hp hc
    ·exact h1 y hy
   ·cases hh
  cases x<;>exact step _ (fun h=>h) h
theorem ON:∀ (sl:List V) (t u:Nat) (v:V),Jw (JC sl t v) u=if u=t∧t<sl.length then v else Jw sl u
 | [],t,u,v=>by simp [JC]
 | x :: sl,0,0,v=>by simp [JC,Jw]
 | x :: sl,0,u + 1,v=>by simp [JC,Jw]
 | x :: sl,t + 1,0,v=>by simp [JC,Jw]
 | x :: sl,t + 1,u + 1,v=>by simp [JC,Jw,ON sl t u v]
theorem VB {α:Type}:∀ (l:List α) (n:Nat) (x:α),(JC l n x).length=l.length
 | [],_,_=>rfl
 | _ :: _,0,_=>rfl
 | a :: l,n + 1,x=>by simp [JC,VB l]
section
variable {P:Program} {A:Ann} {w w' w0:World} {F0:List Nat} {sl:List V} {a:Act} {bl b':BL} {G:GT} {o:Oper} {X:List Nat}
theorem Jy.put {E:Env} (hs:Jy E sl a) (hl:a.tmps.size=sl.length) {d:Option Nat} {v:V} {vv:Value} (hv:Val E v vv []):Jy E (Qw sl d v) (a.put d vv):=by
 cases d with
 | none=>exact hs
 | some t=>
  intro u
  simp only [Qw,Act.put,ON]
  by_cases hu:u=t∧t<sl.length
  ·obtain ⟨rfl,hlt⟩:=hu
   rw [if_pos ⟨rfl,hlt⟩]
   have:(a.tmps.setIfInBounds u vv).getD u undef=vv:=by
    rw [Array.getD_eq_getD_getElem?,Array.getElem?_setIfInBounds_self_of_lt (by omega)]
    rfl
   rw [this];exact hv
  ·rw [if_neg hu]
   have:(a.tmps.setIfInBounds t vv).getD u undef=a.tmps.getD u undef:=by
    rw [Array.getD_eq_getD_getElem?,Array.getD_eq_getD_getElem?]
    by_cases hut:t=u
    ·subst hut
     have:¬ t<sl.length:=fun h=>hu ⟨rfl,h⟩
     rw [Array.setIfInBounds_eq_of_size_le (by omega)]
    ·rw [Array.getElem?_setIfInBounds_ne hut]
   rw [this];exact hs u
theorem js {Pn:Nat→Option Value} (hp:∀ t v,Pn t=some v→a.tmps.getD t undef=v) {d:Option Nat} (hdst:∀ t,d=some t→Pn t=none) {vv:Value}:∀ t v,Pn t=some v→(a.put d vv).tmps.getD t undef=v:=by
 intro t v h
 cases d with
 | none=>exact hp t v h
 | some u=>
  have hne:u ≠ t:=fun e=>by
   subst e
   rw [hdst u rfl] at h
   cases h
  have:=hp t v h
  rw [Array.getD_eq_getD_getElem?] at this ⊢
  simp only [Act.put]
  rw [Array.getElem?_setIfInBounds_ne hne]
  exact this
theorem Rel.put {Pn:Nat→Option Value} (hc:JX w bl G w0 F0) (hs:Jy (Ja w bl G []) sl a) (hl:a.tmps.size=sl.length) (hd:a.defers=[]) (hp:∀ t v,Pn t=some v→a.tmps.getD t undef=v) {d:Option Nat} (hdst:∀ t,d=some t→Pn t=none) {v:V} {vv:Value} (hv:Val (Ja w bl G []) v vv []) :
  Rel Pn w0 F0 ⟨Qw sl d v,bl⟩ (a.put d vv) w:=by
 refine ⟨⟨G,hc,hs.put hl hv⟩,?_,?_,js hp hdst⟩
 ·cases d with
  | none=>exact hl
  | some t=>simp [Act.put,Qw,VB,hl]
 ·cases d<;>exact hd
end
def Xu (P:Program) (c:Code) (Q:Exit→Act→World→Prop) (a:Act) (w:World):Prop:=
 ∀ (b:Frame) (k:List Item) (cs:List Frame),∃ e a' w',Q e a' w'∧Arrives P (lone (b.at a (.code c :: .inLoop c :: k)) cs w) b k cs e a' w'
theorem jt {P:Program} {c:Code} {Q:Exit→Act→World→Prop} {a:Act} {w:World} (h:Xu P c Q a w):(Code.loop c).wp P Q a w:=by
 intro b k cs
 obtain ⟨e,a',w',hq,harr⟩:=h b k cs
 exact ⟨e,a',w',hq,.of_steps (.one step_loop) harr⟩
theorem ju {P:Program} {c:Code} {Q:Exit→Act→World→Prop} {a:Act} {w:World} (h:c.wp P (Exit.then (Xu P c Q) Q) a w):Xu P c Q a w:=by
 intro b k cs
 obtain ⟨e,a₁,w₁,hq,harr⟩:=h b (.inLoop c :: k) cs
 cases e with
 | normal=>
  obtain ⟨e₂,a₂,w₂,hq₂,harr₂⟩:=hq b k cs
  exact ⟨e₂,a₂,w₂,hq₂,.of_steps (Steps.trans harr (.one step_inLoop)) harr₂⟩
 | exit id=>exact ⟨_,a₁,w₁,hq,.pass (x:=.inLoop c) rfl (fun _ _=>.inl (by simp)) harr⟩
 | goto l=>exact ⟨_,a₁,w₁,hq,.pass (x:=.inLoop c) rfl (fun _ _=>.inl (by simp)) harr⟩
 | ret=>exact ⟨_,a₁,w₁,hq,.pass (x:=.inLoop c) rfl (fun _ _=>.inl (by simp)) harr⟩
 | panic ch=>exact ⟨_,a₁,w₁,hq,.pass (x:=.inLoop c) rfl (fun _ _=>.inl (by simp)) harr⟩
 | outgrown=>exact ⟨_,a₁,w₁,hq,.pass (x:=.inLoop c) rfl (fun _ _=>.inl (by simp)) harr⟩
end Go.Rai
namespace Go.Rai
variable [Inhabited Qi]
section
variable {P:Program} {A:Ann} {w w' w0:World} {F0:List Nat} {sl:List V} {a:Act} {bl b':BL} {G:GT} {o:Oper} {X:List Nat}
theorem Xv (ho:Ok w bl G X) {s:Nat} {p:List Nat} {c:List Jk} {x:V} (hg:JR bl s p=some (c,x)) (hk:∀ k ∈ c,k.ok) :
  ∃ c0 rc F,Jb bl s=some c0∧G s=some (rc,F)∧∃ Lx csx Fx,Je w c0 (.reg rc) p=some (x,Lx)∧InV (Ja w bl G X) x csx Fx∧Lx.holds w csx∧(∀ b ∈ Fx,b<w.heap.size∧b ∉ X)∧∀ ad,Lx=.mem ad→ad.block<w.heap.size∧ad.block ∉ X:=by
 unfold JR at hg
 split at hg
 ·rename_i c0 hl
  obtain ⟨rc,F,F1,h1,h2,h3,h4,h5⟩:=ho.root s c0 hl
  obtain ⟨Lx,h6⟩:=HM (Ja w bl G X) p c0 rc F1 (.reg rc) c x h2 ⟨[],by simp⟩ hg hk
  obtain ⟨csx,Fx,Fr,i1,i2,i3,i4,_⟩:=ho.modify hl h1 h6 (by rw [hg];rfl)
  exact ⟨c0,rc,F,hl,h1,Lx,csx,Fx,h6,i1,i2,fun b hb=>h5 b ((i3.mem_iff).2 (by simp [hb])),fun ad had=>by
   rcases i4 with ⟨a',ha',hin⟩ | ⟨ds,hds⟩
   ·rw [had] at ha';cases ha'
    exact h5 _ ((i3.mem_iff).2 (by simp [hin]))
   ·rw [had] at hds;cases hds⟩
 ·simp at hg
theorem SM {E:Env} {e:Ty} (hp:e.plain=true):∀ {n:Nat} {vs:List V} {cs:List Value},JI (rep n e) vs=true→O0 vs=true→Jj E vs cs []→∃ F,Row (DIn false E.w e) (Ul vs) cs F∧∀ b ∈ F,E.Sb e b
 | 0,vs,cs,h,_,hi=>by
  cases vs<;>simp [rep,JI] at h
  unfold Jj at hi
  obtain ⟨rfl,_⟩:=hi
  exact ⟨[],⟨rfl,rfl⟩,fun b hb=>by cases hb⟩
 | n + 1,vs,cs,h,ho,hi=>by
  cases vs with
  | nil=>simp [rep,JI] at h
  | cons v vs=>
   simp only [rep,JI,Jd] at h
   cases v<;>simp [O0] at ho
   rename_i e1 l
   unfold Jj at hi
   obtain ⟨c1,c2,F1,F2,e1',e2',h1,h2⟩:=hi
   obtain ⟨rfl,rfl⟩:=List.append_eq_nil_iff.1 e2'.symm
   obtain ⟨F,g1,g2⟩:=SM hp h.2 ho h2
   unfold InV at h1
   obtain ⟨_,_,Ad,cap,F',q1,q2,q3⟩:=h1
   have he:e=.slice e1:=by
    have:=h.1
    cases e<;>simp [Jq] at this
    rw [Ty.beq_eq _ _ this]
   subst he
   refine ⟨F' ++ F,⟨c1,c2,F',F,e1',rfl,?_,g1⟩,fun b hb=>?_⟩
   ·unfold DIn
    exact ⟨Ad,cap,q1,q2⟩
   ·rcases List.mem_append.1 hb with q | q
    ·exact q3 b q
    ·exact g2 b q
theorem SN {e:Ty} (he:Cc e=false):∀ {n:Nat} {vs:List V},JI (rep n e) vs=true→O0 vs=true→CC vs=true
 | 0,vs,h,_=>by cases vs<;>simp [rep,JI] at h;rfl
 | n + 1,vs,h,ho=>by
  cases vs with
  | nil=>rfl
  | cons v vs=>
   simp only [rep,JI,Jd] at h
   cases v<;>simp [O0] at ho
   rename_i e1 l
   have he1:e=.slice e1:=by
    have:=h.1
    cases e<;>simp [Jq] at this
    rw [Ty.beq_eq _ _ this]
   subst he1
   have:Cc e1=false:=he
   unfold CC noB
   rw [this,SN he h.2 ho]
   rfl
theorem Y0:∀ (n:Nat) {b:BL} {vs ws:List V} {c:List Jk},UB b n vs=some (c,ws)→ws.length=vs.length
 | 0,b,vs,ws,c,h=>by simp [UB] at h
 | n + 1,b,[],ws,c,h=>by simp [UB] at h;rw [h.2]
 | n + 1,b,v :: vs,ws,c,h=>by
  simp only [UB] at h
  split at h
  ·split at h
   ·rename_i h2
    simp only [oj,pj] at h
    obtain ⟨_,rfl⟩:=h
    simp [Y0 n h2]
   ·simp at h
  ·simp at h
def C8 (w:World) (X:List Nat) (Ec:Env) (q:Bool):Prop:=q=true ∨ ∀ b,b<w.heap.size→b ∉ X→Ec.K b
theorem SO (ho:Ok w bl G X) {Ec:Env} (hw:Ec.w=w) (hbl:Ec.bl=[]) (hS:∀ b,b<w.heap.size→b ∉ X→Ec.S b) (hle:Le (Ja w bl G X) Ec):∀ n,
  (∀ {v y:V} {c:List Jk} {cs:List Value} {F:List Nat},InV (Ja w bl G X) v cs F→(∀ b ∈ F,b<w.heap.size∧b ∉ X)→lend bl n v=some (c,y)→(∀ k ∈ c,k.ok)→C8 w X Ec (noB y)→InV Ec y cs []) ∧
  (∀ {vs ys:List V} {c:List Jk} {cs:List Value} {F:List Nat},Jj (Ja w bl G X) vs cs F→(∀ b ∈ F,b<w.heap.size∧b ∉ X)→UB bl n vs=some (c,ys)→(∀ k ∈ c,k.ok)→C8 w X Ec (CC ys)→Jj Ec ys cs [])
 | 0=>⟨fun _ _ h=>by simp [lend] at h,fun _ _ h=>by simp [UB] at h⟩
 | n + 1=>by
  obtain ⟨ih1,ih2⟩:=SO ho hw hbl hS hle n
  have keep:∀ {v:V} {cs:List Value},InV (Ja w bl G X) v cs []→InV Ec v cs []:=fun h=>UZ hle _ (fun s _ c' rc' F' hlk=>by rw [hbl] at hlk;simp [Jb] at hlk) (fun b hb=>by cases hb) h
  have rd:∀ {e:Ty} {l:List D} {Ad:Option Addr} {cap:Nat} {F:List Nat},e.plain=true→UF true w (DIn true w e) e.size Ad cap l F→(∀ b ∈ F,b<w.heap.size∧b ∉ X)→C8 w X Ec (noB (.rd e l))→InV Ec (.rd e l) [.slice Ad l.length cap] []:=by
   intro e l Ad cap F hp hs hF hq
   unfold InV
   refine ⟨rfl,hp,Ad,cap,F,rfl,?_,fun b hb=>⟨hS b (hF b hb).1 (hF b hb).2,fun he=>?_⟩⟩
   ·rw [hw]
    exact Xb (fun d c G hd=>Oy _ hd) hs
   ·rcases hq with hq | hq
    ·unfold noB at hq;rw [he] at hq;cases hq
    ·exact hq b (hF b hb).1 (hF b hb).2
  constructor
  ·intro v y c cs F hv hF h hk hq
   unfold lend at h
   split at h
   ·rename_i s p e
    unfold InV at hv
    obtain ⟨rfl,_,hal⟩:=hv
    split at h
    ·rename_i c1 e1 l hg
     simp only [oj,pj] at h
     obtain ⟨rfl,rfl⟩:=h
     obtain ⟨c0,rc,Fs,k1,k2,Lx,csx,Fx,k3,k4,k5,k6,k7⟩:=Xv ho hg hk
     obtain ⟨u,g1,g2⟩:=hal c0 rc Fs k1 k2 _ _ k3 rfl
     unfold InV at k4
     obtain ⟨hp,Ad,cap,hcs,hsl⟩:=k4
     rw [hcs] at k5
     have hh:=JL k5
     rw [show (Ja w bl G X).w=w from rfl,hh] at g1
     simp only [oj] at g1
     rw [g2,← g1]
     exact rd hp hsl k6 hq
    ·rename_i c1 e1 vs hg
     split at h
     ·rename_i c2 ws hin
      split at h
      ·rename_i hall
       simp only [oj,pj] at h
       obtain ⟨rfl,rfl⟩:=h
       rw [Jd] at hall
       rw [Jd] at hall
       obtain ⟨hp,hrd,hfit⟩:=hall
       obtain ⟨hk1,hk2⟩:=QU hk
       obtain ⟨c0,rc,Fs,k1,k2,Lx,csx,Fx,k3,k4,k5,k6,k7⟩:=Xv ho hg hk1
       obtain ⟨u,g1,g2⟩:=hal c0 rc Fs k1 k2 _ _ k3 rfl
       unfold InV at k4
       obtain ⟨ad,cc,cs',F',hcs',hlc,hes,hin',hca,hFx,hb,hun⟩:=k4
       rw [hcs'] at k5
       have hh:=JL k5
       rw [show (Ja w bl G X).w=w from rfl,hh] at g1
       simp only [oj] at g1
       subst hFx
       have hws:=ih2 hin' (fun b hb=>k6 b (by simp [hb])) hin hk2 (by
        rcases hq with hq | hq
        ·unfold noB at hq
         cases hbe:Cc e1 with
         | true=>rw [hbe] at hq;cases hq
         | false=>exact .inl (SN hbe hfit hrd)
        ·exact .inr hq)
       obtain ⟨Fr,r1,r2⟩:=SM hp hfit hrd hws
       have hlen:(Ul ws).length=vs.length:=by
        rw [Wo]
        exact Y0 n hin
       rw [g2,← g1]
       unfold InV
       refine ⟨rfl,hp,some ad,cc,ad.block :: Fr,by rw [hlen],.inr ⟨ad,cs',Fr,rfl,r1,by rw [hw];exact hca,rfl,by rw [hlen];exact hlc,by rw [hw];exact hb,fun h=>by cases h⟩,fun b hb=>?_⟩
       rcases List.mem_cons.1 hb with rfl | hb
       ·refine ⟨hS _ (k6 _ (by simp)).1 (k6 _ (by simp)).2,fun he=>?_⟩
        rcases hq with hq | hq
        ·unfold noB at hq;rw [he] at hq;cases hq
        ·exact hq _ (k6 _ (by simp)).1 (k6 _ (by simp)).2
       ·exact r2 b hb
      ·simp at h
     ·simp at h
    ·simp at h
   ·rename_i s p off len e
    unfold InV at hv
    obtain ⟨rfl,_,hal⟩:=hv
    split at h
    ·rename_i c1 e1 l hg
     split at h
     ·rename_i hbe
      have hee:=Ty.beq_eq _ _ hbe
      subst hee
      simp only [oj,pj] at h
      obtain ⟨rfl,rfl⟩:=h
      obtain ⟨hk1,hk2⟩:=QU hk
      have hb:off + len≤l.length:=hk2 (.le (off + len) l.length) (by simp)
      obtain ⟨c0,rc,Fs,k1,k2,Lx,csx,Fx,k3,k4,k5,k6,k7⟩:=Xv ho hg hk1
      obtain ⟨A0,n0,k0,A',g1,g2,g3,g4⟩:=hal c0 rc Fs k1 k2 _ _ k3 rfl
      unfold InV at k4
      obtain ⟨hp,Ad,cap,hcs,hsl⟩:=k4
      rw [hcs] at k5
      have hh:=JL k5
      rw [show (Ja w bl G X).w=w from rfl,hh] at g1
      simp only [oj,Value.slice.injEq] at g1
      obtain ⟨rfl,rfl,rfl⟩:=g1
      obtain ⟨F'',r1,r2,_⟩:=Xo (off:=off) (len:=len) (fun d c G hd=>Ql _ hd) hsl hb g4
      rw [g3]
      have:=rd hp r1 (fun b hb=>k6 b (r2 b hb)) hq
      rwa [show ((l.drop off).take len).length=len by simp;omega] at this
     ·simp at h
    ·simp at h
   ·rename_i s p
    unfold InV at hv
    obtain ⟨rfl,_,hal⟩:=hv
    split at h
    ·rename_i c1 x hg
     split at h
     ·rename_i c2 y' hin
      simp only [oj,pj] at h
      obtain ⟨rfl,rfl⟩:=h
      obtain ⟨hk1,hk2⟩:=QU hk
      obtain ⟨c0,rc,Fs,k1,k2,Lx,csx,Fx,k3,k4,k5,k6,k7⟩:=Xv ho hg hk1
      obtain ⟨ad,g1,g2⟩:=hal c0 rc Fs k1 k2 _ _ k3
      subst g1
      have hy:=ih1 k4 k6 hin hk2 hq
      rw [g2]
      unfold InV
      exact ⟨rfl,ad,csx,rfl,hy,by rw [hw];exact k5,hS _ (k7 ad rfl).1 (k7 ad rfl).2⟩
     ·simp at h
    ·simp at h
   ·rename_i e l
    simp only [oj,pj] at h
    obtain ⟨rfl,rfl⟩:=h
    unfold InV at hv
    obtain ⟨hp,Ad,cap,rfl,hsl⟩:=hv
    exact rd hp hsl hF hq
   ·rename_i x
    split at h
    ·rename_i c2 y' hin
     simp only [oj,pj] at h
     obtain ⟨rfl,rfl⟩:=h
     unfold InV at hv
     obtain ⟨ad,cs',F',rfl,hin',hca,hFx,hb,hun⟩:=hv
     subst hFx
     have hy:=ih1 hin' (fun b hb=>hF b (by simp [hb])) hin hk hq
     unfold InV
     exact ⟨rfl,ad,cs',rfl,hy,by rw [hw];exact hca,hS _ (hF _ (by simp)).1 (hF _ (by simp)).2⟩
    ·simp at h
   ·rename_i vs
    split at h
    ·rename_i c2 ws hin
     simp only [oj,pj] at h
     obtain ⟨rfl,rfl⟩:=h
     unfold InV at hv ⊢
     exact ih2 hv hF hin hk hq
    ·simp at h
   ·rename_i f caps
    split at h
    ·rename_i c2 ws hin
     simp only [oj,pj] at h
     obtain ⟨rfl,rfl⟩:=h
     unfold InV at hv ⊢
     obtain ⟨vals,hcs,hvs,hvz⟩:=hv
     have hws:=ih2 hvs hF hin hk hq
     refine ⟨vals,hcs,hws,?_⟩
     rw [← CG _ hws,CG _ hvs,hvz,Y0 n hin]
    ·simp at h
   ·simp at h
   ·simp at h
   ·simp at h
   ·simp at h
   ·simp at h
   ·simp at h
   ·simp at h
   ·simp only [oj,pj] at h
    obtain ⟨rfl,rfl⟩:=h
    have hnil:F=[]:=by
     have hv':=hv
     unfold InV at hv'
     split at hv'<;>first | exact hv'.2 | exact hv'.1 | (exact Hi (fun d c G hd=>Hj _ hv'.2.1 hd) hv'.2.2) | simp_all
    subst hnil
    exact keep hv
  ·intro vs ys c cs F hv hF h hk hq
   cases vs with
   | nil=>
    simp only [UB,oj,pj] at h
    obtain ⟨rfl,rfl⟩:=h
    unfold Jj at hv ⊢
    exact ⟨hv.1,rfl⟩
   | cons v vs=>
    simp only [UB] at h
    split at h
    ·rename_i c1 w1 h1
     split at h
     ·rename_i c2 ws h2
      simp only [oj,pj] at h
      obtain ⟨rfl,rfl⟩:=h
      obtain ⟨hk1,hk2⟩:=QU hk
      unfold Jj at hv ⊢
      obtain ⟨d1,d2,F1,F2,rfl,rfl,i1,i2⟩:=hv
      have hq1:C8 w X Ec (noB w1):=by
       rcases hq with hq | hq
       ·unfold CC at hq;rw [Jd] at hq;exact .inl hq.1
       ·exact .inr hq
      have hq2:C8 w X Ec (CC ws):=by
       rcases hq with hq | hq
       ·unfold CC at hq;rw [Jd] at hq;exact .inl hq.2
       ·exact .inr hq
      exact ⟨d1,d2,[],[],rfl,rfl,ih1 i1 (fun b hb=>hF b (by simp [hb])) h1 hk1 hq1,ih2 i2 (fun b hb=>hF b (by simp [hb])) h2 hk2 hq2⟩
     ·simp at h
    ·simp at h
end
end Go.Rai
namespace Go.Rai
variable [Inhabited Qi]
def Q0 (K:Nat→Prop) (w:World) (F:List Nat):Env:=⟨w,fun b=>b<w.heap.size∧b ∉ F,K,[],fun _=>none⟩
def CM (E:Env) (io:Nat→Bool):Nat→List V→List Value→List Nat→Prop
 | _,[],vs,F=>vs=[]∧F=[]
 | i,x :: xs,vs,F=>∃ v r F1 F2,vs=v :: r∧F=F1 ++ F2∧(io i=true→One E x v F1)∧(io i=false→F1=[])∧CM E io (i + 1) xs r F2
def UH (E:Env) (io:Nat→Bool):Nat→List V→List Value→List Nat→Prop
 | _,[],vs,F=>vs=[]∧F=[]
 | i,x :: xs,vs,F=>∃ v r F1 F2,vs=v :: r∧F=F1 ++ F2∧One E x v F1∧(io i=false→F1=[])∧UH E io (i + 1) xs r F2
def Qf:Yi→Bool
 | .io=>true
 | _=>false
def Hm:Yi→Bool
 | .io=>true
 | .take=>true
 | _=>false
def jv (P : Program) (f : FuncId) : Prop := ∃ fn, P.funcs[f]? = some fn ∧ (fn.name == "runtime.NumGoroutine") = false ∧ fn.body.isNone = false
def HP (P:Program) (io:Nat→Bool) (f:FuncId) (args:List V) (res:V) (outs:List V):Prop:=
 jv P f∧∀ (K:Nat→Prop) (w:World) (vals:List Value) (F:List Nat),Tup (Q0 K w F) args vals F→F.Nodup→(∀ b ∈ F,b<w.heap.size) →
  Calls P f vals.toArray w fun e w'=>∃ v Fr Fo,e=.returned v∧Val (Q0 K w' (Fr ++ Fo)) res v Fr∧CM (Q0 K w' (Fr ++ Fo)) io 0 outs vals Fo ∧
   (Fr ++ Fo).Nodup∧(∀ b ∈ Fr ++ Fo,b<w'.heap.size∧(b ∈ F ∨ w.heap.size≤b)) ∧
   (∀ b,b<w.heap.size→b ∉ F→w'.heap[b]?=w.heap[b]?)∧w.heap.size≤w'.heap.size∧w'.os=w.os∧w'.tape=w.tape∧w'.output=w.output
def HQ (P:Program) (A:Ann) {R:Type} (oc:OC R):Prop:=
 ∀ f args κ r,oc f args κ=some r→∃ res outs,κ res outs=some r∧HP P (fun i=>Qf (A.mode f i)) f args res outs
section
variable {P:Program} {A:Ann} {w w' w0:World} {F0:List Nat} {sl:List V} {a:Act} {bl b':BL} {G:GT} {o:Oper} {X:List Nat}
theorem jx {E:Env}:∀ (t:Ty) {v:V} {cs:List Value},InV E v cs []→InV E (Yg t v) cs []:=by
 intro t v cs h
 cases t with
 | slice e=>
  cases v with
  | nilsl=>
   show InV E (match e.plain with | true=>.rd e [] | false=>.nilsl) cs []
   cases hp:e.plain with
   | false=>exact h
   | true=>
    show InV E (.rd e []) cs []
    unfold InV at h ⊢
    exact ⟨rfl,hp,none,0,[],h.1,.inl ⟨rfl,rfl,rfl⟩,fun b hb=>by cases hb⟩
  | emp e'=>
   show InV E (match e.plain with | true=>.rd e [] | false=>.emp e') cs []
   cases hp:e.plain with
   | false=>exact h
   | true=>
    show InV E (.rd e []) cs []
    unfold InV at h ⊢
    obtain ⟨⟨A,rfl⟩,_⟩:=h
    exact ⟨rfl,hp,A,0,[],rfl,.inl ⟨rfl,rfl,rfl⟩,fun b hb=>by cases hb⟩
  | _=>exact h
 | _=>cases v<;>exact h
theorem jy (t:Ty) (v:V):isA (Yg t v)=isA v:=by
 cases t with
 | slice e=>
  cases v with
  | nilsl=>show isA (match e.plain with | true=>.rd e [] | false=>.nilsl)=false;cases e.plain<;>rfl
  | emp e'=>show isA (match e.plain with | true=>.rd e [] | false=>.emp e')=false;cases e.plain<;>rfl
  | _=>rfl
 | _=>cases v<;>rfl
theorem Xw {E E':Env} (h:Jx E E' (fun _=>False)):∀ {xs:List V} {vs:List Value} {F:List Nat},QL E.w E'.w F→Tup E xs vs F→Tup E' xs vs F
 | [],vs,F,_,hh=>hh
 | x :: xs,vs,F,hF,⟨v,r,F1,F2,e1,e2,⟨cs,h1,h2⟩,h3⟩=>by
  subst e2
  exact ⟨v,r,F1,F2,e1,rfl,⟨cs,h.inV (fun _ _=>id) (fun b hb=>hF b (by simp [hb])) h1,h2⟩,Xw h (fun b hb=>hF b (by simp [hb])) h3⟩
theorem SP {E E':Env} {io:Nat→Bool} (h:Jx E E' (fun _=>False)):∀ {i:Nat} {xs:List V} {vs:List Value} {F:List Nat},QL E.w E'.w F→UH E io i xs vs F→UH E' io i xs vs F
 | i,[],vs,F,_,hh=>hh
 | i,x :: xs,vs,F,hF,⟨v,r,F1,F2,e1,e2,⟨cs,h1,h2⟩,h4,h3⟩=>by
  subst e2
  exact ⟨v,r,F1,F2,e1,rfl,⟨cs,h.inV (fun _ _=>id) (fun b hb=>hF b (by simp [hb])) h1,h2⟩,h4,SP h (fun b hb=>hF b (by simp [hb])) h3⟩
theorem Y1 {n:Nat} {b b':BL} {v v':V} {c:List Jk} (h:inl n b v=some (c,v',b')):isA v'=isA v:=by
 cases n with
 | zero=>simp [inl] at h
 | succ n=>
  unfold inl at h
  split at h
  ·split at h
   ·simp only [oj,pj] at h;rw [← h.2.1];rfl
   ·split at h
    ·split at h
     ·simp only [oj,pj] at h;rw [← h.2.1];rfl
     ·simp at h
    ·simp at h
   ·simp at h
   ·split at h
    ·simp only [oj,pj] at h;rw [← h.2.1];rfl
    ·simp at h
  ·split at h
   ·split at h
    ·simp only [oj,pj] at h;rw [← h.2.1];rfl
    ·simp at h
   ·simp at h
  ·split at h
   ·split at h
    ·split at h
     ·simp only [oj,pj] at h;rw [← h.2.1];rfl
     ·simp at h
    ·simp at h
   ·simp at h
  ·split at h
   ·simp only [oj,pj] at h;rw [← h.2.1];rfl
   ·simp at h
  ·split at h
   ·simp only [oj,pj] at h;rw [← h.2.1];rfl
   ·simp at h
  ·split at h
   ·simp only [oj,pj] at h;rw [← h.2.1];rfl
   ·simp at h
  ·split at h
   ·simp only [oj,pj] at h;rw [← h.2.1];rfl
   ·simp at h
  ·simp at h
  ·simp at h
  ·simp at h
  ·simp at h
  ·simp at h
  ·simp at h
  ·simp only [oj,pj] at h;rw [← h.2.1]
theorem SQ {f:FuncId}:∀ {vs:List V} {i:Nat} {bl b':BL} {G:GT} {X:List Nat} {vals:List Value} {ws:List V} {c:List Jk},JK w bl G X w0 F0→Tup (Ja w bl G X) vs vals []→Ht A f i bl vs=some (c,ws,b')→(∀ k ∈ c,k.ok) →
  CK w (Ja w bl G X) w0 F0 X b' (fun E F'=>UH E (fun j=>Hm (A.mode f j)) i ws vals F')
 | [],i,bl,b',G,X,vals,ws,c,hc,hv,h,hk=>by
  simp only [Ht,oj,pj] at h
  obtain ⟨rfl,rfl,rfl⟩:=h
  exact ⟨[],G,hc,hv,Jx.refl_ _ _⟩
 | v :: vs,i,bl,b',G,X,vals,ws,c,hc,hv,h,hk=>by
  obtain ⟨u,r,F1,F2,rfl,e2,⟨cs,i1,i2⟩,i3⟩:=hv
  obtain ⟨rfl,rfl⟩:=List.append_eq_nil_iff.1 e2.symm
  simp only [Ht] at h
  split at h
  ·rename_i c1 w1 b1 h1
   split at h
   ·rename_i c2 ws2 b2 h2
    simp only [oj,pj] at h
    obtain ⟨rfl,rfl,rfl⟩:=h
    obtain ⟨hk1,hk2⟩:=QU hk
    have first:CK w (Ja w bl G X) w0 F0 X b1 (fun E F'=>One E w1 u F'∧(Hm (A.mode f i)=false→F'=[])):=by
     split at h1
     ·obtain ⟨F',G',q1,q2,q3⟩:=(C7 9).1 (F:=[]) hc i1 h1 hk1
      rename_i hmode
      refine ⟨F',G',q1,⟨⟨cs,q2,?_⟩,fun hf=>by rw [hmode] at hf;cases hf⟩,q3⟩
      unfold Qd at i2 ⊢
      rw [Y1 h1]
      exact i2
     ·obtain ⟨F',G',q1,q2,q3⟩:=(C7 9).1 (F:=[]) hc i1 h1 hk1
      rename_i hmode
      refine ⟨F',G',q1,⟨⟨cs,q2,?_⟩,fun hf=>by rw [hmode] at hf;cases hf⟩,q3⟩
      unfold Qd at i2 ⊢
      rw [Y1 h1]
      exact i2
     ·simp only [oj,pj] at h1
      obtain ⟨rfl,rfl,rfl⟩:=h1
      exact ⟨[],G,hc,⟨⟨cs,i1,i2⟩,fun _=>rfl⟩,Jx.refl_ _ _⟩
    obtain ⟨F',G',q1,⟨q2,q4⟩,q3⟩:=first
    obtain ⟨F2',G2,s1,s2,s3⟩:=SQ (X:=F' ++ X) q1 (Xw q3 (fun b hb=>by cases hb) i3) h2 hk2
    obtain ⟨t1,t2⟩:=s1.perm (show (F2' ++ (F' ++ X)).Perm ((F' ++ F2') ++ X) by
     rw [← List.append_assoc]
     exact List.Perm.append_right X List.perm_append_comm)
    obtain ⟨cs',j1,j2⟩:=q2
    exact ⟨F' ++ F2',G2,t1,⟨u,r,F',F2',rfl,rfl,⟨cs',(s3.trans t2).inV (fun _ _=>id) (fun _ _=>rfl) j1,j2⟩,q4,SP t2 (fun _ _=>rfl) s2⟩,(q3.trans s3).trans t2⟩
   ·simp at h
  ·simp at h
theorem jz {n:Nat} {b:BL} {v v':V} {c:List Jk} (h:lend b n v=some (c,v')):isA v'=isA v:=by
 cases n with
 | zero=>simp [lend] at h
 | succ n=>
  unfold lend at h
  split at h
  ·split at h
   ·simp only [oj,pj] at h;rw [← h.2];rfl
   ·split at h
    ·split at h
     ·simp only [oj,pj] at h;rw [← h.2];rfl
     ·simp at h
    ·simp at h
   ·simp at h
  ·split at h
   ·split at h
    ·simp only [oj,pj] at h;rw [← h.2];rfl
    ·simp at h
   ·simp at h
  ·split at h
   ·split at h
    ·simp only [oj,pj] at h;rw [← h.2];rfl
    ·simp at h
   ·simp at h
  ·simp only [oj,pj] at h;rw [← h.2];rfl
  ·split at h
   ·simp only [oj,pj] at h;rw [← h.2];rfl
   ·simp at h
  ·split at h
   ·simp only [oj,pj] at h;rw [← h.2];rfl
   ·simp at h
  ·split at h
   ·simp only [oj,pj] at h;rw [← h.2];rfl
   ·simp at h
  ·simp at h
  ·simp at h
  ·simp at h
  ·simp at h
  ·simp at h
  ·simp at h
  ·simp at h
  ·simp only [oj,pj] at h;rw [← h.2]
mutual
theorem Xx:∀ {v:V},Qc v=true→Jc v=[]
 | .int _ _,_=>rfl
 | .bool _,_=>rfl
 | .str _,_=>rfl
 | .own _ _,_=>rfl
 | .ownh _ _ _,ho=>by simp [Qc] at ho
 | .mp _,ho=>by simp [Qc] at ho
 | .mref _,ho=>by simp [Qc] at ho
 | .arr _ _ _,_=>rfl
 | .rd _ _,_=>rfl
 | .agg vs,h=>by unfold Qc at h;unfold Jc;exact Y2 h
 | .obox v,h=>by unfold Qc at h;unfold Jc;exact Xx h
 | .tup vs,h=>by unfold Qc at h;unfold Jc;exact Y2 h
 | .undef,ho=>by simp [Qc] at ho
 | .void,ho=>by simp [Qc] at ho
 | .lst _ _,ho=>by simp [Qc] at ho
 | .nilsl,ho=>by simp [Qc] at ho
 | .emp _,ho=>by simp [Qc] at ho
 | .rp _,ho=>by simp [Qc] at ho
 | .full _ _ _,ho=>by simp [Qc] at ho
 | .sub _ _ _ _ _,ho=>by simp [Qc] at ho
 | .ptr _ _,ho=>by simp [Qc] at ho
 | .fn _ _,ho=>by simp [Qc] at ho
 | .nilfn,ho=>by simp [Qc] at ho
 | .nilptr,_=>rfl
theorem Y2:∀ {vs:List V},HG vs=true→Jl vs=[]
 | [],_=>rfl
 | v :: vs,h=>by
  unfold HG at h;rw [Jd] at h
  unfold Jl;rw [Xx h.1,Y2 h.2];rfl
end
def Kle (E E':Env):Prop:=∀ b,E.S b→E.K b→E'.S b∧E'.K b
theorem Le.kle {E E':Env} (h:Le E E'):Kle E E':=fun b h1 h2=>⟨(h.stab b h1).1,h.kept b h1 h2⟩
mutual
theorem Xy {E E':Env} (hle:Kle E E') (hw:E'.w=E.w):∀ {v:V} {cs:List Value} {F:List Nat},Qc v=true→InV E v cs F→InV E' v cs F
 | .int _ _,_,_,_,h=>h
 | .bool _,_,_,_,h=>h
 | .str _,_,_,_,h=>h
 | .own e l,cs,F,hv,h=>by unfold InV at h ⊢;rw [hw];exact h
 | .ownh _ _ _,_,_,hv,_=>by simp [Qc] at hv
 | .mp _,_,_,hv,_=>by simp [Qc] at hv
 | .mref _,_,_,hv,_=>by simp [Qc] at hv
 | .arr n e l,cs,F,hv,h=>by unfold InV at h ⊢;rw [hw];exact h
 | .rd e l,cs,F,hv,h=>by
  unfold Qc at hv
  unfold InV at h ⊢
  rw [hw]
  obtain ⟨h0,hp,A,c,F',h1,h2,h3⟩:=h
  exact ⟨h0,hp,A,c,F',h1,h2,fun b hb=>⟨(hle b (h3 b hb).1 ((h3 b hb).2 hv)).1,fun _=>(hle b (h3 b hb).1 ((h3 b hb).2 hv)).2⟩⟩
 | .agg vs,cs,F,hv,h=>by
  unfold Qc at hv
  unfold InV at h ⊢
  exact SR hle hw hv h
 | .obox v,cs,F,hv,h=>by
  unfold Qc at hv
  unfold InV at h ⊢
  rw [hw]
  obtain ⟨a,cs',F',h1,h2,h3⟩:=h
  exact ⟨a,cs',F',h1,Xy hle hw hv h2,h3⟩
 | .tup vs,_,_,_,h=>by unfold InV at h;exact h.elim
 | .undef,_,_,ho,_=>by simp [Qc] at ho
 | .void,_,_,ho,_=>by simp [Qc] at ho
 | .lst _ _,_,_,ho,_=>by simp [Qc] at ho
 | .nilsl,_,_,ho,_=>by simp [Qc] at ho
 | .emp _,_,_,ho,_=>by simp [Qc] at ho
 | .rp _,_,_,ho,_=>by simp [Qc] at ho
 | .full _ _ _,_,_,ho,_=>by simp [Qc] at ho
 | .sub _ _ _ _ _,_,_,ho,_=>by simp [Qc] at ho
 | .ptr _ _,_,_,ho,_=>by simp [Qc] at ho
 | .fn _ _,_,_,ho,_=>by simp [Qc] at ho
 | .nilfn,_,_,ho,_=>by simp [Qc] at ho
 | .nilptr,_,_,_,h=>h
theorem SR {E E':Env} (hle:Kle E E') (hw:E'.w=E.w):∀ {vs:List V} {cs:List Value} {F:List Nat},HG vs=true→Jj E vs cs F→Jj E' vs cs F
 | [],_,_,_,h=>h
 | v :: vs,cs,F,hv,h=>by
  unfold HG at hv;rw [Jd] at hv
  unfold Jj at h ⊢
  obtain ⟨c1,c2,F1,F2,e1,e2,h1,h2⟩:=h
  exact ⟨c1,c2,F1,F2,e1,e2,Xy hle hw hv.1 h1,SR hle hw hv.2 h2⟩
end
mutual
theorem Y3:∀ {v:V},JH v=true→Qc v=true
 | .int _ _,_=>rfl
 | .bool _,_=>rfl
 | .str _,_=>rfl
 | .own _ _,_=>rfl
 | .ownh _ _ _,ho=>by simp [JH] at ho
 | .mp _,ho=>by simp [JH] at ho
 | .mref _,ho=>by simp [JH] at ho
 | .arr _ _ _,_=>rfl
 | .agg vs,h=>by unfold JH at h;unfold Qc;exact Y4 h
 | .obox v,h=>by unfold JH at h;unfold Qc;exact Y3 h
 | .tup vs,h=>by unfold JH at h;unfold Qc;exact Y4 h
 | .undef,ho=>by simp [JH] at ho
 | .void,ho=>by simp [JH] at ho
 | .lst _ _,ho=>by simp [JH] at ho
 | .nilsl,ho=>by simp [JH] at ho
 | .emp _,ho=>by simp [JH] at ho
 | .rp _,ho=>by simp [JH] at ho
 | .full _ _ _,ho=>by simp [JH] at ho
 | .sub _ _ _ _ _,ho=>by simp [JH] at ho
 | .ptr _ _,ho=>by simp [JH] at ho
 | .fn _ _,ho=>by simp [JH] at ho
 | .nilfn,ho=>by simp [JH] at ho
 | .nilptr,_=>rfl
 | .rd _ _,ho=>by simp [JH] at ho
theorem Y4:∀ {vs:List V},Ha vs=true→HG vs=true
 | [],_=>rfl
 | v :: vs,h=>by
  unfold Ha at h;rw [Jd] at h
  unfold HG;rw [Y3 h.1,Y4 h.2];rfl
end
theorem Y5 {f:FuncId} (ho:Ok w bl G X) {Ec:Env} (hw:Ec.w=w) (hbl:Ec.bl=[]) (hS:∀ b,b<w.heap.size→b ∉ X→Ec.S b) (hle:Le (Ja w bl G X) Ec):∀ {vs:List V} {i:Nat} {ts:List Ty} {vals:List Value} {us:List V} {c:List Jk} {F:List Nat},
  UH (Ja w bl G X) (fun j=>Hm (A.mode f j)) i vs vals F→Q6 A f bl i ts vs=some (c,us)→(∀ k ∈ c,k.ok)→C8 w X Ec (UL A f i us)→Tup Ec us vals F
 | [],i,ts,vals,us,c,F,hv,h,hk,hsc=>by
  simp only [Q6,oj,pj] at h
  obtain ⟨rfl,rfl⟩:=h
  exact hv
 | v :: vs,i,ts,vals,us,c,F,hv,h,hk,hsc=>by
  have keep:∀ {v:V} {cs:List Value} {F:List Nat},InV (Ja w bl G X) v cs F→InV Ec v cs F:=fun h=>UZ hle _ (fun s _ c' rc' F' hlk=>by rw [hbl] at hlk;simp [Jb] at hlk) (fun b hb=>by rw [hw];rfl) h
  obtain ⟨u,r,F1,F2,rfl,rfl,⟨cs,i1,i2⟩,i4,i3⟩:=hv
  simp only [Q6] at h
  split at h
  ·rename_i c1 w1 h1
   split at h
   ·rename_i c2 ws2 h2
    simp only [oj,pj] at h
    obtain ⟨rfl,rfl⟩:=h
    obtain ⟨hk1,hk2⟩:=QU hk
    have hsc2:C8 w X Ec (UL A f (i + 1) ws2):=by
     rcases hsc with hsc | hsc
     ·simp only [UL] at hsc
      split at hsc
      ·split at hsc
       ·exact .inl hsc
       ·cases hsc
      ·exact .inl hsc
     ·exact .inr hsc
    have hrest:=Y5 ho hw hbl hS hle i3 h2 hk2 hsc2
    have first:One Ec w1 u F1:=by
     split at h1
     ·rename_i hm
      have hF1:=i4 (by show Hm (A.mode f i)=false;rw [hm];rfl)
      subst hF1
      have hsw:C8 w X Ec (noB w1):=by
       rcases hsc with hsc | hsc
       ·simp only [UL,hm] at hsc
        split at hsc
        ·rename_i hq;exact .inl hq
        ·cases hsc
       ·exact .inr hsc
      refine ⟨cs,(SO ho hw hbl hS hle 9).1 (jx _ i1) (fun b hb=>by cases hb) h1 hk1 hsw,?_⟩
      unfold Qd at i2 ⊢
      rw [jz h1,jy]
      exact i2
     ·simp only [oj,pj] at h1
      obtain ⟨rfl,rfl⟩:=h1
      exact ⟨cs,keep i1,i2⟩
     ·simp only [oj,pj] at h1
      obtain ⟨rfl,rfl⟩:=h1
      exact ⟨cs,keep i1,i2⟩
     ·split at h1
      ·simp at h1
      ·simp only [oj,pj] at h1
       obtain ⟨rfl,rfl⟩:=h1
       exact ⟨cs,keep i1,i2⟩
    exact ⟨u,r,F1,F2,rfl,rfl,first,hrest⟩
   ·simp at h
  ·simp at h
def Xz (w:World) (bl:BL) (G:GT) (F:List Nat):Nat→Prop:=fun b=>(Ja w bl G F).S b∧Kept.K b
theorem Y6 {f:FuncId} (ho:Ok w bl G X) {vs:List V} {ts:List Ty} {vals:List Value} {us:List V} {c:List Jk} {F Y:List Nat} (hY:∀ b ∈ Y,b ∈ X)
  (hv:UH (Ja w bl G X) (fun j=>Hm (A.mode f j)) 0 vs vals F) (h:Q6 A f bl 0 ts vs=some (c,us)) (hk:∀ k ∈ c,k.ok) :
  Tup (Q0 (fun _=>True) w Y) us vals F∧(UL A f 0 us=true→Tup (Q0 (Xz w bl G X) w Y) us vals F):=
 ⟨Y5 (Ec:=Q0 (fun _=>True) w Y) ho rfl rfl (fun b hb hx=>(⟨hb,fun hm=>hx (hY b hm)⟩:b<w.heap.size∧b ∉ Y)) ⟨fun b hb=>⟨⟨hb.1,fun hx=>hb.2 (.inl (hY b hx))⟩,rfl⟩,Nat.le_refl _,fun _ _ _=>trivial⟩ hv h hk (.inr fun _ _ _=>trivial),
  fun hs=>Y5 (Ec:=Q0 (Xz w bl G X) w Y) ho rfl rfl (fun b hb hx=>(⟨hb,fun hm=>hx (hY b hm)⟩:b<w.heap.size∧b ∉ Y)) ⟨fun b hb=>⟨⟨hb.1,fun hx=>hb.2 (.inl (hY b hx))⟩,rfl⟩,Nat.le_refl _,fun b h1 h2=>⟨h1,h2⟩⟩ hv h hk (.inl hs)⟩
theorem jC {f:FuncId} {vs:List V} {ts:List Ty} {vals:List Value} {us:List V} {c:List Jk} (hc:JX w bl G w0 F0) (hv:Tup (Ja w bl G []) vs vals []) (h:O7 A f bl ts vs=some (c,us,b')) (hk:∀ k ∈ c,k.ok) :
  ∃ F G',JK w b' G' F w0 F0∧Tup (Q0 (fun _=>True) w F) us vals F∧Jx (Ja w bl G []) (Ja w b' G' F) (fun _=>False)∧(UL A f 0 us=true→Tup (Q0 (Xz w b' G' F) w F) us vals F):=by
 unfold O7 at h
 split at h
 ·rename_i c1 ws b1 h1
  split at h
  ·rename_i c2 us2 h2
   simp only [oj,pj] at h
   obtain ⟨rfl,rfl,rfl⟩:=h
   obtain ⟨hk1,hk2⟩:=QU hk
   obtain ⟨F,G',q1,q2,q3⟩:=SQ (A:=A) hc.x hv h1 hk1
   rw [List.append_nil] at q1 q2 q3
   obtain ⟨r1,r2⟩:=Y6 q1.ok (fun b hb=>hb) q2 h2 hk2
   exact ⟨F,G',q1,r1,q3,r2⟩
  ·simp at h
 ·simp at h
end
end Go.Rai
namespace Go.Rai
variable [Inhabited Qi]
mutual
theorem C9 {E E':Env} (hw:E'.w=E.w):∀ (v:V) {cs:List Value} {F:List Nat},JH v=true→InV E v cs F→InV E' v cs F
 | .int _ _,_,_,_,h=>by unfold InV at h ⊢;exact h
 | .bool _,_,_,_,h=>by unfold InV at h ⊢;exact h
 | .str _,_,_,_,h=>by unfold InV at h ⊢;exact h
 | .own e l,_,_,_,h=>by unfold InV at h ⊢;rw [hw];exact h
 | .ownh _ _ _,_,_,ho,_=>by simp [JH] at ho
 | .mp _,_,_,ho,_=>by simp [JH] at ho
 | .mref _,_,_,ho,_=>by simp [JH] at ho
 | .arr n e l,_,_,_,h=>by unfold InV at h ⊢;rw [hw];exact h
 | .agg vs,cs,F,ho,h=>by unfold JH at ho;unfold InV at h ⊢;exact SS hw vs ho h
 | .obox v,cs,F,ho,h=>by
  unfold JH at ho
  unfold InV at h ⊢
  obtain ⟨a,cs',F',h1,h2,h3⟩:=h
  exact ⟨a,cs',F',h1,C9 hw v ho h2,by rw [hw];exact h3⟩
 | .tup vs,_,_,_,h=>by unfold InV at h;exact h.elim
 | .undef,_,_,ho,_=>by simp [JH] at ho
 | .void,_,_,ho,_=>by simp [JH] at ho
 | .rd _ _,_,_,ho,_=>by simp [JH] at ho
 | .lst _ _,_,_,ho,_=>by simp [JH] at ho
 | .nilsl,_,_,ho,_=>by simp [JH] at ho
 | .emp _,_,_,ho,_=>by simp [JH] at ho
 | .rp _,_,_,ho,_=>by simp [JH] at ho
 | .full _ _ _,_,_,ho,_=>by simp [JH] at ho
 | .sub _ _ _ _ _,_,_,ho,_=>by simp [JH] at ho
 | .ptr _ _,_,_,ho,_=>by simp [JH] at ho
 | .fn _ _,_,_,ho,_=>by simp [JH] at ho
 | .nilfn,_,_,ho,_=>by simp [JH] at ho
 | .nilptr,_,_,_,h=>by unfold InV at h ⊢;exact h
theorem SS {E E':Env} (hw:E'.w=E.w):∀ (vs:List V) {cs:List Value} {F:List Nat},Ha vs=true→Jj E vs cs F→Jj E' vs cs F
 | [],_,_,_,h=>by unfold Jj at h ⊢;exact h
 | v :: vs,cs,F,ho,h=>by
  unfold Ha at ho;rw [Jd] at ho
  unfold Jj at h ⊢
  obtain ⟨c1,c2,F1,F2,e1,e2,h1,h2⟩:=h
  exact ⟨c1,c2,F1,F2,e1,e2,C9 hw v ho.1 h1,SS hw vs ho.2 h2⟩
end
mutual
theorem Wt {E E':Env} (hw:E'.w=E.w):∀ (v:V) {cs:List Value} {F:List Nat},Qa v=true→InV E v cs F→InV E' v cs F
 | .int _ _,_,_,_,h=>by unfold InV at h ⊢;exact h
 | .bool _,_,_,_,h=>by unfold InV at h ⊢;exact h
 | .str _,_,_,_,h=>by unfold InV at h ⊢;exact h
 | .own e l,_,_,_,h=>by unfold InV at h ⊢;rw [hw];exact h
 | .ownh _ _ _,_,_,ho,_=>by simp [Qa] at ho
 | .mp _,_,_,ho,_=>by simp [Qa] at ho
 | .mref _,_,_,ho,_=>by simp [Qa] at ho
 | .arr n e l,_,_,_,h=>by unfold InV at h ⊢;rw [hw];exact h
 | .agg vs,cs,F,ho,h=>by unfold Qa at ho;unfold InV at h ⊢;exact ST hw vs ho h
 | .obox v,cs,F,ho,h=>by
  unfold Qa at ho
  unfold InV at h ⊢
  obtain ⟨a,cs',F',h1,h2,h3⟩:=h
  exact ⟨a,cs',F',h1,Wt hw v ho h2,by rw [hw];exact h3⟩
 | .tup vs,_,_,_,h=>by unfold InV at h;exact h.elim
 | .undef,_,_,ho,_=>by simp [Qa] at ho
 | .void,_,_,ho,_=>by simp [Qa] at ho
 | .rd _ _,_,_,ho,_=>by simp [Qa] at ho
 | .lst _ _,_,_,ho,_=>by simp [Qa] at ho
 | .nilsl,_,_,_,h=>by unfold InV at h ⊢;exact h
 | .emp _,_,_,ho,_=>by simp [Qa] at ho
 | .rp _,_,_,ho,_=>by simp [Qa] at ho
 | .full _ _ _,_,_,ho,_=>by simp [Qa] at ho
 | .sub _ _ _ _ _,_,_,ho,_=>by simp [Qa] at ho
 | .ptr _ _,_,_,ho,_=>by simp [Qa] at ho
 | .fn _ _,_,_,ho,_=>by simp [Qa] at ho
 | .nilfn,_,_,ho,_=>by simp [Qa] at ho
 | .nilptr,_,_,_,h=>by unfold InV at h ⊢;exact h
theorem ST {E E':Env} (hw:E'.w=E.w):∀ (vs:List V) {cs:List Value} {F:List Nat},Hb vs=true→Jj E vs cs F→Jj E' vs cs F
 | [],_,_,_,h=>by unfold Jj at h ⊢;exact h
 | v :: vs,cs,F,ho,h=>by
  unfold Hb at ho;rw [Jd] at ho
  unfold Jj at h ⊢
  obtain ⟨c1,c2,F1,F2,e1,e2,h1,h2⟩:=h
  exact ⟨c1,c2,F1,F2,e1,e2,Wt hw v ho.1 h1,ST hw vs ho.2 h2⟩
end
end Go.Rai
namespace Go.Rai
variable [Inhabited Qi]
theorem OO {a b:Bool}:bor a b=false ↔ a=false∧b=false:=by cases a<;>cases b<;>simp [bor]
mutual
theorem SU {E:Env}:∀ (v:V) {cs:List Value} {F:List Nat},Qa v=true→QC v=false→InV E v cs F→F=[]
 | .int _ _,_,_,_,_,h=>by unfold InV at h;exact h.2
 | .bool _,_,_,_,_,h=>by unfold InV at h;exact h.2
 | .str _,_,_,_,_,h=>by unfold InV at h;exact h.2
 | .own e l,_,_,_,hn,h=>by simp [QC] at hn
 | .ownh _ _ _,_,_,_,hn,h=>by simp [QC] at hn
 | .mp _,_,_,_,hn,h=>by simp [QC] at hn
 | .mref _,_,_,_,_,h=>by unfold InV at h;exact h.1
 | .arr n e l,_,_,_,_,h=>by unfold InV at h;exact Hi (fun d c G hd=>Hj e h.2.1 hd) h.2.2
 | .agg vs,cs,F,ho,hn,h=>by unfold Qa at ho;unfold QC at hn;unfold InV at h;exact SV vs ho hn h
 | .obox v,cs,F,ho,hn,h=>by simp [QC] at hn
 | .tup vs,_,_,_,_,h=>by unfold InV at h;exact h.elim
 | .undef,_,_,ho,_,_=>by simp [Qa] at ho
 | .void,_,_,ho,_,_=>by simp [Qa] at ho
 | .rd _ _,_,_,ho,_,_=>by simp [Qa] at ho
 | .lst _ _,_,_,ho,_,_=>by simp [Qa] at ho
 | .nilsl,_,_,_,_,h=>by unfold InV at h;exact h.2
 | .emp _,_,_,ho,_,_=>by simp [Qa] at ho
 | .rp _,_,_,ho,_,_=>by simp [Qa] at ho
 | .full _ _ _,_,_,ho,_,_=>by simp [Qa] at ho
 | .sub _ _ _ _ _,_,_,ho,_,_=>by simp [Qa] at ho
 | .ptr _ _,_,_,ho,_,_=>by simp [Qa] at ho
 | .fn _ _,_,_,ho,_,_=>by simp [Qa] at ho
 | .nilfn,_,_,ho,_,_=>by simp [Qa] at ho
 | .nilptr,_,_,_,_,h=>by unfold InV at h;exact h.2
theorem SV {E:Env}:∀ (vs:List V) {cs:List Value} {F:List Nat},Hb vs=true→Ce vs=false→Jj E vs cs F→F=[]
 | [],_,_,_,_,h=>by unfold Jj at h;exact h.2
 | v :: vs,cs,F,ho,hn,h=>by
  unfold Hb at ho;rw [Jd] at ho
  unfold Ce at hn;rw [OO] at hn
  unfold Jj at h
  obtain ⟨c1,c2,F1,F2,e1,e2,h1,h2⟩:=h
  rw [e2,SU v ho.1 hn.1 h1,SV vs ho.2 hn.2 h2]
  rfl
end
section
variable {P:Program} {A:Ann} {w w' w0:World} {F0:List Nat} {sl:List V} {a:Act} {bl b':BL} {G:GT} {o:Oper} {X:List Nat}
theorem SW {F:List Nat} (h:JK w bl G (F ++ X) w0 F0) {s:Nat} {x x':V} {cs:List Value} {v:Value} (hx:InV (Ja w bl G (F ++ X)) x cs F) (hu:Qd x cs v) (ho:Qa x=true)
  (hf:place sl bl s x=some (x',b')):∃ G',JK w b' G' X w0 F0∧One (Ja w b' G' X) x' v []∧Jx (Ja w bl G (F ++ X)) (Ja w b' G' X) (fun t=>t ∉ Jl sl):=by
 unfold place at hf
 split at hf
 ·split at hf
  ·rename_i hun
   simp only [oj,pj] at hf
   obtain ⟨rfl,rfl⟩:=hf
   obtain ⟨u1,u2,u3,u4⟩:=C3 hun
   obtain ⟨g1,g2⟩:=h.add u1 u3 hx u4
   refine ⟨_,g1,?_,⟨g2.le,fun t ht=>g2.al t (fun e=>ht (by rw [e];exact u2))⟩⟩
   have hb:Jb (Jp bl s x) s=some x:=by rw [JF];simp
   have hin:=YE (Fv:=F) (E:=Ja w (Jp bl s x) (fun q=>if q=s then some (cs,F) else G q) X) (s:=s) (c0:=x) (rc:=cs) (F:=F) hb (by simp [Ja]) x (p:=[]) (L:=.reg cs) (by simp [Je]) ⟨[],by simp⟩ (g2.inV (fun s' hs' hst=>u4 (hst ▸ hs')) (fun b _=>rfl) hx)
   refine ⟨cs,hin,?_⟩
   unfold Qd at hu ⊢
   rw [TZ]
   exact hu
  ·simp at hf
 ·rename_i hno
  simp only [oj,pj] at hf
  obtain ⟨rfl,rfl⟩:=hf
  have hF:=SU x ho hno hx
  subst hF
  exact ⟨G,h,⟨cs,hx,hu⟩,⟨(Jx.refl_ _ (fun _=>False)).le,fun t _=>(Jx.refl_ _ (fun _=>False)).al t id⟩⟩
theorem Jx.mono {E E':Env} {N N':Nat→Prop} (h:Jx E E' N) (hn:∀ s,N s→N' s):Jx E E' N':=⟨h.le,fun s hs=>h.al s (fun hN=>hs (hn s hN))⟩
theorem XA {E E':Env} (hw:E'.w=E.w):∀ {xs:List V} {vs:List Value} {F:List Nat},Hb xs=true→Tup E xs vs F→Tup E' xs vs F
 | [],vs,F,_,h=>h
 | x :: xs,vs,F,ho,⟨v,r,F1,F2,e1,e2,⟨cs,h1,h2⟩,h3⟩=>by
  unfold Hb at ho;rw [Jd] at ho
  exact ⟨v,r,F1,F2,e1,e2,⟨cs,Wt hw x ho.1 h1,h2⟩,XA hw ho.2 h3⟩
theorem SX {s:Nat}:∀ {vs:List V} {j:Nat} {sl:List V} {bl b':BL} {G:GT} {X F:List Nat} {xs:List V} {vals:List Value},JK w bl G (F ++ X) w0 F0→Tup (Ja w bl G (F ++ X)) vs vals F→Hb vs=true →
  Hu s sl bl j vs=some (xs,b')→∃ G',JK w b' G' X w0 F0∧Tup (Ja w b' G' X) xs vals []∧Jx (Ja w bl G (F ++ X)) (Ja w b' G' X) (fun t=>t ∉ Jl sl)
 | [],j,sl,bl,b',G,X,F,xs,vals,hc,hv,ho,h=>by
  simp only [Hu,oj,pj] at h
  obtain ⟨rfl,rfl⟩:=h
  obtain ⟨rfl,rfl⟩:=hv
  exact ⟨G,hc,⟨rfl,rfl⟩,(Jx.refl_ _ (fun _=>False)).mono (fun _ h=>h.elim)⟩
 | v :: vs,j,sl,bl,b',G,X,F,xs,vals,hc,hv,ho,h=>by
  unfold Hb at ho;rw [Jd] at ho
  obtain ⟨u,r,F1,F2,rfl,rfl,⟨cs,i1,i2⟩,i3⟩:=hv
  simp only [Hu] at h
  split at h
  ·rename_i x b1 h1
   split at h
   ·rename_i ys b2 h2
    simp only [oj,pj] at h
    obtain ⟨rfl,rfl⟩:=h
    obtain ⟨p1,p2⟩:=hc.perm (show ((F1 ++ F2) ++ X).Perm (F1 ++ (F2 ++ X)) by rw [List.append_assoc])
    obtain ⟨G1,q1,⟨cs',q3,q5⟩,q4⟩:=SW (sl:=sl) (X:=F2 ++ X) p1 (Wt (E:=Ja w bl G ((F1 ++ F2) ++ X)) (E':=Ja w bl G (F1 ++ (F2 ++ X))) rfl v ho.1 i1) i2 ho.1 h1
    obtain ⟨G2,r1,r2,r3⟩:=SX (sl:=x :: sl) q1 (XA (E:=Ja w bl G ((F1 ++ F2) ++ X)) (E':=Ja w b1 G1 (F2 ++ X)) rfl ho.2 i3) ho.2 h2
    have hg:Jx (Ja w bl G ((F1 ++ F2) ++ X)) (Ja w b1 G1 (F2 ++ X)) (fun t=>t ∉ Jl sl):=(p2.mono (fun _ h=>h.elim)).trans q4
    have hg2:Jx (Ja w b1 G1 (F2 ++ X)) (Ja w b2 G2 X) (fun t=>t ∉ Jl sl):=r3.mono (fun t ht hm=>ht (by simp [Jl,Js,hm]))
    have hx:One (Ja w b2 G2 X) x u []:=⟨cs',r3.inV (fun t ht hn=>hn (by simp [Jl,Js,ht])) (fun _ hb=>by cases hb) q3,q5⟩
    exact ⟨G2,r1,⟨u,r,[],[],rfl,rfl,hx,r2⟩,hg.trans hg2⟩
   ·simp at h
  ·simp at h
theorem Y7 {F:List Nat} (h:JK w bl G F w0 F0) (hs:Jy (Ja w bl G F) sl a) {d:Option Nat} {x x':V} {v:Value} {E:Env} (hE:E.w=w) (hx:Val E x v F) (ho:Qa x=true)
  (hf:Q9 sl bl d x=some (x',b')):∃ G',JX w b' G' w0 F0∧Jy (Ja w b' G' []) sl a∧Val (Ja w b' G' []) x' v []:=by
 unfold Q9 at hf
 have hF0:F ++ []=F:=List.append_nil F
 split at hf
 ·rename_i s
  split at hf
  ·rename_i vs
   split at hf
   ·rename_i xs b1 hp
    simp only [oj,pj] at hf
    obtain ⟨rfl,rfl⟩:=hf
    obtain ⟨vals,rfl,ht⟩:=hx
    unfold Qa at ho
    obtain ⟨G',g1,g2,g3⟩:=SX (X:=[]) (F:=F) (by rw [hF0];exact h) (XA (E:=E) (E':=Ja w bl G (F ++ [])) (by rw [hE];rfl) ho ht) ho hp
    rw [hF0] at g3
    exact ⟨G',g1.c,hs.goes g3 (fun t ht hn=>hn ht),⟨vals,rfl,g2⟩⟩
   ·simp at hf
  ·rename_i hnt
   have hone:One E x v F:=by
    cases x<;>first | exact hx | (simp [Qa] at ho;done) | exact absurd rfl (hnt _)
   obtain ⟨cs,h1,h2⟩:=hone
   obtain ⟨G',g1,g2,g3⟩:=SW (sl:=sl) (X:=[]) (F:=F) (by rw [hF0];exact h) (Wt (E:=E) (E':=Ja w bl G (F ++ [])) (by rw [hE];rfl) x ho h1) h2 ho hf
   rw [hF0] at g3
   exact ⟨G',g1.c,hs.goes g3 (fun t ht hn=>hn ht),Xn g2⟩
 ·simp only [oj,pj] at hf
  obtain ⟨rfl,rfl⟩:=hf
  obtain ⟨p1,p2⟩:=h.sub (X':=[]) (by simp) (fun b hb=>by cases hb)
  exact ⟨G,p1.c,hs.go0 p2,Cm⟩
end
end Go.Rai
namespace Go.Rai
variable [Inhabited Qi]
section
variable {P:Program} {A:Ann} {w w' w0:World} {F0:List Nat} {sl:List V} {a:Act} {bl b':BL} {G:GT} {o:Oper} {X:List Nat}
theorem VC {E:Env} {x:V} {v:Value} (hx:∀ xs,x ≠ .tup xs) (h:Val E x v []):One E x v []:=by
 cases x with
 | tup xs=>exact absurd rfl (hx xs)
 | undef=>exact ⟨[v],by unfold InV;exact ⟨⟨v,rfl⟩,rfl⟩,by unfold Qd;rfl⟩
 | _=>exact h
theorem XB {E:Env} (hs:Jy E sl a) {io:Nat→Bool}:∀ {xs:List Operand} {i:Nat},QY (Jm sl xs)=true→UH E io i (Jm sl xs) (xs.map a.eval) []
 | [],i,_=>⟨rfl,rfl⟩
 | x :: xs,i,h=>by
  simp only [Jm] at h
  have hx:(∀ ys,opd sl x ≠ .tup ys)∧QY (Jm sl xs)=true:=by
   cases hq:opd sl x<;>rw [hq] at h<;>simp [QY] at h<;>exact ⟨(by intro ys hh;cases hh),h⟩
  exact ⟨a.eval x,xs.map a.eval,[],[],rfl,rfl,VC hx.1 (JJ hs x),fun _=>rfl,XB hs hx.2⟩
theorem XC {E:Env} {io:Nat→Bool}:∀ {caps:List V} {i:Nat} {vals:List Value},HH caps=true→Jj E caps vals []→UH E io i caps vals []
 | [],i,vals,_,h=>by unfold Jj at h;exact h
 | x :: caps,i,vals,h,hi=>by
  unfold Jj at hi
  obtain ⟨c1,c2,F1,F2,e1,e2,h1,h2⟩:=hi
  obtain ⟨rfl,rfl⟩:=List.append_eq_nil_iff.1 e2.symm
  have hx:isA x=false∧vsz x=1∧HH caps=true:=by
   cases x<;>simp [HH] at h<;>exact ⟨rfl,rfl,h⟩
  have hl:=Qn _ h1
  rw [hx.2.1] at hl
  match c1,hl with
  | [u],_=>exact ⟨u,c2,[],[],e1,rfl,⟨[u],h1,by unfold Qd;rw [hx.1]⟩,fun _=>rfl,XC hx.2.2 h2⟩
theorem XD {E:Env} {io:Nat→Bool}:∀ {xs ys:List V} {i:Nat} {vs us:List Value} {F F':List Nat},UH E io i xs vs F→UH E io (i + xs.length) ys us F'→UH E io i (xs ++ ys) (vs ++ us) (F ++ F')
 | [],ys,i,vs,us,F,F',h,h'=>by obtain ⟨rfl,rfl⟩:=h;exact h'
 | x :: xs,ys,i,vs,us,F,F',⟨v,r,F1,F2,e1,e2,h1,h2,h3⟩,h'=>by
  subst e1;subst e2
  exact ⟨v,r ++ us,F1,F2 ++ F',by simp,by simp,h1,h2,XD h3 (by rw [show i + 1 + xs.length=i + (x :: xs).length by simp;omega];exact h')⟩
theorem SY {E:Env} {io:Nat→Bool}:∀ {xs:List V} {i:Nat} {vs:List Value} {F:List Nat},UH E io i xs vs F→vs.length=xs.length
 | [],i,vs,F,h=>by rw [h.1];rfl
 | x :: xs,i,vs,F,⟨v,r,F1,F2,e1,e2,h1,h2,h3⟩=>by subst e1;simp [SY h3]
theorem SZ {E:Env} {f:FuncId}:∀ {vs outs:List V} {i:Nat} {vals:List Value} {Fo:List Nat},UD A f i vs=false→vals.length=vs.length→CM E (fun j=>Qf (A.mode f j)) i outs vals Fo→Fo=[]
 | vs,[],i,vals,Fo,_,_,h=>h.2
 | [],x :: outs,i,vals,Fo,_,hl,⟨v,r,F1,F2,e1,_⟩=>by subst e1;simp at hl
 | _ :: vs,x :: outs,i,vals,Fo,hio,hl,⟨v,r,F1,F2,e1,e2,h1,h2,h3⟩=>by
  subst e1;subst e2
  simp only [UD] at hio
  split at hio
  ·cases hio
  ·cases hio
  ·rename_i hm hm2
   have hf:Qf (A.mode f i)=false:=by
    cases hq:A.mode f i with
    | io=>exact absurd hq hm
    | take=>rfl
    | lend=>rfl
    | keep=>rfl
   rw [h2 hf,SZ hio (by simpa using hl) h3]
   rfl
theorem Y8 {f : FuncId} {args : Array Value} {fn : Func} (j1 : P.funcs[f]? = some fn) (j2 : (fn.name == "runtime.NumGoroutine") = false) (j3 : fn.body.isNone = false) : (callFunc f args).run P w = .ok (.enter f args) w := by
 unfold callFunc
 simp only [Sem.run_bind,run_program,Result.andThen_ok,j1,j2,j3,Bool.false_eq_true,if_false,Sem.run_pure]
end
end Go.Rai
namespace Go.Rai
variable [Inhabited Qi]
theorem jD (b:Bool):undef ≠ Value.bool b:=by intro h;cases h
section
variable {P:Program} {A:Ann} {w w' w0:World} {F0:List Nat} {sl:List V} {a:Act} {bl b':BL} {G:GT} {o:Oper} {X:List Nat}
theorem Y9:∀ (l:List Oper) (j:Nat),Hv l j=(l[j]?).bind (·.dst)
 | [],j=>by simp [Hv]
 | o :: l,0=>by simp [Hv]
 | o :: l,j + 1=>by simp [Hv,Y9 l j]
theorem Wu:∀ {sl:List V} {t:Nat} {v:V},Jw sl t=v→v ≠ .undef→JC sl t v=sl
 | [],t,v,h,hn=>by simp [Jw] at h;exact absurd h.symm hn
 | x :: sl,0,v,h,hn=>by simp [Jw] at h;simp [JC,h]
 | x :: sl,t + 1,v,h,hn=>by simp [Jw] at h;simp [JC,Wu h hn]
theorem S0 {ops:Array Oper} {E:Env} (hs:Jy E sl a) {j t:Nat} (hd:Hv ops.toList j=some t) {b:Bool} (hb:Jw sl t=.bool b):yielded ops a.tmps j=some b:=by
 rw [Y9] at hd
 have hv:=hs t
 rw [hb] at hv
 obtain ⟨hv,_⟩:=QJ.1 hv
 have:a.tmps[t]?=some (.bool b):=by
  rw [Array.getD_eq_getD_getElem?] at hv
  cases hq:a.tmps[t]? with
  | none=>rw [hq] at hv;exact absurd hv (jD b)
  | some u=>rw [hq] at hv;simp at hv;rw [hv]
 unfold yielded
 rw [show ops[j]?=ops.toList[j]? by simp,hd]
 simp [this]
theorem jE {ops:Array Oper} {E:Env} (hs:Jy E sl a) {j t:Nat} (hd:Hv ops.toList j=some t) (hb:Jw sl t=.void):yielded ops a.tmps j=none:=by
 rw [Y9] at hd
 have hv:=hs t
 rw [hb] at hv
 obtain ⟨hv,_⟩:=OB.1 hv
 unfold yielded
 rw [show ops[j]?=ops.toList[j]? by simp,hd]
 simp only [ob]
 rw [Array.getD_eq_getD_getElem?] at hv
 cases hq:a.tmps[t]? with
 | none=>simp
 | some u=>rw [hq] at hv;simp at hv;subst hv;rfl
end
end Go.Rai
namespace Go.Rai
variable [Inhabited Qi]
theorem S1 (f:Nat→Nat):∀ (v:V),vsz (ren f v)=vsz v
 | .agg vs=>by
  unfold ren vsz
  exact go vs
 | .arr _ _ _=>rfl
 | .int _ _=>rfl
 | .bool _=>rfl
 | .str _=>rfl
 | .own _ _=>rfl
 | .ownh _ _ _=>rfl
 | .rd _ _=>rfl
 | .lst _ _=>rfl
 | .nilsl=>rfl
 | .emp _=>rfl
 | .obox _=>rfl
 | .rp _=>rfl
 | .full _ _ _=>rfl
 | .sub _ _ _ _ _=>rfl
 | .ptr _ _=>rfl
 | .fn _ _=>rfl
 | .nilfn=>rfl
 | .nilptr=>rfl
 | .mp _=>rfl
 | .mref _=>rfl
 | .undef=>rfl
 | .void=>rfl
 | .tup _=>rfl
 where go:∀ (vs:List V),Jr (Qy f vs)=Jr vs
 | []=>rfl
 | v :: vs=>by unfold Qy Jr;rw [S1 f v,go vs]
theorem Wv (f:Nat→Nat) (vs:List V):Jr (Qy f vs)=Jr vs:=by
 induction vs with
 | nil=>rfl
 | cons v vs ih=>unfold Qy Jr;rw [S1,ih]
theorem XE (f:Nat→Nat):∀ (vs:List V),(Qy f vs).length=vs.length
 | []=>rfl
 | v :: vs=>by unfold Qy;simp [XE f vs]
theorem XF (f:Nat→Nat):∀ (vs:List V) (j:Nat),nth (Qy f vs) j=(nth vs j).map (ren f)
 | [],j=>by simp [Qy,nth]
 | v :: vs,0=>by simp [Qy,nth]
 | v :: vs,j + 1=>by simp [Qy,nth,XF f vs j]
theorem XG (f:Nat→Nat):∀ (vs:List V) (j:Nat),(Qy f vs).take j=Qy f (vs.take j)
 | [],j=>by simp [Qy]
 | v :: vs,0=>by simp [Qy]
 | v :: vs,j + 1=>by simp [Qy,XG f vs j]
theorem Ka (f:Nat→Nat) (v:V):Qz (ren f v)=Qz v:=by cases v<;>rfl
theorem jF (f:Nat→Nat) (v:V):isA (ren f v)=isA v:=by cases v<;>rfl
mutual
theorem VD (f:Nat→Nat):∀ (v:V),Jc v=[]→ren f v=v
 | .agg vs,h=>by unfold ren;unfold Jc at h;rw [Ww f vs h]
 | .lst e vs,h=>by unfold ren;unfold Jc at h;rw [Ww f vs h]
 | .tup vs,h=>by unfold ren;unfold Jc at h;rw [Ww f vs h]
 | .fn g vs,h=>by unfold ren;unfold Jc at h;rw [Ww f vs h]
 | .obox v,h=>by unfold ren;unfold Jc at h;rw [VD f v h]
 | .rp v,h=>by unfold ren;unfold Jc at h;rw [VD f v h]
 | .full _ _ _,h=>by simp [Jc] at h
 | .sub _ _ _ _ _,h=>by simp [Jc] at h
 | .ptr _ _,h=>by simp [Jc] at h
 | .arr _ _ _,_=>rfl
 | .int _ _,_=>rfl
 | .bool _,_=>rfl
 | .str _,_=>rfl
 | .own _ _,_=>rfl
 | .ownh _ _ _,_=>rfl
 | .rd _ _,_=>rfl
 | .nilsl,_=>rfl
 | .emp _,_=>rfl
 | .nilfn,_=>rfl
 | .nilptr,_=>rfl
 | .mp _,_=>rfl
 | .mref _,h=>by simp [Jc] at h
 | .undef,_=>rfl
 | .void,_=>rfl
theorem Ww (f:Nat→Nat):∀ (vs:List V),Jl vs=[]→Qy f vs=vs
 | [],_=>rfl
 | v :: vs,h=>by
  unfold Jl at h
  rw [Qb,List.append_eq_nil_iff] at h
  unfold Qy
  rw [VD f v h.1,Ww f vs h.2]
end
theorem Cr (f:Nat→Nat) {w:World}:∀ (p:List Nat) (v:V) (L:Ji) (x':V) (L':Ji),Je w (ren f v) L p=some (x',L')→∃ x,Je w v L p=some (x,L')∧x'=ren f x
 | [],v,L,x',L',h=>by
  simp only [Je,oj,pj] at h
  exact ⟨v,by simp [Je,h.2],h.1.symm⟩
 | j :: p,v,L,x',L',h=>by
  cases v with
  | agg vs=>
   simp only [ren,Je,XF,XG,Wv] at h
   cases hj:nth vs j with
   | none=>rw [hj] at h;simp at h
   | some xj=>
    rw [hj] at h
    simp only [Option.map_some] at h
    obtain ⟨x,h1,h2⟩:=Cr f p xj _ x' L' h
    exact ⟨x,by simp only [Je,hj];exact h1,h2⟩
  | lst e vs=>
   simp only [ren,Je,XF,XG,Wv] at h
   cases hj:nth vs j with
   | none=>rw [hj] at h;simp at h
   | some xj=>
    rw [hj] at h
    simp only [Option.map_some] at h
    split at h
    ·rename_i a _ _ hh
     obtain ⟨x,h1,h2⟩:=Cr f p xj _ x' L' h
     exact ⟨x,by simp only [Je,hj,hh];exact h1,h2⟩
    ·simp at h
  | fn g vs=>
   simp only [ren,Je,XF,XG,Wv] at h
   cases hj:nth vs j with
   | none=>rw [hj] at h;simp at h
   | some xj=>
    rw [hj] at h
    simp only [Option.map_some] at h
    split at h
    ·rename_i a _ _ hh
     obtain ⟨x,h1,h2⟩:=Cr f p xj _ x' L' h
     exact ⟨x,by simp only [Je,hj,hh];exact h1,h2⟩
    ·simp at h
  | obox y=>
   simp only [ren,Je] at h
   split at h
   ·rename_i a hh
    obtain ⟨x,h1,h2⟩:=Cr f p y _ x' L' h
    exact ⟨x,by simp only [Je,hh];exact h1,h2⟩
   ·simp at h
  | own e l=>
   simp only [ren,Je] at h
   split at h
   ·rename_i hj
    split at h
    ·rename_i a _ _ hh
     rw [← VD f (dec true e (l.getD j (.int 0))) (Vi true e _)] at h
     obtain ⟨x,h1,h2⟩:=Cr f p _ _ x' L' h
     exact ⟨x,by simp only [Je,if_pos hj,hh];exact h1,h2⟩
    ·simp at h
   ·simp at h
  | ownh e l i=>
   simp only [ren,Je] at h
   split at h
   ·rename_i hj
    split at h
    ·rename_i a _ _ hh
     have hns:Jc (if j=i then .undef else dec true (.slice e) (l.getD j (.int 0)))=[]:=by
      split
      ·rfl
      ·exact Vi true _ _
     rw [← VD f _ hns] at h
     obtain ⟨x,h1,h2⟩:=Cr f p _ _ x' L' h
     exact ⟨x,by simp only [Je,if_pos hj,hh];exact h1,h2⟩
    ·simp at h
   ·simp at h
  | arr n e l=>
   simp only [ren,Je] at h
   split at h
   ·rename_i hj
    rw [← VD f (dec true e (l.getD j (.int 0))) (Vi true e _)] at h
    obtain ⟨x,h1,h2⟩:=Cr f p _ _ x' L' h
    exact ⟨x,by simp only [Je,if_pos hj];exact h1,h2⟩
   ·simp at h
  | _=>simp [ren,Je] at h
structure Ren (f:Nat→Nat) (L:List Nat) (E E':Env):Prop where
 w:E'.w=E.w
 S:∀ b,E.S b→E'.S b
 K:∀ b,E.K b→E'.K b
 al:∀ s,s ∈ L→∀ c' rc F',Jb E'.bl (f s)=some c'→E'.G (f s)=some (rc,F')→∃ c,Jb E.bl s=some c∧c'=ren f c∧E.G s=some (rc,F')
mutual
theorem Ren.inV {f:Nat→Nat} {L:List Nat} {E E':Env} (h:Ren f L E E'):∀ (v:V) {cs:List Value} {F:List Nat},(∀ s ∈ Jc v,s ∈ L)→InV E v cs F→InV E' (ren f v) cs F
 | .undef,_,_,_,hv=>by unfold ren InV at *;exact hv
 | .void,_,_,_,hv=>by unfold ren InV at *;exact hv
 | .int _ _,_,_,_,hv=>by unfold ren InV at *;exact hv
 | .bool _,_,_,_,hv=>by unfold ren InV at *;exact hv
 | .str _,_,_,_,hv=>by unfold ren InV at *;exact hv
 | .agg vs,_,_,hs,hv=>by unfold ren InV at *;exact h.inVs vs (by simpa [Jc] using hs) hv
 | .arr _ _ _,_,_,_,hv=>by unfold ren InV at *;rw [h.w];exact hv
 | .own _ _,_,_,_,hv=>by unfold ren InV at *;rw [h.w];exact hv
 | .ownh _ _ _,_,_,_,hv=>by unfold ren InV at *;rw [h.w];exact hv
 | .rd _ _,_,_,_,hv=>by
  unfold ren InV at *
  rw [h.w]
  obtain ⟨h1,h2,A,c,F',h3,h4,h5⟩:=hv
  exact ⟨h1,h2,A,c,F',h3,h4,fun b hb=>⟨h.S b (h5 b hb).1,fun he=>h.K b ((h5 b hb).2 he)⟩⟩
 | .lst e vs,_,_,hs,hv=>by
  unfold ren InV at *
  rw [h.w,XE,Wv]
  obtain ⟨a,c,cs',F',h1,h2,h3,h4,h5⟩:=hv
  exact ⟨a,c,cs',F',h1,h2,h3,h.inVs vs (by simpa [Jc] using hs) h4,h5⟩
 | .nilsl,_,_,_,hv=>by unfold ren InV at *;exact hv
 | .emp _,_,_,_,hv=>by unfold ren InV at *;exact hv
 | .obox v,_,_,hs,hv=>by
  unfold ren InV at *
  rw [h.w]
  obtain ⟨a,cs',F',h1,h2,h3⟩:=hv
  exact ⟨a,cs',F',h1,h.inV v (by simpa [Jc] using hs) h2,h3⟩
 | .rp v,_,_,hs,hv=>by
  unfold ren InV at *
  rw [h.w]
  obtain ⟨h0,a,cs',h1,h2,h3,h4⟩:=hv
  exact ⟨h0,a,cs',h1,h.inV v (by simpa [Jc] using hs) h2,h3,h.S _ h4⟩
 | .full s p e,_,_,hs,hv=>by
  unfold ren InV at *
  obtain ⟨h0,h1,h2⟩:=hv
  refine ⟨h0,h1,fun c' rc F0 hl hg x' Lx hx ho=>?_⟩
  obtain ⟨c,k1,rfl,k3⟩:=h.al s (hs s (by simp [Jc])) c' rc F0 hl hg
  rw [h.w] at hx ⊢
  obtain ⟨x,e1,rfl⟩:=Cr f p c (.reg rc) x' Lx hx
  exact h2 c rc F0 k1 k3 x Lx e1 (by rw [Ka] at ho;exact ho)
 | .sub s p off len e,_,_,hs,hv=>by
  unfold ren InV at *
  obtain ⟨h0,h1,h2⟩:=hv
  refine ⟨h0,h1,fun c' rc F0 hl hg x' Lx hx ho=>?_⟩
  obtain ⟨c,k1,rfl,k3⟩:=h.al s (hs s (by simp [Jc])) c' rc F0 hl hg
  rw [h.w] at hx ⊢
  obtain ⟨x,e1,rfl⟩:=Cr f p c (.reg rc) x' Lx hx
  exact h2 c rc F0 k1 k3 x Lx e1 (by rw [Ka] at ho;exact ho)
 | .ptr s p,_,_,hs,hv=>by
  unfold ren InV at *
  obtain ⟨h0,h1,h2⟩:=hv
  refine ⟨h0,h1,fun c' rc F0 hl hg x' Lx hx=>?_⟩
  obtain ⟨c,k1,rfl,k3⟩:=h.al s (hs s (by simp [Jc])) c' rc F0 hl hg
  rw [h.w] at hx
  obtain ⟨x,e1,rfl⟩:=Cr f p c (.reg rc) x' Lx hx
  exact h2 c rc F0 k1 k3 x Lx e1
 | .fn g caps,_,_,hs,hv=>by
  unfold ren InV at *
  rw [Wv,XE]
  obtain ⟨vals,h1,h2,h3⟩:=hv
  exact ⟨vals,h1,h.inVs caps (by simpa [Jc] using hs) h2,h3⟩
 | .nilfn,_,_,_,hv=>by unfold ren InV at *;exact hv
 | .nilptr,_,_,_,hv=>by unfold ren InV at *;exact hv
 | .mp _,_,_,_,hv=>by unfold ren InV at *;rw [h.w];exact hv
 | .mref s,_,_,hs,hv=>by
  unfold ren InV at *
  obtain ⟨h0,h1,h2⟩:=hv
  refine ⟨h0,h1,fun c' rc F0 hl hg ho=>?_⟩
  obtain ⟨c,k1,rfl,k3⟩:=h.al s (hs s (by simp [Jc])) c' rc F0 hl hg
  exact h2 c rc F0 k1 k3 (by rw [Ka] at ho;exact ho)
 | .tup _,_,_,_,hv=>by unfold InV at hv;exact hv.elim
theorem Ren.inVs {f:Nat→Nat} {L:List Nat} {E E':Env} (h:Ren f L E E'):∀ (vs:List V) {cs:List Value} {F:List Nat},(∀ s ∈ Jl vs,s ∈ L)→Jj E vs cs F→Jj E' (Qy f vs) cs F
 | [],_,_,_,hv=>by unfold Qy Jj at *;exact hv
 | v :: vs,_,_,hs,hv=>by
  unfold Qy Jj at *
  obtain ⟨c1,c2,F1,F2,e1,e2,h1,h2⟩:=hv
  exact ⟨c1,c2,F1,F2,e1,e2,h.inV v (fun s hs'=>hs s (by simp [Jl,Js,hs'])) h1,h.inVs vs (fun s hs'=>hs s (by simp [Jl,Js,hs'])) h2⟩
end
theorem Ren.one {f:Nat→Nat} {L:List Nat} {E E':Env} (h:Ren f L E E') {x:V} {v:Value} {F:List Nat} (hs:∀ s ∈ Jc x,s ∈ L) (hv:One E x v F):One E' (ren f x) v F:=by
 obtain ⟨cs,h1,h2⟩:=hv
 refine ⟨cs,h.inV x hs h1,?_⟩
 unfold Qd at h2 ⊢
 rw [jF]
 exact h2
theorem Ren.tup {f:Nat→Nat} {L:List Nat} {E E':Env} (h:Ren f L E E'):∀ {xs:List V} {vs:List Value} {F:List Nat},(∀ s ∈ Jl xs,s ∈ L)→Tup E xs vs F→Tup E' (Qy f xs) vs F
 | [],_,_,_,hv=>hv
 | x :: xs,_,_,hs,⟨v,r,F1,F2,e1,e2,h1,h2⟩=>
  ⟨v,r,F1,F2,e1,e2,h.one (fun s hs'=>hs s (by simp [Jl,Js,hs'])) h1,h.tup (fun s hs'=>hs s (by simp [Jl,Js,hs'])) h2⟩
theorem Ren.val {f:Nat→Nat} {L:List Nat} {E E':Env} (h:Ren f L E E') {x:V} {v:Value} {F:List Nat} (hs:∀ s ∈ Jc x,s ∈ L) (hv:Val E x v F):Val E' (ren f x) v F:=by
 cases x with
 | tup xs=>
  obtain ⟨vs,h1,h2⟩:=hv
  exact ⟨vs,h1,h.tup (by simpa [Jc] using hs) h2⟩
 | undef=>exact hv
 | _=>exact h.one hs hv
theorem Kb {f:Nat→Nat} {b:BL}:∀ {L:List Nat} {t:Nat} {c':V},Jb (Cj f b L) t=some c'→∃ s ∈ L,f s=t∧∃ c,Jb b s=some c∧c'=ren f c
 | [],t,c',h=>by simp [Cj,Jb] at h
 | s :: L,t,c',h=>by
  unfold Cj at h
  split at h
  ·rename_i c hc
   simp only [Jb] at h
   split at h
   ·rename_i hb
    simp only [oj] at h
    exact ⟨s,by simp,Nat.eq_of_beq_eq_true hb,c,hc,h.symm⟩
   ·obtain ⟨s',h1,h2⟩:=Kb h
    exact ⟨s',by simp [h1],h2⟩
  ·obtain ⟨s',h1,h2⟩:=Kb h
   exact ⟨s',by simp [h1],h2⟩
theorem Kc:∀ (L:List Nat) (k s:Nat),k≤HZ L k s
 | [],k,s=>Nat.le_refl _
 | a :: L,k,s=>by
  unfold HZ
  split
  ·exact Nat.le_refl _
  ·exact Nat.le_trans (Nat.le_succ k) (Kc L (k + 1) s)
theorem S2:∀ (L:List Nat) (k:Nat) {s t:Nat},s ∈ L→t ∈ L→HZ L k s=HZ L k t→s=t
 | [],k,s,t,hs,_,_=>by cases hs
 | a :: L,k,s,t,hs,ht,h=>by
  unfold HZ at h
  split at h
  ·rename_i h1
   have:=Nat.eq_of_beq_eq_true h1
   subst this
   split at h
   ·rename_i h2
    exact Nat.eq_of_beq_eq_true h2
   ·have:=Kc L (k + 1) t
    omega
  ·rename_i h1
   split at h
   ·have:=Kc L (k + 1) s
    omega
   ·rename_i h2
    have n1:s ≠ a:=fun e=>by subst e;rw [Nat.beq_refl] at h1;cases h1
    have n2:t ≠ a:=fun e=>by subst e;rw [Nat.beq_refl] at h2;cases h2
    exact S2 L (k + 1) ((List.mem_cons.1 hs).resolve_left n1) ((List.mem_cons.1 ht).resolve_left n2) h
theorem Kd {L:List Nat}:∀ {r:List Nat},Va L r=true→∀ s ∈ r,s ∈ L
 | [],_,s,hs=>by cases hs
 | a :: r,h,s,hs=>by
  unfold Va at h
  rw [Jd] at h
  rcases List.mem_cons.1 hs with rfl | hs
  ·exact UG.1 h.1
  ·exact Kd h.2 s hs
theorem Ke {b:BL} {L:List Nat}:∀ {r:List Nat},Vb b L r=true→∀ s ∈ r,∀ c,Jb b s=some c→∀ t ∈ Jc c,t ∈ L
 | [],_,s,hs=>by cases hs
 | a :: r,h,s,hs=>by
  unfold Vb at h
  intro c hc
  split at h
  ·rename_i c0 h0
   rw [Jd] at h
   rcases List.mem_cons.1 hs with rfl | hs
   ·rw [h0] at hc
    simp only [oj] at hc
    subst hc
    exact Kd h.1
   ·exact Ke h.2 s hs c hc
  ·rename_i h0
   rcases List.mem_cons.1 hs with rfl | hs
   ·rw [h0] at hc
    cases hc
   ·exact Ke h s hs c hc
theorem S3 (ks:List Nat):∀ (sl:List V) (t u:Nat),Jw (CF ks t sl) u=Jw sl u ∨ Jw (CF ks t sl) u=.undef
 | [],t,u=>.inl rfl
 | v :: sl,t,0=>by
  simp only [CF,Jw]
  split
  ·exact .inl rfl
  ·exact .inr rfl
 | v :: sl,t,u + 1=>by simpa only [CF,Jw] using S3 ks sl (t + 1) u
theorem S4 (ks:List Nat):∀ (sl:List V) (t:Nat),(CF ks t sl).length=sl.length
 | [],_=>rfl
 | v :: sl,t=>by simp [CF,S4 ks sl]
theorem S5 (f:Nat→Nat):∀ (sl:List V) (t:Nat),Jw (Qy f sl) t=ren f (Jw sl t)
 | [],t=>by simp [Qy,Jw,ren]
 | v :: sl,0=>by simp [Qy,Jw]
 | v :: sl,t + 1=>by simp [Qy,Jw,S5 f sl t]
section
variable {Pn:Nat→Option Value} {P:Program} {A:Ann} {w w' w0:World} {F0:List Nat} {sl:List V} {a:Act} {bl b':BL} {G:GT} {o:Oper} {X:List Nat}
theorem Jy.mask {E:Env} (h:Jy E sl a) (ks:List Nat):Jy E (CF ks 0 sl) a:=by
 intro t
 rcases S3 ks sl 0 t with h1 | h1
 ·rw [h1];exact h t
 ·rw [h1];exact Cm
theorem jG {m:List V} {L:List Nat} (hr:Rel Pn w0 F0 ⟨m,bl⟩ a w) (h1:Va L (Jl m)=true) (h2:Vb bl L L=true) :
  Rel Pn w0 F0 ⟨Qy (HZ L 1000) m,Cj (HZ L 1000) bl L⟩ a w:=by
 obtain ⟨⟨G,hc,hs⟩,hl,hd,hpin⟩:=hr
 let f:=HZ L 1000
 let G':GT:=fun t=>(L.find? (fun s=>f s == t)).bind G
 have inj:∀ {s t:Nat},s ∈ L→t ∈ L→f s=f t→s=t:=fun hs ht h=>S2 L 1000 hs ht h
 have hG:∀ s ∈ L,G' (f s)=G s:=by
  intro s hs
  show (L.find? (fun s'=>f s' == f s)).bind G=G s
  cases hq:L.find? (fun s'=>f s' == f s) with
  | none=>
   have:=List.find?_eq_none.1 hq s hs
   simp at this
  | some s'=>
   have e1:=List.find?_some hq
   have e2:=List.mem_of_find?_eq_some hq
   have:s'=s:=inj e2 hs (by simpa using e1)
   subst this
   rfl
 have look:∀ {t:Nat} {c':V},Jb (Cj f bl L) t=some c'→∃ s ∈ L,f s=t∧∃ c,Jb bl s=some c∧c'=ren f c:=fun h=>Kb h
 have owned:∀ b,Ui (Cj f bl L) G' [] b→Ui bl G [] b:=by
  rintro b (hb | ⟨t,c',rc,F,k1,k2,k3⟩)
  ·cases hb
  ·obtain ⟨s,hs,rfl,c,e1,rfl⟩:=look k1
   rw [hG s hs] at k2
   exact .inr ⟨s,c,rc,F,e1,k2,k3⟩
 have hren:Ren f L (Ja w bl G []) (Ja w (Cj f bl L) G' []):=by
  refine ⟨rfl,fun b hb=>⟨hb.1,fun ho=>hb.2 (owned b ho)⟩,fun b hb=>hb,?_⟩
  intro s hs c' rc F' k1 k2
  obtain ⟨s',hs',e0,c,e1,rfl⟩:=look k1
  have:=inj hs' hs e0
  subst this
  have k2':G' (f s')=some (rc,F'):=k2
  rw [hG s' hs'] at k2'
  exact ⟨c,e1,rfl,k2'⟩
 refine ⟨⟨G',⟨?_,hc.frame,fun b hb=>hc.own b (owned b hb),hc.size,hc.os,hc.tape,hc.output⟩,?_⟩,by rw [XE];exact hl,hd,hpin⟩
 ·refine ⟨?_,?_,List.nodup_nil,fun b hb=>by cases hb⟩
  ·intro t c' k1
   obtain ⟨s,hs',rfl,c,e1,rfl⟩:=look k1
   obtain ⟨rc,F,Fc,g1,g2,g3,g4,g5⟩:=hc.ok.root s c e1
   exact ⟨rc,F,Fc,by rw [hG s hs'];exact g1,hren.inV c (Ke h2 s hs' c e1) g2,g3,g4,g5⟩
  ·intro t t' c c' rc rc' F F' hne k1 k2 k3 k4
   obtain ⟨s,hs1,rfl,c1,e1,rfl⟩:=look k1
   obtain ⟨s',hs2,rfl,c2,e2,rfl⟩:=look k2
   rw [hG s hs1] at k3
   rw [hG s' hs2] at k4
   exact hc.ok.apart s s' c1 c2 rc rc' F F' (fun e=>hne (by rw [e])) e1 e2 k3 k4
 ·intro t
  show Val _ (Jw (Qy f m) t) _ []
  rw [S5]
  exact hren.val (fun s hs'=>Kd h1 s (Yz hs')) (hs t)
theorem XH {R:Type} {ks:List Nat} {σ:St} {κ:St→Option R} {r:R} (hr:Rel Pn w0 F0 σ a w) (h:Vc ks σ κ=some r):∃ σ',κ σ'=some r∧Rel Pn w0 F0 σ' a w:=by
 unfold Vc at h
 rw [U7,OM] at h
 split at h
 ·rename_i hb
  rw [Jd] at hb
  rw [U7,H7] at h
  obtain ⟨⟨G,hc,hs⟩,hl,hd,hpin⟩:=hr
  exact ⟨_,h,jG ⟨⟨G,hc,hs.mask ks⟩,by rw [S4];exact hl,hd,hpin⟩ hb.1 hb.2⟩
 ·cases h
end
end Go.Rai
namespace Go.Rai
structure Rec where
 v:V
 rd:List Nat
 dst:Option Nat
 bar:Bool
 T:List Nat
 W:List Nat
 N:List Nat
 nm:List Nat
 L:List Nat
 sm:Bool
 bn:List Nat
 qf:List Nat
 qp:List Nat
 deriving Inhabited
inductive Cls where
 | read
 | fresh
 | store
 | call
 | app
 | bar
def cls:Op→Cls
 | .move _=>.read
 | .assign _=>.read
 | .pick _ _ _=>.read
 | .build _ _=>.read
 | .load _ _=>.read
 | .nilCheck _=>.read
 | .binOp _ _ _ _ _=>.read
 | .unOp _ _ _=>.read
 | .convert _ _ _=>.read
 | .makeFunc _ _ _=>.read
 | .slice _ _ _ _ _=>.read
 | .fieldAddr _ _ _=>.read
 | .field _ _ _=>.read
 | .indexAddr _ _ _=>.read
 | .index _ _ _=>.read
 | .extract _ _=>.read
 | .lookup _ _ _ _=>.read
 | .alloc _=>.fresh
 | .box _ _=>.fresh
 | .makeSlice _ _ _=>.fresh
 | .buildSlice _ _ _=>.fresh
 | .store _ _ _=>.store
 | .call c=>match c.callee with
  | .builtin .len=>.read
  | .builtin .max=>.read
  | .builtin .min=>.read
  | .builtin .append=>.app
  | .builtin .copy=>.app
  | .value _=>.call
  | _=>.bar
 | _=>.bar
def Wx:Option Operand→List Operand
 | some x=>[x]
 | none=>[]
def Jn:Op→List Operand
 | .move x=>[x]
 | .assign x=>[x]
 | .pick c x y=>[c,x,y]
 | .build _ ps=>ps.toList.map (·.2)
 | .load _ a=>[a]
 | .nilCheck x=>[x]
 | .binOp _ _ x y _=>[x,y]
 | .unOp _ _ x=>[x]
 | .convert _ _ x=>[x]
 | .makeFunc _ _ caps=>caps.toList
 | .slice _ x lo hi mx=>x :: cat (Wx lo) (cat (Wx hi) (Wx mx))
 | .fieldAddr _ x _=>[x]
 | .field _ x _=>[x]
 | .indexAddr _ x i=>[x,i]
 | .index _ x i=>[x,i]
 | .extract x _=>[x]
 | .lookup _ m k _=>[m,k]
 | .box _ x=>[x]
 | .makeSlice _ l c=>[l,c]
 | .buildSlice _ _ ps=>ps.toList.map (·.2)
 | .store _ a x=>[a,x]
 | .call c=>match c.callee with
  | .value f=>f :: c.args.toList
  | _=>c.args.toList
 | _=>[]
def Uj:List Operand→List Nat
 | []=>[]
 | .tmp t :: r=>t :: Uj r
 | _ :: r=>Uj r
def H8 (all:List Oper) (o:Oper):List Nat:=
 match o.guard with
 | some (j,_)=>match Hv all j with
  | some t=>[t]
  | none=>[]
 | none=>[]
def VE (b:BL):List Nat→List Nat
 | []=>[]
 | s :: r=>match Jb b s with
  | some c=>cat (Jc c) (VE b r)
  | none=>VE b r
def Oa (b:BL):List Nat→BL
 | []=>[]
 | s :: r=>match Jb b s with
  | some c=>(s,c) :: Oa b r
  | none=>Oa b r
def QA:BL→List Nat
 | []=>[]
 | (k,_) :: r=>k :: QA r
def US (s:Nat):Nat→List V→List Nat
 | _,[]=>[]
 | j,_ :: vs=>(10000 + 16 * s + j) :: US s (j + 1) vs
def Uk (d:Option Nat) (v:V):List Nat:=
 match d with
 | some s=>match v with
  | .tup vs=>US s 0 vs
  | _=>[s]
 | none=>[]
def S6 {R:Type} (oc:OC R) (A:Ann) (σ:St) (d:Option Nat) (f:FuncId) (ts:List Ty) (args caps:List V) (κ:V→BL→List Nat→List Nat→Option R):Option R:=
 match Jh (QY args) (HH caps) with
 | true=>Hs (Oa σ.bl (Ov σ.bl 60 [] (Jl (cat args caps)))) (fun bR=>match Q6 A f bR 0 ts (cat args caps) with
  | some (c,ws)=>QR c (Ux ws (fun ws=>oc f ws (fun res _=>
    match Qa res with
    | true=>match Q9 σ.sl σ.bl d res with
     | some (v,b'')=>κ v b'' (QA bR) (Uk d res)
     | none=>none
    | false=>none)))
  | none=>none)
 | false=>none
def Wy:BL→List Nat→BL
 | b,[]=>b
 | b,s :: r=>Wy (Qh b s) r
def CN (b:BL) (K:List Nat) (b':BL):BL:=cat (Wy b K) b'
def XI (A:Ann) (f:FuncId):Nat→List V→List V
 | _,[]=>[]
 | i,v :: vs=>match A.mode f i with
  | .io=>v :: XI A f (i + 1) vs
  | .take=>v :: XI A f (i + 1) vs
  | _=>XI A f (i + 1) vs
def S7 {R:Type} (oc:OC R) (A:Ann) (σ:St) (d:Option Nat) (f:FuncId) (ts:List Ty) (args caps:List V) (κ:V→BL→List Nat→List Nat→List Nat→Option R):Option R:=
 match Jh (QY args) (HH caps) with
 | true=>Hs (Oa σ.bl (Ov σ.bl 60 [] (Jl (XI A f 0 (cat args caps))))) (fun bW=>
   Hs (Oa σ.bl (Ov σ.bl 60 [] (Jl (cat args caps)))) (fun bR=>
   match He A f bW 0 (cat args caps) with
   | true=>match Ht A f 0 bW (cat args caps) with
    | some (c,ws,b1)=>match Q6 A f (CN bR (QA bW) b1) 0 ts ws with
     | some (c',us)=>QR (cat c c') (Ux us (fun us=>Hs b1 (fun b1=>oc f us (fun res outs=>
       match Qa res with
       | true=>match Q7 A (UL A f 0 us) f 0 b1 (cat args caps) outs with
        | some b2=>match Q9 σ.sl (CN σ.bl (QA bW) b2) d res with
         | some (v,b3)=>κ v b3 (cat (QA bR) (QA bW)) (QA bW) (Uk d res)
         | none=>none
        | none=>none
       | false=>none))))
     | none=>none
    | none=>none
   | false=>none))
 | false=>none
def H9 (bar:Bool) (v:V) (b:BL) (W:List Nat):List Nat:=
 match bar with
 | true=>cat (Jc v) (Jv b)
 | false=>cat (Jc v) (VE b W)
def Wz (bar:Bool) (b:BL) (W:List Nat):List Nat:=
 match bar with
 | true=>Jv b
 | false=>VE b W
def Ob (d:Option Nat) (sl:List V):V:=
 match d with
 | some t=>Jw sl t
 | none=>.undef
def HB {R:Type} (all:List Oper) (σ:St) (o:Oper) (bar:Bool) (v:V) (b:BL) (T W N L:List Nat) (sm:Bool) (κ:Rec→St→Option R):Option R:=
 Qx v (fun v=>QX σ o.dst v b (fun σ'=>Uy T (fun T=>Uy (H9 bar v σ'.bl W) (fun nm=>Uy L (fun L=>Uy (Wz bar σ'.bl W) (fun bn=>
  match sm with
  | true=>κ ⟨v,cat (H8 all o) (Uj (Jn o.op)),o.dst,bar,T,W,N,nm,L,true,bn,[],[]⟩ σ'
  | false=>κ ⟨v,cat (H8 all o) (Uj (Jn o.op)),o.dst,bar,T,W,N,nm,L,false,bn,[],[]⟩ σ'))))))
def Kf {R:Type} (all:List Oper) (σ:St) (o:Oper) (v:V) (b:BL) (T W N qf qp:List Nat) (κ:Rec→St→Option R):Option R:=
 Qx v (fun v=>QX σ o.dst v b (fun σ'=>Uy T (fun T=>Uy W (fun W=>Uy (H9 false v σ'.bl W) (fun nm=>Uy (Wz false σ'.bl W) (fun bn=>Uy qf (fun qf=>Uy qp (fun qp=>
  κ ⟨v,cat (H8 all o) (Uj (Jn o.op)),o.dst,false,T,W,N,nm,[],false,bn,qf,qp⟩ σ'))))))))
def VF (b:BL):V→Option Nat
 | .full s p _=>match Jb b s with
  | some c=>match Jh (c.outer p) (JO (W4 c)) with
   | true=>some s
   | false=>none
  | none=>none
 | .sub s p _ _ _=>match Jb b s with
  | some c=>match c.outer p with
   | true=>some s
   | false=>none
  | none=>none
 | _=>none
def VG (σ:St) (op:Op):List Nat:=
 match op with
 | .move _=>[]
 | .assign _=>[]
 | .pick _ _ _=>[]
 | .unOp _ _ _=>[]
 | .field _ _ _=>[]
 | .extract _ _=>[]
 | .indexAddr _ x i=>match VF σ.bl (opd σ.sl x) with
  | some _=>[]
  | none=>Jl (Jm σ.sl (Jn (.indexAddr 0 x i)))
 | op=>Jl (Jm σ.sl (Jn op))
def WA (σ:St) (op:Op):List Nat:=
 match op with
 | .indexAddr _ x _=>match VF σ.bl (opd σ.sl x) with
  | some s=>[s]
  | none=>[]
 | _=>[]
def Kg (σ:St) (op:Op):Bool:=
 match op with
 | .store _ a _=>match opd σ.sl a with
  | .ptr s p=>match Jb σ.bl s with
   | some c=>JO (c.outer p)
   | none=>false
  | _=>false
 | _=>false
def JZ:Option Nat→List Nat
 | some t=>[t]
 | none=>[]
def VH {R:Type} (A:Ann) (all:List Oper) (σ:St) (o:Oper) (bar:Bool) (T W N L:List Nat) (sm:Bool) (κ:Rec→St→Option R):Option R:=
 match JD A σ.sl σ.bl o.dst o.op with
 | some (c,v,b)=>QR c (HB all σ o bar v b T W N L sm κ)
 | none=>none
def Oc (σ:St):Op→List Nat
 | .store _ a _=>Jc (opd σ.sl a)
 | _=>[]
def S8:V→Bool
 | .nilsl=>true
 | .emp _=>true
 | .full _ _ _=>true
 | _=>false
def S9:V→Bool
 | .sub _ _ _ _ _=>true
 | _=>false
def XJ (b:BL):V→Bool
 | .full s p _=>match JR b s p with
  | some (_,.own _ _)=>true
  | _=>false
 | _=>true
def Pa:V→Bool
 | .full _ _ _=>true
 | .sub _ _ _ _ _=>true
 | _=>false
def XK (A:Ann) (σ:St) (op:Op):Bool:=
 match op with
 | .call c=>match c.argTypes.toList with
  | t :: ts=>match A.ty t with
   | .slice e=>match Jh e.flat (JO (O2 (A.ty (ts.headD 0)))) with
    | true=>match Jm σ.sl c.args.toList with
     | [s,x]=>match c.callee with
      | .builtin .append=>Jh (bor (S8 s) (S9 s)) (XJ σ.bl x)
      | .builtin .copy=>Jh (Pa s) (XJ σ.bl x)
      | _=>false
     | _=>false
    | false=>false
   | _=>false
  | []=>false
 | _=>false
def Cs (d:Option Nat) (op:Op):List Nat:=
 match op with
 | .call c=>match c.callee with
  | .builtin .copy=>[]
  | _=>JZ d
 | _=>JZ d
def Od (σ:St) (d:Option Nat) (op:Op):List Nat:=
 match op with
 | .call c=>match Jm σ.sl c.args.toList with
  | s :: _=>cat (Jc s) (Cs d op)
  | []=>Cs d op
 | _=>Cs d op
def OP (σ:St) (d:Option Nat) (op:Op):List Nat:=cat (Jl (Jm σ.sl (Jn op))) (Cs d op)
def WB {R:Type} (oc:OC R) (A:Ann) (all:List Oper) (σ:St) (o:Oper) (κ:Rec→St→Option R):Option R:=
 match cls o.op with
 | .read=>VH A all σ o false (VG σ o.op) [] [] (WA σ o.op) false κ
 | .fresh=>VH A all σ o false (JZ o.dst) (JZ o.dst) (JZ o.dst) [] false κ
 | .store=>match JD A σ.sl σ.bl o.dst o.op with
  | some _=>VH A all σ o false (Oc σ o.op) (Oc σ o.op) [] [] (Kg σ o.op) κ
  | none=>CE oc A σ o (fun σ'=>HB all σ o true (Ob o.dst σ'.sl) σ'.bl [] [] [] [] false κ)
 | .call=>match o.op with
  | .call c=>match c.callee with
   | .value f=>match opd σ.sl f with
    | .fn g caps=>match UD A g 0 (cat (Jm σ.sl c.args.toList) caps) with
     | false=>S6 oc A σ o.dst g (V8 A c.argTypes.toList) (Jm σ.sl c.args.toList) caps (fun v b T N=>HB all σ o false v b (cat T N) N N [] false κ)
     | true=>match Ym A g σ.bl (cat (Jm σ.sl c.args.toList) caps) with
      | some _=>CE oc A σ o (fun σ'=>HB all σ o true (Ob o.dst σ'.sl) σ'.bl [] [] [] [] false κ)
      | none=>S7 oc A σ o.dst g (V8 A c.argTypes.toList) (Jm σ.sl c.args.toList) caps (fun v b T W N=>Kf all σ o v b (cat T N) (cat W N) N (ioF A g 0 (cat (Jm σ.sl c.args.toList) caps)) (ioP A g 0 (cat (Jm σ.sl c.args.toList) caps)) κ)
    | _=>none
   | _=>none
  | _=>none
 | .app=>match XK A σ o.op with
  | true=>VH A all σ o false (OP σ o.dst o.op) (Od σ o.dst o.op) (Cs o.dst o.op) [] false κ
  | false=>CE oc A σ o (fun σ'=>HB all σ o true (Ob o.dst σ'.sl) σ'.bl [] [] [] [] false κ)
 | .bar=>CE oc A σ o (fun σ'=>HB all σ o true (Ob o.dst σ'.sl) σ'.bl [] [] [] [] false κ)
def Ct {R:Type} (oc:OC R) (A:Ann) (all:List Oper):List Oper→St→(List Rec→St→Option R)→Option R
 | [],σ,κ=>κ [] σ
 | o :: rest,σ,κ=>
  match o.guard with
  | none=>WB oc A all σ o (fun r σ'=>Ct oc A all rest σ' (fun rs=>κ (r :: rs)))
  | some (j,want)=>match Hv all j with
   | some t=>match Jw σ.sl t with
    | .void=>HB all σ o false .void σ.bl [] [] [] [] false (fun r σ'=>Ct oc A all rest σ' (fun rs=>κ (r :: rs)))
    | .bool b=>bif b
     then Hd σ.sl t (.bool true) (fun sl=>match want with
      | true=>WB oc A all ⟨sl,σ.bl⟩ o (fun r σ'=>Ct oc A all rest σ' (fun rs=>κ (r :: rs)))
      | false=>HB all ⟨sl,σ.bl⟩ o false .void σ.bl [] [] [] [] false (fun r σ'=>Ct oc A all rest σ' (fun rs=>κ (r :: rs))))
     else Hd σ.sl t (.bool false) (fun sl=>match want with
      | true=>HB all ⟨sl,σ.bl⟩ o false .void σ.bl [] [] [] [] false (fun r σ'=>Ct oc A all rest σ' (fun rs=>κ (r :: rs)))
      | false=>WB oc A all ⟨sl,σ.bl⟩ o (fun r σ'=>Ct oc A all rest σ' (fun rs=>κ (r :: rs))))
    | _=>none
   | none=>none
def Kh (e:Edge):Bool:=
 match e.ground with
 | .textOnly _=>false
 | .gcOnly _=>false
 | _=>true
def WC:List Nat→List Nat→List Nat
 | [],acc=>acc
 | i :: l,acc=>match JV acc i with
  | true=>WC l acc
  | false=>WC l (i :: acc)
def VI (acc:List (List Nat)):List Edge→List Nat→Option (List Nat)
 | [],l=>some l
 | e :: r,l=>match Kh e with
  | true=>match nth acc e.on with
   | some p=>VI acc r (WC (e.on :: p) l)
   | none=>none
  | false=>VI acc r l
def HR:List (List Nat)→List Oper→Option (List (List Nat))
 | acc,[]=>some acc
 | acc,o :: r=>match VI acc o.after.toList [] with
  | some l=>HR (cat acc [l]) r
  | none=>none
def Pb:Option Nat→Option Nat→Bool
 | some t,some u=>Nat.beq t u
 | _,_=>false
def XL (ri rj:Rec):Bool:=Jh (ioV rj.qf rj.qp ri.v) (Jh (Ug rj.qf ri.bn) (Ug rj.qp ri.bn))
def Ki (i:Nat) (ri:Rec) (bj:List Nat) (rj:Rec):Bool:=
 Jh (Jh (JO (Pb ri.dst rj.dst)) (XL ri rj)) (match JV bj i with
  | true=>Ug rj.N ri.nm
  | false=>Jh (XL rj ri) <| Jh (Jh (JO ri.bar) (JO rj.bar)) (Jh (Jh (Ug (JZ ri.dst) rj.rd) (Ug (JZ rj.dst) ri.rd))
    (Jh (Jh (Ug ri.W rj.T) (Ug rj.W ri.T)) (Jh (Jh (bor ri.sm (Ug ri.W rj.L)) (bor rj.sm (Ug rj.W ri.L))) (Jh (Ug rj.N ri.nm) (Ug ri.N rj.nm))))))
def XM:Nat→List Rec→List Nat→Rec→Bool
 | _,[],_,_=>true
 | i,ri :: r,bj,rj=>Jh (Ki i ri bj rj) (XM (i + 1) r bj rj)
def XN (σ:St):List Nat→Bool
 | []=>true
 | s :: r=>Jh (Uf σ.sl σ.bl .undef s) (XN σ r)
def Pc (σ:St) (r:Rec):Bool:=Jh (Q8 r.qf r.qp σ.sl) (Jh (Ug r.qf (Jv σ.bl)) (Ug r.qp (Jv σ.bl)))
def WD (σ:St):List Rec→List (List Nat)→List Rec→Bool
 | _,_,[]=>true
 | pre,bj :: bs,rj :: rs=>Jh (Jh (Jh (XN σ rj.N) (Pc σ rj)) (XM 0 pre bj rj)) (WD σ (cat pre [rj]) bs rs)
 | _,_,_=>false
def XO:Nat→List Nat→Bool
 | 0,_=>true
 | n + 1,l=>Jh (JV l n) (XO n l)
def Cu:List Oper→List (List Nat)→Option (List Oper × List (List Nat) × Oper)
 | [],_=>none
 | [o],[b]=>match o.guard with
  | none=>some ([],[],o)
  | some _=>none
 | o :: os,b :: bs=>match Cu os bs with
  | some (pre,bpre,l)=>some (o :: pre,b :: bpre,l)
  | none=>none
 | _,_=>none
def WE (n:Nat):List Oper→Bool
 | []=>true
 | o :: os=>match o.guard with
  | none=>WE n os
  | some (j,_)=>Jh (Nat.ble (Nat.succ j) n) (WE n os)
def WF:List (List Nat)→List Nat
 | []=>[]
 | [b]=>b
 | _ :: bs=>WF bs
def Pd (ops:List Oper) (bs:List (List Nat)):Option (List Oper × List (List Nat) × Oper):=
 match Cu ops bs with
 | some (pre,bpre,o)=>match Jh (XO (Un pre) (WF bs)) (WE (Un pre) pre) with
  | true=>some (pre,bpre,o)
  | false=>none
 | none=>none
def WG {R:Type} (oc:OC R) (A:Ann) (ops:List Oper) (σ:St) (bs:List (List Nat)) (κ:St→Option R):Option R:=
 Ct oc A ops ops σ (fun rs σ'=>match WD σ [] bs rs with
  | true=>κ σ'
  | false=>none)
def Kj {R:Type} (oc:OC R) (A:Ann) (ops:List Oper) (σ:St) (κ:St→Option R):Option R:=
 match HR [] ops with
 | some bs=>match Pd ops bs with
  | some (pre,bpre,o)=>WG oc A pre σ bpre (fun σ'=>HJ oc A σ' o κ)
  | none=>WG oc A ops σ bs κ
 | none=>none
open Classical in
noncomputable def VJ {R:Type} (x y:Option R):Option R:=if x=y then x else none
def Kk (A:Ann) (σ:St) (o:Oper):Option (List Jk × List D × Bool):=
 match o.guard with
 | some _=>none
 | none=>match o.op with
  | .binOp op t x y _=>match UC (A.ty t) with
   | true=>match opd σ.sl y with
    | .nilsl=>match opd σ.sl x with
     | .nilsl=>none
     | v=>match UX σ.bl v with
      | some (c,_,l)=>match op with
       | .eql=>some (c,l,false)
       | .neq=>some (c,l,true)
       | _=>none
      | none=>none
    | _=>none
   | false=>none
  | _=>none
noncomputable def UI {R:Type} (oc:OC R) (A:Ann) (all:List Oper):List Oper→St→(St→Option R)→Option R
 | [],σ,κ=>κ σ
 | o :: rest,σ,κ=>
  match Kk A σ o with
  | some (c,l,ng)=>QR c (if 1≤l.length then QX σ o.dst (.bool ng) σ.bl (fun σ'=>UI oc A all rest σ' κ)
    else VJ (QX σ o.dst (.bool ng) σ.bl (fun σ'=>UI oc A all rest σ' κ)) (QX σ o.dst (.bool (JO ng)) σ.bl (fun σ'=>UI oc A all rest σ' κ)))
  | none=>
  match o.guard with
  | none=>HJ oc A σ o (fun σ'=>UI oc A all rest σ' κ)
  | some (j,want)=>match Hv all j with
   | some t=>match Jw σ.sl t with
    | .void=>QX σ o.dst .void σ.bl (fun σ'=>UI oc A all rest σ' κ)
    | .bool b=>bif b
     then Hd σ.sl t (.bool true) (fun sl=>match want with
      | true=>HJ oc A ⟨sl,σ.bl⟩ o (fun σ'=>UI oc A all rest σ' κ)
      | false=>QX ⟨sl,σ.bl⟩ o.dst .void σ.bl (fun σ'=>UI oc A all rest σ' κ))
     else Hd σ.sl t (.bool false) (fun sl=>match want with
      | true=>QX ⟨sl,σ.bl⟩ o.dst .void σ.bl (fun σ'=>UI oc A all rest σ' κ)
      | false=>HJ oc A ⟨sl,σ.bl⟩ o (fun σ'=>UI oc A all rest σ' κ))
    | _=>none
   | none=>none
def XP {R:Type}:List Nat→List V→(List V→Option R)→Option R
 | [],sl,κ=>κ sl
 | t :: r,sl,κ=>Hd sl t .undef (fun sl'=>XP r sl' κ)
noncomputable def Ub {R:Type} (oc:OC R) (ol:OL R) (A:Ann) (fid:FuncId):Code→St→(Ex→St→Option R)→Option R
 | .skip,σ,κ=>κ .normal σ
 | .region id ops draw,σ,κ=>XP (A.dead fid id) σ.sl (fun sl=>match draw with
  | false=>match A.both fid with
   | true=>UI oc A ops.toList ops.toList ⟨sl,σ.bl⟩ (κ .normal)
   | false=>Hw oc A ops.toList ops.toList ⟨sl,σ.bl⟩ (κ .normal)
  | true=>Kj oc A ops.toList ⟨sl,σ.bl⟩ (κ .normal))
 | .seq a b,σ,κ=>Ub oc ol A fid a σ (fun e σ'=>match e with
   | .normal=>Ub oc ol A fid b σ' κ
   | .exit i=>κ (.exit i) σ'
   | .ret=>κ .ret σ')
 | .cond c a b,σ,κ=>match c with
  | .tmp t=>match Jw σ.sl t with
   | .bool x=>bif x
    then Hd σ.sl t (.bool true) (fun sl=>Ub oc ol A fid a ⟨sl,σ.bl⟩ κ)
    else Hd σ.sl t (.bool false) (fun sl=>Ub oc ol A fid b ⟨sl,σ.bl⟩ κ)
   | _=>none
  | .const v=>match W1 v with
   | .bool x=>bif x then Ub oc ol A fid a σ κ else Ub oc ol A fid b σ κ
   | _=>none
  | _=>none
 | .block id b,σ,κ=>Ub oc ol A fid b σ (fun e σ'=>match e with
   | .normal=>κ .normal σ'
   | .exit i=>match Nat.beq i id with
    | true=>κ .normal σ'
    | false=>κ (.exit i) σ'
   | .ret=>κ .ret σ')
 | .loop b,σ,κ=>Vc (A.keep fid (Qt b)) σ (fun σ'=>ol (Qt b) b σ' κ)
 | .exit id,σ,κ=>κ (.exit id) σ
 | .ret,σ,κ=>κ .ret σ
 | _,_,_=>none
def JY:Code→List Code
 | .seq a b=>JY a ++ JY b
 | .cond _ a b=>JY a ++ JY b
 | .block _ b=>JY b
 | .loop b=>b :: JY b
 | _=>[]
def QV (id:Nat):Code→Option Code
 | .seq a b=>match QV id a with
  | some c=>some c
  | none=>QV id b
 | .cond _ a b=>match QV id a with
  | some c=>some c
  | none=>QV id b
 | .block _ b=>QV id b
 | .loop b=>match Nat.beq (Qt b) id with
  | true=>some b
  | false=>QV id b
 | _=>none
noncomputable def Q3 {R:Type} (oc:OC R) (ol:OL R) (A:Ann) (fid:FuncId) (b:Code) (σ:St) (κ:Ex→St→Option R):Option R:=
 Ub oc ol A fid b σ (fun e σ'=>match e with
  | .normal=>Vc (A.keep fid (Qt b)) σ' (fun σ''=>ol (Qt b) b σ'' κ)
  | .exit i=>Vc (A.out fid (Qt b)) σ' (κ (.exit i))
  | .ret=>Vc (A.out fid (Qt b)) σ' (κ .ret))
def Cv:Nat→List V→List V
 | _,[]=>[]
 | i,v :: vs=>J9 i [] v :: Cv ((i + 1)) vs
def Hn:Nat→List V→BL
 | _,[]=>[]
 | i,v :: vs=>match QC v with
  | true=>(i,v) :: Hn ((i + 1)) vs
  | false=>Hn ((i + 1)) vs
def Ho:Nat→List V→List V
 | 0,l=>l
 | n + 1,[]=>.undef :: Ho n []
 | n + 1,v :: l=>v :: Ho n l
def Kl (n:Nat) (args:List V):St:=
 { sl:=Ho n (Cv 0 args),bl:=Hn 0 args }
def VK (q:Bool) (ty:Ty) (v:V):V:=
 match q with
 | true=>match v with
  | .nilsl=>.nilsl
  | v=>UK ty v
 | false=>UK ty v
def Km (A:Ann) (q:Bool) (σ:St) (ty:Ty):ResultVar→Option V
 | .tmp t=>some (VK q ty (Jw σ.sl t))
 | .cell a t=>match Cg (A.ty t) σ.bl (Jw σ.sl a) with
  | some ([],v,_)=>some (VK q ty v)
  | _=>none
def WH (A:Ann) (q:Bool) (σ:St):List Ty→List ResultVar→Option (List V)
 | _,[]=>some []
 | ts,r :: rs=>match Km A q σ (ts.headD .other) r with
  | some v=>match WH A q σ ts.tail rs with
   | some vs=>some (v :: vs)
   | none=>none
  | none=>none
def HS (A:Ann) (f:FuncId) (sl:List V):Nat→List V→List V
 | _,[]=>[]
 | i,_ :: vs=>match A.mode f i with
  | .io=>Jw sl i :: HS A f sl (i + 1) vs
  | _=>HS A f sl (i + 1) vs
def HU (A:Ann) (f:FuncId):Nat→List V→List V→List V
 | _,[],_=>[]
 | i,_ :: vs,ws=>match A.mode f i with
  | .io=>match ws with
   | w :: ws=>w :: HU A f (i + 1) vs ws
   | []=>.undef :: HU A f (i + 1) vs []
  | _=>.undef :: HU A f (i + 1) vs ws
def VL:List V→List V→List V
 | [],_=>[]
 | _ :: vs,w :: ws=>w :: VL vs ws
 | _ :: _,[]=>[]
def VM:List V→List V→List V
 | [],ws=>ws
 | _ :: vs,_ :: ws=>VM vs ws
 | _ :: _,[]=>[]
def XQ (A:Ann) (f:FuncId):List Oper→Bool
 | []=>true
 | o :: os=>match (match o.dst with
   | some t=>match A.mode f t with
    | .io=>false
    | _=>true
   | none=>true) with
  | true=>XQ A f os
  | false=>false
def HV (A:Ann) (f:FuncId):Code→Bool
 | .region _ ops _=>XQ A f ops.toList
 | .seq a b=>Jh (HV A f a) (HV A f b)
 | .cond _ a b=>Jh (HV A f a) (HV A f b)
 | .block _ b=>HV A f b
 | .loop b=>HV A f b
 | _=>true
def Kn:List V→V
 | [w]=>w
 | ws=>.tup ws
def XR {R:Type} (A:Ann) (fid:FuncId) (fn:Func) (args:List V) (σ:St) (κ:V→List V→Option R):Option R:=
 match WH A (A.nils fid) σ (V8 A fn.resultTypes.toList) fn.results.toList with
 | some vs=>match QY (cat vs (HS A fid σ.sl 0 args)) with
  | true=>match Q4 30 σ.bl (cat vs (HS A fid σ.sl 0 args)) with
   | some (c,ws,b)=>match Jh (Hb (VL vs ws)) (HG (VM vs ws)) with
    | true=>QR c (Qx (Kn (VL vs ws)) (fun r=>Ux (HU A fid 0 args (VM vs ws)) (fun os=>κ r os)))
    | false=>none
   | none=>none
  | false=>none
 | none=>none
def Ko:List Nat→Bool
 | []=>true
 | _=>false
noncomputable def QD {R:Type} (oc:OC R) (ol:OL R) (A:Ann) (fid:FuncId) (fn:Func) (args:List V) (κ:V→List V→Option R):Option R:=
 match fn.body with
 | some c=>match Jh (QY args) (Jh (Ko (Jl args)) (bor (JO (UD A fid 0 args)) (HV A fid c))) with
  | true=>Ux (Kl fn.ntmps args).sl (fun sl=>Hs (Kl fn.ntmps args).bl (fun b=>
   Ub oc ol A fid c ⟨sl,b⟩ (fun e σ=>match e with
   | .normal=>XR A fid fn args σ κ
   | .ret=>XR A fid fn args σ κ
   | .exit _=>none)))
  | false=>none
 | none=>none
end Go.Rai
namespace Go.Rai
variable [Inhabited Qi]
def Qk (sl sl':List V) (xs:List Operand):Prop:=∀ x ∈ xs,opd sl' x=opd sl x
theorem Hp {sl sl':List V}:∀ {xs:List Operand},(∀ t ∈ Uj xs,Jw sl' t=Jw sl t)→Qk sl sl' xs
 | [],_=>fun x hx=>by cases hx
 | y :: ys,h=>by
  intro x hx
  have hr:Qk sl sl' ys:=Hp (fun t ht=>h t (by cases y<;>simp [Uj,ht]))
  rcases List.mem_cons.1 hx with rfl | hx
  ·cases x with
   | tmp t=>exact h t (by simp [Uj])
   | _=>rfl
  ·exact hr x hx
theorem Qk.map {sl sl':List V}:∀ {xs:List Operand},Qk sl sl' xs→Jm sl' xs=Jm sl xs
 | [],_=>rfl
 | x :: xs,h=>by
  simp only [Jm]
  rw [h x (by simp),Qk.map (xs:=xs) (fun y hy=>h y (by simp [hy]))]
theorem Qk.opds {sl sl':List V}:∀ {ps:List (Nat × Operand)},Qk sl sl' (ps.map (·.2))→HX sl' ps=HX sl ps
 | [],_=>rfl
 | (i,x) :: ps,h=>by
  simp only [HX]
  rw [h x (by simp),Qk.opds (ps:=ps) (fun y hy=>h y (by simp at hy ⊢;exact .inr hy))]
theorem Qk.opt {sl sl':List V} {x:Option Operand} (h:Qk sl sl' (Wx x)):QT sl' x=QT sl x:=by
 cases x with
 | none=>rfl
 | some x=>simp only [QT];rw [h x (by simp [Wx])]
def QN (b b':BL) (T:List Nat):Prop:=∀ s ∈ T,Jb b' s=Jb b s
theorem QN.sub {b b':BL} {T T':List Nat} (h:QN b b' T) (hs:∀ s ∈ T',s ∈ T):QN b b' T':=fun s hs'=>h s (hs s hs')
theorem Ca {b b':BL} {s:Nat} {p:List Nat} (h:Jb b' s=Jb b s):JR b' s p=JR b s p:=by
 unfold JR;rw [h]
theorem XS {b b':BL} {x:V} (h:QN b b' (Jc x)):UX b' x=UX b x:=by
 cases x with
 | full s p e=>simp only [UX,Ca (h s (by simp [Jc]))]
 | sub s p o l e=>simp only [UX,Ca (h s (by simp [Jc]))]
 | _=>rfl
theorem Pe {b b':BL} {x:V} (h:QN b b' (Jc x)):Oj b' x=Oj b x:=by
 have:=XS h
 cases x<;>simp only [Oj,this]
theorem jH {t:Ty} {b b':BL} {op:BinOp} {x y:V} (hx:QN b b' (Jc x)) (hy:QN b b' (Jc y)):O1 t b' op x y=O1 t b op x y:=by
 have h1:=Pe hx
 have h2:=Pe hy
 unfold O1
 split<;>first | rfl | (simp only [h1]) | (simp only [h2])
def Cb (b b':BL) (r r':G Out):Prop:=∀ c v b1,r=some (c,v,b1)→b1=b∧r'=some (c,v,b')
theorem Qg {b b':BL} {c:List Jk} {v:V}:Cb b b' (some (c,v,b)) (some (c,v,b')):=by
 intro c1 v1 b1 h
 simp only [oj,pj] at h
 obtain ⟨rfl,rfl,rfl⟩:=h
 exact ⟨rfl,rfl⟩
theorem Jz {b b':BL} {r:G Out}:Cb b b' none r:=by intro c1 v1 b1 h;cases h
theorem jI {t:Ty} {b b':BL} {a:V} (h:QN b b' (Jc a)):Cb b b' (Cg t b a) (Cg t b' a):=by
 cases a with
 | ptr s p=>
  simp only [Cg,Ca (h s (by simp [Jc]))]
  split
  ·split
   ·exact Qg
   ·exact Jz
  ·exact Jz
 | rp x=>
  simp only [Cg]
  split
  ·exact Qg
  ·exact Jz
 | _=>exact Jz
theorem jJ {t:Ty} {b b':BL} {f:Nat} {a:V} (h:QN b b' (Jc a)):Cb b b' (On t b f a) (On t b' f a):=by
 cases t with
 | struct fs=>
  cases a with
  | ptr s p=>
   simp only [On,Ca (h s (by simp [Jc]))]
   split
   ·split
    ·split
     ·exact Qg
     ·exact Jz
    ·exact Jz
   ·exact Jz
  | rp x=>
   cases x with
   | agg vs=>
    simp only [On]
    split
    ·split
     ·exact Qg
     ·exact Jz
    ·exact Jz
   | _=>exact Jz
  | _=>exact Jz
 | _=>exact Jz
theorem jK {t:Ty} {b b':BL} {x i:V} (h:QN b b' (Jc x)):Cb b b' (CB t b x i) (CB t b' x i):=by
 unfold CB
 split
 ·split
  ·split
   ·split
    ·exact Qg
    ·exact Jz
   ·rw [Ca (h _ (by simp [Jc]))]
    split
    ·split
     ·exact Qg
     ·exact Jz
    ·unfold W5
     rw [h _ (by simp [Jc])]
     split
     ·split
      ·split
       ·exact Qg
       ·exact Jz
      ·exact Jz
     ·exact Jz
   ·rw [Ca (h _ (by simp [Jc]))]
    split
    ·split
     ·exact Qg
     ·exact Jz
    ·exact Jz
   ·exact Jz
  ·split
   ·rw [Ca (h _ (by simp [Jc]))]
    split
    ·split
     ·exact Qg
     ·exact Jz
    ·exact Jz
   ·split
    ·exact Qg
    ·exact Jz
   ·exact Jz
  ·exact Jz
 ·exact Jz
theorem jL {b b':BL} {x i:V}:Cb b b' (O5 x i b) (O5 x i b'):=by
 unfold O5
 split
 ·exact Qg
 ·exact Jz
theorem jM {t:Ty} {b b':BL} {x:V} {lo hi mx:Option V} (h:QN b b' (Jc x)):Cb b b' (O4 t b x lo hi mx) (O4 t b' x lo hi mx):=by
 unfold O4
 split
 ·split
  ·split
   ·split
    ·exact Qg
    ·exact Jz
   ·exact Jz
  ·split
   ·split
    ·split
     ·split
      ·split
       ·rw [Ca (h _ (by simp [Jc]))]
        split
        ·split
         ·exact Qg
         ·exact Jz
        ·exact Jz
       ·exact Jz
      ·exact Jz
     ·exact Jz
    ·exact Jz
   ·exact Jz
  ·exact Jz
 ·split
  ·split
   ·split
    ·exact Qg
    ·exact Jz
   ·exact Jz
  ·split
   ·split
    ·exact Qg
    ·exact Jz
   ·exact Jz
  ·split
   ·split
    ·exact Qg
    ·exact Jz
   ·exact Jz
  ·rw [Ca (h _ (by simp [Jc]))]
   split
   ·split
    ·split
     ·exact Qg
     ·exact Jz
    ·exact Jz
   ·exact Jz
  ·split
   ·split
    ·split
     ·exact Qg
     ·exact Jz
    ·rw [Ca (h _ (by simp [Jc]))]
     split
     ·split
      ·split
       ·exact Qg
       ·exact Jz
      ·exact Jz
     ·exact Jz
   ·exact Jz
  ·exact Jz
theorem jN {A:Ann} {sl sl':List V} {b b':BL} {d:Option Nat} {ts:List TypeId} {xs:List V} (h:QN b b' (Jl xs)):Cb b b' (Qj A sl b d .len ts xs) (Qj A sl' b' d .len ts xs):=by
 cases xs with
 | nil=>exact Jz
 | cons x r=>
  cases r with
  | cons y r=>exact Jz
  | nil=>
   have hx:QN b b' (Jc x):=h.sub (fun s hs=>by simp [Jl,Js,hs])
   simp only [Qj]
   split
   ·split
    ·split
     ·exact Qg
     ·exact Jz
    ·split
     ·exact Qg
     ·exact Qg
     ·exact Qg
     ·rw [XS hx]
      split
      ·exact Qg
      ·exact Jz
    ·exact Jz
   ·exact Jz
theorem Pf {A:Ann} {sl sl':List V} {b b':BL} {d:Option Nat} {ts:List TypeId} {xs:List V} {f:Builtin} (hf:f=.max ∨ f=.min):Cb b b' (Qj A sl b d f ts xs) (Qj A sl' b' d f ts xs):=by
 unfold Qj
 rcases hf with rfl | rfl<;>cases xs with
 | nil=>exact Jz
 | cons x r=>
  simp only
  split
  ·exact Qg
  ·exact Jz
section
variable {A:Ann} {sl sl':List V} {b b':BL} {d:Option Nat} {op:Op}
theorem Kp (hcl:(match cls op with | .read=>true | _=>false)=true) (ho:Qk sl sl' (Jn op)) (hb:QN b b' (Jl (Jm sl (Jn op)))):Cb b b' (JD A sl b d op) (JD A sl' b' d op):=by
 cases op with
 | move x=>simp only [JD];rw [ho x (by simp [Jn])];exact Qg
 | assign x=>simp only [JD];rw [ho x (by simp [Jn])];exact Qg
 | pick c x y=>
  simp only [JD];rw [ho c (by simp [Jn]),ho x (by simp [Jn]),ho y (by simp [Jn])]
  split
  ·exact Qg
  ·exact Jz
 | build t ps=>
  simp only [JD]
  rw [Qk.opds (sl:=sl) (sl':=sl') (ps:=ps.toList) (by simpa [Jn] using ho)]
  split
  ·split
   ·split
    ·exact Qg
    ·exact Jz
   ·exact Jz
  ·split
   ·split
    ·exact Qg
    ·exact Jz
   ·exact Jz
  ·exact Jz
 | load t a=>
  simp only [JD];rw [ho a (by simp [Jn])]
  exact jI (hb.sub (fun s hs=>by simp [Jn,Jm,Jl,Js,hs]))
 | nilCheck x=>
  simp only [JD];rw [ho x (by simp [Jn])]
  split<;>first | exact Qg | exact Jz
 | binOp o t x y t2=>
  simp only [JD];rw [ho x (by simp [Jn]),ho y (by simp [Jn]),jH (b:=b) (b':=b') (hb.sub (fun s hs=>by simp [Jn,Jm,Jl,Js,hs])) (hb.sub (fun s hs=>by simp [Jn,Jm,Jl,Js,hs]))]
  split
  ·exact Qg
  ·exact Jz
 | unOp o t x=>
  simp only [JD];rw [ho x (by simp [Jn])]
  split
  ·exact Qg
  ·exact Jz
 | convert s t x=>
  simp only [JD];rw [ho x (by simp [Jn])]
  split
  ·split
   ·unfold W6
    split
    ·rw [XS (hb.sub (fun s hs=>by simp [Jn,Jm,Jl,Js,hs]))]
     split
     ·split
      ·exact Qg
      ·exact Jz
     ·exact Jz
    ·exact Jz
   ·exact Jz
  ·split<;>first | exact Qg | exact Jz
 | makeFunc fn first caps=>
  simp only [JD]
  rw [Qk.map (sl:=sl) (sl':=sl') (xs:=caps.toList) (by simpa [Jn] using ho)]
  split
  ·split
   ·exact Qg
   ·exact Jz
  ·exact Jz
 | slice t x lo hi mx=>
  simp only [JD]
  rw [ho x (by simp [Jn]),Qk.opt (sl:=sl) (sl':=sl') (x:=lo) (fun y hy=>ho y (by simp [Jn,Qb,hy])),Qk.opt (sl:=sl) (sl':=sl') (x:=hi) (fun y hy=>ho y (by simp [Jn,Qb,hy])),Qk.opt (sl:=sl) (sl':=sl') (x:=mx) (fun y hy=>ho y (by simp [Jn,Qb,hy]))]
  exact jM (hb.sub (fun s hs=>by simp [Jn,Jm,Jl,Js,hs]))
 | fieldAddr t x f=>
  simp only [JD];rw [ho x (by simp [Jn])]
  exact jJ (hb.sub (fun s hs=>by simp [Jn,Jm,Jl,Js,hs]))
 | field t x f=>
  simp only [JD];rw [ho x (by simp [Jn])]
  split
  ·exact Qg
  ·exact Jz
 | indexAddr t x i=>
  simp only [JD];rw [ho x (by simp [Jn]),ho i (by simp [Jn])]
  exact jK (hb.sub (fun s hs=>by simp [Jn,Jm,Jl,Js,hs]))
 | index t x i=>
  simp only [JD];rw [ho x (by simp [Jn]),ho i (by simp [Jn])]
  split
  ·exact jL
  ·exact Jz
 | extract x i=>
  simp only [JD];rw [ho x (by simp [Jn])]
  split
  ·split
   ·exact Qg
   ·exact Jz
  ·exact Jz
 | lookup t m k ok=>
  have hl:Oo b' (opd sl m) (opd sl k)=Oo b (opd sl m) (opd sl k):=by
   unfold Oo
   split
   ·rename_i s hs
    rw [hb s (by simp [Jn,Jm,Jl,Js,hs,Jc])]
   ·rfl
  simp only [JD];rw [ho m (by simp [Jn]),ho k (by simp [Jn]),hl]
  split
  ·split
   ·split
    ·exact Qg
    ·exact Jz
   ·exact Jz
  ·exact Jz
 | call c=>
  simp only [JD]
  cases hc:c.callee with
  | builtin f=>
   have hops:Jn (.call c)=c.args.toList:=by simp [Jn,hc]
   rw [hops] at ho hb
   simp only
   rw [Qk.map ho]
   cases f with
   | len=>exact jN hb
   | max=>exact Pf (.inl rfl)
   | min=>exact Pf (.inr rfl)
   | _=>simp [cls,hc] at hcl
  | _=>simp [cls,hc] at hcl
 | _=>simp [cls] at hcl
end
end Go.Rai
