/- An evaluator of the model's programs over plain values, proved sound, part 3 of 6. It is used by the claim's law; it has no condition of its own. -/
import Derived.Test.YtaahhnjdbejfhaaRaiU2
import Derived.Laws.BytesString
import Derived.Tactics
set_option linter.unusedVariables false
set_option linter.unusedSectionVars false
set_option linter.unusedSimpArgs false
namespace Go.Rai
variable [Inhabited Qk]
theorem OM {R:D→List Value→List Nat→Prop}:∀ {l l':List D} {cs cs':List Value} {F F':List Nat},Row R l cs F→Row R l' cs' F'→Row R (l ++ l') (cs ++ cs') (F ++ F')
 | [],l',cs,cs',F,F',h,h'=>by obtain ⟨rfl,rfl⟩:=h;exact h'
 | d :: l,l',cs,cs',F,F',⟨c1,c2,F1,F2,e1,e2,h1,h2⟩,h'=>by
  subst e1;subst e2
  exact ⟨c1,c2 ++ cs',F1,F2 ++ F',by simp,by simp,h1,OM h2 h'⟩
section
variable {P:Program} {A:Ann} {w w' w0:World} {F0:List Nat} {sl:List V} {a:Act} {bl b':BL} {G:GT} {o:Oper} {X:List Nat}
theorem VB {e:Ty} {te:TypeId} (hp:e.plain=true) (hte:A.ty te=e) (hT:U6 P A.ty te) :
  ∃ i z,P.info? te=some i∧i.zero=some z∧i.size=e.size∧i.bytes≤32768∧z.cells=(JF e).toArray∧(JF e).length=e.size:=by
 obtain ⟨i,z,hi,hsz,hiz,hby,hsmall,hzv⟩:=hT.info
 rw [hte] at hsz hzv hsmall
 have hin:=Ct (o:=true) (w:=⟨#[],fun _ _=>0,0,default,#[]⟩) e hp
 have hzlen:(JF e).length=e.size:=Qn e hin
 refine ⟨i,z,hi,hiz,hsz,hby,?_,hzlen⟩
 rw [hzv]
 unfold Ud
 cases hA:Qr e with
 | true=>rfl
 | false=>
  have h1:=U7 hA
  rw [h1] at hzlen
  match hq:JF e,hzlen with
  | [u],_=>exact Vu (H9 e hin u (by rw [hq];simp))
theorem Wu {e:Ty} {l:List D} {cs:List Value} {F:List Nat} (hs:w.heap.size≤w'.heap.size) (hF:QN w w' F) (h:Row (DIn true w e) l cs F):Row (DIn true w' e) l cs F:=
 HM (fun d _ c G' hG hd=>H3 hs e (fun b hb=>hF b (hG b hb)) hd) h
def Fed (w:World) (vx:Value) (n:Nat) (news:List Value):Prop:=∃ Ad cap,vx=.slice Ad n cap∧(n ≠ 0→∃ ad,Ad=some ad∧QG w ad news)
theorem Fed.src {vx:Value} {n:Nat} {news:List Value} {size:Nat} {tx e':TypeId} (h:Fed w vx n news) (hk:P.underlying tx=some (.slice e')) (hl:news.length=n * size) (h1:∀ u ∈ news,u.oneCell'=true):Src P size tx vx n news w:=by
 obtain ⟨Ad,cap,rfl,hA⟩:=h
 by_cases hn:n=0
 ·subst hn
  have:news=[]:=List.eq_nil_of_length_eq_zero (by simpa using hl)
  subst this
  cases Ad with
  | none=>exact Src.ofNil w hk cap
  | some ad=>exact Src.ofSlice w hk ad 0 cap [] (by simp) (by simp) (by simp)
 ·obtain ⟨ad,rfl,hc⟩:=hA hn
  exact Src.ofSlice w hk ad n cap news hl hc h1
theorem ja {e:Ty} {t te tx ty:TypeId} {k:IntKind} (hp:e.plain=true) (hz:e.size ≠ 0) (hte:A.ty te=e) (hT:U6 P A.ty te) (ht:P.underlying t=some (.slice te)) (hk:P.underlying tx=some (.int k)) {n:Nat} (hn:n≤4294967296) :
  (n=0→(Builtin.append_ #[t,tx] ty #[.slice none 0 0,.int .i64 (n:Int)]).run P w=.ok (.slice none 0 0) w) ∧
  (0<n→(Builtin.append_ #[t,tx] ty #[.slice none 0 0,.int .i64 (n:Int)]).run P w =
   .ok (.slice (some ⟨w.heap.size,0,none⟩) n (grownCap w n 0 te)) (w.drew.alloc (.cells ((JW n (JF e)).toArray ++ Builtin.zeroCells (JF e).toArray (grownCap w n 0 te - n)) te))):=by
 obtain ⟨i,z,hi,hiz,hisz,hby,hzc,hzl⟩:=VB (P:=P) hp hte hT
 have hw:IntKind.i64.wrap (n:Int)=(n:Int):=by
  unfold IntKind.wrap
  simp [IntKind.signed,IntKind.bits]
  omega
 have hb1:(n:Int) * (i.bytes:Int)≤4294967296 * 32768:=Int.mul_le_mul (by omega) (by omega) (by omega) (by omega)
 have hnb:n * i.bytes≤4294967296 * 32768:=Nat.mul_le_mul hn hby
 have h1:¬ ((n:Int)<0):=by omega
 have h2:¬ (281474976710656<(n:Int) * (i.bytes:Int)):=by omega
 constructor
 ·intro h0
  subst h0
  have hw0:IntKind.i64.wrap 0=0:=by decide
  simp [Builtin.append_,run_underlying ht,run_underlying hk,sizeOf,typeInfo,hi,asInt,asIntOf,hw0]
 ·intro hpos
  have hne:¬ n=0:=by omega
  have hne2:¬ (n≤0):=by omega
  have h3:¬ (9223372036854775807<(n:Int)):=by omega
  have h4:¬ (281474976710656<Builtin.nextslicecap n 0 * i.bytes):=by
   have:Builtin.nextslicecap n 0=n:=by unfold Builtin.nextslicecap;rw [if_pos (by omega)]
   rw [this];omega
  have h5:¬ (n * i.size=0):=by rw [hisz];exact Nat.mul_ne_zero hne hz
  have hzr:Builtin.zeroCells (JF e).toArray n=(JW n (JF e)).toArray:=by
   have:=Wp (n:=n) hzl
   rw [← this];unfold Builtin.zeroCells;rw [List.size_toArray,hzl]
  simp [Builtin.append_,run_underlying ht,run_underlying hk,sizeOf,typeInfo,zeroValue,hi,hiz,hw,h1,h2,hne,hne2,h3,h4,h5,asInt,asIntOf,Builtin.firstCells,Question.forced,newRow,grownCap,hzc,hzr]
structure App (P:Program) (t tx ty te:TypeId) (i:TypeInfo) (z vx:Value) (n:Nat) (news:List Value) (w:World):Prop where
 zero:n=0→∀ (Ad:Option Addr) (m cap:Nat),m≤cap→(Builtin.append_ #[t,tx] ty #[.slice Ad m cap,vx]).run P w=.ok (.slice Ad m cap) w
 room:∀ b off m cap:Nat,m + n≤cap→(∀ j,j<news.length→(w.cell? ⟨b,off + m * i.size + j,none⟩).isSome=true)→(∀ j,j<news.length→w.frozen? ⟨b,off + m * i.size + j,none⟩=false) →
  (Builtin.append_ #[t,tx] ty #[.slice (some ⟨b,off,none⟩) m cap,vx]).run P w=.ok (.slice (some ⟨b,off,none⟩) (m + n) cap) (w.setCells b (off + m * i.size) news)
 grow:∀ (base:Option Addr) (m cap:Nat) (olds:List Value),(Builtin.firstCells i.size m (.slice base m cap)).run P w.drew=.ok olds.toArray w.drew→cap<m + n→((m + n:Nat):Int)≤9223372036854775807→Builtin.nextslicecap (m + n) cap * i.bytes≤281474976710656 →
  (Builtin.append_ #[t,tx] ty #[.slice base m cap,vx]).run P w=.ok (.slice (some ⟨w.heap.size,0,none⟩) (m + n) (grownCap w (m + n) cap te)) (w.drew.alloc (.cells ((olds ++ news).toArray ++ Builtin.zeroCells z.cells (grownCap w (m + n) cap te - (m + n))) te))
theorem App.ofSrc {t tx ty te:TypeId} {i:TypeInfo} {z vx:Value} {n:Nat} {news:List Value} (ht:P.underlying t=some (.slice te)) (hi:P.info? te=some i) (hz:i.zero=some z) (h:Src P i.size tx vx n news w):App P t tx ty te i z vx n news w:=by
 refine ⟨fun h0 Ad m cap hm=>?_,fun b off m cap h1 h2 h3=>run_append_room_src (P:=P) w t tx ty te i ht hi b off m cap vx n news h h1 h2 h3,fun base m cap olds h1 h2 h3 h4=>run_append_grow_src (P:=P) w t tx ty te i z ht hi hz base m cap olds h1 vx n news h h2 h3 h4⟩
 subst h0
 have hn:news=[]:=List.eq_nil_of_length_eq_zero (by rw [h.newsLen];simp)
 subst hn
 have e1:=h.len w
 have e2:=h.cells
 rcases h.kind with ⟨e',hk⟩ | hk<;>cases Ad<;>simp [Builtin.append_,run_underlying ht,run_underlying hk,sizeOf,typeInfo,hi,e1,e2,storeCells,hm]
theorem App.ofInt {t tx ty te:TypeId} {k:IntKind} {e:Ty} {i:TypeInfo} {z:Value} {n:Nat} (hz0:e.size ≠ 0) (ht:P.underlying t=some (.slice te)) (hk:P.underlying tx=some (.int k)) (hi:P.info? te=some i) (hz:i.zero=some z) (hisz:i.size=e.size) (hby:i.bytes≤32768) (hzc:z.cells=(JF e).toArray) (hzl:(JF e).length=e.size) (hn:n≤4294967296) (hone:∀ u ∈ JW n (JF e),u.oneCell'=true) :
  App P t tx ty te i z (.int .i64 (n:Int)) n (JW n (JF e)) w:=by
 have hw:IntKind.i64.wrap (n:Int)=(n:Int):=by
  unfold IntKind.wrap
  simp [IntKind.signed,IntKind.bits]
  omega
 have hb1:(n:Int) * (i.bytes:Int)≤4294967296 * 32768:=Int.mul_le_mul (by omega) (by omega) (by omega) (by omega)
 have h1:¬ ((n:Int)<0):=by omega
 have h2:¬ (281474976710656<(n:Int) * (i.bytes:Int)):=by omega
 have hzr:Builtin.zeroCells (JF e).toArray n=(JW n (JF e)).toArray:=by
  have:=Wp (n:=n) hzl
  rw [← this];unfold Builtin.zeroCells;rw [List.size_toArray,hzl]
 refine ⟨fun h0 Ad m cap hm=>?_,fun b off m cap hr h3 h4=>?_,fun base m cap olds hold hg h63 hfit=>?_⟩
 ·subst h0
  have hw0:IntKind.i64.wrap 0=0:=by decide
  cases Ad<;>simp [Builtin.append_,run_underlying ht,run_underlying hk,sizeOf,typeInfo,hi,asInt,asIntOf,hw0,hm,storeCells]
 ·have hst:=run_storeCells_cells (P:=P) b (off + m * i.size) (JW n (JF e)) 0 w (by simpa using h3) (by simpa using h4) hone
  simp only [Nat.add_zero] at hst
  by_cases hn0:n=0
  ·subst hn0
   have hw0:IntKind.i64.wrap 0=0:=by decide
   have hr0:JW 0 (JF e)=[]:=rfl
   rw [hr0] at hst ⊢
   simp [storeCells] at hst
   simp [Builtin.append_,run_underlying ht,run_underlying hk,sizeOf,typeInfo,hi,asInt,asIntOf,hw0,show m≤cap by omega,storeCells,Addr.add_lit,← hst]
  ·have h5:¬ (n * i.size=0):=by rw [hisz];exact Nat.mul_ne_zero hn0 hz0
   have h6:¬ (n=0 ∨ i.size=0):=by rw [hisz];omega
   simp [Builtin.append_,run_underlying ht,run_underlying hk,sizeOf,typeInfo,zeroValue,hi,hz,hw,h1,h2,h5,h6,hr,asInt,asIntOf,hzc,hzr,Addr.add_lit,hst]
 ·have hn0:¬ (m + n≤cap):=by omega
  have h63':¬ (9223372036854775807<((m:Int) + (n:Int))):=by omega
  have h48':¬ (281474976710656<Builtin.nextslicecap (m + n) cap * i.bytes):=by omega
  by_cases hnz:n=0
  ·subst hnz
   have hw0:IntKind.i64.wrap 0=0:=by decide
   have hr0:JW 0 (JF e)=[]:=rfl
   rw [hr0]
   have hn0':¬ m≤cap:=by omega
   have h63'':¬ (9223372036854775807<(m:Int)):=by omega
   have h48'':¬ (281474976710656<Builtin.nextslicecap m cap * i.bytes):=by simpa using h48'
   simp [Builtin.append_,run_underlying ht,run_underlying hk,sizeOf,typeInfo,zeroValue,hi,hz,hw0,hn0',h63'',h48'',asInt,asIntOf,hold,Question.forced,newRow,grownCap]
  ·have h5:¬ (n * i.size=0):=by rw [hisz];exact Nat.mul_ne_zero hnz hz0
   have h6:¬ (n=0 ∨ i.size=0):=by rw [hisz];omega
   simp [Builtin.append_,run_underlying ht,run_underlying hk,sizeOf,typeInfo,zeroValue,hi,hz,hw,h1,h2,h5,h6,hn0,h63',h48',asInt,asIntOf,hold,Question.forced,newRow,grownCap,hzc,hzr]
   congr 2
   apply Array.ext'
   simp [List.append_assoc]
theorem SG {Fl Fs:List Nat} (hc:JK w bl G (Fl ++ (Fs ++ X)) w0 F0) {e:Ty} {t te tx ty:TypeId} (hp:e.plain=true) (hz:e.size ≠ 0) (hte:A.ty te=e) (hT:U6 P A.ty te)
  {Ad:Option Addr} {cap:Nat} {l xs:List D} {news:List Value} {vx:Value}
  (hl:UI true w (DIn true w e) e.size Ad cap l Fl) (hx:Row (DIn true w e) xs news Fs) (happ:∀ i z,P.info? te=some i→i.zero=some z→i.size=e.size→i.bytes≤32768→z.cells=(JF e).toArray→(JF e).length=e.size→App P t tx ty te i z vx xs.length news w) (hsz:l.length + xs.length≤4294967296) :
  ∃ v' w' F',(Builtin.append_ #[t,tx] ty #[.slice Ad l.length cap,vx]).run P w=.ok v' w'∧JK w' bl G (F' ++ X) w0 F0∧InV (Ja w' bl G (F' ++ X)) (.own e (l ++ xs)) [v'] F' ∧
   Jx (Ja w bl G (Fl ++ (Fs ++ X))) (Ja w' bl G (F' ++ X)) (fun _=>False):=by
 obtain ⟨i,z,hi,hiz,hisz,hby,hzc,hzl⟩:=VB (P:=P) hp hte hT
 have hnl:news.length=xs.length * e.size:=Hj (fun d c G hd=>Qn e hd) hx
 have hone:∀ u ∈ news,u.oneCell'=true:=CM (fun d c F=>H9 e) hx
 have hsrc:=happ i z hi hiz hisz hby hzc hzl
 have hnd:=hc.ok.xnd
 have hlt:=hc.ok.xlt
 have hbytes:(l.length + xs.length) * i.bytes≤140737488355328:=by
  have:(l.length + xs.length) * i.bytes≤4294967296 * 32768:=Nat.mul_le_mul hsz hby
  omega
 have grow:∀ (olds:List Value) (F':List Nat),Row (DIn true w e) l olds F'→F'.Sublist Fl→cap<l.length + xs.length→(Builtin.firstCells i.size l.length (.slice Ad l.length cap)).run P w.drew=.ok olds.toArray w.drew →
   ∃ v' w' F',(Builtin.append_ #[t,tx] ty #[.slice Ad l.length cap,vx]).run P w=.ok v' w'∧JK w' bl G (F' ++ X) w0 F0∧InV (Ja w' bl G (F' ++ X)) (.own e (l ++ xs)) [v'] F' ∧
    Jx (Ja w bl G (Fl ++ (Fs ++ X))) (Ja w' bl G (F' ++ X)) (fun _=>False):=by
  intro olds F' hrow hsub hg hold
  have hr:=hsrc.grow Ad l.length cap olds hold hg (by omega) (growslice_fits hg hbytes)
  obtain ⟨d1,d2⟩:=hc.drew
  have hndd:(F' ++ (Fs ++ X)).Nodup:=(hsub.append_right (Fs ++ X)).nodup hnd
  obtain ⟨s1,s2⟩:=d1.sub hndd (fun b hb=>(hsub.append_right (Fs ++ X)).subset hb)
  have hge:=grownCap_ge w (l.length + xs.length) cap te
  generalize hN:grownCap w (l.length + xs.length) cap te=N at hr hge
  have hcells:(olds ++ news).toArray ++ Builtin.zeroCells z.cells (N - (l.length + xs.length))=((olds ++ news) ++ (Builtin.zeroCells z.cells (N - (l.length + xs.length))).toList).toArray:=by
   apply Array.ext';simp
  rw [hcells] at hr
  obtain ⟨k1,k2⟩:=s1.alloc (.cells ((olds ++ news) ++ (Builtin.zeroCells z.cells (N - (l.length + xs.length))).toList).toArray te)
  have hrl:Row (DIn true w.drew e) l olds F':=Wu (w:=w) (w':=w.drew) (Nat.le_refl _) (fun b hb=>rfl) hrow
  have hrx:Row (DIn true w.drew e) xs news Fs:=Wu (w:=w) (w':=w.drew) (Nat.le_refl _) (fun b hb=>rfl) hx
  have hXe:(w.heap.size :: (F' ++ Fs)) ++ X=w.heap.size :: (F' ++ (Fs ++ X)):=by simp
  have hzl2:(Builtin.zeroCells z.cells (N - (l.length + xs.length))).toList.length=(N - (l.length + xs.length)) * e.size:=by rw [Array.length_toList,size_zeroCells,hzc,List.size_toArray,hzl]
  refine ⟨_,_,w.heap.size :: (F' ++ Fs),hr,?_,?_,?_⟩
  ·rw [hXe]
   exact k1
  ·have hrow2:=OM hrl hrx
   have hw2:Row (DIn true (w.drew.alloc (.cells ((olds ++ news) ++ (Builtin.zeroCells z.cells (N - (l.length + xs.length))).toList).toArray te)) e) (l ++ xs) (olds ++ news) (F' ++ Fs):=by
    refine Wu (by simp) (fun b hb=>?_) hrow2
    have hb':b<w.drew.heap.size:=by
     refine s1.ok.xlt b ?_
     rw [← List.append_assoc]
     exact List.mem_append.2 (.inl hb)
    exact Go.RowKit.Below.heap_alloc _ _ _ hb'
   have hol:olds.length=l.length * e.size:=Hj (fun d c G hd=>Qn e hd) hrow
   have:=YT (te:=te) (E:=Ja (w.drew.alloc (.cells ((olds ++ news) ++ (Builtin.zeroCells z.cells (N - (l.length + xs.length))).toList).toArray te)) bl G ((w.heap.size :: (F' ++ Fs)) ++ X)) (w1:=w.drew) (c:=N) hp rfl hw2 (by simp;exact hge) (by
    rw [hzl2,List.length_append,hol,hnl]
    rw [← Nat.add_mul,← Nat.add_mul]
    congr 1
    omega)
   simpa using this
  ·rw [hXe]
   exact (d2.trans s2).trans k2
 rcases hl with ⟨h1,h2,h3⟩ | ⟨ad,cs,F',h1,h2,h3,h4,h5,h6,h7⟩
 ·subst h1;subst h2;subst h3
  by_cases hx0:xs.length=0
  ·have hxs:xs=[]:=List.eq_nil_of_length_eq_zero hx0
   subst hxs
   obtain ⟨rfl,rfl⟩:=hx
   refine ⟨.slice Ad 0 0,w,[],?_,by simpa using hc,?_,by simpa using Jx.refl_ _ _⟩
   ·exact hsrc.zero rfl Ad 0 0 (Nat.le_refl _)
   ·unfold InV
    exact ⟨hp,Ad,0,rfl,.inl ⟨rfl,rfl,rfl⟩⟩
  ·refine grow [] [] ⟨rfl,rfl⟩ (List.Sublist.refl _) (by simp;omega) ?_
   cases Ad with
   | none=>simp [Builtin.firstCells]
   | some ad=>exact run_firstCells_some w.drew i.size 0 ad 0 0 [] (by simp) (by simp)
 ·subst h1
  have hcl:cs.length=l.length * e.size:=Hj (fun d c G hd=>Qn e hd) h2
  by_cases hroom:l.length + xs.length≤cap
  ·by_cases hx0:xs.length=0
   ·have hxs:xs=[]:=List.eq_nil_of_length_eq_zero hx0
    subst hxs
    obtain ⟨rfl,rfl⟩:=hx
    refine ⟨.slice (some ad) l.length cap,w,Fl,?_,by simpa using hc,?_,by simpa using Jx.refl_ _ _⟩
    ·exact hsrc.zero rfl (some ad) l.length cap h5
    ·unfold InV
     refine ⟨hp,some ad,cap,by simp,.inr ⟨ad,cs,F',rfl,by rw [List.append_nil];exact h2,h3,h4,by rw [List.append_nil];exact h5,h6,h7⟩⟩
   ·have hun:=h7 rfl
    have hcap0:cap * e.size ≠ 0:=by
     have:0<cap:=by omega
     exact Nat.mul_ne_zero (by omega) hz
    have hsp:=U9 hun hcap0
    have hadd:=C8 hsp
    have had:ad=⟨ad.block,ad.off,none⟩:=by cases ad;simp_all
    have hfit:l.length * e.size + news.length≤cap * e.size:=by rw [hnl,← Nat.add_mul];exact Nat.mul_le_mul_right _ hroom
    have hun2:QJ w (ad.add (l.length * e.size)) news.length:=CL hun hfit
    have hr:=hsrc.room ad.block ad.off l.length cap hroom
     (fun j hj=>by
      obtain ⟨⟨u,hu⟩,_⟩:=hun2 j hj
      rw [Hh,hadd] at hu
      rw [hisz,Nat.add_assoc,hu];rfl)
     (fun j hj=>by
      obtain ⟨_,hu⟩:=hun2 j hj
      rw [Hh,hadd] at hu
      rw [hisz,Nat.add_assoc,hu])
    rw [← had] at hr
    rw [hisz] at hr
    have hbl:ad.block ∈ Fl:=by rw [h4];simp
    have hsz':(w.setCells ad.block (ad.off + l.length * e.size) news).heap.size=w.heap.size:=Hn _ _ _ _
    obtain ⟨e1,e2,e3⟩:=OK ad.block news (ad.off + l.length * e.size) w
    have hpm:(Fl ++ (Fs ++ X)).Perm ((ad.block :: (F' ++ Fs)) ++ X):=by rw [h4];simp
    obtain ⟨k1,k2⟩:=hc.world (w':=w.setCells ad.block (ad.off + l.length * e.size) news) (X':=(ad.block :: (F' ++ Fs)) ++ X) (by rw [hsz'];exact Nat.le_refl _) (fun b hb hbX=>HP _ _ (fun e=>hbX (by rw [e];exact List.mem_append.2 (.inl hbl))) _ _ _)
     ((hpm.nodup_iff).1 hnd) (fun b hb=>⟨by rw [hsz'];exact hlt b ((hpm.mem_iff).2 hb),.inl ((hpm.mem_iff).2 hb)⟩) e1 e2 e3
    refine ⟨_,_,ad.block :: (F' ++ Fs),hr,k1,?_,k2⟩
    have hnd2:=(hpm.nodup_iff).1 hnd
    have hnotF:ad.block ∉ F' ++ Fs:=fun hm=>(List.nodup_cons.1 hnd2).1 (List.mem_append.2 (.inl hm))
    have hsame:QN w (w.setCells ad.block (ad.off + l.length * e.size) news) (F' ++ Fs):=fun b hb=>HP _ _ (fun e=>hnotF (by rw [← e];exact hb)) _ _ _
    unfold InV
    refine ⟨hp,some ad,cap,by simp,.inr ⟨ad,cs ++ news,F' ++ Fs,rfl,?_,?_,rfl,by simpa using hroom,by show _<(World.setCells _ _ _ _).heap.size;rw [hsz'];exact h6,fun _=>?_⟩⟩
    ·exact Wu (by show w.heap.size≤(World.setCells _ _ _ _).heap.size;rw [hsz'];exact Nat.le_refl _) hsame (OM h2 hx)
    ·have hat:=Vz (w:=w) (ad:=ad.add (l.length * e.size)) (cs:=news) (U9 hun2) hun2
     rw [Q1] at hat
     have hoff:(ad.add (l.length * e.size)).off=ad.off + l.length * e.size:=OB _ _
     rw [hoff] at hat
     refine Wd ?_ (by rw [hcl];exact hat)
     intro j v hj
     have hv:=h3 j v hj
     have hjl:=(List.getElem?_eq_some_iff.1 hj).1
     show (World.setCells _ _ _ _).cell? _=_
     rw [Wr _ _ _ _ _ (by rw [OB];omega)]
     exact hv
    ·intro j hj
     obtain ⟨⟨u,hu⟩,hf⟩:=hun j hj
     have hpart:=Vy (w:=w) (ad:=ad.add (l.length * e.size)) (n:=news.length) (cs:=news) (U9 hun2) hun2 rfl
     rw [Q1,OB] at hpart
     exact Xk (a:=ad) (i:=l.length * e.size) hpart hun j hj
  ·refine grow cs F' h2 ?_ (by omega) ?_
   ·rw [h4];exact List.sublist_cons_self _ _
   ·exact run_firstCells_some w.drew i.size l.length ad l.length cap cs (by rw [hisz];exact hcl) (fun j v hj=>by rw [World.cell?_drew];exact h3 j v hj)
theorem SH {Fl Fs:List Nat} (hc:JK w bl G (Fl ++ (Fs ++ X)) w0 F0) {e:Ty} {t te tx e' ty:TypeId} (hp:e.plain=true) (hz:e.size ≠ 0) (hte:A.ty te=e) (hT:U6 P A.ty te)
  (ht:P.underlying t=some (.slice te)) (hk:P.underlying tx=some (.slice e')) {Ad:Option Addr} {cap:Nat} {l xs:List D} {news:List Value} {vx:Value}
  (hl:UI true w (DIn true w e) e.size Ad cap l Fl) (hx:Row (DIn true w e) xs news Fs) (hfed:Fed w vx xs.length news) (hsz:l.length + xs.length≤4294967296) :
  ∃ v' w' F',(Builtin.append_ #[t,tx] ty #[.slice Ad l.length cap,vx]).run P w=.ok v' w'∧JK w' bl G (F' ++ X) w0 F0∧InV (Ja w' bl G (F' ++ X)) (.own e (l ++ xs)) [v'] F' ∧
   Jx (Ja w bl G (Fl ++ (Fs ++ X))) (Ja w' bl G (F' ++ X)) (fun _=>False):=by
 have hnl:news.length=xs.length * e.size:=Hj (fun d c G hd=>Qn e hd) hx
 have hone:∀ u ∈ news,u.oneCell'=true:=CM (fun d c F=>H9 e) hx
 refine SG hc hp hz hte hT hl hx (fun i z hi hiz hisz _ _ _=>App.ofSrc ht hi hiz (hfed.src hk (by rw [hisz];exact hnl) hone)) hsz
end
end Go.Rai
namespace Go.Rai
variable [Inhabited Qk]
section
variable {P:Program} {A:Ann} {w w' w0:World} {F0:List Nat} {sl:List V} {a:Act} {bl b':BL} {G:GT} {o:Oper} {X:List Nat}
theorem jb {e:Ty} (hp:e.plain=true) {F:List Nat} {v:V} {cs:List Value} {d:D} {c:List Jk} (hc:JK w bl G (F ++ X) w0 F0) (hv:InV (Ja w bl G (F ++ X)) v cs F) (h:Ym e bl v=some (c,d,b')) (hk:∀ k ∈ c,k.ok) :
  CN w (Ja w bl G (F ++ X)) w0 F0 X b' (fun E F'=>DIn true w e d cs F'):=by
 unfold Ym at h
 split at h
 ·rename_i c2 x b2 hin
  split at h
  ·rename_i hb
   simp only [oj,pj] at h
   obtain ⟨rfl,rfl,rfl⟩:=h
   rw [Je] at hb
   obtain ⟨F',G',q1,q2,q3⟩:=(Oa 9).1 hc (Vv e hv) hin hk
   exact ⟨F',G',q1,Vg e (VA hp hb.2 hb.1) q2,q3⟩
  ·simp at h
 ·simp at h
theorem SI {e:Ty} (hp:e.plain=true):∀ {vs:List V} {bl b':BL} {G:GT} {X F:List Nat} {cs:List Value} {ds:List D} {c:List Jk},JK w bl G (F ++ X) w0 F0→Jj (Ja w bl G (F ++ X)) vs cs F→CY e bl vs=some (c,ds,b')→(∀ k ∈ c,k.ok) →
  CN w (Ja w bl G (F ++ X)) w0 F0 X b' (fun E F'=>Row (DIn true w e) ds cs F')
 | [],bl,b',G,X,F,cs,ds,c,hc,hv,h,hk=>by
  simp only [CY,oj,pj] at h
  obtain ⟨rfl,rfl,rfl⟩:=h
  unfold Jj at hv
  exact ⟨F,G,hc,hv,Jx.refl_ _ _⟩
 | v :: vs,bl,b',G,X,F,cs,ds,c,hc,hv,h,hk=>by
  simp only [CY] at h
  split at h
  ·rename_i c1 d1 b1 h1
   split at h
   ·rename_i c2 ds2 b2 h2
    simp only [oj,pj] at h
    obtain ⟨rfl,rfl,rfl⟩:=h
    obtain ⟨hk1,hk2⟩:=QU hk
    unfold Jj at hv
    obtain ⟨cs1,cs2,F1,F2,rfl,rfl,i1,i2⟩:=hv
    obtain ⟨p1,p2⟩:=hc.perm (show ((F1 ++ F2) ++ X).Perm (F1 ++ (F2 ++ X)) by rw [List.append_assoc])
    obtain ⟨F1',G1,q1,q2,q3⟩:=jb hp p1 (p2.inV (fun _ _=>id) (fun _ _=>rfl) i1) h1 hk1
    obtain ⟨r1,r2⟩:=q1.perm (show (F1' ++ (F2 ++ X)).Perm (F2 ++ (F1' ++ X)) by
     rw [← List.append_assoc,← List.append_assoc]
     exact List.Perm.append_right X List.perm_append_comm)
    have g1:=(p2.trans q3).trans r2
    obtain ⟨F2',G2,s1,s2,s3⟩:=SI hp r1 (HN g1.le vs (fun s _=>g1.al s id) (fun b _=>rfl) i2) h2 hk2
    obtain ⟨t1,t2⟩:=s1.perm (show (F2' ++ (F1' ++ X)).Perm ((F1' ++ F2') ++ X) by
     rw [← List.append_assoc]
     exact List.Perm.append_right X List.perm_append_comm)
    exact ⟨F1' ++ F2',G2,t1,⟨cs1,cs2,F1',F2',rfl,rfl,q2,s2⟩,(g1.trans s3).trans t2⟩
   ·simp at h
  ·simp at h
theorem SJ {e:Ty}:∀ {b b':BL} {vs:List V} {ws:List D} {c:List Jk},CY e b vs=some (c,ws,b')→ws.length=vs.length
 | b,b',[],ws,c,h=>by simp [CY] at h;rw [h.2.1];rfl
 | b,b',v :: vs,ws,c,h=>by
  simp only [CY] at h
  split at h
  ·split at h
   ·rename_i h2
    simp only [oj,pj] at h
    obtain ⟨_,rfl,_⟩:=h
    simp [SJ h2]
   ·simp at h
  ·simp at h
theorem ON (hc:JX w bl G w0 F0) {e:Ty} {x:V} {vx:Value} (hx:Val (Ja w bl G []) x vx []) {c:List Jk} {xs:List D} (hp:e.plain=true) (h:Q4 e bl x=some (c,xs,b')) (hk:∀ k ∈ c,k.ok) :
  CN w (Ja w bl G []) w0 F0 [] b' (fun E F'=>∃ news,Row (DIn true w e) xs news F'∧Fed w vx xs.length news):=by
 have flatE:∀ {c:List Jk} {l:List D},e.flat=true→U0 bl x=some (c,e,l)→(∀ k ∈ c,k.ok)→CN w (Ja w bl G []) w0 F0 [] bl (fun E F'=>∃ news,Row (DIn true w e) l news F'∧Fed w vx l.length news):=by
  intro c l hf he hk
  obtain ⟨Ad,cap,F,h1,h2,h3,h4⟩:=Wj hc hx he hk
  rcases h2 with ⟨g1,g2,g3⟩ | ⟨ad,cs,F',g1,g2,g3,g4,g5,g6,_⟩
  ·subst g1
   exact ⟨[],G,hc.x,⟨[],⟨rfl,rfl⟩,Ad,cap,h1,fun hn=>absurd rfl hn⟩,Jx.refl_ _ _⟩
  ·have hrow:Row (DIn true w e) l cs F':=HM (fun d _ c G' _ hd=>Xf e hf hd) g2
   have hF:F'=[]:=Hk (fun d c G' hd=>Hl e hf hd) g2
   subst hF
   exact ⟨[],G,hc.x,⟨cs,hrow,Ad,cap,h1,fun _=>⟨ad,g1,g3⟩⟩,Jx.refl_ _ _⟩
 unfold Q4 at h
 split at h
 ·simp only [oj,pj] at h
  obtain ⟨rfl,rfl,rfl⟩:=h
  obtain ⟨rfl,_⟩:=OH.1 hx
  exact ⟨[],G,hc.x,⟨[],⟨rfl,rfl⟩,none,0,rfl,fun hn=>absurd rfl hn⟩,Jx.refl_ _ _⟩
 ·rename_i e1
  simp only [oj,pj] at h
  obtain ⟨rfl,rfl,rfl⟩:=h
  have hx':=(JM rfl (by simp) (by simp)).1 hx
  unfold InV at hx'
  obtain ⟨⟨Ad,hx'⟩,_⟩:=hx'
  simp only [List.cons.injEq,and_true] at hx'
  exact ⟨[],G,hc.x,⟨[],⟨rfl,rfl⟩,Ad,0,hx',fun hn=>absurd rfl hn⟩,Jx.refl_ _ _⟩
 ·rename_i s p e1
  split at h
  ·rename_i c1 e2 vs hg
   split at h
   ·split at h
    ·rename_i c2 ds b2 hin
     simp only [oj,pj] at h
     obtain ⟨rfl,rfl,rfl⟩:=h
     obtain ⟨hk1,hk2⟩:=QU hk
     obtain ⟨c0,rc,F,i1,i2,i3,_⟩:=Uy hc hg hk1
     have hc0:c0=.lst e2 vs:=by
      simp only [V.get,oj,pj] at i3
      exact i3.2
     subst hc0
     have ht:QS bl s []=some (.lst e2 vs,Qj bl s):=by unfold QS;rw [i1]
     obtain ⟨c0',rc',Fs,Lv,csv,Fv,G',k1,k2,k3,k4,k5,k6,k7,k8⟩:=C9 hc.x ht
     have hh:=H6 hx k1 k2 k3 rfl
     unfold InV at k6
     obtain ⟨ad,cc,cs',F',hcs',hlc,hes,hin',hca,hF,hbl,hun⟩:=k6
     rw [hcs'] at k4
     have hhd:=JL k4
     rw [show (Ja w bl G []).w=w from rfl,hhd] at hh
     simp only [oj] at hh
     subst hF
     have hnd:=k7.ok.xnd
     obtain ⟨p1,p2⟩:=k7.sub (X':=F' ++ []) (by simpa using (List.nodup_cons.1 (by simpa using hnd)).2) (fun b hb=>by simp at hb ⊢;exact .inr hb)
     obtain ⟨F2,G2,q1,q2,q3⟩:=SI hp (X:=[]) (F:=F') p1 (HN p2.le vs (fun s _=>p2.al s id) (fun b _=>rfl) hin') hin hk2
     have hlen:ds.length=vs.length:=by
      exact SJ hin
     exact ⟨F2,G2,q1,⟨cs',q2,some ad,cc,by rw [hlen];exact hh.symm,fun _=>⟨ad,rfl,hca⟩⟩,(k8.trans p2).trans q3⟩
    ·simp at h
   ·simp at h
  ·rename_i c1 e2 l hg
   split at h
   ·rename_i hbeq
    have hee:=Ty.beq_eq _ _ hbeq
    subst hee
    split at h
    ·rename_i hf
     simp only [oj,pj] at h
     obtain ⟨rfl,rfl,rfl⟩:=h
     exact flatE hf (by simp [U0,hg]) hk
    ·split at h
     ·rename_i v2 b2 ht
      simp only [oj,pj] at h
      obtain ⟨rfl,rfl,rfl⟩:=h
      obtain ⟨c0,rc,F,i1,i2,i3,Lx,csx,Fx,i4,_⟩:=Uy hc hg hk
      obtain ⟨c0',rc',Fs,Lv,csv,Fv,G',k1,k2,k3,k4,k5,k6,k7,k8⟩:=C9 hc.x ht
      rw [i1] at k1;simp only [oj] at k1;subst k1
      rw [i2] at k2;simp only [oj,pj] at k2;obtain ⟨rfl,rfl⟩:=k2
      rw [i4] at k3;simp only [oj,pj] at k3;obtain ⟨rfl,rfl⟩:=k3
      have hh:=H6 hx i1 i2 i4 rfl
      unfold InV at k6
      obtain ⟨_,Ad,cap,hcs',hsl⟩:=k6
      rw [hcs'] at k4
      have hhd:=JL k4
      rw [show (Ja w bl G []).w=w from rfl,hhd] at hh
      simp only [oj] at hh
      rcases hsl with ⟨g1,g2,g3⟩ | ⟨ad,cs,F',g1,g2,g3,g4,g5,g6,_⟩
      ·subst g1;subst g3
       exact ⟨[],G',k7,⟨[],⟨rfl,rfl⟩,Ad,cap,hh.symm,fun hn=>absurd rfl hn⟩,k8⟩
      ·subst g4
       have hnd:=k7.ok.xnd
       obtain ⟨p1,p2⟩:=k7.sub (X':=F' ++ []) (by simpa using (List.nodup_cons.1 (by simpa using hnd)).2) (fun b hb=>by simp at hb ⊢;exact .inr hb)
       exact ⟨F',G',p1,⟨cs,g2,Ad,cap,hh.symm,fun _=>⟨ad,g1,g3⟩⟩,k8.trans p2⟩
     ·simp at h
   ·simp at h
  ·simp at h
 ·split at h
  ·rename_i hf
   split at h
   ·rename_i c1 e2 l he
    split at h
    ·rename_i hbeq
     have hee:=Ty.beq_eq _ _ hbeq
     subst hee
     simp only [oj,pj] at h
     obtain ⟨rfl,rfl,rfl⟩:=h
     exact flatE hf he hk
    ·simp at h
   ·simp at h
  ·simp at h
theorem YY (hc:JK w bl G X w0 F0) {s:Nat} {p:List Nat} {c0:V} {rc:List Value} {F:List Nat} {e:Ty} {l xs:List D} {Lx:Ji} {Ad:Option Addr} {n k i:Nat} {news:List Value}
  (hl:Jb bl s=some c0) (hg:G s=some (rc,F)) (hloc:Jf w c0 (.reg rc) p=some (.own e l,Lx)) (hhd:Lx.head w=some (.slice Ad n k)) (hf:e.flat=true) (hz:e.size ≠ 0)
  (hi:i + xs.length≤l.length) (hrow:Row (DIn true w e) xs news []) (hgt:(c0.get p).isSome=true) :
  ∃ w' G',(xs=[]→w'=w)∧(∀ ad,Ad=some ad→w'=w.setCells ad.block (ad.off + i * e.size) news∧(xs ≠ []→QJ w (ad.add (i * e.size)) news.length∧ad.spot=none))∧(xs ≠ []→∃ ad,Ad=some ad)∧l.length≤k ∧
   JK w' (Jp bl s (c0.set p (.own e (l.take i ++ xs ++ l.drop (i + xs.length))))) G' X w0 F0∧(∃ F2,G' s=some (rc,F2)) ∧
   Jx (Ja w bl G X) (Ja w' (Jp bl s (c0.set p (.own e (l.take i ++ xs ++ l.drop (i + xs.length))))) G' X) (fun _=>False):=by
 obtain ⟨csx,Fx,Fr,m1,m2,m3,m4,m5⟩:=hc.modify hl hg hloc hgt
 obtain ⟨rc',F',F1,g1,g2,g3,g4,g5⟩:=hc.ok.root s c0 hl
 rw [hg] at g1;simp only [oj,pj] at g1;obtain ⟨rfl,rfl⟩:=g1
 have hnd:=(m3.nodup_iff).1 g4
 have m1':=m1
 unfold InV at m1'
 obtain ⟨hp,Ad',k',hcs,hsl⟩:=m1'
 have hnews:news.length=xs.length * e.size:=Hj (fun d c G hd=>Qn e hd) hrow
 have hhd':Lx.head w=some (.slice Ad' l.length k'):=JL (by rw [← hcs];exact m2)
 rw [hhd] at hhd'
 simp only [oj,Value.slice.injEq] at hhd'
 obtain ⟨rfl,rfl,rfl⟩:=hhd'
 have hlen':(l.take i ++ xs ++ l.drop (i + xs.length)).length=l.length:=by simp;omega
 have hndX:(Fx ++ X).Nodup:=List.nodup_append.2 ⟨(List.nodup_append.1 hnd).2.1,hc.ok.xnd,fun a ha b hb hab=>by subst hab;exact (g5 a ((m3.mem_iff).2 (by simp [ha]))).2 hb⟩
 have hlt':∀ (w':World),w'.heap.size=w.heap.size→∀ b ∈ Fx ++ X,b<w'.heap.size∧(b ∈ Fx ∨ b ∈ X ∨ w.heap.size≤b):=by
  intro w' hw b hb
  rw [hw]
  rcases List.mem_append.1 hb with q | q
  ·exact ⟨(g5 b ((m3.mem_iff).2 (by simp [q]))).1,.inl q⟩
  ·exact ⟨hc.ok.xlt b q,.inr (.inl q)⟩
 rcases hsl with ⟨h1,h2,h3⟩ | ⟨ad,cs,F',h1,h2,h3,h4,h5,h6,h7⟩
 ·-- nothing there
  subst h1;subst h3
  obtain ⟨hi0,hxs⟩:i=0∧xs=[]:=by simpa using hi
  subst hxs
  subst hi0
  obtain ⟨rfl,_⟩:=hrow
  obtain ⟨p1,p2⟩:=m5 w (.own e ([].take 0 ++ [] ++ [].drop (0 + 0))) csx [] X rfl (fun _ t ht=>by cases t<;>simp [shp] at ht;simpa [shp] using ht) (Nat.le_refl _) (fun _ _ _ _ _=>rfl) (fun _ _=>.inr (.inr trivial))
   (by cases Lx with
     | reg _=>exact True.intro
     | mem a=>exact fun b _ _=>⟨fun _=>rfl,rfl,fun h=>h⟩) m2 (fun _=>rfl) (by simpa using hc.ok.xnd) (by intro b hb;exact ⟨hc.ok.xlt b (by simpa using hb),.inr (.inl (by simpa using hb))⟩)
   Uj.refl rfl rfl rfl (fun _ _ _ _=>rfl) (fun hle=>U2 hle _ (fun s _ c' rc' F' hlk=>by simp [Jb] at hlk) (fun b hb=>rfl) m1) (fun hgo=>hgo.inV (fun _ _=>id) (fun _ _=>rfl) m1)
  refine ⟨w,_,fun _=>rfl,fun ad _=>⟨rfl,fun h=>absurd rfl h⟩,fun h=>absurd rfl h,Nat.zero_le _,p1,?_,p2⟩
  exact ⟨_,if_pos rfl⟩
 ·subst h1
  have hF':F'=[]:=Hk (fun d c G hd=>Hl e hf hd) h2
  subst hF'
  have hcl:cs.length=l.length * e.size:=Hj (fun d c G hd=>Qn e hd) h2
  have hbl:ad.block ∈ Fx:=by rw [h4];simp
  have hun:=h7 rfl
  obtain ⟨c1,c2,G1,G2,i1,i2,i3,i4,i5⟩:=OG (fun d c G hd=>Qn e hd) (n:=i) h2 (by omega)
  obtain ⟨d1,d2,K1,K2,j1,j2,j3,j4,j5⟩:=OG (fun d c G hd=>Qn e hd) (n:=xs.length) i5 (by simp;omega)
  subst i1;subst j1
  have hG1:G1=[]:=Hk (fun d c G hd=>Hl e hf hd) i4
  have hK2:K2=[]:=Hk (fun d c G hd=>Hl e hf hd) j5
  subst hG1;subst hK2
  have hfit:i * e.size + news.length≤k * e.size:=by rw [hnews,← Nat.add_mul];exact Nat.mul_le_mul_right _ (by omega)
  have hun2:QJ w (ad.add (i * e.size)) news.length:=CL hun hfit
  have hsz':(w.setCells ad.block (ad.off + i * e.size) news).heap.size=w.heap.size:=Hn _ _ _ _
  obtain ⟨e1,e2,e3⟩:=OK ad.block news (ad.off + i * e.size) w
  have hmem:∀ b,b<w.heap.size→b ∉ Fx→(∀ a,Lx=.mem a→b ≠ a.block)→(w.setCells ad.block (ad.off + i * e.size) news).heap[b]?=w.heap[b]?:=
   fun b hb hbF _=>HP _ _ (fun e=>hbF (by rw [e];exact hbl)) _ _ _
  have hLx:∀ a,Lx=.mem a→(w.setCells ad.block (ad.off + i * e.size) news).heap[a.block]?=w.heap[a.block]?:=by
   intro a ha
   refine HP _ _ (fun e=>?_) _ _ _
   rcases m4 with ⟨a',ha',hin⟩ | ⟨ds,hds⟩
   ·rw [ha] at ha';cases ha'
    exact (List.nodup_append.1 hnd).2.2 _ hin _ hbl e
   ·rw [ha] at hds;cases hds
  have hpart:=Vy (w:=w) (ad:=ad.add (i * e.size)) (n:=news.length) (cs:=news) (U9 hun2) hun2 rfl
  have hat:=Vz (w:=w) (ad:=ad.add (i * e.size)) (cs:=news) (U9 hun2) hun2
  rw [Q1,OB] at hpart hat
  have hnew:InV (Ja (w.setCells ad.block (ad.off + i * e.size) news) bl G X) (.own e (l.take i ++ xs ++ l.drop (i + xs.length))) csx Fx:=by
   unfold InV
   refine ⟨hp,some ad,k,by rw [hlen'];exact hcs,.inr ⟨ad,c1 ++ (news ++ d2),[],rfl,?_,?_,h4,by rw [hlen'];exact h5,by show _<(World.setCells _ _ _ _).heap.size;rw [hsz'];exact h6,fun _=>?_⟩⟩
   ·have r1:=OM (OM i4 hrow) j5
    rw [List.drop_drop,List.append_assoc c1] at r1
    exact Wu (w:=w) (by show w.heap.size≤(World.setCells _ _ _ _).heap.size;rw [hsz'];exact Nat.le_refl _) (fun b hb=>by cases hb) r1
   ·refine Wd ?_ (Wd (by rw [i3];exact hat) ?_)
    ·exact TM hpart (fun j v hj=>h3 j v (by rw [List.getElem?_append_left (List.getElem?_eq_some_iff.1 hj).1];exact hj)) (by rw [i3];exact Nat.le_refl _)
    ·rw [Hh,i3]
     refine TN hpart ?_ (Nat.le_refl _)
     have:=QK (L:=.mem ad) (w:=w) (c1:=c1 ++ d1) (c:=d2) (c2:=[]) (by rw [List.append_nil,List.append_assoc];exact h3)
     rw [List.length_append,i3,j3,← hnews] at this
     exact this
   ·exact Xk hpart hun
  have hkeep:Lx.holds (w.setCells ad.block (ad.off + i * e.size) news) csx:=by
   cases hLxe:Lx with
   | reg ds=>rw [hLxe] at m2;exact m2
   | mem a=>
    rw [hLxe] at m2
    exact Hz (hLx a hLxe) m2
  have hps:US w (w.setCells ad.block (ad.off + i * e.size) news) Lx (vsz (.own e l)):=by
   cases hLxe:Lx with
   | reg ds=>exact True.intro
   | mem a=>
    intro b hb hs
    have hbb:=hLx a hLxe
    rw [← hb] at hbb
    exact ⟨fun _=>Oy hbb,Yt hbb,fun ⟨v,hv⟩=>⟨v,by rw [Oy hbb];exact hv⟩⟩
  have hhd2:Lx.head (w.setCells ad.block (ad.off + i * e.size) news)=some (.slice (some ad) l.length k):=by
   have:=JL (by rw [← hcs];exact hkeep)
   exact this
  obtain ⟨p1,p2⟩:=m5 (w.setCells ad.block (ad.off + i * e.size) news) (.own e (l.take i ++ xs ++ l.drop (i + xs.length))) csx Fx X rfl (fun _ t ht=>by cases t<;>simp [shp] at ht;simpa [shp] using ht) (by rw [hsz'];exact Nat.le_refl _)
   (fun b hb hbF _ hba=>hmem b hb hbF hba) (fun _ _=>.inr (.inr trivial)) hps hkeep (fun _=>rfl) hndX (hlt' _ hsz')
   (by
    intro q x' L' hq
    cases q with
    | nil=>
     simp only [Jf,oj,pj] at hq
     obtain ⟨rfl,rfl⟩:=hq
     exact ⟨_,rfl,fun _=>⟨rfl,by rw [hhd2,hhd]⟩⟩
    | cons j q=>
     simp only [Jf] at hq ⊢
     split at hq
     ·rename_i hj
      rw [hlen'] at hj
      rw [hhd2] at hq
      rw [if_pos hj,hhd]
      simp only at hq ⊢
      have hnew':=hnew
      unfold InV at hnew'
      obtain ⟨_,A3,k3,hcs3,hsl3⟩:=hnew'
      rcases hsl3 with ⟨z1,_⟩ | ⟨ad3,cs3,F3,_,z2,_⟩
      ·rw [z1] at hlen';simp at hlen';omega
      ·obtain ⟨_,_,_,_,_,_,_,_,_,f4,_⟩:=U4 (fun d c G hd=>Qn _ hd) z2 (show j<_ by rw [hlen'];exact hj)
       obtain ⟨_,_,_,_,_,_,_,_,_,e4,_⟩:=U4 (fun d c G hd=>Qn _ hd) h2 hj
       obtain ⟨y',r1,r2⟩:=Xu (E:=Ja (w.setCells ad.block (ad.off + i * e.size) news) bl G X) (E':=Ja w bl G X) q (Ws (Vf e _ hp)) (Ws (Vf e _ hp)) (Wt e _ hf) (Wt e _ hf) (UR e hp f4) (UR e hp e4) hq
       exact ⟨y',r1,fun ho=>by rw [r2] at ho;cases ho⟩
     ·simp at hq) e1 e2 e3 hmem
   (fun hle=>by
    unfold InV at hnew ⊢
    exact hnew)
   (fun hgo=>by
    unfold InV at hnew ⊢
    exact hnew)
  refine ⟨_,_,?_,?_,fun _=>⟨ad,rfl⟩,h5,p1,⟨_,if_pos rfl⟩,p2⟩
  ·intro hxs
   subst hxs
   have:news=[]:=List.eq_nil_of_length_eq_zero (by rw [hnews];simp)
   rw [this];rfl
  ·intro ad' hadd
   cases hadd
   refine ⟨rfl,fun hxs=>⟨hun2,?_⟩⟩
   have hnz:news.length ≠ 0:=by
    rw [hnews]
    exact Nat.mul_ne_zero (fun h0=>hxs (List.eq_nil_of_length_eq_zero h0)) hz
   exact U9 hun (by omega)
end
end Go.Rai
namespace Go.Rai
variable [Inhabited Qk]
section
variable {P:Program} {A:Ann} {w w' w0:World} {F0:List Nat} {sl:List V} {a:Act} {bl b':BL} {G:GT} {o:Oper} {X:List Nat}
theorem VC {c:Call} {f:Builtin} {xs:List Operand} {R:Result Next} (h:o.op=.call c) (hcal:c.callee=.builtin f) (hargs:c.args.toList=xs)
  (hr:∀ cs,(builtin f c.argTypes o.type cs (xs.map a.eval).toArray).run P w=R):(execOp a.eval o).run P w=R:=by
 have:c.args=xs.toArray:=by apply Array.toList_inj.1;rw [hargs]
 rw [← hr (xs.map fun x=>match x with | .const _=>true | _=>false).toArray]
 simp [execOp,h,resolve,hcal,this,invoke]
 rfl
theorem jc {E E':Env} (hgo:Jx E E' (fun _=>False)) {s:Nat} {p:List Nat} {c0:V} {rc:List Value} {F:List Nat} {x0:V} {Lx:Ji} {A A':Option Addr} {n k off len:Nat} {e:Ty}
  (hl:Jb E.bl s=some c0) (hg:E.G s=some (rc,F)) (hloc:Jf E.w c0 (.reg rc) p=some (x0,Lx)) (hhd:Lx.head E.w=some (.slice A n k)) (hle:off + len≤k) (hA:off<k→∃ a,A=some a∧A'=some (a.add (off * e.size))) :
  InV E' (.sub s p off len e) [.slice A' len (k - off)] []:=by
 unfold InV
 refine ⟨rfl,⟨A',k - off,rfl,by omega⟩,fun c rc' F0 k1 k2 x L k3 k4=>?_⟩
 obtain ⟨c1,F1,g1,g2,g3⟩:=hgo.al s id c rc' F0 k1 k2
 rw [hl] at g1;simp only [oj] at g1;subst g1
 rw [hg] at g2;simp only [oj,pj] at g2;obtain ⟨rfl,_⟩:=g2
 obtain ⟨x1,q1,q2⟩:=g3 p x L k3
 rw [hloc] at q1
 simp only [oj,pj] at q1
 obtain ⟨rfl,rfl⟩:=q1
 exact ⟨A,n,k,A',by rw [(q2 k4).2];exact hhd,hle,rfl,hA⟩
theorem jd (HT:JN P A.ty) (hc:JX w bl G w0 F0) (hs:Jy (Ja w bl G []) sl a) {c:Call} {s x:Operand} {t tx:TypeId} {e:Ty} {co:List Jk} {v:V} {b:BL} (h:o.op=.call c) (hcal:c.callee=.builtin .append)
  (hargs:c.args.toList=[s,x]) (hts:c.argTypes.toList=[t,tx]) (hty:A.ty t=.slice e) (hit:O4 (A.ty tx)=true) (hv:Yn e sl bl o.dst (opd sl s) (opd sl x)=some (co,v,b)) (hk:∀ k ∈ co,k.ok):Jo P w0 F0 sl a w o v b:=by
 obtain ⟨kx,hxt⟩:∃ k,A.ty tx=.int k:=by
  cases hq:A.ty tx with
  | int k=>exact ⟨k,rfl⟩
  | _=>rw [hq] at hit;simp [O4] at hit
 obtain ⟨dx,hdx,hdxk⟩:=(HT tx (by rw [hxt];simp)).desc
 rw [hxt] at hdxk
 have hdx':=OF hdxk
 subst hdx'
 obtain ⟨d,hd,hdk⟩:=(HT t (by rw [hty];simp)).desc
 rw [hty] at hdk
 obtain ⟨te,rfl,hte,hne⟩:=Us hdk
 have hT:=HT te (by rw [hte];exact hne)
 have hats:c.argTypes=#[t,tx]:=by apply Array.toList_inj.1;rw [hts]
 have hrun:∀ vv w2,(Builtin.append_ #[t,tx] o.type #[a.eval s,a.eval x]).run P w=.ok vv w2→(execOp a.eval o).run P w=.ok (.value vv) w2:=by
  intro vv w2 hr
  refine VC h hcal hargs (fun cs=>?_)
  rw [hats]
  simp [builtin,hr]
 have hsv:=JJ hs s
 have hxv:=JJ hs x
 unfold Yn at hv
 split at hv
 ·rename_i hse
  rw [hse] at hsv
  obtain ⟨hes,_⟩:=OH.1 hsv
  split at hv
  ·rename_i k n hxe
   rw [hxe] at hxv
   obtain ⟨hex,_⟩:=Qg.1 hxv
   split at hv
   ·rename_i hkq
    have hk64:=UC hkq
    subst hk64
    obtain ⟨hpz,hv⟩:=Ut hv
    rw [Je] at hpz
    obtain ⟨hp,hz'⟩:=hpz
    have hz:e.size ≠ 0:=by
     intro h0;rw [h0] at hz';simp [JO] at hz'
    obtain ⟨rfl,hfr⟩:=HC hv
    obtain ⟨m1,_,m3⟩:0≤n∧n≤n∧n≤4294967296:=hk (.mk n n) (by simp)
    obtain ⟨m,rfl⟩:∃ m:Nat,n=(m:Int):=⟨n.toNat,by omega⟩
    simp only [tn] at hfr
    obtain ⟨r0,r1⟩:=ja (w:=w) (ty:=o.type) hp hz hte hT hd hdx (n:=m) (by omega)
    by_cases hm0:m=0
    ·subst hm0
     have hin:InV (Ja w bl G ([] ++ [])) (.own e (List.replicate 0 (QQ e))) [.slice none 0 0] []:=by
      unfold InV
      exact ⟨hp,none,0,rfl,.inl ⟨rfl,rfl,rfl⟩⟩
     obtain ⟨G',g1,g2,g3⟩:=OJ (F:=[]) (X:=[]) hc.x hs (v:=.slice none 0 0) hin (by unfold Qf;rfl) hfr
     exact ⟨_,w,G',.inl (hrun _ _ (by rw [hes,hex];exact r0 rfl)),g1.c,g2,g3⟩
    ·have hr:=r1 (by omega)
     have hge:=grownCap_ge w m 0 te
     generalize hN:grownCap w m 0 te=N at hr hge
     obtain ⟨i,z,hi,hiz,hisz,hby,hzc,hzl⟩:=VB (P:=P) hp hte hT
     have hcells:(JW m (JF e)).toArray ++ Builtin.zeroCells (JF e).toArray (N - m)=((JW m (JF e)) ++ (Builtin.zeroCells (JF e).toArray (N - m)).toList).toArray:=by
      apply Array.ext';simp
     rw [hcells] at hr
     obtain ⟨d1,d2⟩:=hc.x.drew
     obtain ⟨k1,k2⟩:=d1.alloc (.cells ((JW m (JF e)) ++ (Builtin.zeroCells (JF e).toArray (N - m)).toList).toArray te)
     have hzl2:(Builtin.zeroCells (JF e).toArray (N - m)).toList.length=(N - m) * e.size:=by rw [Array.length_toList,size_zeroCells,List.size_toArray,hzl]
     have hin:=YT (te:=te) (E:=Ja (w.drew.alloc (.cells ((JW m (JF e)) ++ (Builtin.zeroCells (JF e).toArray (N - m)).toList).toArray te)) bl G ([w.drew.heap.size] ++ [])) (w1:=w.drew) (c:=N) (l:=List.replicate m (QQ e)) (F:=[]) hp rfl (OI (Ct e hp) m) (by simp;exact hge) (by
      rw [hzl2,Vx,hzl,← Nat.add_mul]
      congr 1
      omega)
     rw [List.length_replicate] at hin
     obtain ⟨G',g1,g2,g3⟩:=OJ (F:=[w.drew.heap.size]) (X:=[]) k1 (hs.go0 (d2.trans k2)) (v:=.slice (some ⟨w.heap.size,0,none⟩) m N) hin (by unfold Qf;rfl) hfr
     exact ⟨_,_,G',.inl (hrun _ _ (by rw [hes,hex];exact hr)),g1.c,g2,g3⟩
   ·cases hv
  ·cases hv
 ·rename_i t2 p e2 hse
  split at hv
  ·rename_i k n hxe
   rw [hxe] at hxv
   obtain ⟨hex,_⟩:=Qg.1 hxv
   split at hv
   ·rename_i hkq
    have hk64:=UC hkq
    subst hk64
    obtain ⟨hpz,hv⟩:=Ut hv
    rw [Je,Je] at hpz
    obtain ⟨hb1,hp,hz'⟩:=hpz
    have hz:e.size ≠ 0:=by
     intro h0;rw [h0] at hz';simp [JO] at hz'
    split at hv
    ·rename_i e3 l b2 ht
     obtain ⟨hb2,hv2⟩:=Ut hv
     have hee:=Ty.beq_eq _ _ hb2
     subst hee
     obtain ⟨rfl,hfr⟩:=HC hv2
     obtain ⟨m1,_,m3⟩:0≤n∧n≤n∧n≤4294967296:=hk (.mk n n) (by simp)
     obtain ⟨m,rfl⟩:∃ m:Nat,n=(m:Int):=⟨n.toNat,by omega⟩
     have hsz:l.length + ((m:Int)).toNat≤4294967296:=hk (.sz l.length ((m:Int)).toNat) (by simp)
     simp only [tn] at hfr hsz
     rw [hse] at hsv
     obtain ⟨c0,rc,Fz,Lv,csv,Fv,G2,k1,k2,k3,k4,k5,k6,k7,k8⟩:=C9 hc.x ht
     have hh:=H6 hsv k1 k2 k3 rfl
     have hh2:Lv.head w=some (a.eval s):=hh
     unfold InV at k6
     obtain ⟨_,Ad,cap,hcs',hsl⟩:=k6
     rw [hcs'] at k4
     have hhd:=JL k4
     rw [hhd] at hh2
     simp only [oj] at hh2
     have hrow:Row (DIn true w e) (List.replicate m (QQ e)) (JW m (JF e)) []:=OI (Ct e hp) m
     have hone:∀ u ∈ JW m (JF e),u.oneCell'=true:=CM (fun d c F=>H9 e) hrow
     obtain ⟨v',w',F',r1,r2,r3,r4⟩:=SG (P:=P) (A:=A) (w:=w) (ty:=o.type) (t:=t) (tx:=tx) (vx:=.int .i64 (m:Int)) (Fs:=[]) (X:=[]) (xs:=List.replicate m (QQ e)) (by simpa using k7) hp hz hte hT hsl hrow (fun i z hi hiz hisz hby hzc hzl=>by
      rw [List.length_replicate]
      exact App.ofInt hz hd hdx hi hiz hisz hby hzc hzl (by omega) hone) (by rw [List.length_replicate];exact hsz)
     rw [← hex,hh2] at r1
     obtain ⟨G',g1,g2,g3⟩:=OJ (F:=F') (X:=[]) r2 (hs.go0 (k8.trans r4)) (v:=v') r3 (by unfold Qf;rfl) hfr
     exact ⟨v',w',G',.inl (hrun _ _ r1),g1.c,g2,g3⟩
    ·cases hv
   ·cases hv
  ·cases hv
 ·cases hv
theorem je (HT:JN P A.ty) (hc:JX w bl G w0 F0) (hs:Jy (Ja w bl G []) sl a) {c:Call} {co:List Jk} {v:V} {b:BL} (h:o.op=.call c) (hcal:c.callee=.builtin .append)
  (hv:Ql A sl bl o.dst .append c.argTypes.toList (Jm sl c.args.toList)=some (co,v,b)) (hk:∀ k ∈ co,k.ok):Jo P w0 F0 sl a w o v b:=by
 match hargs:c.args.toList with
 | []=>rw [hargs] at hv;simp [Jm,Ql] at hv
 | [x]=>rw [hargs] at hv;simp [Jm,Ql] at hv
 | x :: y :: z :: r=>rw [hargs] at hv;simp [Jm,Ql] at hv
 | [s,x]=>
  rw [hargs] at hv
  simp only [Jm,Ql] at hv
  split at hv
  ·rename_i t tx hts
   split at hv
   ·rename_i e hty
    split at hv
    ·rename_i hit
     exact jd HT hc hs h hcal hargs hts hty hit hv hk
    rename_i hnit
    obtain ⟨htx,hv⟩:=Ut hv
    obtain ⟨e',hd'⟩:=Wl HT htx
    obtain ⟨d,hd,hdk⟩:=(HT t (by rw [hty];simp)).desc
    rw [hty] at hdk
    obtain ⟨te,rfl,hte,hne⟩:=Us hdk
    have hT:=HT te (by rw [hte];exact hne)
    have hats:c.argTypes=#[t,tx]:=by apply Array.toList_inj.1;rw [hts]
    have hrun:∀ vv w2,(Builtin.append_ #[t,tx] o.type #[a.eval s,a.eval x]).run P w=.ok vv w2→(execOp a.eval o).run P w=.ok (.value vv) w2:=by
     intro vv w2 hr
     refine VC h hcal hargs (fun cs=>?_)
     rw [hats]
     simp [builtin,hr]
    unfold On at hv
    split at hv
    rotate_left
    ·unfold W4 at hv
     split at hv
     ·rename_i c1 xs b1 hsrc
      obtain ⟨hpz,hsrc⟩:=Ut hsrc
      rw [Je] at hpz
      obtain ⟨hp,hz'⟩:=hpz
      have hz:e.size ≠ 0:=by
       intro h0;rw [h0] at hz';simp [JO] at hz'
      have fin:∀ (Fl Fs:List Nat) (Ad:Option Addr) (cap:Nat) (l:List D) (G1:GT) (b2:BL) (news:List Value),JK w b2 G1 (Fl ++ (Fs ++ [])) w0 F0→Jx (Ja w bl G []) (Ja w b2 G1 (Fl ++ (Fs ++ []))) (fun _=>False) →
        UI true w (DIn true w e) e.size Ad cap l Fl→Row (DIn true w e) xs news Fs→Fed w (a.eval x) xs.length news→l.length + xs.length≤4294967296→a.eval s=.slice Ad l.length cap→fresh sl b2 o.dst (.own e (l ++ xs))=some (v,b)→Jo P w0 F0 sl a w o v b:=by
       intro Fl Fs Ad cap l G1 b2 news hcx hgo hsl hrow hfed hsz hes hfr
       obtain ⟨v',w',F',r1,r2,r3,r4⟩:=SH (P:=P) (A:=A) (ty:=o.type) hcx hp hz hte hT hd hd' hsl hrow hfed hsz
       rw [← hes] at r1
       obtain ⟨G',g1,g2,g3⟩:=OJ (F:=F') (X:=[]) r2 (hs.go0 (hgo.trans r4)) (v:=v') r3 (by unfold Qf;rfl) hfr
       exact ⟨v',w',G',.inl (hrun _ _ r1),g1.c,g2,g3⟩
      split at hv
      ·rename_i t2 p e2 hse
       split at hv
       ·rename_i i0
        split at hv
        ·rename_i e3 l hl
         split at hv
         ·rename_i hbb
          rw [Je] at hbb
          have hee:=Ty.beq_eq _ _ hbb.1
          have hee2:=Ty.beq_eq _ _ hbb.2
          subst hee hee2
          obtain ⟨rfl,hfr⟩:=HC hv
          obtain ⟨hk1,hk2⟩:=QU hk
          obtain ⟨Fs,G1,q1,⟨news,q2,q3⟩,q4⟩:=ON hc (JJ hs x) hp hsrc hk1
          have hsv1:=JJ (hs.go0 q4) s
          rw [hse] at hsv1
          have hi0:i0 + 1≤l.length:=hk2 (.le (i0 + 1) l.length) (by simp)
          have hsz:(l.getD i0 (.int 0)).items.length + xs.length≤4294967296:=hk2 (.sz (l.getD i0 (.int 0)).items.length xs.length) (by simp)
          obtain ⟨rc,Fz,Lv,csv,Fv,G2,k2,k3,k4,k6,k7,k8⟩:=M8 q1 hl (show i0<l.length by omega)
          have hh:=H6 hsv1 hl k2 k3 rfl
          have hh2:Lv.head w=some (a.eval s):=hh
          unfold InV at k6
          obtain ⟨_,Ad,cap,hcs',hsl⟩:=k6
          rw [hcs'] at k4
          have hhd:=JL k4
          rw [hhd] at hh2
          simp only [oj] at hh2
          exact fin Fv Fs Ad cap _ G2 _ news k7 (q4.trans k8) hsl q2 q3 hsz hh2.symm hfr
         ·simp at hv
        ·simp at hv
       ·simp at hv
      ·simp at hv
     ·simp at hv
    rename_i rr hrr
    simp only [oj] at hv
    subst hv
    have hv:=hrr
    unfold Ht at hv
    split at hv
    ·rename_i c1 xs b1 hsrc
     obtain ⟨hpz,hsrc⟩:=Ut hsrc
     rw [Je] at hpz
     obtain ⟨hp,hz'⟩:=hpz
     have hz:e.size ≠ 0:=by
      intro h0;rw [h0] at hz';simp [JO] at hz'
     have fin:∀ (Fl Fs:List Nat) (Ad:Option Addr) (cap:Nat) (l:List D) (G1:GT) (b2:BL) (news:List Value),JK w b2 G1 (Fl ++ (Fs ++ [])) w0 F0→Jx (Ja w bl G []) (Ja w b2 G1 (Fl ++ (Fs ++ []))) (fun _=>False) →
       UI true w (DIn true w e) e.size Ad cap l Fl→Row (DIn true w e) xs news Fs→Fed w (a.eval x) xs.length news→l.length + xs.length≤4294967296→a.eval s=.slice Ad l.length cap→fresh sl b2 o.dst (.own e (l ++ xs))=some (v,b)→Jo P w0 F0 sl a w o v b:=by
      intro Fl Fs Ad cap l G1 b2 news hcx hgo hsl hrow hfed hsz hes hfr
      obtain ⟨v',w',F',r1,r2,r3,r4⟩:=SH (P:=P) (A:=A) (ty:=o.type) hcx hp hz hte hT hd hd' hsl hrow hfed hsz
      rw [← hes] at r1
      obtain ⟨G',g1,g2,g3⟩:=OJ (F:=F') (X:=[]) r2 (hs.go0 (hgo.trans r4)) (v:=v') r3 (by unfold Qf;rfl) hfr
      exact ⟨v',w',G',.inl (hrun _ _ r1),g1.c,g2,g3⟩
     have hsv:=JJ hs s
     split at hv
     ·rename_i hse
      obtain ⟨rfl,hfr⟩:=HC hv
      obtain ⟨hk1,hk2⟩:=QU hk
      obtain ⟨Fs,G1,q1,⟨news,q2,q3⟩,q4⟩:=ON hc (JJ hs x) hp hsrc hk1
      rw [hse] at hsv
      obtain ⟨hes,_⟩:=OH.1 hsv
      have hsz:0 + xs.length≤4294967296:=hk2 (.sz 0 xs.length) (by simp)
      exact fin [] Fs none 0 [] G1 b1 news q1 q4 (.inl ⟨rfl,rfl,rfl⟩) q2 q3 hsz hes hfr
     ·rename_i e2 hse
      split at hv
      ·obtain ⟨rfl,hfr⟩:=HC hv
       obtain ⟨hk1,hk2⟩:=QU hk
       obtain ⟨Fs,G1,q1,⟨news,q2,q3⟩,q4⟩:=ON hc (JJ hs x) hp hsrc hk1
       rw [hse] at hsv
       have hx':=(JM rfl (by simp) (by simp)).1 hsv
       unfold InV at hx'
       obtain ⟨⟨Ad,hx'⟩,_⟩:=hx'
       simp only [List.cons.injEq,and_true] at hx'
       have hsz:0 + xs.length≤4294967296:=hk2 (.sz 0 xs.length) (by simp)
       exact fin [] Fs Ad 0 [] G1 b1 news q1 q4 (.inl ⟨rfl,rfl,rfl⟩) q2 q3 hsz hx' hfr
      ·simp at hv
     ·rename_i t2 p e2 hse
      split at hv
      ·rename_i hb1
       split at hv
       ·rename_i e3 l b2 ht
        obtain ⟨hb2,hv2⟩:=Ut hv
        have hee:=Ty.beq_eq _ _ hb2
        subst hee
        obtain ⟨rfl,hfr⟩:=HC hv2
        obtain ⟨hk1,hk2⟩:=QU hk
        obtain ⟨Fs,G1,q1,⟨news,q2,q3⟩,q4⟩:=ON hc (JJ hs x) hp hsrc hk1
        have hsv1:=JJ (hs.go0 q4) s
        rw [hse] at hsv1
        obtain ⟨c0,rc,Fz,Lv,csv,Fv,G2,k1,k2,k3,k4,k5,k6,k7,k8⟩:=C9 q1 ht
        have hh:=H6 hsv1 k1 k2 k3 rfl
        have hh2:Lv.head w=some (a.eval s):=hh
        unfold InV at k6
        obtain ⟨_,Ad,cap,hcs',hsl⟩:=k6
        rw [hcs'] at k4
        have hhd:=JL k4
        rw [hhd] at hh2
        simp only [oj] at hh2
        have hsz:l.length + xs.length≤4294967296:=hk2 (.sz l.length xs.length) (by simp)
        exact fin Fv Fs Ad cap l G2 b2 news k7 (q4.trans k8) hsl q2 q3 hsz hh2.symm hfr
       ·simp at hv
      ·simp at hv
     ·rename_i t2 p off len e2 hse
      split at hv
      ·rename_i hb1
       rw [Je] at hb1
       obtain ⟨hbe,hf⟩:=hb1
       have hee0:=Ty.beq_eq _ _ hbe
       subst hee0
       split at hv
       ·rename_i c2 e3 l hga
        split at hv
        ·rename_i cx b2 hset
         obtain ⟨hb2,hv2⟩:=Ut hv
         have hee:=Ty.beq_eq _ _ hb2
         subst hee
         simp only [oj,pj] at hv2
         obtain ⟨rfl,rfl,rfl⟩:=hv2
         obtain ⟨hk12,hk3⟩:=QU hk
         obtain ⟨hk1,hk2⟩:=QU hk12
         obtain ⟨Fs,G1,q1,⟨news,q2,q3⟩,q4⟩:=ON hc (JJ hs x) hp hsrc hk1
         have hFs:Fs=[]:=Hk (fun d c G hd=>Hl e hf hd) q2
         subst hFs
         have hroom:off + len + xs.length≤l.length:=hk3 (.le (off + len + xs.length) l.length) (by simp)
         have hc1:JX w b1 G1 w0 F0:=q1.c
         have hs1:Jy (Ja w b1 G1 []) sl a:=hs.go0 q4
         have hsv1:=JJ hs1 s
         rw [hse] at hsv1
         obtain ⟨c0,rc,F,i1,i2,i3,Lx,csx,Fx,i4,i5,i6,i7,i8,i9⟩:=Uy hc1 hga hk2
         obtain ⟨A0,n0,k0,A1,j1,j2,j3,j4⟩:=Wi hsv1 i1 i2 i4 rfl
         have j1':Lx.head w=some (.slice A0 n0 k0):=j1
         obtain ⟨w',G',z1,z2,z3,z4,z5,⟨F2,z6⟩,z7⟩:=YY (X:=[]) hc1.x (i:=off + len) (xs:=xs) (news:=news) i1 i2 i4 j1' hf hz hroom q2 (by rw [i3];rfl)
         have hb':b2=Jp b1 t2 (c0.set p (.own e (l.take (off + len) ++ xs ++ l.drop (off + len + xs.length)))):=by
          unfold He at hset
          rw [i1] at hset
          simp only [i3,oj,pj] at hset
          exact hset.2.symm
         subst hb'
         have hal:=jc z7 (len:=len + xs.length) (off:=off) (e:=e) (A':=A1) i1 i2 i4 j1 (by omega) j4
         obtain ⟨i,z,hi,hiz,hisz,hby,hzc,hzl⟩:=VB (P:=P) hp hte hT
         have hnl:news.length=xs.length * e.size:=Hj (fun d c G hd=>Qn e hd) q2
         have hone:∀ u ∈ news,u.oneCell'=true:=CM (fun d c F=>H9 e) q2
         have hsr:Src P i.size tx (a.eval x) xs.length news w:=q3.src hd' (by rw [hisz];exact hnl) hone
         have hex:a.eval s=.slice A1 len (k0 - off):=j3
         have hgoal:(Builtin.append_ #[t,tx] o.type #[.slice A1 len (k0 - off),a.eval x]).run P w=.ok (.slice A1 (len + xs.length) (k0 - off)) w':=by
          by_cases hx0:xs=[]
          ·have hw:=z1 hx0
           subst hw
           subst hx0
           have hn0:news=[]:=List.eq_nil_of_length_eq_zero (by simpa using hnl)
           subst hn0
           have e1:=hsr.len w'
           have e2:=hsr.cells
           simp only [List.length_nil] at e1 e2
           have hr0:len≤k0 - off:=by omega
           cases A1 with
           | none=>simp [Builtin.append_,run_underlying hd,run_underlying hd',sizeOf,typeInfo,hi,e1,e2,hr0]
           | some ad1=>simp [Builtin.append_,run_underlying hd,run_underlying hd',sizeOf,typeInfo,hi,e1,e2,hr0,storeCells]
          ·obtain ⟨ad,rfl⟩:=z3 hx0
           obtain ⟨hw,hu⟩:=z2 ad rfl
           obtain ⟨hun,hsp⟩:=hu hx0
           subst hw
           have hpos:0<xs.length:=List.length_pos_iff.2 hx0
           obtain ⟨ad',r1,r2⟩:=j4 (by omega)
           simp only [oj] at r1
           subst r1
           rw [C8 hsp] at r2
           subst r2
           have hsp2:(ad.add ((off + len) * e.size)).spot=none:=TL _ _ hsp
           have hr:=run_append_room_src (P:=P) w t tx o.type te i hd hi ad.block (ad.off + off * e.size) len (k0 - off) (a.eval x) xs.length news hsr (by omega)
            (fun j hj=>by
             obtain ⟨⟨u,hu⟩,_⟩:=hun j hj
             rw [Hh,C8 hsp] at hu
             rw [hisz,show ad.off + off * e.size + len * e.size + j=ad.off + ((off + len) * e.size + j) by rw [Nat.add_mul];omega,hu];rfl)
            (fun j hj=>by
             obtain ⟨_,hu⟩:=hun j hj
             rw [Hh,C8 hsp] at hu
             rw [hisz,show ad.off + off * e.size + len * e.size + j=ad.off + ((off + len) * e.size + j) by rw [Nat.add_mul];omega,hu])
           rw [hisz,show ad.off + off * e.size + len * e.size=ad.off + (off + len) * e.size by rw [Nat.add_mul];omega] at hr
           exact hr
         rw [← hex] at hgoal
         refine ⟨_,w',G',.inl (hrun _ _ hgoal),z5.c,hs1.go0 z7,?_⟩
         rw [JM rfl (by simp) (by simp)]
         exact hal
        ·simp at hv
       ·simp at hv
      ·simp at hv
     ·simp at hv
    ·simp at hv
   ·simp at hv
  ·simp at hv
theorem SK {o:Bool} {w:World}:∀ {l:List D} {cs:List Value} {F:List Nat},Row (DIn o w (.int .u8)) l cs F→cs=(l.map D.toInt).map (Value.int .u8)
 | [],cs,F,h=>by obtain ⟨rfl,_⟩:=h;rfl
 | d :: l,cs,F,⟨c1,c2,F1,F2,e1,e2,h1,h2⟩=>by
  unfold DIn at h1
  rw [e1,h1.1,SK h2];rfl
theorem jf (HT:JN P A.ty) (hc:JX w bl G w0 F0) (hs:Jy (Ja w bl G []) sl a) {s t:TypeId} {x:Operand} {e:Ty} {c:List Jk} {v:V} {b:BL} (h:o.op=.convert s t x) (hts:A.ty s=.slice e) (htt:A.ty t=.str)
  (hv:W8 e bl (opd sl x)=some (c,v,b)) (hk:∀ k ∈ c,k.ok):Jo P w0 F0 sl a w o v b:=by
 unfold W8 at hv
 split at hv
 ·rename_i he8
  have he:=Ty.beq_eq _ _ he8
  subst he
  split at hv
  ·rename_i c1 e1 l hel
   split at hv
   ·rename_i hbe
    have hee:=Ty.beq_eq _ _ hbe
    subst hee
    simp only [oj,pj] at hv
    obtain ⟨rfl,rfl,rfl⟩:=hv
    obtain ⟨d,hd,hdk⟩:=(HT s (by rw [hts];simp)).desc
    rw [hts] at hdk
    obtain ⟨te,rfl,hte,hne⟩:=Us hdk
    obtain ⟨d2,hd2,hk2⟩:=(HT te (by rw [hte];simp)).desc
    rw [hte] at hk2
    have e2:=OF hk2
    subst e2
    obtain ⟨d3,hd3,hk3⟩:=(HT t (by rw [htt];simp)).desc
    rw [htt] at hk3
    have e3:=CK hk3
    subst e3
    obtain ⟨Ad,cap,F,h1,h2,h3,h4⟩:=Wj hc (JJ hs x) hel hk
    have hrun:(convert s t (.slice Ad l.length cap)).run P w=.ok (.string (V7 l)) w:=by
     rw [run_convert_bytes_string w s t te Ad l.length cap hd hd2 hd3]
     rcases h2 with ⟨g1,g2,g3⟩ | ⟨ad,cs,F',g1,g2,g3,_⟩
     ·subst g1
      cases Ad with
      | none=>simp [Conv.bytesToString,V7]
      | some ad=>
       have:=run_bytesToString (P:=P) w ad 0 cap [] (by simpa using run_loadCells_list (P:=P) w ad [] (by simp))
       simpa [V7] using this
     ·subst g1
      have hcs:=SK g2
      subst hcs
      have:=run_loadCells_list (P:=P) w ad _ g3
      rw [List.length_map,List.length_map] at this
      exact run_bytesToString w ad l.length cap (l.map D.toInt) this
    refine Jo.pure hc hs (vv:=.string (V7 l)) ?_ (HA.2 ⟨rfl,rfl⟩)
    simp [execOp,h,h1,hrun]
   ·simp at hv
  ·simp at hv
 ·simp at hv
theorem jg {t tx ty te:TypeId} {i:TypeInfo} {e':TypeId} (hd:P.underlying t=some (.slice te)) (hd':P.underlying tx=some (.slice e')) (hi:P.info? te=some i) {A1 Ad:Option Addr} {len cp n cap m:Nat} {news:List Value} (hm:m=Nat.min n len)
  (hfed:m ≠ 0→∃ ad,Ad=some ad∧QG w ad news) (hnl:news.length=m * i.size) (hone:∀ u ∈ news,u.oneCell'=true)
  (hw:(m=0∧w'=w) ∨ ∃ ad1,A1=some ad1∧ad1.spot=none∧QJ w ad1 news.length∧w'=w.setCells ad1.block ad1.off news) :
  (Builtin.copy_ #[t,tx] ty #[.slice A1 len cp,.slice Ad n cap]).run P w=.ok (.int .i64 m) w':=by
 have hsr:Src P i.size tx (.slice Ad m cap) m news w:=Fed.src ⟨Ad,cap,rfl,hfed⟩ hd' hnl hone
 have hcells:(Builtin.firstCells i.size m (.slice Ad n cap)).run P w=.ok news.toArray w:=by
  have h1:=hsr.cells
  cases Ad<;>exact h1
 rcases hw with ⟨h0,rfl⟩ | ⟨ad1,rfl,hsp,hun,rfl⟩
 ·have hn0:news=[]:=List.eq_nil_of_length_eq_zero (by rw [hnl,h0];simp)
  subst hn0
  cases A1 with
  | none=>simp [Builtin.copy_,run_underlying hd,sizeOf,typeInfo,hi,Builtin.lenOf,← hm,hcells,goInt]
  | some ad=>simp [Builtin.copy_,run_underlying hd,sizeOf,typeInfo,hi,Builtin.lenOf,← hm,hcells,goInt,storeCells]
 ·obtain ⟨b,of,sp⟩:=ad1
  simp only at hsp
  subst hsp
  have hst:=run_storeCells_cells (P:=P) b of news 0 w (fun j hj=>by
   obtain ⟨⟨u,hu⟩,_⟩:=hun j hj
   rw [Addr.add_lit] at hu
   rw [Nat.add_zero,hu];rfl) (fun j hj=>by
   obtain ⟨_,hu⟩:=hun j hj
   rw [Addr.add_lit] at hu
   rw [Nat.add_zero];exact hu) hone
  simp only [Nat.add_zero] at hst
  simp [Builtin.copy_,run_underlying hd,sizeOf,typeInfo,hi,Builtin.lenOf,← hm,hcells,goInt,hst]
theorem jh (HT:JN P A.ty) (hc:JX w bl G w0 F0) (hs:Jy (Ja w bl G []) sl a) {c:Call} {co:List Jk} {v:V} {b:BL} (h:o.op=.call c) (hcal:c.callee=.builtin .copy)
  (hv:Ql A sl bl o.dst .copy c.argTypes.toList (Jm sl c.args.toList)=some (co,v,b)) (hk:∀ k ∈ co,k.ok):Jo P w0 F0 sl a w o v b:=by
 match hargs:c.args.toList with
 | []=>rw [hargs] at hv;simp [Jm,Ql] at hv
 | [x]=>rw [hargs] at hv;simp [Jm,Ql] at hv
 | x :: y :: z :: r=>rw [hargs] at hv;simp [Jm,Ql] at hv
 | [s,x]=>
  rw [hargs] at hv
  simp only [Jm,Ql] at hv
  split at hv
  ·rename_i t tx hts
   split at hv
   ·rename_i e hty
    obtain ⟨htx,hv⟩:=Ut hv
    obtain ⟨e',hd'⟩:=Wl HT htx
    obtain ⟨d,hd,hdk⟩:=(HT t (by rw [hty];simp)).desc
    rw [hty] at hdk
    obtain ⟨te,rfl,hte,hne⟩:=Us hdk
    have hT:=HT te (by rw [hte];exact hne)
    have hats:c.argTypes=#[t,tx]:=by apply Array.toList_inj.1;rw [hts]
    have hrun:∀ vv w2,(Builtin.copy_ #[t,tx] o.type #[a.eval s,a.eval x]).run P w=.ok vv w2→(execOp a.eval o).run P w=.ok (.value vv) w2:=by
     intro vv w2 hr
     refine VC h hcal hargs (fun cs=>?_)
     rw [hats]
     simp [builtin,hr]
    unfold O5 at hv
    split at hv
    ·rename_i c1 xs b1 hsrc
     obtain ⟨hpz,hsrc⟩:=Ut hsrc
     rw [Je] at hpz
     obtain ⟨hp,hz0⟩:=hpz
     have hz:e.size ≠ 0:=by
      intro h0
      rw [h0] at hz0
      simp [JO] at hz0
     split at hv
     ·rename_i hf
      obtain ⟨i,z,hi,hiz,hisz,hby,hzc,hzl⟩:=VB (P:=P) hp hte hT
      have fin:∀ {t2:Nat} {p:List Nat} {off len:Nat} {l:List D} {c0:V} {rc:List Value} {F:List Nat} {G1:GT} {Lx:Ji} {A0 A1:Option Addr} {n0 k0 cp:Nat} {news:List Value},JK w b1 G1 [] w0 F0→Jy (Ja w b1 G1 []) sl a →
        Row (DIn true w e) xs news []→Fed w (a.eval x) xs.length news→Jb b1 t2=some c0→G1 t2=some (rc,F)→Jf w c0 (.reg rc) p=some (.own e l,Lx)→(c0.get p).isSome=true→Lx.head w=some (.slice A0 n0 k0) →
        off + len≤l.length→a.eval s=.slice A1 len cp→((xs.take len) ≠ []→∀ ad,A0=some ad→ad.spot=none→A1=some (ad.add (off * e.size))) →
        Jo P w0 F0 sl a w o (.int .i64 (xs.take len).length) (Jp b1 t2 (c0.set p (.own e (l.take off ++ xs.take len ++ l.drop (off + (xs.take len).length))))):=by
       intro t2 p off len l c0 rc F G1 Lx A0 A1 n0 k0 cp news hc1 hs1 q2 q3 i1 i2 i4 hgt j1 hroom hex hA
       obtain ⟨Ad,cap,hvx,hfed⟩:=q3
       obtain ⟨d1,d2,K1,K2,y1,y2,y3,y4,y5⟩:=OG (fun d c G hd=>Qn e hd) (n:=(xs.take len).length) q2 (by simp;omega)
       have hK1:K1=[]:=by
        have:K1 ++ K2=[]:=y2.symm
        simpa using (List.append_eq_nil_iff.1 this).1
       subst hK1
       have htk:xs.take (xs.take len).length=xs.take len:=by
        rw [List.length_take]
        rcases Nat.le_total len xs.length with hl | hl
        ·rw [Nat.min_eq_left hl]
        ·rw [Nat.min_eq_right hl,List.take_of_length_le (Nat.le_refl _),List.take_of_length_le hl]
       rw [htk] at y4
       have hone:∀ u ∈ d1,u.oneCell'=true:=CM (fun d c F=>H9 e) y4
       obtain ⟨w',G',z1,z2,z3,z4,z5,⟨F2,z6⟩,z7⟩:=YY (X:=[]) hc1 (i:=off) (xs:=xs.take len) (news:=d1) i1 i2 i4 j1 hf hz (by simp;omega) y4 hgt
       have hm:(xs.take len).length=Nat.min xs.length len:=by rw [List.length_take];exact Nat.min_comm _ _
       have hgoal:(Builtin.copy_ #[t,tx] o.type #[.slice A1 len cp,.slice Ad xs.length cap]).run P w=.ok (.int .i64 ((xs.take len).length:Nat)) w':=by
        refine jg (w':=w') hd hd' hi hm (news:=d1) (fun hm0=>?_) (by rw [y3,hisz]) hone ?_
        ·obtain ⟨ad,e1,e2⟩:=hfed (by intro h0;apply hm0;rw [hm,h0];simp)
         refine ⟨ad,e1,fun j u hj=>e2 j u ?_⟩
         rw [y1,List.getElem?_append_left (List.getElem?_eq_some_iff.1 hj).1];exact hj
        ·by_cases hx0:xs.take len=[]
         ·exact .inl ⟨by rw [hx0];rfl,z1 hx0⟩
         ·obtain ⟨ad,rfl⟩:=z3 hx0
          obtain ⟨hw,hu⟩:=z2 ad rfl
          obtain ⟨hun,hsp⟩:=hu hx0
          refine .inr ⟨ad.add (off * e.size),hA hx0 ad rfl hsp,TL _ _ hsp,hun,?_⟩
          rw [hw,Q1,OB]
       rw [← hex,← hvx] at hgoal
       exact ⟨_,w',G',.inl (hrun _ _ hgoal),z5.c,hs1.go0 z7,Qg.2 ⟨rfl,rfl⟩⟩
      split at hv
      ·rename_i t2 p e2 hse
       split at hv
       ·rename_i hb1
        have hee0:=Ty.beq_eq _ _ hb1
        subst hee0
        split at hv
        ·rename_i c2 e3 l hga
         split at hv
         ·rename_i cx b2 hset
          obtain ⟨hb2,hv2⟩:=Ut hv
          have hee:=Ty.beq_eq _ _ hb2
          subst hee
          simp only [oj,pj] at hv2
          obtain ⟨rfl,rfl,rfl⟩:=hv2
          obtain ⟨hk1,hk2⟩:=QU hk
          obtain ⟨Fs,G1,q1,⟨news,q2,q3⟩,q4⟩:=ON hc (JJ hs x) hp hsrc hk1
          have hFs:Fs=[]:=Hk (fun d c G hd=>Hl e hf hd) q2
          subst hFs
          have hc1:JX w b1 G1 w0 F0:=q1.c
          have hs1:Jy (Ja w b1 G1 []) sl a:=hs.go0 q4
          have hsv1:=JJ hs1 s
          rw [hse] at hsv1
          obtain ⟨c0,rc,F,i1,i2,i3,Lx,csx,Fx,i4,i5,i6,i7,i8,i9⟩:=Uy hc1 hga hk2
          have hh:=H6 hsv1 i1 i2 i4 rfl
          have hh2:Lx.head w=some (a.eval s):=hh
          have i5':=i5
          unfold InV at i5'
          obtain ⟨_,Ad,cap,hcs',hsl⟩:=i5'
          rw [hcs'] at i6
          have hhd:Lx.head w=some (.slice Ad l.length cap):=JL i6
          rw [hhd] at hh2
          simp only [oj] at hh2
          have hb':b2=Jp b1 t2 (c0.set p (.own e (l.take 0 ++ xs.take l.length ++ l.drop (0 + (xs.take l.length).length)))):=by
           unfold He at hset
           rw [i1] at hset
           simp only [i3,oj,pj] at hset
           exact hset.2.symm
          subst hb'
          exact fin (off:=0) (len:=l.length) hc1.x hs1 q2 q3 i1 i2 i4 (by rw [i3];rfl) hhd (by omega) hh2.symm (fun _ ad ha hsp=>by rw [ha];simp [Addr.add])
         ·simp at hv
        ·simp at hv
       ·simp at hv
      ·rename_i t2 p off len e2 hse
       split at hv
       ·rename_i hb1
        have hee0:=Ty.beq_eq _ _ hb1
        subst hee0
        split at hv
        ·rename_i c2 e3 l hga
         split at hv
         ·rename_i cx b2 hset
          obtain ⟨hb2,hv2⟩:=Ut hv
          have hee:=Ty.beq_eq _ _ hb2
          subst hee
          simp only [oj,pj] at hv2
          obtain ⟨rfl,rfl,rfl⟩:=hv2
          obtain ⟨hk12,hk3⟩:=QU hk
          obtain ⟨hk1,hk2⟩:=QU hk12
          obtain ⟨Fs,G1,q1,⟨news,q2,q3⟩,q4⟩:=ON hc (JJ hs x) hp hsrc hk1
          have hFs:Fs=[]:=Hk (fun d c G hd=>Hl e hf hd) q2
          subst hFs
          have hroom:off + len≤l.length:=hk3 (.le (off + len) l.length) (by simp)
          have hc1:JX w b1 G1 w0 F0:=q1.c
          have hs1:Jy (Ja w b1 G1 []) sl a:=hs.go0 q4
          have hsv1:=JJ hs1 s
          rw [hse] at hsv1
          obtain ⟨c0,rc,F,i1,i2,i3,Lx,csx,Fx,i4,i5,i6,i7,i8,i9⟩:=Uy hc1 hga hk2
          obtain ⟨A0,n0,k0,A1,j1,j2,j3,j4⟩:=Wi hsv1 i1 i2 i4 rfl
          have j1':Lx.head w=some (.slice A0 n0 k0):=j1
          have hex:a.eval s=.slice A1 len (k0 - off):=j3
          have hb':b2=Jp b1 t2 (c0.set p (.own e (l.take off ++ xs.take len ++ l.drop (off + (xs.take len).length)))):=by
           unfold He at hset
           rw [i1] at hset
           simp only [i3,oj,pj] at hset
           exact hset.2.symm
          subst hb'
          refine fin (off:=off) (len:=len) hc1.x hs1 q2 q3 i1 i2 i4 (by rw [i3];rfl) j1' hroom hex (fun hx0 ad ha hsp=>?_)
          have hpos:0<(xs.take len).length:=List.length_pos_iff.2 hx0
          have hlen:0<len:=by rw [List.length_take] at hpos;omega
          obtain ⟨ad',r1,r2⟩:=j4 (by omega)
          rw [ha] at r1
          simp only [oj] at r1
          rw [r2,r1]
         ·simp at hv
        ·simp at hv
       ·simp at hv
      ·simp at hv
     ·simp at hv
    ·simp at hv
   ·simp at hv
  ·simp at hv
theorem ji {cs:List Value} {n s:Nat} (h:cs.length=s):Builtin.zeroCells cs.toArray n=(JW n cs).toArray:=by
 have h1:=Wp (n:=n) h
 rw [← h1]
 unfold Builtin.zeroCells
 rw [List.size_toArray,h]
theorem jj (HT:JN P A.ty) (hc:JX w bl G w0 F0) (hs:Jy (Ja w bl G []) sl a) {c:Call} {co:List Jk} {v:V} {b:BL} (h:o.op=.call c) (hcal:c.callee=.builtin .clear)
  (hv:Ql A sl bl o.dst .clear c.argTypes.toList (Jm sl c.args.toList)=some (co,v,b)) (hk:∀ k ∈ co,k.ok):Jo P w0 F0 sl a w o v b:=by
 match hargs:c.args.toList with
 | []=>rw [hargs] at hv;simp [Jm,Ql] at hv
 | x :: z :: r=>rw [hargs] at hv;simp [Jm,Ql] at hv
 | [s]=>
  rw [hargs] at hv
  simp only [Jm,Ql] at hv
  split at hv
  ·rename_i t hts
   split at hv
   ·rename_i e hty
    obtain ⟨d,hd,hdk⟩:=(HT t (by rw [hty];simp)).desc
    rw [hty] at hdk
    obtain ⟨te,rfl,hte,hne⟩:=Us hdk
    have hT:=HT te (by rw [hte];exact hne)
    have hats:c.argTypes=#[t]:=by apply Array.toList_inj.1;rw [hts]
    have hrun:∀ w2,(Builtin.clear_ #[t] o.type #[a.eval s]).run P w=.ok (.tuple #[]) w2→(execOp a.eval o).run P w=.ok (.value (.tuple #[])) w2:=by
     intro w2 hr
     refine VC h hcal hargs (fun cs=>?_)
     rw [hats]
     simp [builtin,hr]
    unfold Th at hv
    split at hv
    ·rename_i t2 p off len e' hse
     split at hv
     ·rename_i hb1
      rw [Je,Je] at hb1
      obtain ⟨hf,hbe,hz0⟩:=hb1
      have hee0:=Ty.beq_eq _ _ hbe
      subst hee0
      have hz:e.size ≠ 0:=by
       intro h0
       rw [h0] at hz0
       simp [JO] at hz0
      split at hv
      ·rename_i c2 e3 l hga
       split at hv
       ·rename_i cx b2 hset
        obtain ⟨hb2,hv2⟩:=Ut hv
        have hee:=Ty.beq_eq _ _ hb2
        subst hee
        simp only [oj,pj] at hv2
        obtain ⟨rfl,rfl,rfl⟩:=hv2
        obtain ⟨hk1,hk2⟩:=QU hk
        have hroom:off + len≤l.length:=hk2 (.le (off + len) l.length) (by simp)
        have hsv1:=JJ hs s
        rw [hse] at hsv1
        obtain ⟨c0,rc,F,i1,i2,i3,Lx,csx,Fx,i4,i5,i6,i7,i8,i9⟩:=Uy hc hga hk1
        obtain ⟨A0,n0,k0,A1,j1,j2,j3,j4⟩:=Wi hsv1 i1 i2 i4 rfl
        have j1':Lx.head w=some (.slice A0 n0 k0):=j1
        have hex:a.eval s=.slice A1 len (k0 - off):=j3
        have hp:e.plain=true:=by
         unfold InV at i5
         exact i5.1
        obtain ⟨i,z,hi,hiz,hisz,hby,hzc,hzl⟩:=VB (P:=P) hp hte hT
        have hb':b2=Jp bl t2 (c0.set p (.own e (l.take off ++ List.replicate len (QQ e) ++ l.drop (off + (List.replicate len (QQ e)).length)))):=by
         unfold He at hset
         rw [i1] at hset
         simp only [i3,oj,pj] at hset
         exact hset.2.symm
        subst hb'
        have hrow:Row (DIn true w e) (List.replicate len (QQ e)) (JW len (JF e)) []:=OI (Ct e hp) len
        obtain ⟨w',G',z1,z2,z3,z4,z5,⟨F2,z6⟩,z7⟩:=YY (X:=[]) hc.x (i:=off) (xs:=List.replicate len (QQ e)) (news:=JW len (JF e)) i1 i2 i4 j1' hf hz (by simpa using hroom) hrow (by rw [i3];rfl)
        have hone:∀ u ∈ JW len (JF e),u.oneCell'=true:=CM (fun d c F=>H9 e) hrow
        have hgoal:(Builtin.clear_ #[t] o.type #[.slice A1 len (k0 - off)]).run P w=.ok (.tuple #[]) w':=by
         by_cases hl0:len=0
         ·subst hl0
          have hw:=z1 rfl
          subst hw
          cases A1<;>simp [Builtin.clear_,run_underlying hd]
         ·have hx0:List.replicate len (QQ e) ≠ []:=by
           intro h0
           have:=congrArg List.length h0
           simp at this;exact hl0 this
          obtain ⟨ad,rfl⟩:=z3 hx0
          obtain ⟨hw,hu⟩:=z2 ad rfl
          obtain ⟨hun,hsp⟩:=hu hx0
          subst hw
          obtain ⟨ad',r1,r2⟩:=j4 (by omega)
          simp only [oj] at r1
          subst r1
          rw [C8 hsp] at r2 hun
          subst r2
          have hst:=run_storeCells_cells (P:=P) ad.block (ad.off + off * e.size) (JW len (JF e)) 0 w (fun j hj=>by
           obtain ⟨⟨u,hu⟩,_⟩:=hun j hj
           rw [Addr.add_lit] at hu
           rw [Nat.add_zero,hu];rfl) (fun j hj=>by
           obtain ⟨_,hu⟩:=hun j hj
           rw [Addr.add_lit] at hu
           rw [Nat.add_zero];exact hu) hone
          simp only [Nat.add_zero] at hst
          obtain ⟨ln,rfl⟩:∃ m,len=m + 1:=⟨len - 1,by omega⟩
          have hzr:Builtin.zeroCells z.cells (ln + 1)=(JW (ln + 1) (JF e)).toArray:=by rw [hzc];exact ji hzl
          simp [Builtin.clear_,run_underlying hd,zeroValue,typeInfo,hi,hiz,hzr,hst]
        rw [← hex] at hgoal
        exact ⟨_,w',G',.inl (hrun _ hgoal),z5.c,hs.go0 z7,⟨#[],rfl,rfl,rfl⟩⟩
       ·simp at hv
      ·simp at hv
     ·simp at hv
    ·simp at hv
   ·simp at hv
  ·simp at hv
end
end Go.Rai
namespace Go.Rai
variable [Inhabited Qk]
section
variable {P:Program} {A:Ann} {w w' w0:World} {F0:List Nat} {sl:List V} {a:Act} {bl b':BL} {G:GT} {o:Oper} {X:List Nat}
theorem jk {t:Ty} (h:C2 t=true):t=.imap:=by
 cases t<;>simp [C2] at h
 rfl
theorem SL (HT:JN P A.ty) {t:TypeId} (h:C2 (A.ty t)=true):∃ k e,P.underlying t=some (.map k e)∧P.underlying k=some (.int .i64)∧A.ty e=.int .i64:=by
 have ht:=jk h
 obtain ⟨d,hd,hdk⟩:=(HT t (by rw [ht];simp)).desc
 rw [ht] at hdk
 cases d<;>simp only [Hm] at hdk
 rename_i k e
 obtain ⟨h1,h2⟩:=hdk
 obtain ⟨dk,hk,hkk⟩:=(HT k (by rw [h1];simp)).desc
 rw [h1] at hkk
 cases dk<;>simp only [Hm] at hkk
 subst hkk
 exact ⟨k,e,hd,hk,h2⟩
theorem YZ {r:Nat} {es:Array MapEntry} {clk:Nat} (hb:w.heap[r]?=some (.map es clk)):(getObj r).run P w=.ok (.map es clk) w:=by
 simp [getObj,Sem.run,hb]
theorem SM {r:Nat} {es:Array MapEntry} {clk:Nat} (ob:Obj) (hb:w.heap[r]?=some (.map es clk)):(setObj r ob).run P w=.ok () { w with heap:=w.heap.setIfInBounds r ob }:=by
 simp [setObj,Sem.run,hb]
theorem Y0 {b:Bool} {t:TypeId} {v:Value} (h:P.underlying t=some (.int .i64)):(Instr.checkKey b 10000 t v).run P w=.ok () w:=by
 unfold Instr.checkKey
 simp [run_underlying h]
theorem SN (n:Int):∀ (es:List MapEntry) (l:List D) (i:Nat),Uw es l→Instr.findNow (.int .i64) (.int .i64 n) es i=some (match l.findIdx? (fun d=>decide (n=(d.fld 0).toInt)) with
  | some j=>some (i + j,.int .i64 ((l.getD j (.int 0)).fld 1).toInt)
  | none=>none)
 | [],[],i,_=>rfl
 | [],_ :: _,i,h=>h.elim
 | _ :: _,[],i,h=>h.elim
 | e :: es,d :: l,i,⟨⟨k,v,h1,h2,h3⟩,h4⟩=>by
  have ih:=SN n es l (i + 1) h4
  have hd0:(d.fld 0).toInt=k:=by rw [h3];rfl
  have hd1:(d.fld 1).toInt=v:=by rw [h3];rfl
  unfold Instr.findNow
  rw [h1,List.findIdx?_cons,hd0]
  by_cases hk:n=k
  ·subst hk
   simp [Instr.sameNow,h2,hd1]
  ·have hk':(n == k)=false:=by simp [hk]
   simp only [Instr.sameNow,if_true,hk',ih,hk,decide_false]
   cases l.findIdx? (fun d=>decide (n=(d.fld 0).toInt)) with
   | none=>rfl
   | some j=>simp;omega
theorem Y1 {t:TypeId} {n:Int} {es:List MapEntry} {l:List D} (h:P.underlying t=some (.int .i64)) (he:Uw es l):(Instr.findKey t (.int .i64 n) es).run P w=.ok (match H1 l n with
  | some j=>some (j,.int .i64 ((l.getD j (.int 0)).fld 1).toInt)
  | none=>none) w:=by
 unfold Instr.findKey
 simp only [Sem.run_bind,run_underlying h,Result.andThen_ok,SN n es l 0 he,Sem.run_pure,Nat.zero_add]
 rfl
theorem Uw.len:∀ {es:List MapEntry} {l:List D},Uw es l→es.length=l.length
 | [],[],_=>rfl
 | [],_ :: _,h=>h.elim
 | _ :: _,[],h=>h.elim
 | _ :: _,_ :: _,h=>by simp [Uw.len h.2]
theorem Uw.get:∀ {es:List MapEntry} {l:List D} {j:Nat} {e:MapEntry},Uw es l→es[j]?=some e→∃ k v,e.key=.int .i64 k∧e.val=.int .i64 v∧l.getD j (.int 0)=.node [.int k,.int v]
 | [],[],j,e,_,he=>by simp at he
 | [],_ :: _,j,e,h,_=>h.elim
 | _ :: _,[],j,e,h,_=>h.elim
 | e' :: es,d :: l,0,e,h,he=>by
  simp only [List.getElem?_cons_zero,oj] at he
  subst he
  obtain ⟨k,v,h1,h2,h3⟩:=h.1
  exact ⟨k,v,h1,h2,by simp [h3]⟩
 | e' :: es,d :: l,j + 1,e,h,he=>by
  obtain ⟨k,v,h1,h2,h3⟩:=Uw.get h.2 (j:=j) (by simpa using he)
  exact ⟨k,v,h1,h2,by simpa using h3⟩
theorem Uw.push:∀ {es:List MapEntry} {l:List D} {e:MapEntry} {k v:Int},Uw es l→e.key=.int .i64 k→e.val=.int .i64 v→Uw (es ++ [e]) (l ++ [.node [.int k,.int v]])
 | [],[],e,k,v,_,h1,h2=>⟨⟨k,v,h1,h2,rfl⟩,trivial⟩
 | [],_ :: _,e,k,v,h,_,_=>h.elim
 | _ :: _,[],e,k,v,h,_,_=>h.elim
 | _ :: _,_ :: _,e,k,v,h,h1,h2=>⟨h.1,Uw.push h.2 h1 h2⟩
theorem Uw.modify:∀ {es:List MapEntry} {l:List D} {j:Nat} {f:MapEntry→MapEntry} {k v:Int},Uw es l→(∀ e,(f e).key=.int .i64 k∧(f e).val=.int .i64 v)→Uw (es.modify j f) (l.set j (.node [.int k,.int v]))
 | [],[],j,f,k,v,_,_=>by cases j<;>trivial
 | [],_ :: _,j,f,k,v,h,_=>h.elim
 | _ :: _,[],j,f,k,v,h,_=>h.elim
 | e :: es,d :: l,0,f,k,v,h,hf=>by
  simp only [List.modify_zero_cons,List.set_cons_zero]
  exact ⟨⟨k,v,(hf e).1,(hf e).2,rfl⟩,h.2⟩
 | e :: es,d :: l,j + 1,f,k,v,h,hf=>by
  simp only [List.modify_succ_cons,List.set_cons_succ]
  exact ⟨h.1,Uw.modify h.2 hf⟩
theorem jl (HT:JN P A.ty) (hc:JX w bl G w0 F0) (hs:Jy (Ja w bl G []) sl a) {t:TypeId} {v:V} {b':BL} (h:o.op=.makeMap t none) (hf:fresh sl bl o.dst (.mp [])=some (v,b')):Jo P w0 F0 sl a w o v b':=by
 obtain ⟨k1,k2⟩:=hc.x.alloc (.map #[] 0)
 have hx:InV (Ja (w.alloc (.map #[] 0)) bl G [w.heap.size]) (.mp []) [.map (some w.heap.size)] [w.heap.size]:=by
  unfold InV
  exact ⟨w.heap.size,#[],0,rfl,(by show (w.heap.push _)[w.heap.size]?=_;simp),trivial,rfl,by simp [Ja]⟩
 obtain ⟨G',g1,g2,g3⟩:=OJ (F:=[w.heap.size]) (X:=[]) k1 (hs.go0 k2) (v:=.map (some w.heap.size)) hx (by unfold Qf;rfl) hf
 refine ⟨.map (some w.heap.size),_,G',.inl ?_,g1.c,g2,g3⟩
 simp [execOp,h,Instr.makeMap]
theorem SO {s:Nat} {v:Value} {l:List D} {rc:List Value} {F:List Nat} (hv:Val (Ja w bl G X) (.mref s) v []) (hl:Jb bl s=some (.mp l)) (hg:G s=some (rc,F)):rc[0]?=some v:=by
 have h:=(JM rfl (by simp) (by simp)).1 hv
 unfold InV at h
 obtain ⟨_,_,h2⟩:=h
 obtain ⟨u,h3,h4⟩:=h2 _ rc F hl hg rfl
 simp only [List.cons.injEq,and_true] at h4
 rw [h4];exact h3
theorem jm {b:BL} {m k:V} {v:V} (h:Ot b m k=some v):∃ s l n,m=.mref s∧Jb b s=some (.mp l)∧k=.int .i64 n∧v=.int .i64 (Qs l n):=by
 unfold Ot at h
 split at h
 ·rename_i s
  split at h
  ·rename_i l hl
   split at h
   ·rename_i kk n
    split at h
    ·rename_i hk
     have:=UC hk
     subst this
     simp only [oj] at h
     exact ⟨s,l,n,rfl,hl,rfl,h.symm⟩
    ·cases h
   ·cases h
  ·cases h
 ·cases h
theorem jn {b b':BL} {m k x:V} (h:W9 b m k x=some b'):∃ s l n v,m=.mref s∧Jb b s=some (.mp l)∧k=.int .i64 n∧x=.int .i64 v∧b'=Jp b s (.mp (QY l n v)):=by
 unfold W9 at h
 split at h
 ·rename_i s
  split at h
  ·rename_i l hl
   split at h
   ·rename_i kk n
    split at h
    ·rename_i kx v
     split at h
     ·rename_i hk
      rw [Je] at hk
      have h1:=UC hk.1
      have h2:=UC hk.2
      subst h1;subst h2
      simp only [oj] at h
      exact ⟨s,l,n,v,rfl,hl,rfl,rfl,h.symm⟩
     ·cases h
    ·cases h
   ·cases h
  ·cases h
 ·cases h
theorem jo (HT:JN P A.ty) (hc:JX w bl G w0 F0) (hs:Jy (Ja w bl G []) sl a) {t:TypeId} {m k:Operand} {v:V} (h:o.op=.lookup t m k false) (ht:C2 (A.ty t)=true) (hv:Ot bl (opd sl m) (opd sl k)=some v):Jo P w0 F0 sl a w o v bl:=by
 obtain ⟨s,l,n,hm,hl,hkk,rfl⟩:=jm hv
 obtain ⟨kt,et,d1,d2,d3⟩:=SL HT ht
 have hmv:=JJ hs m
 rw [hm] at hmv
 have hkv:=JJ hs k
 rw [hkk] at hkv
 obtain ⟨hkv,_⟩:=Qg.1 hkv
 obtain ⟨rc,F,F1,g1,g2,g3,g4,g5⟩:=hc.ok.root s _ hl
 have hr:=SO hmv hl g1
 unfold InV at g2
 obtain ⟨r,es,clk,e1,e2,e3,e4,e5⟩:=g2
 subst e1
 simp only [List.getElem?_cons_zero,oj] at hr
 have e2':w.heap[r]?=some (.map es clk):=e2
 have hE:=HT et (by rw [d3];simp)
 refine Jo.pure hc hs (vv:=.int .i64 (Qs l n)) ?_ (Qg.2 ⟨rfl,rfl⟩)
 have hz:(zeroValue et).run P w=.ok (.int .i64 0) w:=by
  have:=Wg (w:=w) hE
  rw [d3] at this
  simpa [Ud,Qr,JF] using this
 simp only [execOp,h,Instr.lookup,Sem.run_bind,run_underlying d1,Result.andThen_ok,← hr,hkv,YZ e2',Y0 d2,Y1 d2 e3,Sem.run_pure]
 unfold Qs
 cases H1 l n with
 | none=>simp [hz]
 | some j=>simp
theorem jp (HT:JN P A.ty) (hc:JX w bl G w0 F0) (hs:Jy (Ja w bl G []) sl a) {t:TypeId} {m k x:Operand} {b':BL} (h:o.op=.mapUpdate t m k x) (ht:C2 (A.ty t)=true) (hv:W9 bl (opd sl m) (opd sl k) (opd sl x)=some b'):Jo P w0 F0 sl a w o .void b':=by
 obtain ⟨s,l,n,v,hm,hl,hkk,hxx,rfl⟩:=jn hv
 obtain ⟨kt,et,d1,d2,d3⟩:=SL HT ht
 have hmv:=JJ hs m
 rw [hm] at hmv
 have hkv:=JJ hs k
 rw [hkk] at hkv
 obtain ⟨hkv,_⟩:=Qg.1 hkv
 have hxv:=JJ hs x
 rw [hxx] at hxv
 obtain ⟨hxv,_⟩:=Qg.1 hxv
 obtain ⟨rc,F,F1,g1,g2,g3,g4,g5⟩:=hc.ok.root s _ hl
 have hr:=SO hmv hl g1
 obtain ⟨csx,Fx,Fr,m1,m2,m3,m4,m5⟩:=hc.x.modify (p:=[]) (x:=.mp l) (Lx:=.reg rc) hl g1 rfl rfl
 unfold InV at m1
 obtain ⟨r,es,clk,e1,e2,e3,e4,e5⟩:=m1
 subst e1
 obtain ⟨q,hq⟩:=m2
 subst hq
 simp only [List.cons_append,List.nil_append,List.getElem?_cons_zero,oj] at hr
 have e2':w.heap[r]?=some (.map es clk):=e2
 have hlt:r<w.heap.size:=e5
 obtain ⟨es',clk',hrun,hents⟩:∃ es' clk',(execOp a.eval o).run P w=.ok .skip { w with heap:=w.heap.setIfInBounds r (.map es' clk') }∧Uw es'.toList (QY l n v):=by
  unfold QY
  cases hix:H1 l n with
  | none=>
   refine ⟨es.push { key:=.int .i64 n,val:=.int .i64 v,born:=clk },clk + 1,?_,?_⟩
   ·simp only [execOp,h,Instr.mapUpdate,Sem.run_bind,run_underlying d1,Result.andThen_ok,← hr,hkv,hxv,YZ e2',Y0 d2,Y1 d2 e3,hix,SM _ e2',Sem.run_pure]
   ·rw [Array.toList_push];exact e3.push rfl rfl
  | some j=>
   have hj:∃ hj:j<l.length,n=((l[j]).fld 0).toInt:=by
    unfold H1 at hix
    rw [List.findIdx?_eq_some_iff_getElem] at hix
    obtain ⟨h1,h2,_⟩:=hix
    exact ⟨h1,by simpa using h2⟩
   obtain ⟨hjl,hjn⟩:=hj
   have hjes:j<es.size:=by have:=e3.len;simp at this;omega
   obtain ⟨k0,v0,k1,k2,k3⟩:=e3.get (j:=j) (e:=es[j]) (by simp [hjes])
   have hk0:k0=n:=by
    rw [hjn]
    have:l.getD j (.int 0)=l[j]:=by rw [List.getD_eq_getElem?_getD,List.getElem?_eq_getElem hjl];rfl
    rw [← this,k3];rfl
   subst hk0
   have hstay:(Instr.keyThatStays (((es[j]?).map (·.key)).getD (.int .i64 k0)) (.int .i64 k0)).run P w=.ok (.int .i64 k0) w:=by
    have:((es[j]?).map (·.key)).getD (.int .i64 k0)=.int .i64 k0:=by
     rw [Array.getElem?_eq_getElem hjes];simp [k1]
    rw [this]
    simp [Instr.keyThatStays,Instr.sameBits]
   refine ⟨es.modify j fun e=>{ e with key:=.int .i64 k0,val:=.int .i64 v },clk,?_,?_⟩
   ·simp only [execOp,h,Instr.mapUpdate,Sem.run_bind,run_underlying d1,Result.andThen_ok,← hr,hkv,hxv,YZ e2',Y0 d2,Y1 d2 e3,hix,hstay,SM _ e2',Sem.run_pure]
   ·rw [Array.toList_modify];exact e3.modify (fun e=>⟨rfl,rfl⟩)
 have hheap:∀ b,b ≠ r→(w.heap.setIfInBounds r (.map es' clk'))[b]?=w.heap[b]?:=fun b hb=>by
  rw [Array.getElem?_setIfInBounds_ne (fun e=>hb e.symm)]
 have hnew:∀ E:Env,E.w={ w with heap:=w.heap.setIfInBounds r (.map es' clk') }→InV E (.mp (QY l n v)) [.map (some r)] [r]:=by
  intro E hE
  unfold InV
  refine ⟨r,es',clk',rfl,?_,hents,rfl,?_⟩
  ·rw [hE];simp [hlt]
  ·rw [hE];simpa using hlt
 have hrF:r ∈ F:=(m3.mem_iff).2 (by rw [e4];simp)
 have hmem:∀ b,b<w.heap.size→b ∉ Fx→(∀ a,Ji.reg (Value.map (some r) :: q)=.mem a→b ≠ a.block)→(w.heap.setIfInBounds r (.map es' clk'))[b]?=w.heap[b]?:=
  fun b _ hb _=>hheap b (fun e=>hb (by rw [e4,e];simp))
 obtain ⟨p1,p2⟩:=m5 { w with heap:=w.heap.setIfInBounds r (.map es' clk') } (.mp (QY l n v)) [.map (some r)] [r] [] rfl (fun ho=>by simp [V.outer] at ho)
  (by simp) (fun b hb hbF _ hba=>hmem b hb hbF hba) (fun b hb=>by cases hb) trivial ⟨q,rfl⟩ (fun _=>rfl) (by simp)
  (fun b hb=>by
   simp only [List.append_nil,List.mem_singleton] at hb
   subst hb
   exact ⟨by simpa using hlt,.inl (by rw [e4];simp)⟩)
  (fun q x' L' hq=>by
   cases q with
   | nil=>
    simp only [Jf,oj,pj] at hq
    obtain ⟨rfl,rfl⟩:=hq
    exact ⟨_,rfl,fun _=>⟨rfl,rfl⟩⟩
   | cons j q=>simp [Jf] at hq)
  rfl rfl rfl hmem (fun _=>hnew _ rfl) (fun _=>hnew _ rfl)
 exact ⟨undef,_,_,.inr ⟨hrun,rfl⟩,p1.c,hs.go0 p2,OE.2 ⟨rfl,rfl⟩⟩
end
end Go.Rai
namespace Go.Rai
variable [Inhabited Qk]
section
variable {P:Program} {A:Ann} {w w' w0:World} {F0:List Nat} {sl:List V} {a:Act} {bl b':BL} {G:GT} {o:Oper} {X:List Nat}
theorem Y2 {E:Env} (hs:Jy E sl a) {f:Int→Int→Int} {g:Value→Value→Sem Value} (hg:∀ k x k' y,(g (.int k x) (.int k' y)).run P w=.ok (.int k (f x y)) w) :
  ∀ (ys:List Operand) {x:V} {vx:Value} {v:V},Val E x vx []→C0 f x (Jm sl ys)=some v→(∃ k n,v=.int k n)→∃ vv,((ys.map a.eval).foldlM g vx).run P w=.ok vv w∧Val E v vv []
 | [],x,vx,v,hx,h,hv=>by
  simp only [Jm,C0,oj] at h
  subst h
  exact ⟨vx,by simp,hx⟩
 | y :: ys,x,vx,v,hx,h,hv=>by
  have hy:=JJ hs y
  simp only [Jm] at h
  cases x with
  | int k p=>
   cases hye:opd sl y with
   | int k' q=>
    rw [hye] at h hy
    simp only [C0] at h
    split at h
    ·obtain ⟨rfl,_⟩:=Qg.1 hx
     obtain ⟨hy,_⟩:=Qg.1 hy
     obtain ⟨vv,r1,r2⟩:=Y2 hs hg ys (x:=.int k (f p q)) (vx:=.int k (f p q)) (Qg.2 ⟨rfl,rfl⟩) h hv
     refine ⟨vv,?_,r2⟩
     simp only [List.map_cons,List.foldlM_cons,Sem.run_bind,hy,hg,Result.andThen_ok]
     exact r1
    ·simp at h
   | _=>rw [hye] at h;simp [C0] at h
  | _=>simp [C0] at h
theorem SP (hc:JX w bl G w0 F0) (hs:Jy (Ja w bl G []) sl a) {c:Call} {bu:Builtin} (hbu:bu=.max ∨ bu=.min) {co:List Jk} {v:V} {b:BL} (h:o.op=.call c) (hcal:c.callee=.builtin bu)
  (hv:Ql A sl bl o.dst bu c.argTypes.toList (Jm sl c.args.toList)=some (co,v,b)):Jo P w0 F0 sl a w o v b:=by
 match hargs:c.args.toList with
 | []=>rw [hargs] at hv;rcases hbu with rfl | rfl<;>simp [Jm,Ql] at hv
 | x :: ys=>
  rw [hargs] at hv
  rcases hbu with rfl | rfl
  ·simp only [Jm,Ql] at hv
   split at hv
   ·rename_i k n hm
    simp only [oj,pj] at hv
    obtain ⟨rfl,rfl,rfl⟩:=hv
    obtain ⟨vv,r1,r2⟩:=Y2 (P:=P) (w:=w) hs (g:=Builtin.max2) (fun k x k' y=>by simp [Builtin.max2]) ys (JJ hs x) hm ⟨_,_,rfl⟩
    refine Jo.pure hc hs (vv:=vv) (VC h hcal hargs (fun cs=>?_)) r2
    simp [builtin,Builtin.max_,r1]
   ·simp at hv
  ·simp only [Jm,Ql] at hv
   split at hv
   ·rename_i k n hm
    simp only [oj,pj] at hv
    obtain ⟨rfl,rfl,rfl⟩:=hv
    obtain ⟨vv,r1,r2⟩:=Y2 (P:=P) (w:=w) hs (g:=Builtin.min2) (fun k x k' y=>by simp [Builtin.min2]) ys (JJ hs x) hm ⟨_,_,rfl⟩
    refine Jo.pure hc hs (vv:=vv) (VC h hcal hargs (fun cs=>?_)) r2
    simp [builtin,Builtin.min_,r1]
   ·simp at hv
theorem jq (HT:JN P A.ty) (hc:JX w bl G w0 F0) (hs:Jy (Ja w bl G []) sl a) {op:Op} (h:o.op=op) {c:List Jk} {v:V} {b:BL} (hv:JE A sl bl o.dst op=some (c,v,b)) (hk:∀ k ∈ c,k.ok) :
  Jo P w0 F0 sl a w o v b:=by
 unfold JE at hv
 split at hv
 ·simp only [oj,pj] at hv
  obtain ⟨rfl,rfl,rfl⟩:=hv
  exact Jo.pure hc hs (Mx h) (JJ hs _)
 ·simp only [oj,pj] at hv
  obtain ⟨rfl,rfl,rfl⟩:=hv
  exact Jo.pure hc hs (My h) (JJ hs _)
 ·split at hv
  ·rename_i hp
   simp only [oj,pj] at hv
   obtain ⟨rfl,rfl,rfl⟩:=hv
   exact Mz hc hs h hp
  ·simp at hv
 ·split at hv
  ·rename_i hz
   exact MX HT hc hs h hz (HC hv).2
  ·simp at hv
 ·split at hv
  ·rename_i hz
   exact MY hc hs h hz (HC hv).2
  ·simp at hv
 ·split at hv
  ·rename_i fs hty
   split at hv
   ·rename_i hz
    split at hv
    ·rename_i vs hf
     simp only [oj,pj] at hv
     obtain ⟨rfl,rfl,rfl⟩:=hv
     exact MZ HT hc hs h hty hz hf
    ·simp at hv
   ·simp at hv
  ·rename_i n e hty
   split at hv
   ·rename_i hz
    rw [Je] at hz
    split at hv
    ·rename_i hps
     simp only [oj,pj] at hv
     obtain ⟨rfl,rfl,rfl⟩:=hv
     exact M0 HT hc hs h hty hz.1 hps
    ·simp at hv
   ·simp at hv
  ·simp at hv
 ·split at hv
  ·rename_i e hty
   split at hv
   ·rename_i hz
    rw [Je] at hz
    split at hv
    ·rename_i vs hf
     exact M3 HT hc hs h hty hz.1 (Nat.le_of_ble_eq_true hz.2) hf hv
    ·simp at hv
   ·simp at hv
  ·simp at hv
 ·exact MI HT hc hs h hv hk
 ·split at hv
  ·simp at hv
  ·rename_i hz
   exact M6 HT hc hs h (fun h0=>by rw [h0] at hz;simp at hz) hv hk
 ·split at hv
  ·rename_i hx
   simp only [oj,pj] at hv
   obtain ⟨rfl,rfl,rfl⟩:=hv
   exact YG hc hs h hx (.inl ⟨_,_,rfl⟩)
  ·rename_i hx
   simp only [oj,pj] at hv
   obtain ⟨rfl,rfl,rfl⟩:=hv
   exact YG hc hs h hx (.inr (.inl ⟨_,rfl⟩))
  ·rename_i hx
   simp only [oj,pj] at hv
   obtain ⟨rfl,rfl,rfl⟩:=hv
   exact YG hc hs h hx (.inr (.inr ⟨_,_,rfl⟩))
  ·simp at hv
 ·split at hv
  ·rename_i hb
   simp only [oj,pj] at hv
   obtain ⟨rfl,rfl,rfl⟩:=hv
   exact MU HT hc hs h hb hk
  ·simp at hv
 ·split at hv
  ·rename_i hb
   simp only [oj,pj] at hv
   obtain ⟨rfl,rfl,rfl⟩:=hv
   exact MA hc hs h hb
  ·simp at hv
 ·split at hv
  ·rename_i hsl
   split at hv
   ·rename_i e hts htt
    exact jf HT hc hs h hts htt hv hk
   ·simp at hv
  ·exact MB HT hc hs h hv
 ·split at hv
  ·rename_i f hfi
   split at hv
   ·rename_i hcap
    simp only [oj,pj] at hv
    obtain ⟨rfl,rfl,rfl⟩:=hv
    exact ME hc hs h hfi hcap
   ·simp at hv
  ·simp at hv
 ·split at hv
  ·rename_i e hty
   split at hv
   ·rename_i hp
    split at hv
    ·rename_i ln cn h1 h2
     obtain ⟨rfl,hfr⟩:=HC hv
     exact M4 HT hc hs h hty hp h1 h2 (hk _ (by simp)) hfr
    ·simp at hv
   ·simp at hv
  ·simp at hv
 ·exact MQ HT hc hs h hv hk
 ·exact MK HT hc hs h hv hk
 ·split at hv
  ·rename_i hf
   simp only [oj,pj] at hv
   obtain ⟨rfl,rfl,rfl⟩:=hv
   exact ML HT hc hs h hf
  ·simp at hv
 ·exact MN HT hc hs h hv hk
 ·split at hv
  ·rename_i hty
   exact MD HT hc hs h hty hv hk
  ·simp at hv
 ·split at hv
  ·rename_i vs hx
   split at hv
   ·rename_i hn
    simp only [oj,pj] at hv
    obtain ⟨rfl,rfl,rfl⟩:=hv
    exact MC hc hs h hx hn
   ·simp at hv
  ·simp at hv
 ·split at hv
  ·split at hv
   ·exact jl HT hc hs h (HC hv).2
   ·simp at hv
  ·simp at hv
 ·split at hv
  ·split at hv
   ·rename_i ht
    split at hv
    ·rename_i v' hv'
     simp only [oj,pj] at hv
     obtain ⟨rfl,rfl,rfl⟩:=hv
     exact jo HT hc hs h ht hv'
    ·simp at hv
   ·simp at hv
  ·simp at hv
 ·split at hv
  ·rename_i ht
   split at hv
   ·rename_i b2 hv'
    simp only [oj,pj] at hv
    obtain ⟨rfl,rfl,rfl⟩:=hv
    exact jp HT hc hs h ht hv'
   ·simp at hv
  ·simp at hv
 ·rename_i cl
  split at hv
  ·rename_i f hcal
   cases f with
   | len=>exact MG (xs:=[]) HT hc hs h hcal hv hk
   | cap=>exact MH HT hc hs h hcal hv
   | append=>exact je HT hc hs h hcal hv hk
   | copy=>exact jh HT hc hs h hcal hv hk
   | clear=>exact jj HT hc hs h hcal hv hk
   | max=>exact SP hc hs (.inl rfl) h hcal hv
   | min=>exact SP hc hs (.inr rfl) h hcal hv
   | _=>simp [Ql] at hv
  ·simp at hv
 ·simp at hv
end
end Go.Rai
namespace Go.Rai
variable [Inhabited Qk]
mutual
theorem CO {R:Type}:∀ (v:V) (κ:V→Option R),Qz v κ=κ v
 | .agg vs,κ=>by unfold Qz;rw [Ha vs]
 | .lst e vs,κ=>by unfold Qz;rw [Ha vs]
 | .tup vs,κ=>by unfold Qz;rw [Ha vs]
 | .fn f vs,κ=>by unfold Qz;rw [Ha vs]
 | .obox v,κ=>by unfold Qz;rw [CO v]
 | .rp v,κ=>by unfold Qz;rw [CO v]
 | .full s p e,κ=>by unfold Qz;rw [OO p]
 | .sub s p o l e,κ=>by unfold Qz;rw [OO p]
 | .ptr s p,κ=>by unfold Qz;rw [OO p]
 | .undef,κ=>by unfold Qz;rfl
 | .void,κ=>by unfold Qz;rfl
 | .int k n,κ=>by unfold Qz;rfl
 | .bool b,κ=>by unfold Qz;rfl
 | .str s,κ=>by unfold Qz;rfl
 | .arr n e l,κ=>by unfold Qz;rfl
 | .own e l,κ=>by unfold Qz;rfl
 | .ownh e l i,κ=>by unfold Qz;rfl
 | .rd e l,κ=>by unfold Qz;rfl
 | .nilsl,κ=>by unfold Qz;rfl
 | .emp e,κ=>by unfold Qz;rfl
 | .nilfn,κ=>by unfold Qz;rfl
 | .nilptr,κ=>by unfold Qz;rfl
 | .mp l,κ=>by unfold Qz;rfl
 | .mref s,κ=>by unfold Qz;rfl
theorem Ha {R:Type}:∀ (vs:List V) (κ:List V→Option R),UA vs κ=κ vs
 | [],κ=>by unfold UA;rfl
 | v :: vs,κ=>by unfold UA;rw [CO v,Ha vs]
theorem OO {R:Type}:∀ (p:List Nat) (κ:List Nat→Option R),UB p κ=κ p
 | [],κ=>by unfold UB;rfl
 | n :: p,κ=>by unfold UB;rw [OO p]
end
theorem Ca {R:Type}:∀ (b:BL) (κ:BL→Option R),Hu b κ=κ b
 | [],κ=>rfl
 | (k,v) :: r,κ=>by unfold Hu;rw [CO,Ca r]
theorem HQ {R:Type}:∀ (l:List V) (n:Nat) (x:V) (κ:List V→Option R),Hf l n x κ=κ (JD l n x)
 | [],_,_,_=>rfl
 | _ :: _,0,_,_=>rfl
 | a :: l,n + 1,x,κ=>by unfold Hf JD;rw [HQ l]
def Qy (sl:List V):Option Nat→V→List V
 | some t,v=>JD sl t v
 | none,_=>sl
theorem UT {R:Type} (σ:St) (d:Option Nat) (v:V) (b:BL) (κ:St→Option R):QZ σ d v b κ=κ ⟨Qy σ.sl d v,b⟩:=by
 unfold QZ Qy
 cases d with
 | none=>simp [Ca]
 | some t=>simp [CO,HQ,Ca]
theorem UU {R:Type}:∀ {c:List Jk} {k:Option R} {r:R},QR c k=some r→(∀ x ∈ c,x.ok)∧k=some r
 | [],k,r,h=>⟨fun x hx=>(by cases hx),h⟩
 | x :: c,k,r,h=>by
  have step:∀ (p:Prop) [Decidable p],(p→x.ok)→(if p then QR c k else none)=some r→(∀ y ∈ x :: c,y.ok)∧k=some r:=by
   intro p _ hp hh
   split at hh
   ·rename_i hc
    obtain ⟨h1,h2⟩:=UU hh
    refine ⟨fun y hy=>?_,h2⟩
    rcases List.mem_cons.1 hy with rfl | hy
    ·exact hp hc
    ·exact h1 y hy
   ·cases hh
  cases x<;>exact step _ (fun h=>h) h
theorem OP:∀ (sl:List V) (t u:Nat) (v:V),Jw (JD sl t v) u=if u=t∧t<sl.length then v else Jw sl u
 | [],t,u,v=>by simp [JD]
 | x :: sl,0,0,v=>by simp [JD,Jw]
 | x :: sl,0,u + 1,v=>by simp [JD,Jw]
 | x :: sl,t + 1,0,v=>by simp [JD,Jw]
 | x :: sl,t + 1,u + 1,v=>by simp [JD,Jw,OP sl t u v]
theorem VD {α:Type}:∀ (l:List α) (n:Nat) (x:α),(JD l n x).length=l.length
 | [],_,_=>rfl
 | _ :: _,0,_=>rfl
 | a :: l,n + 1,x=>by simp [JD,VD l]
section
variable {P:Program} {A:Ann} {w w' w0:World} {F0:List Nat} {sl:List V} {a:Act} {bl b':BL} {G:GT} {o:Oper} {X:List Nat}
theorem Jy.put {E:Env} (hs:Jy E sl a) (hl:a.tmps.size=sl.length) {d:Option Nat} {v:V} {vv:Value} (hv:Val E v vv []):Jy E (Qy sl d v) (a.put d vv):=by
 cases d with
 | none=>exact hs
 | some t=>
  intro u
  simp only [Qy,Act.put,OP]
  by_cases hu:u=t∧t<sl.length
  ·obtain ⟨rfl,hlt⟩:=hu
   rw [if_pos ⟨rfl,hlt⟩]
   have:(a.tmps.setIfInBounds u vv).getD u undef=vv:=by
    rw [Array.getD_eq_getD_getElem?,Array.getElem?_setIfInBounds_self_of_lt (by omega)]
    rfl
   rw [this];exact hv
  ·rw [if_neg hu]
   have:(a.tmps.setIfInBounds t vv).getD u undef=a.tmps.getD u undef:=by
    rw [Array.getD_eq_getD_getElem?,Array.getD_eq_getD_getElem?]
    by_cases hut:t=u
    ·subst hut
     have:¬ t<sl.length:=fun h=>hu ⟨rfl,h⟩
     rw [Array.setIfInBounds_eq_of_size_le (by omega)]
    ·rw [Array.getElem?_setIfInBounds_ne hut]
   rw [this];exact hs u
theorem jr {Pn:Nat→Option Value} (hp:∀ t v,Pn t=some v→a.tmps.getD t undef=v) {d:Option Nat} (hdst:∀ t,d=some t→Pn t=none) {vv:Value}:∀ t v,Pn t=some v→(a.put d vv).tmps.getD t undef=v:=by
 intro t v h
 cases d with
 | none=>exact hp t v h
 | some u=>
  have hne:u ≠ t:=fun e=>by
   subst e
   rw [hdst u rfl] at h
   cases h
  have:=hp t v h
  rw [Array.getD_eq_getD_getElem?] at this ⊢
  simp only [Act.put]
  rw [Array.getElem?_setIfInBounds_ne hne]
  exact this
theorem Rel.put {Pn:Nat→Option Value} (hc:JX w bl G w0 F0) (hs:Jy (Ja w bl G []) sl a) (hl:a.tmps.size=sl.length) (hd:a.defers=[]) (hp:∀ t v,Pn t=some v→a.tmps.getD t undef=v) {d:Option Nat} (hdst:∀ t,d=some t→Pn t=none) {v:V} {vv:Value} (hv:Val (Ja w bl G []) v vv []) :
  Rel Pn w0 F0 ⟨Qy sl d v,bl⟩ (a.put d vv) w:=by
 refine ⟨⟨G,hc,hs.put hl hv⟩,?_,?_,jr hp hdst⟩
 ·cases d with
  | none=>exact hl
  | some t=>simp [Act.put,Qy,VD,hl]
 ·cases d<;>exact hd
end
def Xw (P:Program) (c:Code) (Q:Exit→Act→World→Prop) (a:Act) (w:World):Prop:=
 ∀ (b:Frame) (k:List Item) (cs:List Frame),∃ e a' w',Q e a' w'∧Arrives P (lone (b.at a (.code c :: .inLoop c :: k)) cs w) b k cs e a' w'
theorem js {P:Program} {c:Code} {Q:Exit→Act→World→Prop} {a:Act} {w:World} (h:Xw P c Q a w):(Code.loop c).wp P Q a w:=by
 intro b k cs
 obtain ⟨e,a',w',hq,harr⟩:=h b k cs
 exact ⟨e,a',w',hq,.of_steps (.one step_loop) harr⟩
theorem jt {P:Program} {c:Code} {Q:Exit→Act→World→Prop} {a:Act} {w:World} (h:c.wp P (Exit.then (Xw P c Q) Q) a w):Xw P c Q a w:=by
 intro b k cs
 obtain ⟨e,a₁,w₁,hq,harr⟩:=h b (.inLoop c :: k) cs
 cases e with
 | normal=>
  obtain ⟨e₂,a₂,w₂,hq₂,harr₂⟩:=hq b k cs
  exact ⟨e₂,a₂,w₂,hq₂,.of_steps (Steps.trans harr (.one step_inLoop)) harr₂⟩
 | exit id=>exact ⟨_,a₁,w₁,hq,.pass (x:=.inLoop c) rfl (fun _ _=>.inl (by simp)) harr⟩
 | goto l=>exact ⟨_,a₁,w₁,hq,.pass (x:=.inLoop c) rfl (fun _ _=>.inl (by simp)) harr⟩
 | ret=>exact ⟨_,a₁,w₁,hq,.pass (x:=.inLoop c) rfl (fun _ _=>.inl (by simp)) harr⟩
 | panic ch=>exact ⟨_,a₁,w₁,hq,.pass (x:=.inLoop c) rfl (fun _ _=>.inl (by simp)) harr⟩
 | outgrown=>exact ⟨_,a₁,w₁,hq,.pass (x:=.inLoop c) rfl (fun _ _=>.inl (by simp)) harr⟩
end Go.Rai
namespace Go.Rai
variable [Inhabited Qk]
section
variable {P:Program} {A:Ann} {w w' w0:World} {F0:List Nat} {sl:List V} {a:Act} {bl b':BL} {G:GT} {o:Oper} {X:List Nat}
theorem Xx (ho:Ok w bl G X) {s:Nat} {p:List Nat} {c:List Jk} {x:V} (hg:JS bl s p=some (c,x)) (hk:∀ k ∈ c,k.ok) :
  ∃ c0 rc F,Jb bl s=some c0∧G s=some (rc,F)∧∃ Lx csx Fx,Jf w c0 (.reg rc) p=some (x,Lx)∧InV (Ja w bl G X) x csx Fx∧Lx.holds w csx∧(∀ b ∈ Fx,b<w.heap.size∧b ∉ X)∧∀ ad,Lx=.mem ad→ad.block<w.heap.size∧ad.block ∉ X:=by
 unfold JS at hg
 split at hg
 ·rename_i c0 hl
  obtain ⟨rc,F,F1,h1,h2,h3,h4,h5⟩:=ho.root s c0 hl
  obtain ⟨Lx,h6⟩:=HO (Ja w bl G X) p c0 rc F1 (.reg rc) c x h2 ⟨[],by simp⟩ hg hk
  obtain ⟨csx,Fx,Fr,i1,i2,i3,i4,_⟩:=ho.modify hl h1 h6 (by rw [hg];rfl)
  exact ⟨c0,rc,F,hl,h1,Lx,csx,Fx,h6,i1,i2,fun b hb=>h5 b ((i3.mem_iff).2 (by simp [hb])),fun ad had=>by
   rcases i4 with ⟨a',ha',hin⟩ | ⟨ds,hds⟩
   ·rw [had] at ha';cases ha'
    exact h5 _ ((i3.mem_iff).2 (by simp [hin]))
   ·rw [had] at hds;cases hds⟩
 ·simp at hg
theorem SQ {E:Env} {e:Ty} (hp:e.plain=true):∀ {n:Nat} {vs:List V} {cs:List Value},JI (rep n e) vs=true→O2 vs=true→Jj E vs cs []→∃ F,Row (DIn false E.w e) (Un vs) cs F∧∀ b ∈ F,E.Sb e b
 | 0,vs,cs,h,_,hi=>by
  cases vs<;>simp [rep,JI] at h
  unfold Jj at hi
  obtain ⟨rfl,_⟩:=hi
  exact ⟨[],⟨rfl,rfl⟩,fun b hb=>by cases hb⟩
 | n + 1,vs,cs,h,ho,hi=>by
  cases vs with
  | nil=>simp [rep,JI] at h
  | cons v vs=>
   simp only [rep,JI,Je] at h
   cases v<;>simp [O2] at ho
   rename_i e1 l
   unfold Jj at hi
   obtain ⟨c1,c2,F1,F2,e1',e2',h1,h2⟩:=hi
   obtain ⟨rfl,rfl⟩:=List.append_eq_nil_iff.1 e2'.symm
   obtain ⟨F,g1,g2⟩:=SQ hp h.2 ho h2
   unfold InV at h1
   obtain ⟨_,_,Ad,cap,F',q1,q2,q3⟩:=h1
   have he:e=.slice e1:=by
    have:=h.1
    cases e<;>simp [Jq] at this
    rw [Ty.beq_eq _ _ this]
   subst he
   refine ⟨F' ++ F,⟨c1,c2,F',F,e1',rfl,?_,g1⟩,fun b hb=>?_⟩
   ·unfold DIn
    exact ⟨Ad,cap,q1,q2⟩
   ·rcases List.mem_append.1 hb with q | q
    ·exact q3 b q
    ·exact g2 b q
theorem SR {e:Ty} (he:Cg e=false):∀ {n:Nat} {vs:List V},JI (rep n e) vs=true→O2 vs=true→CF vs=true
 | 0,vs,h,_=>by cases vs<;>simp [rep,JI] at h;rfl
 | n + 1,vs,h,ho=>by
  cases vs with
  | nil=>rfl
  | cons v vs=>
   simp only [rep,JI,Je] at h
   cases v<;>simp [O2] at ho
   rename_i e1 l
   have he1:e=.slice e1:=by
    have:=h.1
    cases e<;>simp [Jq] at this
    rw [Ty.beq_eq _ _ this]
   subst he1
   have:Cg e1=false:=he
   unfold CF noB
   rw [this,SR he h.2 ho]
   rfl
theorem Y3:∀ (n:Nat) {b:BL} {vs ws:List V} {c:List Jk},UE b n vs=some (c,ws)→ws.length=vs.length
 | 0,b,vs,ws,c,h=>by simp [UE] at h
 | n + 1,b,[],ws,c,h=>by simp [UE] at h;rw [h.2]
 | n + 1,b,v :: vs,ws,c,h=>by
  simp only [UE] at h
  split at h
  ·split at h
   ·rename_i h2
    simp only [oj,pj] at h
    obtain ⟨_,rfl⟩:=h
    simp [Y3 n h2]
   ·simp at h
  ·simp at h
def Ob (w:World) (X:List Nat) (Ec:Env) (q:Bool):Prop:=q=true ∨ ∀ b,b<w.heap.size→b ∉ X→Ec.K b
theorem SS (ho:Ok w bl G X) {Ec:Env} (hw:Ec.w=w) (hbl:Ec.bl=[]) (hS:∀ b,b<w.heap.size→b ∉ X→Ec.S b) (hle:Le (Ja w bl G X) Ec):∀ n,
  (∀ {v y:V} {c:List Jk} {cs:List Value} {F:List Nat},InV (Ja w bl G X) v cs F→(∀ b ∈ F,b<w.heap.size∧b ∉ X)→lend bl n v=some (c,y)→(∀ k ∈ c,k.ok)→Ob w X Ec (noB y)→InV Ec y cs []) ∧
  (∀ {vs ys:List V} {c:List Jk} {cs:List Value} {F:List Nat},Jj (Ja w bl G X) vs cs F→(∀ b ∈ F,b<w.heap.size∧b ∉ X)→UE bl n vs=some (c,ys)→(∀ k ∈ c,k.ok)→Ob w X Ec (CF ys)→Jj Ec ys cs [])
 | 0=>⟨fun _ _ h=>by simp [lend] at h,fun _ _ h=>by simp [UE] at h⟩
 | n + 1=>by
  obtain ⟨ih1,ih2⟩:=SS ho hw hbl hS hle n
  have keep:∀ {v:V} {cs:List Value},InV (Ja w bl G X) v cs []→InV Ec v cs []:=fun h=>U2 hle _ (fun s _ c' rc' F' hlk=>by rw [hbl] at hlk;simp [Jb] at hlk) (fun b hb=>by cases hb) h
  have rd:∀ {e:Ty} {l:List D} {Ad:Option Addr} {cap:Nat} {F:List Nat},e.plain=true→UI true w (DIn true w e) e.size Ad cap l F→(∀ b ∈ F,b<w.heap.size∧b ∉ X)→Ob w X Ec (noB (.rd e l))→InV Ec (.rd e l) [.slice Ad l.length cap] []:=by
   intro e l Ad cap F hp hs hF hq
   unfold InV
   refine ⟨rfl,hp,Ad,cap,F,rfl,?_,fun b hb=>⟨hS b (hF b hb).1 (hF b hb).2,fun he=>?_⟩⟩
   ·rw [hw]
    exact Xd (fun d c G hd=>OA _ hd) hs
   ·rcases hq with hq | hq
    ·unfold noB at hq;rw [he] at hq;cases hq
    ·exact hq b (hF b hb).1 (hF b hb).2
  constructor
  ·intro v y c cs F hv hF h hk hq
   unfold lend at h
   split at h
   ·rename_i s p e
    unfold InV at hv
    obtain ⟨rfl,_,hal⟩:=hv
    split at h
    ·rename_i c1 e1 l hg
     simp only [oj,pj] at h
     obtain ⟨rfl,rfl⟩:=h
     obtain ⟨c0,rc,Fs,k1,k2,Lx,csx,Fx,k3,k4,k5,k6,k7⟩:=Xx ho hg hk
     obtain ⟨u,g1,g2⟩:=hal c0 rc Fs k1 k2 _ _ k3 rfl
     unfold InV at k4
     obtain ⟨hp,Ad,cap,hcs,hsl⟩:=k4
     rw [hcs] at k5
     have hh:=JL k5
     rw [show (Ja w bl G X).w=w from rfl,hh] at g1
     simp only [oj] at g1
     rw [g2,← g1]
     exact rd hp hsl k6 hq
    ·rename_i c1 e1 vs hg
     split at h
     ·rename_i c2 ws hin
      split at h
      ·rename_i hall
       simp only [oj,pj] at h
       obtain ⟨rfl,rfl⟩:=h
       rw [Je] at hall
       rw [Je] at hall
       obtain ⟨hp,hrd,hfit⟩:=hall
       obtain ⟨hk1,hk2⟩:=QU hk
       obtain ⟨c0,rc,Fs,k1,k2,Lx,csx,Fx,k3,k4,k5,k6,k7⟩:=Xx ho hg hk1
       obtain ⟨u,g1,g2⟩:=hal c0 rc Fs k1 k2 _ _ k3 rfl
       unfold InV at k4
       obtain ⟨ad,cc,cs',F',hcs',hlc,hes,hin',hca,hFx,hb,hun⟩:=k4
       rw [hcs'] at k5
       have hh:=JL k5
       rw [show (Ja w bl G X).w=w from rfl,hh] at g1
       simp only [oj] at g1
       subst hFx
       have hws:=ih2 hin' (fun b hb=>k6 b (by simp [hb])) hin hk2 (by
        rcases hq with hq | hq
        ·unfold noB at hq
         cases hbe:Cg e1 with
         | true=>rw [hbe] at hq;cases hq
         | false=>exact .inl (SR hbe hfit hrd)
        ·exact .inr hq)
       obtain ⟨Fr,r1,r2⟩:=SQ hp hfit hrd hws
       have hlen:(Un ws).length=vs.length:=by
        rw [Wq]
        exact Y3 n hin
       rw [g2,← g1]
       unfold InV
       refine ⟨rfl,hp,some ad,cc,ad.block :: Fr,by rw [hlen],.inr ⟨ad,cs',Fr,rfl,r1,by rw [hw];exact hca,rfl,by rw [hlen];exact hlc,by rw [hw];exact hb,fun h=>by cases h⟩,fun b hb=>?_⟩
       rcases List.mem_cons.1 hb with rfl | hb
       ·refine ⟨hS _ (k6 _ (by simp)).1 (k6 _ (by simp)).2,fun he=>?_⟩
        rcases hq with hq | hq
        ·unfold noB at hq;rw [he] at hq;cases hq
        ·exact hq _ (k6 _ (by simp)).1 (k6 _ (by simp)).2
       ·exact r2 b hb
      ·simp at h
     ·simp at h
    ·simp at h
   ·rename_i s p off len e
    unfold InV at hv
    obtain ⟨rfl,_,hal⟩:=hv
    split at h
    ·rename_i c1 e1 l hg
     split at h
     ·rename_i hbe
      have hee:=Ty.beq_eq _ _ hbe
      subst hee
      simp only [oj,pj] at h
      obtain ⟨rfl,rfl⟩:=h
      obtain ⟨hk1,hk2⟩:=QU hk
      have hb:off + len≤l.length:=hk2 (.le (off + len) l.length) (by simp)
      obtain ⟨c0,rc,Fs,k1,k2,Lx,csx,Fx,k3,k4,k5,k6,k7⟩:=Xx ho hg hk1
      obtain ⟨A0,n0,k0,A',g1,g2,g3,g4⟩:=hal c0 rc Fs k1 k2 _ _ k3 rfl
      unfold InV at k4
      obtain ⟨hp,Ad,cap,hcs,hsl⟩:=k4
      rw [hcs] at k5
      have hh:=JL k5
      rw [show (Ja w bl G X).w=w from rfl,hh] at g1
      simp only [oj,Value.slice.injEq] at g1
      obtain ⟨rfl,rfl,rfl⟩:=g1
      obtain ⟨F'',r1,r2,_⟩:=Xq (off:=off) (len:=len) (fun d c G hd=>Qn _ hd) hsl hb g4
      rw [g3]
      have:=rd hp r1 (fun b hb=>k6 b (r2 b hb)) hq
      rwa [show ((l.drop off).take len).length=len by simp;omega] at this
     ·simp at h
    ·simp at h
   ·rename_i s p
    unfold InV at hv
    obtain ⟨rfl,_,hal⟩:=hv
    split at h
    ·rename_i c1 x hg
     split at h
     ·rename_i c2 y' hin
      simp only [oj,pj] at h
      obtain ⟨rfl,rfl⟩:=h
      obtain ⟨hk1,hk2⟩:=QU hk
      obtain ⟨c0,rc,Fs,k1,k2,Lx,csx,Fx,k3,k4,k5,k6,k7⟩:=Xx ho hg hk1
      obtain ⟨ad,g1,g2⟩:=hal c0 rc Fs k1 k2 _ _ k3
      subst g1
      have hy:=ih1 k4 k6 hin hk2 hq
      rw [g2]
      unfold InV
      exact ⟨rfl,ad,csx,rfl,hy,by rw [hw];exact k5,hS _ (k7 ad rfl).1 (k7 ad rfl).2⟩
     ·simp at h
    ·simp at h
   ·rename_i e l
    simp only [oj,pj] at h
    obtain ⟨rfl,rfl⟩:=h
    unfold InV at hv
    obtain ⟨hp,Ad,cap,rfl,hsl⟩:=hv
    exact rd hp hsl hF hq
   ·rename_i x
    split at h
    ·rename_i c2 y' hin
     simp only [oj,pj] at h
     obtain ⟨rfl,rfl⟩:=h
     unfold InV at hv
     obtain ⟨ad,cs',F',rfl,hin',hca,hFx,hb,hun⟩:=hv
     subst hFx
     have hy:=ih1 hin' (fun b hb=>hF b (by simp [hb])) hin hk hq
     unfold InV
     exact ⟨rfl,ad,cs',rfl,hy,by rw [hw];exact hca,hS _ (hF _ (by simp)).1 (hF _ (by simp)).2⟩
    ·simp at h
   ·rename_i vs
    split at h
    ·rename_i c2 ws hin
     simp only [oj,pj] at h
     obtain ⟨rfl,rfl⟩:=h
     unfold InV at hv ⊢
     exact ih2 hv hF hin hk hq
    ·simp at h
   ·rename_i f caps
    split at h
    ·rename_i c2 ws hin
     simp only [oj,pj] at h
     obtain ⟨rfl,rfl⟩:=h
     unfold InV at hv ⊢
     obtain ⟨vals,hcs,hvs,hvz⟩:=hv
     have hws:=ih2 hvs hF hin hk hq
     refine ⟨vals,hcs,hws,?_⟩
     rw [← CJ _ hws,CJ _ hvs,hvz,Y3 n hin]
    ·simp at h
   ·simp at h
   ·simp at h
   ·simp at h
   ·simp at h
   ·simp at h
   ·simp at h
   ·simp at h
   ·simp only [oj,pj] at h
    obtain ⟨rfl,rfl⟩:=h
    have hnil:F=[]:=by
     have hv':=hv
     unfold InV at hv'
     split at hv'<;>first | exact hv'.2 | exact hv'.1 | (exact Hk (fun d c G hd=>Hl _ hv'.2.1 hd) hv'.2.2) | simp_all
    subst hnil
    exact keep hv
  ·intro vs ys c cs F hv hF h hk hq
   cases vs with
   | nil=>
    simp only [UE,oj,pj] at h
    obtain ⟨rfl,rfl⟩:=h
    unfold Jj at hv ⊢
    exact ⟨hv.1,rfl⟩
   | cons v vs=>
    simp only [UE] at h
    split at h
    ·rename_i c1 w1 h1
     split at h
     ·rename_i c2 ws h2
      simp only [oj,pj] at h
      obtain ⟨rfl,rfl⟩:=h
      obtain ⟨hk1,hk2⟩:=QU hk
      unfold Jj at hv ⊢
      obtain ⟨d1,d2,F1,F2,rfl,rfl,i1,i2⟩:=hv
      have hq1:Ob w X Ec (noB w1):=by
       rcases hq with hq | hq
       ·unfold CF at hq;rw [Je] at hq;exact .inl hq.1
       ·exact .inr hq
      have hq2:Ob w X Ec (CF ws):=by
       rcases hq with hq | hq
       ·unfold CF at hq;rw [Je] at hq;exact .inl hq.2
       ·exact .inr hq
      exact ⟨d1,d2,[],[],rfl,rfl,ih1 i1 (fun b hb=>hF b (by simp [hb])) h1 hk1 hq1,ih2 i2 (fun b hb=>hF b (by simp [hb])) h2 hk2 hq2⟩
     ·simp at h
    ·simp at h
end
end Go.Rai
namespace Go.Rai
variable [Inhabited Qk]
def Q2 (K:Nat→Prop) (w:World) (F:List Nat):Env:=⟨w,fun b=>b<w.heap.size∧b ∉ F,K,[],fun _=>none⟩
def CP (E:Env) (io:Nat→Bool):Nat→List V→List Value→List Nat→Prop
 | _,[],vs,F=>vs=[]∧F=[]
 | i,x :: xs,vs,F=>∃ v r F1 F2,vs=v :: r∧F=F1 ++ F2∧(io i=true→One E x v F1)∧(io i=false→F1=[])∧CP E io (i + 1) xs r F2
def UK (E:Env) (io:Nat→Bool):Nat→List V→List Value→List Nat→Prop
 | _,[],vs,F=>vs=[]∧F=[]
 | i,x :: xs,vs,F=>∃ v r F1 F2,vs=v :: r∧F=F1 ++ F2∧One E x v F1∧(io i=false→F1=[])∧UK E io (i + 1) xs r F2
def Qh:Yl→Bool
 | .io=>true
 | _=>false
def Ho:Yl→Bool
 | .io=>true
 | .take=>true
 | _=>false
def ju (P : Program) (f : FuncId) : Prop := ∃ fn, P.funcs[f]? = some fn ∧ (fn.name == "runtime.NumGoroutine") = false ∧ fn.body.isNone = false
def HR (P:Program) (io:Nat→Bool) (f:FuncId) (args:List V) (res:V) (outs:List V):Prop:=
 ju P f∧∀ (K:Nat→Prop) (w:World) (vals:List Value) (F:List Nat),Tup (Q2 K w F) args vals F→F.Nodup→(∀ b ∈ F,b<w.heap.size) →
  Calls P f vals.toArray w fun e w'=>∃ v Fr Fo,e=.returned v∧Val (Q2 K w' (Fr ++ Fo)) res v Fr∧CP (Q2 K w' (Fr ++ Fo)) io 0 outs vals Fo ∧
   (Fr ++ Fo).Nodup∧(∀ b ∈ Fr ++ Fo,b<w'.heap.size∧(b ∈ F ∨ w.heap.size≤b)) ∧
   (∀ b,b<w.heap.size→b ∉ F→w'.heap[b]?=w.heap[b]?)∧w.heap.size≤w'.heap.size∧w'.os=w.os∧w'.tape=w.tape∧w'.output=w.output
def HS (P:Program) (A:Ann) {R:Type} (oc:OC R):Prop:=
 ∀ f args κ r,oc f args κ=some r→∃ res outs,κ res outs=some r∧HR P (fun i=>Qh (A.mode f i)) f args res outs
section
variable {P:Program} {A:Ann} {w w' w0:World} {F0:List Nat} {sl:List V} {a:Act} {bl b':BL} {G:GT} {o:Oper} {X:List Nat}
theorem jv {E:Env}:∀ (t:Ty) {v:V} {cs:List Value},InV E v cs []→InV E (Yj t v) cs []:=by
 intro t v cs h
 cases t with
 | slice e=>
  cases v with
  | nilsl=>
   show InV E (match e.plain with | true=>.rd e [] | false=>.nilsl) cs []
   cases hp:e.plain with
   | false=>exact h
   | true=>
    show InV E (.rd e []) cs []
    unfold InV at h ⊢
    exact ⟨rfl,hp,none,0,[],h.1,.inl ⟨rfl,rfl,rfl⟩,fun b hb=>by cases hb⟩
  | emp e'=>
   show InV E (match e.plain with | true=>.rd e [] | false=>.emp e') cs []
   cases hp:e.plain with
   | false=>exact h
   | true=>
    show InV E (.rd e []) cs []
    unfold InV at h ⊢
    obtain ⟨⟨A,rfl⟩,_⟩:=h
    exact ⟨rfl,hp,A,0,[],rfl,.inl ⟨rfl,rfl,rfl⟩,fun b hb=>by cases hb⟩
  | _=>exact h
 | _=>cases v<;>exact h
theorem jx (t:Ty) (v:V):isA (Yj t v)=isA v:=by
 cases t with
 | slice e=>
  cases v with
  | nilsl=>show isA (match e.plain with | true=>.rd e [] | false=>.nilsl)=false;cases e.plain<;>rfl
  | emp e'=>show isA (match e.plain with | true=>.rd e [] | false=>.emp e')=false;cases e.plain<;>rfl
  | _=>rfl
 | _=>cases v<;>rfl
theorem Xy {E E':Env} (h:Jx E E' (fun _=>False)):∀ {xs:List V} {vs:List Value} {F:List Nat},QN E.w E'.w F→Tup E xs vs F→Tup E' xs vs F
 | [],vs,F,_,hh=>hh
 | x :: xs,vs,F,hF,⟨v,r,F1,F2,e1,e2,⟨cs,h1,h2⟩,h3⟩=>by
  subst e2
  exact ⟨v,r,F1,F2,e1,rfl,⟨cs,h.inV (fun _ _=>id) (fun b hb=>hF b (by simp [hb])) h1,h2⟩,Xy h (fun b hb=>hF b (by simp [hb])) h3⟩
theorem ST {E E':Env} {io:Nat→Bool} (h:Jx E E' (fun _=>False)):∀ {i:Nat} {xs:List V} {vs:List Value} {F:List Nat},QN E.w E'.w F→UK E io i xs vs F→UK E' io i xs vs F
 | i,[],vs,F,_,hh=>hh
 | i,x :: xs,vs,F,hF,⟨v,r,F1,F2,e1,e2,⟨cs,h1,h2⟩,h4,h3⟩=>by
  subst e2
  exact ⟨v,r,F1,F2,e1,rfl,⟨cs,h.inV (fun _ _=>id) (fun b hb=>hF b (by simp [hb])) h1,h2⟩,h4,ST h (fun b hb=>hF b (by simp [hb])) h3⟩
theorem Y4 {n:Nat} {b b':BL} {v v':V} {c:List Jk} (h:inl n b v=some (c,v',b')):isA v'=isA v:=by
 cases n with
 | zero=>simp [inl] at h
 | succ n=>
  unfold inl at h
  split at h
  ·split at h
   ·simp only [oj,pj] at h;rw [← h.2.1];rfl
   ·split at h
    ·split at h
     ·simp only [oj,pj] at h;rw [← h.2.1];rfl
     ·simp at h
    ·simp at h
   ·simp at h
   ·split at h
    ·simp only [oj,pj] at h;rw [← h.2.1];rfl
    ·simp at h
  ·split at h
   ·split at h
    ·simp only [oj,pj] at h;rw [← h.2.1];rfl
    ·simp at h
   ·simp at h
  ·split at h
   ·split at h
    ·split at h
     ·simp only [oj,pj] at h;rw [← h.2.1];rfl
     ·simp at h
    ·simp at h
   ·simp at h
  ·split at h
   ·simp only [oj,pj] at h;rw [← h.2.1];rfl
   ·simp at h
  ·split at h
   ·simp only [oj,pj] at h;rw [← h.2.1];rfl
   ·simp at h
  ·split at h
   ·simp only [oj,pj] at h;rw [← h.2.1];rfl
   ·simp at h
  ·split at h
   ·simp only [oj,pj] at h;rw [← h.2.1];rfl
   ·simp at h
  ·simp at h
  ·simp at h
  ·simp at h
  ·simp at h
  ·simp at h
  ·simp at h
  ·simp only [oj,pj] at h;rw [← h.2.1]
theorem SU {f:FuncId}:∀ {vs:List V} {i:Nat} {bl b':BL} {G:GT} {X:List Nat} {vals:List Value} {ws:List V} {c:List Jk},JK w bl G X w0 F0→Tup (Ja w bl G X) vs vals []→Hv A f i bl vs=some (c,ws,b')→(∀ k ∈ c,k.ok) →
  CN w (Ja w bl G X) w0 F0 X b' (fun E F'=>UK E (fun j=>Ho (A.mode f j)) i ws vals F')
 | [],i,bl,b',G,X,vals,ws,c,hc,hv,h,hk=>by
  simp only [Hv,oj,pj] at h
  obtain ⟨rfl,rfl,rfl⟩:=h
  exact ⟨[],G,hc,hv,Jx.refl_ _ _⟩
 | v :: vs,i,bl,b',G,X,vals,ws,c,hc,hv,h,hk=>by
  obtain ⟨u,r,F1,F2,rfl,e2,⟨cs,i1,i2⟩,i3⟩:=hv
  obtain ⟨rfl,rfl⟩:=List.append_eq_nil_iff.1 e2.symm
  simp only [Hv] at h
  split at h
  ·rename_i c1 w1 b1 h1
   split at h
   ·rename_i c2 ws2 b2 h2
    simp only [oj,pj] at h
    obtain ⟨rfl,rfl,rfl⟩:=h
    obtain ⟨hk1,hk2⟩:=QU hk
    have first:CN w (Ja w bl G X) w0 F0 X b1 (fun E F'=>One E w1 u F'∧(Ho (A.mode f i)=false→F'=[])):=by
     split at h1
     ·obtain ⟨F',G',q1,q2,q3⟩:=(Oa 9).1 (F:=[]) hc i1 h1 hk1
      rename_i hmode
      refine ⟨F',G',q1,⟨⟨cs,q2,?_⟩,fun hf=>by rw [hmode] at hf;cases hf⟩,q3⟩
      unfold Qf at i2 ⊢
      rw [Y4 h1]
      exact i2
     ·obtain ⟨F',G',q1,q2,q3⟩:=(Oa 9).1 (F:=[]) hc i1 h1 hk1
      rename_i hmode
      refine ⟨F',G',q1,⟨⟨cs,q2,?_⟩,fun hf=>by rw [hmode] at hf;cases hf⟩,q3⟩
      unfold Qf at i2 ⊢
      rw [Y4 h1]
      exact i2
     ·simp only [oj,pj] at h1
      obtain ⟨rfl,rfl,rfl⟩:=h1
      exact ⟨[],G,hc,⟨⟨cs,i1,i2⟩,fun _=>rfl⟩,Jx.refl_ _ _⟩
    obtain ⟨F',G',q1,⟨q2,q4⟩,q3⟩:=first
    obtain ⟨F2',G2,s1,s2,s3⟩:=SU (X:=F' ++ X) q1 (Xy q3 (fun b hb=>by cases hb) i3) h2 hk2
    obtain ⟨t1,t2⟩:=s1.perm (show (F2' ++ (F' ++ X)).Perm ((F' ++ F2') ++ X) by
     rw [← List.append_assoc]
     exact List.Perm.append_right X List.perm_append_comm)
    obtain ⟨cs',j1,j2⟩:=q2
    exact ⟨F' ++ F2',G2,t1,⟨u,r,F',F2',rfl,rfl,⟨cs',(s3.trans t2).inV (fun _ _=>id) (fun _ _=>rfl) j1,j2⟩,q4,ST t2 (fun _ _=>rfl) s2⟩,(q3.trans s3).trans t2⟩
   ·simp at h
  ·simp at h
theorem jy {n:Nat} {b:BL} {v v':V} {c:List Jk} (h:lend b n v=some (c,v')):isA v'=isA v:=by
 cases n with
 | zero=>simp [lend] at h
 | succ n=>
  unfold lend at h
  split at h
  ·split at h
   ·simp only [oj,pj] at h;rw [← h.2];rfl
   ·split at h
    ·split at h
     ·simp only [oj,pj] at h;rw [← h.2];rfl
     ·simp at h
    ·simp at h
   ·simp at h
  ·split at h
   ·split at h
    ·simp only [oj,pj] at h;rw [← h.2];rfl
    ·simp at h
   ·simp at h
  ·split at h
   ·split at h
    ·simp only [oj,pj] at h;rw [← h.2];rfl
    ·simp at h
   ·simp at h
  ·simp only [oj,pj] at h;rw [← h.2];rfl
  ·split at h
   ·simp only [oj,pj] at h;rw [← h.2];rfl
   ·simp at h
  ·split at h
   ·simp only [oj,pj] at h;rw [← h.2];rfl
   ·simp at h
  ·split at h
   ·simp only [oj,pj] at h;rw [← h.2];rfl
   ·simp at h
  ·simp at h
  ·simp at h
  ·simp at h
  ·simp at h
  ·simp at h
  ·simp at h
  ·simp at h
  ·simp only [oj,pj] at h;rw [← h.2]
mutual
theorem Xz:∀ {v:V},Qe v=true→Jd v=[]
 | .int _ _,_=>rfl
 | .bool _,_=>rfl
 | .str _,_=>rfl
 | .own _ _,_=>rfl
 | .ownh _ _ _,ho=>by simp [Qe] at ho
 | .mp _,ho=>by simp [Qe] at ho
 | .mref _,ho=>by simp [Qe] at ho
 | .arr _ _ _,_=>rfl
 | .rd _ _,_=>rfl
 | .agg vs,h=>by unfold Qe at h;unfold Jd;exact Y5 h
 | .obox v,h=>by unfold Qe at h;unfold Jd;exact Xz h
 | .tup vs,h=>by unfold Qe at h;unfold Jd;exact Y5 h
 | .undef,ho=>by simp [Qe] at ho
 | .void,ho=>by simp [Qe] at ho
 | .lst _ _,ho=>by simp [Qe] at ho
 | .nilsl,ho=>by simp [Qe] at ho
 | .emp _,ho=>by simp [Qe] at ho
 | .rp _,ho=>by simp [Qe] at ho
 | .full _ _ _,ho=>by simp [Qe] at ho
 | .sub _ _ _ _ _,ho=>by simp [Qe] at ho
 | .ptr _ _,ho=>by simp [Qe] at ho
 | .fn _ _,ho=>by simp [Qe] at ho
 | .nilfn,ho=>by simp [Qe] at ho
 | .nilptr,_=>rfl
theorem Y5:∀ {vs:List V},HI vs=true→Jl vs=[]
 | [],_=>rfl
 | v :: vs,h=>by
  unfold HI at h;rw [Je] at h
  unfold Jl;rw [Xz h.1,Y5 h.2];rfl
end
def Kle (E E':Env):Prop:=∀ b,E.S b→E.K b→E'.S b∧E'.K b
theorem Le.kle {E E':Env} (h:Le E E'):Kle E E':=fun b h1 h2=>⟨(h.stab b h1).1,h.kept b h1 h2⟩
mutual
theorem XA {E E':Env} (hle:Kle E E') (hw:E'.w=E.w):∀ {v:V} {cs:List Value} {F:List Nat},Qe v=true→InV E v cs F→InV E' v cs F
 | .int _ _,_,_,_,h=>h
 | .bool _,_,_,_,h=>h
 | .str _,_,_,_,h=>h
 | .own e l,cs,F,hv,h=>by unfold InV at h ⊢;rw [hw];exact h
 | .ownh _ _ _,_,_,hv,_=>by simp [Qe] at hv
 | .mp _,_,_,hv,_=>by simp [Qe] at hv
 | .mref _,_,_,hv,_=>by simp [Qe] at hv
 | .arr n e l,cs,F,hv,h=>by unfold InV at h ⊢;rw [hw];exact h
 | .rd e l,cs,F,hv,h=>by
  unfold Qe at hv
  unfold InV at h ⊢
  rw [hw]
  obtain ⟨h0,hp,A,c,F',h1,h2,h3⟩:=h
  exact ⟨h0,hp,A,c,F',h1,h2,fun b hb=>⟨(hle b (h3 b hb).1 ((h3 b hb).2 hv)).1,fun _=>(hle b (h3 b hb).1 ((h3 b hb).2 hv)).2⟩⟩
 | .agg vs,cs,F,hv,h=>by
  unfold Qe at hv
  unfold InV at h ⊢
  exact SV hle hw hv h
 | .obox v,cs,F,hv,h=>by
  unfold Qe at hv
  unfold InV at h ⊢
  rw [hw]
  obtain ⟨a,cs',F',h1,h2,h3⟩:=h
  exact ⟨a,cs',F',h1,XA hle hw hv h2,h3⟩
 | .tup vs,_,_,_,h=>by unfold InV at h;exact h.elim
 | .undef,_,_,ho,_=>by simp [Qe] at ho
 | .void,_,_,ho,_=>by simp [Qe] at ho
 | .lst _ _,_,_,ho,_=>by simp [Qe] at ho
 | .nilsl,_,_,ho,_=>by simp [Qe] at ho
 | .emp _,_,_,ho,_=>by simp [Qe] at ho
 | .rp _,_,_,ho,_=>by simp [Qe] at ho
 | .full _ _ _,_,_,ho,_=>by simp [Qe] at ho
 | .sub _ _ _ _ _,_,_,ho,_=>by simp [Qe] at ho
 | .ptr _ _,_,_,ho,_=>by simp [Qe] at ho
 | .fn _ _,_,_,ho,_=>by simp [Qe] at ho
 | .nilfn,_,_,ho,_=>by simp [Qe] at ho
 | .nilptr,_,_,_,h=>h
theorem SV {E E':Env} (hle:Kle E E') (hw:E'.w=E.w):∀ {vs:List V} {cs:List Value} {F:List Nat},HI vs=true→Jj E vs cs F→Jj E' vs cs F
 | [],_,_,_,h=>h
 | v :: vs,cs,F,hv,h=>by
  unfold HI at hv;rw [Je] at hv
  unfold Jj at h ⊢
  obtain ⟨c1,c2,F1,F2,e1,e2,h1,h2⟩:=h
  exact ⟨c1,c2,F1,F2,e1,e2,XA hle hw hv.1 h1,SV hle hw hv.2 h2⟩
end
mutual
theorem Y6:∀ {v:V},JH v=true→Qe v=true
 | .int _ _,_=>rfl
 | .bool _,_=>rfl
 | .str _,_=>rfl
 | .own _ _,_=>rfl
 | .ownh _ _ _,ho=>by simp [JH] at ho
 | .mp _,ho=>by simp [JH] at ho
 | .mref _,ho=>by simp [JH] at ho
 | .arr _ _ _,_=>rfl
 | .agg vs,h=>by unfold JH at h;unfold Qe;exact Y7 h
 | .obox v,h=>by unfold JH at h;unfold Qe;exact Y6 h
 | .tup vs,h=>by unfold JH at h;unfold Qe;exact Y7 h
 | .undef,ho=>by simp [JH] at ho
 | .void,ho=>by simp [JH] at ho
 | .lst _ _,ho=>by simp [JH] at ho
 | .nilsl,ho=>by simp [JH] at ho
 | .emp _,ho=>by simp [JH] at ho
 | .rp _,ho=>by simp [JH] at ho
 | .full _ _ _,ho=>by simp [JH] at ho
 | .sub _ _ _ _ _,ho=>by simp [JH] at ho
 | .ptr _ _,ho=>by simp [JH] at ho
 | .fn _ _,ho=>by simp [JH] at ho
 | .nilfn,ho=>by simp [JH] at ho
 | .nilptr,_=>rfl
 | .rd _ _,ho=>by simp [JH] at ho
theorem Y7:∀ {vs:List V},Hc vs=true→HI vs=true
 | [],_=>rfl
 | v :: vs,h=>by
  unfold Hc at h;rw [Je] at h
  unfold HI;rw [Y6 h.1,Y7 h.2];rfl
end
theorem Y8 {f:FuncId} (ho:Ok w bl G X) {Ec:Env} (hw:Ec.w=w) (hbl:Ec.bl=[]) (hS:∀ b,b<w.heap.size→b ∉ X→Ec.S b) (hle:Le (Ja w bl G X) Ec):∀ {vs:List V} {i:Nat} {ts:List Ty} {vals:List Value} {us:List V} {c:List Jk} {F:List Nat},
  UK (Ja w bl G X) (fun j=>Ho (A.mode f j)) i vs vals F→Q9 A f bl i ts vs=some (c,us)→(∀ k ∈ c,k.ok)→Ob w X Ec (UO A f i us)→Tup Ec us vals F
 | [],i,ts,vals,us,c,F,hv,h,hk,hsc=>by
  simp only [Q9,oj,pj] at h
  obtain ⟨rfl,rfl⟩:=h
  exact hv
 | v :: vs,i,ts,vals,us,c,F,hv,h,hk,hsc=>by
  have keep:∀ {v:V} {cs:List Value} {F:List Nat},InV (Ja w bl G X) v cs F→InV Ec v cs F:=fun h=>U2 hle _ (fun s _ c' rc' F' hlk=>by rw [hbl] at hlk;simp [Jb] at hlk) (fun b hb=>by rw [hw];rfl) h
  obtain ⟨u,r,F1,F2,rfl,rfl,⟨cs,i1,i2⟩,i4,i3⟩:=hv
  simp only [Q9] at h
  split at h
  ·rename_i c1 w1 h1
   split at h
   ·rename_i c2 ws2 h2
    simp only [oj,pj] at h
    obtain ⟨rfl,rfl⟩:=h
    obtain ⟨hk1,hk2⟩:=QU hk
    have hsc2:Ob w X Ec (UO A f (i + 1) ws2):=by
     rcases hsc with hsc | hsc
     ·simp only [UO] at hsc
      split at hsc
      ·split at hsc
       ·exact .inl hsc
       ·cases hsc
      ·exact .inl hsc
     ·exact .inr hsc
    have hrest:=Y8 ho hw hbl hS hle i3 h2 hk2 hsc2
    have first:One Ec w1 u F1:=by
     split at h1
     ·rename_i hm
      have hF1:=i4 (by show Ho (A.mode f i)=false;rw [hm];rfl)
      subst hF1
      have hsw:Ob w X Ec (noB w1):=by
       rcases hsc with hsc | hsc
       ·simp only [UO,hm] at hsc
        split at hsc
        ·rename_i hq;exact .inl hq
        ·cases hsc
       ·exact .inr hsc
      refine ⟨cs,(SS ho hw hbl hS hle 9).1 (jv _ i1) (fun b hb=>by cases hb) h1 hk1 hsw,?_⟩
      unfold Qf at i2 ⊢
      rw [jy h1,jx]
      exact i2
     ·simp only [oj,pj] at h1
      obtain ⟨rfl,rfl⟩:=h1
      exact ⟨cs,keep i1,i2⟩
     ·simp only [oj,pj] at h1
      obtain ⟨rfl,rfl⟩:=h1
      exact ⟨cs,keep i1,i2⟩
     ·split at h1
      ·simp at h1
      ·simp only [oj,pj] at h1
       obtain ⟨rfl,rfl⟩:=h1
       exact ⟨cs,keep i1,i2⟩
    exact ⟨u,r,F1,F2,rfl,rfl,first,hrest⟩
   ·simp at h
  ·simp at h
def XB (w:World) (bl:BL) (G:GT) (F:List Nat):Nat→Prop:=fun b=>(Ja w bl G F).S b∧Kept.K b
theorem Y9 {f:FuncId} (ho:Ok w bl G X) {vs:List V} {ts:List Ty} {vals:List Value} {us:List V} {c:List Jk} {F Y:List Nat} (hY:∀ b ∈ Y,b ∈ X)
  (hv:UK (Ja w bl G X) (fun j=>Ho (A.mode f j)) 0 vs vals F) (h:Q9 A f bl 0 ts vs=some (c,us)) (hk:∀ k ∈ c,k.ok) :
  Tup (Q2 (fun _=>True) w Y) us vals F∧(UO A f 0 us=true→Tup (Q2 (XB w bl G X) w Y) us vals F):=
 ⟨Y8 (Ec:=Q2 (fun _=>True) w Y) ho rfl rfl (fun b hb hx=>(⟨hb,fun hm=>hx (hY b hm)⟩:b<w.heap.size∧b ∉ Y)) ⟨fun b hb=>⟨⟨hb.1,fun hx=>hb.2 (.inl (hY b hx))⟩,rfl⟩,Nat.le_refl _,fun _ _ _=>trivial⟩ hv h hk (.inr fun _ _ _=>trivial),
  fun hs=>Y8 (Ec:=Q2 (XB w bl G X) w Y) ho rfl rfl (fun b hb hx=>(⟨hb,fun hm=>hx (hY b hm)⟩:b<w.heap.size∧b ∉ Y)) ⟨fun b hb=>⟨⟨hb.1,fun hx=>hb.2 (.inl (hY b hx))⟩,rfl⟩,Nat.le_refl _,fun b h1 h2=>⟨h1,h2⟩⟩ hv h hk (.inl hs)⟩
theorem jz {f:FuncId} {vs:List V} {ts:List Ty} {vals:List Value} {us:List V} {c:List Jk} (hc:JX w bl G w0 F0) (hv:Tup (Ja w bl G []) vs vals []) (h:O9 A f bl ts vs=some (c,us,b')) (hk:∀ k ∈ c,k.ok) :
  ∃ F G',JK w b' G' F w0 F0∧Tup (Q2 (fun _=>True) w F) us vals F∧Jx (Ja w bl G []) (Ja w b' G' F) (fun _=>False)∧(UO A f 0 us=true→Tup (Q2 (XB w b' G' F) w F) us vals F):=by
 unfold O9 at h
 split at h
 ·rename_i c1 ws b1 h1
  split at h
  ·rename_i c2 us2 h2
   simp only [oj,pj] at h
   obtain ⟨rfl,rfl,rfl⟩:=h
   obtain ⟨hk1,hk2⟩:=QU hk
   obtain ⟨F,G',q1,q2,q3⟩:=SU (A:=A) hc.x hv h1 hk1
   rw [List.append_nil] at q1 q2 q3
   obtain ⟨r1,r2⟩:=Y9 q1.ok (fun b hb=>hb) q2 h2 hk2
   exact ⟨F,G',q1,r1,q3,r2⟩
  ·simp at h
 ·simp at h
end
end Go.Rai
namespace Go.Rai
variable [Inhabited Qk]
mutual
theorem Oc {E E':Env} (hw:E'.w=E.w):∀ (v:V) {cs:List Value} {F:List Nat},JH v=true→InV E v cs F→InV E' v cs F
 | .int _ _,_,_,_,h=>by unfold InV at h ⊢;exact h
 | .bool _,_,_,_,h=>by unfold InV at h ⊢;exact h
 | .str _,_,_,_,h=>by unfold InV at h ⊢;exact h
 | .own e l,_,_,_,h=>by unfold InV at h ⊢;rw [hw];exact h
 | .ownh _ _ _,_,_,ho,_=>by simp [JH] at ho
 | .mp _,_,_,ho,_=>by simp [JH] at ho
 | .mref _,_,_,ho,_=>by simp [JH] at ho
 | .arr n e l,_,_,_,h=>by unfold InV at h ⊢;rw [hw];exact h
 | .agg vs,cs,F,ho,h=>by unfold JH at ho;unfold InV at h ⊢;exact SW hw vs ho h
 | .obox v,cs,F,ho,h=>by
  unfold JH at ho
  unfold InV at h ⊢
  obtain ⟨a,cs',F',h1,h2,h3⟩:=h
  exact ⟨a,cs',F',h1,Oc hw v ho h2,by rw [hw];exact h3⟩
 | .tup vs,_,_,_,h=>by unfold InV at h;exact h.elim
 | .undef,_,_,ho,_=>by simp [JH] at ho
 | .void,_,_,ho,_=>by simp [JH] at ho
 | .rd _ _,_,_,ho,_=>by simp [JH] at ho
 | .lst _ _,_,_,ho,_=>by simp [JH] at ho
 | .nilsl,_,_,ho,_=>by simp [JH] at ho
 | .emp _,_,_,ho,_=>by simp [JH] at ho
 | .rp _,_,_,ho,_=>by simp [JH] at ho
 | .full _ _ _,_,_,ho,_=>by simp [JH] at ho
 | .sub _ _ _ _ _,_,_,ho,_=>by simp [JH] at ho
 | .ptr _ _,_,_,ho,_=>by simp [JH] at ho
 | .fn _ _,_,_,ho,_=>by simp [JH] at ho
 | .nilfn,_,_,ho,_=>by simp [JH] at ho
 | .nilptr,_,_,_,h=>by unfold InV at h ⊢;exact h
theorem SW {E E':Env} (hw:E'.w=E.w):∀ (vs:List V) {cs:List Value} {F:List Nat},Hc vs=true→Jj E vs cs F→Jj E' vs cs F
 | [],_,_,_,h=>by unfold Jj at h ⊢;exact h
 | v :: vs,cs,F,ho,h=>by
  unfold Hc at ho;rw [Je] at ho
  unfold Jj at h ⊢
  obtain ⟨c1,c2,F1,F2,e1,e2,h1,h2⟩:=h
  exact ⟨c1,c2,F1,F2,e1,e2,Oc hw v ho.1 h1,SW hw vs ho.2 h2⟩
end
mutual
theorem Wv {E E':Env} (hw:E'.w=E.w):∀ (v:V) {cs:List Value} {F:List Nat},Qc v=true→InV E v cs F→InV E' v cs F
 | .int _ _,_,_,_,h=>by unfold InV at h ⊢;exact h
 | .bool _,_,_,_,h=>by unfold InV at h ⊢;exact h
 | .str _,_,_,_,h=>by unfold InV at h ⊢;exact h
 | .own e l,_,_,_,h=>by unfold InV at h ⊢;rw [hw];exact h
 | .ownh _ _ _,_,_,ho,_=>by simp [Qc] at ho
 | .mp _,_,_,ho,_=>by simp [Qc] at ho
 | .mref _,_,_,ho,_=>by simp [Qc] at ho
 | .arr n e l,_,_,_,h=>by unfold InV at h ⊢;rw [hw];exact h
 | .agg vs,cs,F,ho,h=>by unfold Qc at ho;unfold InV at h ⊢;exact SX hw vs ho h
 | .obox v,cs,F,ho,h=>by
  unfold Qc at ho
  unfold InV at h ⊢
  obtain ⟨a,cs',F',h1,h2,h3⟩:=h
  exact ⟨a,cs',F',h1,Wv hw v ho h2,by rw [hw];exact h3⟩
 | .tup vs,_,_,_,h=>by unfold InV at h;exact h.elim
 | .undef,_,_,ho,_=>by simp [Qc] at ho
 | .void,_,_,ho,_=>by simp [Qc] at ho
 | .rd _ _,_,_,ho,_=>by simp [Qc] at ho
 | .lst _ _,_,_,ho,_=>by simp [Qc] at ho
 | .nilsl,_,_,_,h=>by unfold InV at h ⊢;exact h
 | .emp _,_,_,ho,_=>by simp [Qc] at ho
 | .rp _,_,_,ho,_=>by simp [Qc] at ho
 | .full _ _ _,_,_,ho,_=>by simp [Qc] at ho
 | .sub _ _ _ _ _,_,_,ho,_=>by simp [Qc] at ho
 | .ptr _ _,_,_,ho,_=>by simp [Qc] at ho
 | .fn _ _,_,_,ho,_=>by simp [Qc] at ho
 | .nilfn,_,_,ho,_=>by simp [Qc] at ho
 | .nilptr,_,_,_,h=>by unfold InV at h ⊢;exact h
theorem SX {E E':Env} (hw:E'.w=E.w):∀ (vs:List V) {cs:List Value} {F:List Nat},Hd vs=true→Jj E vs cs F→Jj E' vs cs F
 | [],_,_,_,h=>by unfold Jj at h ⊢;exact h
 | v :: vs,cs,F,ho,h=>by
  unfold Hd at ho;rw [Je] at ho
  unfold Jj at h ⊢
  obtain ⟨c1,c2,F1,F2,e1,e2,h1,h2⟩:=h
  exact ⟨c1,c2,F1,F2,e1,e2,Wv hw v ho.1 h1,SX hw vs ho.2 h2⟩
end
end Go.Rai
namespace Go.Rai
variable [Inhabited Qk]
theorem OQ {a b:Bool}:bor a b=false ↔ a=false∧b=false:=by cases a<;>cases b<;>simp [bor]
mutual
theorem SY {E:Env}:∀ (v:V) {cs:List Value} {F:List Nat},Qc v=true→QE v=false→InV E v cs F→F=[]
 | .int _ _,_,_,_,_,h=>by unfold InV at h;exact h.2
 | .bool _,_,_,_,_,h=>by unfold InV at h;exact h.2
 | .str _,_,_,_,_,h=>by unfold InV at h;exact h.2
 | .own e l,_,_,_,hn,h=>by simp [QE] at hn
 | .ownh _ _ _,_,_,_,hn,h=>by simp [QE] at hn
 | .mp _,_,_,_,hn,h=>by simp [QE] at hn
 | .mref _,_,_,_,_,h=>by unfold InV at h;exact h.1
 | .arr n e l,_,_,_,_,h=>by unfold InV at h;exact Hk (fun d c G hd=>Hl e h.2.1 hd) h.2.2
 | .agg vs,cs,F,ho,hn,h=>by unfold Qc at ho;unfold QE at hn;unfold InV at h;exact SZ vs ho hn h
 | .obox v,cs,F,ho,hn,h=>by simp [QE] at hn
 | .tup vs,_,_,_,_,h=>by unfold InV at h;exact h.elim
 | .undef,_,_,ho,_,_=>by simp [Qc] at ho
 | .void,_,_,ho,_,_=>by simp [Qc] at ho
 | .rd _ _,_,_,ho,_,_=>by simp [Qc] at ho
 | .lst _ _,_,_,ho,_,_=>by simp [Qc] at ho
 | .nilsl,_,_,_,_,h=>by unfold InV at h;exact h.2
 | .emp _,_,_,ho,_,_=>by simp [Qc] at ho
 | .rp _,_,_,ho,_,_=>by simp [Qc] at ho
 | .full _ _ _,_,_,ho,_,_=>by simp [Qc] at ho
 | .sub _ _ _ _ _,_,_,ho,_,_=>by simp [Qc] at ho
 | .ptr _ _,_,_,ho,_,_=>by simp [Qc] at ho
 | .fn _ _,_,_,ho,_,_=>by simp [Qc] at ho
 | .nilfn,_,_,ho,_,_=>by simp [Qc] at ho
 | .nilptr,_,_,_,_,h=>by unfold InV at h;exact h.2
theorem SZ {E:Env}:∀ (vs:List V) {cs:List Value} {F:List Nat},Hd vs=true→Ci vs=false→Jj E vs cs F→F=[]
 | [],_,_,_,_,h=>by unfold Jj at h;exact h.2
 | v :: vs,cs,F,ho,hn,h=>by
  unfold Hd at ho;rw [Je] at ho
  unfold Ci at hn;rw [OQ] at hn
  unfold Jj at h
  obtain ⟨c1,c2,F1,F2,e1,e2,h1,h2⟩:=h
  rw [e2,SY v ho.1 hn.1 h1,SZ vs ho.2 hn.2 h2]
  rfl
end
section
variable {P:Program} {A:Ann} {w w' w0:World} {F0:List Nat} {sl:List V} {a:Act} {bl b':BL} {G:GT} {o:Oper} {X:List Nat}
theorem S0 {F:List Nat} (h:JK w bl G (F ++ X) w0 F0) {s:Nat} {x x':V} {cs:List Value} {v:Value} (hx:InV (Ja w bl G (F ++ X)) x cs F) (hu:Qf x cs v) (ho:Qc x=true)
  (hf:place sl bl s x=some (x',b')):∃ G',JK w b' G' X w0 F0∧One (Ja w b' G' X) x' v []∧Jx (Ja w bl G (F ++ X)) (Ja w b' G' X) (fun t=>t ∉ Jl sl):=by
 unfold place at hf
 split at hf
 ·split at hf
  ·rename_i hun
   simp only [oj,pj] at hf
   obtain ⟨rfl,rfl⟩:=hf
   obtain ⟨u1,u2,u3,u4⟩:=C6 hun
   obtain ⟨g1,g2⟩:=h.add u1 u3 hx u4
   refine ⟨_,g1,?_,⟨g2.le,fun t ht=>g2.al t (fun e=>ht (by rw [e];exact u2))⟩⟩
   have hb:Jb (Jp bl s x) s=some x:=by rw [JG];simp
   have hin:=YH (Fv:=F) (E:=Ja w (Jp bl s x) (fun q=>if q=s then some (cs,F) else G q) X) (s:=s) (c0:=x) (rc:=cs) (F:=F) hb (by simp [Ja]) x (p:=[]) (L:=.reg cs) (by simp [Jf]) ⟨[],by simp⟩ (g2.inV (fun s' hs' hst=>u4 (hst ▸ hs')) (fun b _=>rfl) hx)
   refine ⟨cs,hin,?_⟩
   unfold Qf at hu ⊢
   rw [T3]
   exact hu
  ·simp at hf
 ·rename_i hno
  simp only [oj,pj] at hf
  obtain ⟨rfl,rfl⟩:=hf
  have hF:=SY x ho hno hx
  subst hF
  exact ⟨G,h,⟨cs,hx,hu⟩,⟨(Jx.refl_ _ (fun _=>False)).le,fun t _=>(Jx.refl_ _ (fun _=>False)).al t id⟩⟩
theorem Jx.mono {E E':Env} {N N':Nat→Prop} (h:Jx E E' N) (hn:∀ s,N s→N' s):Jx E E' N':=⟨h.le,fun s hs=>h.al s (fun hN=>hs (hn s hN))⟩
theorem XC {E E':Env} (hw:E'.w=E.w):∀ {xs:List V} {vs:List Value} {F:List Nat},Hd xs=true→Tup E xs vs F→Tup E' xs vs F
 | [],vs,F,_,h=>h
 | x :: xs,vs,F,ho,⟨v,r,F1,F2,e1,e2,⟨cs,h1,h2⟩,h3⟩=>by
  unfold Hd at ho;rw [Je] at ho
  exact ⟨v,r,F1,F2,e1,e2,⟨cs,Wv hw x ho.1 h1,h2⟩,XC hw ho.2 h3⟩
theorem S1 {s:Nat}:∀ {vs:List V} {j:Nat} {sl:List V} {bl b':BL} {G:GT} {X F:List Nat} {xs:List V} {vals:List Value},JK w bl G (F ++ X) w0 F0→Tup (Ja w bl G (F ++ X)) vs vals F→Hd vs=true →
  Hw s sl bl j vs=some (xs,b')→∃ G',JK w b' G' X w0 F0∧Tup (Ja w b' G' X) xs vals []∧Jx (Ja w bl G (F ++ X)) (Ja w b' G' X) (fun t=>t ∉ Jl sl)
 | [],j,sl,bl,b',G,X,F,xs,vals,hc,hv,ho,h=>by
  simp only [Hw,oj,pj] at h
  obtain ⟨rfl,rfl⟩:=h
  obtain ⟨rfl,rfl⟩:=hv
  exact ⟨G,hc,⟨rfl,rfl⟩,(Jx.refl_ _ (fun _=>False)).mono (fun _ h=>h.elim)⟩
 | v :: vs,j,sl,bl,b',G,X,F,xs,vals,hc,hv,ho,h=>by
  unfold Hd at ho;rw [Je] at ho
  obtain ⟨u,r,F1,F2,rfl,rfl,⟨cs,i1,i2⟩,i3⟩:=hv
  simp only [Hw] at h
  split at h
  ·rename_i x b1 h1
   split at h
   ·rename_i ys b2 h2
    simp only [oj,pj] at h
    obtain ⟨rfl,rfl⟩:=h
    obtain ⟨p1,p2⟩:=hc.perm (show ((F1 ++ F2) ++ X).Perm (F1 ++ (F2 ++ X)) by rw [List.append_assoc])
    obtain ⟨G1,q1,⟨cs',q3,q5⟩,q4⟩:=S0 (sl:=sl) (X:=F2 ++ X) p1 (Wv (E:=Ja w bl G ((F1 ++ F2) ++ X)) (E':=Ja w bl G (F1 ++ (F2 ++ X))) rfl v ho.1 i1) i2 ho.1 h1
    obtain ⟨G2,r1,r2,r3⟩:=S1 (sl:=x :: sl) q1 (XC (E:=Ja w bl G ((F1 ++ F2) ++ X)) (E':=Ja w b1 G1 (F2 ++ X)) rfl ho.2 i3) ho.2 h2
    have hg:Jx (Ja w bl G ((F1 ++ F2) ++ X)) (Ja w b1 G1 (F2 ++ X)) (fun t=>t ∉ Jl sl):=(p2.mono (fun _ h=>h.elim)).trans q4
    have hg2:Jx (Ja w b1 G1 (F2 ++ X)) (Ja w b2 G2 X) (fun t=>t ∉ Jl sl):=r3.mono (fun t ht hm=>ht (by simp [Jl,Ju,hm]))
    have hx:One (Ja w b2 G2 X) x u []:=⟨cs',r3.inV (fun t ht hn=>hn (by simp [Jl,Ju,ht])) (fun _ hb=>by cases hb) q3,q5⟩
    exact ⟨G2,r1,⟨u,r,[],[],rfl,rfl,hx,r2⟩,hg.trans hg2⟩
   ·simp at h
  ·simp at h
theorem Ka {F:List Nat} (h:JK w bl G F w0 F0) (hs:Jy (Ja w bl G F) sl a) {d:Option Nat} {x x':V} {v:Value} {E:Env} (hE:E.w=w) (hx:Val E x v F) (ho:Qc x=true)
  (hf:Uc sl bl d x=some (x',b')):∃ G',JX w b' G' w0 F0∧Jy (Ja w b' G' []) sl a∧Val (Ja w b' G' []) x' v []:=by
 unfold Uc at hf
 have hF0:F ++ []=F:=List.append_nil F
 split at hf
 ·rename_i s
  split at hf
  ·rename_i vs
   split at hf
   ·rename_i xs b1 hp
    simp only [oj,pj] at hf
    obtain ⟨rfl,rfl⟩:=hf
    obtain ⟨vals,rfl,ht⟩:=hx
    unfold Qc at ho
    obtain ⟨G',g1,g2,g3⟩:=S1 (X:=[]) (F:=F) (by rw [hF0];exact h) (XC (E:=E) (E':=Ja w bl G (F ++ [])) (by rw [hE];rfl) ho ht) ho hp
    rw [hF0] at g3
    exact ⟨G',g1.c,hs.goes g3 (fun t ht hn=>hn ht),⟨vals,rfl,g2⟩⟩
   ·simp at hf
  ·rename_i hnt
   have hone:One E x v F:=by
    cases x<;>first | exact hx | (simp [Qc] at ho;done) | exact absurd rfl (hnt _)
   obtain ⟨cs,h1,h2⟩:=hone
   obtain ⟨G',g1,g2,g3⟩:=S0 (sl:=sl) (X:=[]) (F:=F) (by rw [hF0];exact h) (Wv (E:=E) (E':=Ja w bl G (F ++ [])) (by rw [hE];rfl) x ho h1) h2 ho hf
   rw [hF0] at g3
   exact ⟨G',g1.c,hs.goes g3 (fun t ht hn=>hn ht),Xp g2⟩
 ·simp only [oj,pj] at hf
  obtain ⟨rfl,rfl⟩:=hf
  obtain ⟨p1,p2⟩:=h.sub (X':=[]) (by simp) (fun b hb=>by cases hb)
  exact ⟨G,p1.c,hs.go0 p2,Cq⟩
end
end Go.Rai
namespace Go.Rai
variable [Inhabited Qk]
section
variable {P:Program} {A:Ann} {w w' w0:World} {F0:List Nat} {sl:List V} {a:Act} {bl b':BL} {G:GT} {o:Oper} {X:List Nat}
theorem VE {E:Env} {x:V} {v:Value} (hx:∀ xs,x ≠ .tup xs) (h:Val E x v []):One E x v []:=by
 cases x with
 | tup xs=>exact absurd rfl (hx xs)
 | undef=>exact ⟨[v],by unfold InV;exact ⟨⟨v,rfl⟩,rfl⟩,by unfold Qf;rfl⟩
 | _=>exact h
theorem XD {E:Env} (hs:Jy E sl a) {io:Nat→Bool}:∀ {xs:List Operand} {i:Nat},Q0 (Jm sl xs)=true→UK E io i (Jm sl xs) (xs.map a.eval) []
 | [],i,_=>⟨rfl,rfl⟩
 | x :: xs,i,h=>by
  simp only [Jm] at h
  have hx:(∀ ys,opd sl x ≠ .tup ys)∧Q0 (Jm sl xs)=true:=by
   cases hq:opd sl x<;>rw [hq] at h<;>simp [Q0] at h<;>exact ⟨(by intro ys hh;cases hh),h⟩
  exact ⟨a.eval x,xs.map a.eval,[],[],rfl,rfl,VE hx.1 (JJ hs x),fun _=>rfl,XD hs hx.2⟩
theorem XE {E:Env} {io:Nat→Bool}:∀ {caps:List V} {i:Nat} {vals:List Value},HJ caps=true→Jj E caps vals []→UK E io i caps vals []
 | [],i,vals,_,h=>by unfold Jj at h;exact h
 | x :: caps,i,vals,h,hi=>by
  unfold Jj at hi
  obtain ⟨c1,c2,F1,F2,e1,e2,h1,h2⟩:=hi
  obtain ⟨rfl,rfl⟩:=List.append_eq_nil_iff.1 e2.symm
  have hx:isA x=false∧vsz x=1∧HJ caps=true:=by
   cases x<;>simp [HJ] at h<;>exact ⟨rfl,rfl,h⟩
  have hl:=Qq _ h1
  rw [hx.2.1] at hl
  match c1,hl with
  | [u],_=>exact ⟨u,c2,[],[],e1,rfl,⟨[u],h1,by unfold Qf;rw [hx.1]⟩,fun _=>rfl,XE hx.2.2 h2⟩
theorem XF {E:Env} {io:Nat→Bool}:∀ {xs ys:List V} {i:Nat} {vs us:List Value} {F F':List Nat},UK E io i xs vs F→UK E io (i + xs.length) ys us F'→UK E io i (xs ++ ys) (vs ++ us) (F ++ F')
 | [],ys,i,vs,us,F,F',h,h'=>by obtain ⟨rfl,rfl⟩:=h;exact h'
 | x :: xs,ys,i,vs,us,F,F',⟨v,r,F1,F2,e1,e2,h1,h2,h3⟩,h'=>by
  subst e1;subst e2
  exact ⟨v,r ++ us,F1,F2 ++ F',by simp,by simp,h1,h2,XF h3 (by rw [show i + 1 + xs.length=i + (x :: xs).length by simp;omega];exact h')⟩
theorem S2 {E:Env} {io:Nat→Bool}:∀ {xs:List V} {i:Nat} {vs:List Value} {F:List Nat},UK E io i xs vs F→vs.length=xs.length
 | [],i,vs,F,h=>by rw [h.1];rfl
 | x :: xs,i,vs,F,⟨v,r,F1,F2,e1,e2,h1,h2,h3⟩=>by subst e1;simp [S2 h3]
theorem S3 {E:Env} {f:FuncId}:∀ {vs outs:List V} {i:Nat} {vals:List Value} {Fo:List Nat},UG A f i vs=false→vals.length=vs.length→CP E (fun j=>Qh (A.mode f j)) i outs vals Fo→Fo=[]
 | vs,[],i,vals,Fo,_,_,h=>h.2
 | [],x :: outs,i,vals,Fo,_,hl,⟨v,r,F1,F2,e1,_⟩=>by subst e1;simp at hl
 | _ :: vs,x :: outs,i,vals,Fo,hio,hl,⟨v,r,F1,F2,e1,e2,h1,h2,h3⟩=>by
  subst e1;subst e2
  simp only [UG] at hio
  split at hio
  ·cases hio
  ·cases hio
  ·rename_i hm hm2
   have hf:Qh (A.mode f i)=false:=by
    cases hq:A.mode f i with
    | io=>exact absurd hq hm
    | take=>rfl
    | lend=>rfl
    | keep=>rfl
   rw [h2 hf,S3 hio (by simpa using hl) h3]
   rfl
theorem Kb {f : FuncId} {args : Array Value} {fn : Func} (j1 : P.funcs[f]? = some fn) (j2 : (fn.name == "runtime.NumGoroutine") = false) (j3 : fn.body.isNone = false) : (callFunc f args).run P w = .ok (.enter f args) w := by
 unfold callFunc
 simp only [Sem.run_bind,run_program,Result.andThen_ok,j1,j2,j3,Bool.false_eq_true,if_false,Sem.run_pure]
end
end Go.Rai
namespace Go.Rai
variable [Inhabited Qk]
theorem jC (b:Bool):undef ≠ Value.bool b:=by intro h;cases h
section
variable {P:Program} {A:Ann} {w w' w0:World} {F0:List Nat} {sl:List V} {a:Act} {bl b':BL} {G:GT} {o:Oper} {X:List Nat}
theorem Kc:∀ (l:List Oper) (j:Nat),Hx l j=(l[j]?).bind (·.dst)
 | [],j=>by simp [Hx]
 | o :: l,0=>by simp [Hx]
 | o :: l,j + 1=>by simp [Hx,Kc l j]
theorem Ww:∀ {sl:List V} {t:Nat} {v:V},Jw sl t=v→v ≠ .undef→JD sl t v=sl
 | [],t,v,h,hn=>by simp [Jw] at h;exact absurd h.symm hn
 | x :: sl,0,v,h,hn=>by simp [Jw] at h;simp [JD,h]
 | x :: sl,t + 1,v,h,hn=>by simp [Jw] at h;simp [JD,Ww h hn]
theorem S4 {ops:Array Oper} {E:Env} (hs:Jy E sl a) {j t:Nat} (hd:Hx ops.toList j=some t) {b:Bool} (hb:Jw sl t=.bool b):yielded ops a.tmps j=some b:=by
 rw [Kc] at hd
 have hv:=hs t
 rw [hb] at hv
 obtain ⟨hv,_⟩:=QL.1 hv
 have:a.tmps[t]?=some (.bool b):=by
  rw [Array.getD_eq_getD_getElem?] at hv
  cases hq:a.tmps[t]? with
  | none=>rw [hq] at hv;exact absurd hv (jC b)
  | some u=>rw [hq] at hv;simp at hv;rw [hv]
 unfold yielded
 rw [show ops[j]?=ops.toList[j]? by simp,hd]
 simp [this]
theorem jD {ops:Array Oper} {E:Env} (hs:Jy E sl a) {j t:Nat} (hd:Hx ops.toList j=some t) (hb:Jw sl t=.void):yielded ops a.tmps j=none:=by
 rw [Kc] at hd
 have hv:=hs t
 rw [hb] at hv
 obtain ⟨hv,_⟩:=OE.1 hv
 unfold yielded
 rw [show ops[j]?=ops.toList[j]? by simp,hd]
 simp only [ob]
 rw [Array.getD_eq_getD_getElem?] at hv
 cases hq:a.tmps[t]? with
 | none=>simp
 | some u=>rw [hq] at hv;simp at hv;subst hv;rfl
end
end Go.Rai
namespace Go.Rai
variable [Inhabited Qk]
theorem S5 (f:Nat→Nat):∀ (v:V),vsz (ren f v)=vsz v
 | .agg vs=>by
  unfold ren vsz
  exact go vs
 | .arr _ _ _=>rfl
 | .int _ _=>rfl
 | .bool _=>rfl
 | .str _=>rfl
 | .own _ _=>rfl
 | .ownh _ _ _=>rfl
 | .rd _ _=>rfl
 | .lst _ _=>rfl
 | .nilsl=>rfl
 | .emp _=>rfl
 | .obox _=>rfl
 | .rp _=>rfl
 | .full _ _ _=>rfl
 | .sub _ _ _ _ _=>rfl
 | .ptr _ _=>rfl
 | .fn _ _=>rfl
 | .nilfn=>rfl
 | .nilptr=>rfl
 | .mp _=>rfl
 | .mref _=>rfl
 | .undef=>rfl
 | .void=>rfl
 | .tup _=>rfl
 where go:∀ (vs:List V),Jt (QA f vs)=Jt vs
 | []=>rfl
 | v :: vs=>by unfold QA Jt;rw [S5 f v,go vs]
theorem Wx (f:Nat→Nat) (vs:List V):Jt (QA f vs)=Jt vs:=by
 induction vs with
 | nil=>rfl
 | cons v vs ih=>unfold QA Jt;rw [S5,ih]
theorem XG (f:Nat→Nat):∀ (vs:List V),(QA f vs).length=vs.length
 | []=>rfl
 | v :: vs=>by unfold QA;simp [XG f vs]
theorem XH (f:Nat→Nat):∀ (vs:List V) (j:Nat),nth (QA f vs) j=(nth vs j).map (ren f)
 | [],j=>by simp [QA,nth]
 | v :: vs,0=>by simp [QA,nth]
 | v :: vs,j + 1=>by simp [QA,nth,XH f vs j]
theorem XI (f:Nat→Nat):∀ (vs:List V) (j:Nat),(QA f vs).take j=QA f (vs.take j)
 | [],j=>by simp [QA]
 | v :: vs,0=>by simp [QA]
 | v :: vs,j + 1=>by simp [QA,XI f vs j]
theorem Kd (f:Nat→Nat) (v:V):QB (ren f v)=QB v:=by cases v<;>rfl
theorem jE (f:Nat→Nat) (v:V):isA (ren f v)=isA v:=by cases v<;>rfl
mutual
theorem VF (f:Nat→Nat):∀ (v:V),Jd v=[]→ren f v=v
 | .agg vs,h=>by unfold ren;unfold Jd at h;rw [Wy f vs h]
 | .lst e vs,h=>by unfold ren;unfold Jd at h;rw [Wy f vs h]
 | .tup vs,h=>by unfold ren;unfold Jd at h;rw [Wy f vs h]
 | .fn g vs,h=>by unfold ren;unfold Jd at h;rw [Wy f vs h]
 | .obox v,h=>by unfold ren;unfold Jd at h;rw [VF f v h]
 | .rp v,h=>by unfold ren;unfold Jd at h;rw [VF f v h]
 | .full _ _ _,h=>by simp [Jd] at h
 | .sub _ _ _ _ _,h=>by simp [Jd] at h
 | .ptr _ _,h=>by simp [Jd] at h
 | .arr _ _ _,_=>rfl
 | .int _ _,_=>rfl
 | .bool _,_=>rfl
 | .str _,_=>rfl
 | .own _ _,_=>rfl
 | .ownh _ _ _,_=>rfl
 | .rd _ _,_=>rfl
 | .nilsl,_=>rfl
 | .emp _,_=>rfl
 | .nilfn,_=>rfl
 | .nilptr,_=>rfl
 | .mp _,_=>rfl
 | .mref _,h=>by simp [Jd] at h
 | .undef,_=>rfl
 | .void,_=>rfl
theorem Wy (f:Nat→Nat):∀ (vs:List V),Jl vs=[]→QA f vs=vs
 | [],_=>rfl
 | v :: vs,h=>by
  unfold Jl at h
  rw [Qd,List.append_eq_nil_iff] at h
  unfold QA
  rw [VF f v h.1,Wy f vs h.2]
end
theorem Cv (f:Nat→Nat) {w:World}:∀ (p:List Nat) (v:V) (L:Ji) (x':V) (L':Ji),Jf w (ren f v) L p=some (x',L')→∃ x,Jf w v L p=some (x,L')∧x'=ren f x
 | [],v,L,x',L',h=>by
  simp only [Jf,oj,pj] at h
  exact ⟨v,by simp [Jf,h.2],h.1.symm⟩
 | j :: p,v,L,x',L',h=>by
  cases v with
  | agg vs=>
   simp only [ren,Jf,XH,XI,Wx] at h
   cases hj:nth vs j with
   | none=>rw [hj] at h;simp at h
   | some xj=>
    rw [hj] at h
    simp only [Option.map_some] at h
    obtain ⟨x,h1,h2⟩:=Cv f p xj _ x' L' h
    exact ⟨x,by simp only [Jf,hj];exact h1,h2⟩
  | lst e vs=>
   simp only [ren,Jf,XH,XI,Wx] at h
   cases hj:nth vs j with
   | none=>rw [hj] at h;simp at h
   | some xj=>
    rw [hj] at h
    simp only [Option.map_some] at h
    split at h
    ·rename_i a _ _ hh
     obtain ⟨x,h1,h2⟩:=Cv f p xj _ x' L' h
     exact ⟨x,by simp only [Jf,hj,hh];exact h1,h2⟩
    ·simp at h
  | fn g vs=>
   simp only [ren,Jf,XH,XI,Wx] at h
   cases hj:nth vs j with
   | none=>rw [hj] at h;simp at h
   | some xj=>
    rw [hj] at h
    simp only [Option.map_some] at h
    split at h
    ·rename_i a _ _ hh
     obtain ⟨x,h1,h2⟩:=Cv f p xj _ x' L' h
     exact ⟨x,by simp only [Jf,hj,hh];exact h1,h2⟩
    ·simp at h
  | obox y=>
   simp only [ren,Jf] at h
   split at h
   ·rename_i a hh
    obtain ⟨x,h1,h2⟩:=Cv f p y _ x' L' h
    exact ⟨x,by simp only [Jf,hh];exact h1,h2⟩
   ·simp at h
  | own e l=>
   simp only [ren,Jf] at h
   split at h
   ·rename_i hj
    split at h
    ·rename_i a _ _ hh
     rw [← VF f (dec true e (l.getD j (.int 0))) (Vk true e _)] at h
     obtain ⟨x,h1,h2⟩:=Cv f p _ _ x' L' h
     exact ⟨x,by simp only [Jf,if_pos hj,hh];exact h1,h2⟩
    ·simp at h
   ·simp at h
  | ownh e l i=>
   simp only [ren,Jf] at h
   split at h
   ·rename_i hj
    split at h
    ·rename_i a _ _ hh
     have hns:Jd (if j=i then .undef else dec true (.slice e) (l.getD j (.int 0)))=[]:=by
      split
      ·rfl
      ·exact Vk true _ _
     rw [← VF f _ hns] at h
     obtain ⟨x,h1,h2⟩:=Cv f p _ _ x' L' h
     exact ⟨x,by simp only [Jf,if_pos hj,hh];exact h1,h2⟩
    ·simp at h
   ·simp at h
  | arr n e l=>
   simp only [ren,Jf] at h
   split at h
   ·rename_i hj
    rw [← VF f (dec true e (l.getD j (.int 0))) (Vk true e _)] at h
    obtain ⟨x,h1,h2⟩:=Cv f p _ _ x' L' h
    exact ⟨x,by simp only [Jf,if_pos hj];exact h1,h2⟩
   ·simp at h
  | _=>simp [ren,Jf] at h
structure Ren (f:Nat→Nat) (L:List Nat) (E E':Env):Prop where
 w:E'.w=E.w
 S:∀ b,E.S b→E'.S b
 K:∀ b,E.K b→E'.K b
 al:∀ s,s ∈ L→∀ c' rc F',Jb E'.bl (f s)=some c'→E'.G (f s)=some (rc,F')→∃ c,Jb E.bl s=some c∧c'=ren f c∧E.G s=some (rc,F')
mutual
theorem Ren.inV {f:Nat→Nat} {L:List Nat} {E E':Env} (h:Ren f L E E'):∀ (v:V) {cs:List Value} {F:List Nat},(∀ s ∈ Jd v,s ∈ L)→InV E v cs F→InV E' (ren f v) cs F
 | .undef,_,_,_,hv=>by unfold ren InV at *;exact hv
 | .void,_,_,_,hv=>by unfold ren InV at *;exact hv
 | .int _ _,_,_,_,hv=>by unfold ren InV at *;exact hv
 | .bool _,_,_,_,hv=>by unfold ren InV at *;exact hv
 | .str _,_,_,_,hv=>by unfold ren InV at *;exact hv
 | .agg vs,_,_,hs,hv=>by unfold ren InV at *;exact h.inVs vs (by simpa [Jd] using hs) hv
 | .arr _ _ _,_,_,_,hv=>by unfold ren InV at *;rw [h.w];exact hv
 | .own _ _,_,_,_,hv=>by unfold ren InV at *;rw [h.w];exact hv
 | .ownh _ _ _,_,_,_,hv=>by unfold ren InV at *;rw [h.w];exact hv
 | .rd _ _,_,_,_,hv=>by
  unfold ren InV at *
  rw [h.w]
  obtain ⟨h1,h2,A,c,F',h3,h4,h5⟩:=hv
  exact ⟨h1,h2,A,c,F',h3,h4,fun b hb=>⟨h.S b (h5 b hb).1,fun he=>h.K b ((h5 b hb).2 he)⟩⟩
 | .lst e vs,_,_,hs,hv=>by
  unfold ren InV at *
  rw [h.w,XG,Wx]
  obtain ⟨a,c,cs',F',h1,h2,h3,h4,h5⟩:=hv
  exact ⟨a,c,cs',F',h1,h2,h3,h.inVs vs (by simpa [Jd] using hs) h4,h5⟩
 | .nilsl,_,_,_,hv=>by unfold ren InV at *;exact hv
 | .emp _,_,_,_,hv=>by unfold ren InV at *;exact hv
 | .obox v,_,_,hs,hv=>by
  unfold ren InV at *
  rw [h.w]
  obtain ⟨a,cs',F',h1,h2,h3⟩:=hv
  exact ⟨a,cs',F',h1,h.inV v (by simpa [Jd] using hs) h2,h3⟩
 | .rp v,_,_,hs,hv=>by
  unfold ren InV at *
  rw [h.w]
  obtain ⟨h0,a,cs',h1,h2,h3,h4⟩:=hv
  exact ⟨h0,a,cs',h1,h.inV v (by simpa [Jd] using hs) h2,h3,h.S _ h4⟩
 | .full s p e,_,_,hs,hv=>by
  unfold ren InV at *
  obtain ⟨h0,h1,h2⟩:=hv
  refine ⟨h0,h1,fun c' rc F0 hl hg x' Lx hx ho=>?_⟩
  obtain ⟨c,k1,rfl,k3⟩:=h.al s (hs s (by simp [Jd])) c' rc F0 hl hg
  rw [h.w] at hx ⊢
  obtain ⟨x,e1,rfl⟩:=Cv f p c (.reg rc) x' Lx hx
  exact h2 c rc F0 k1 k3 x Lx e1 (by rw [Kd] at ho;exact ho)
 | .sub s p off len e,_,_,hs,hv=>by
  unfold ren InV at *
  obtain ⟨h0,h1,h2⟩:=hv
  refine ⟨h0,h1,fun c' rc F0 hl hg x' Lx hx ho=>?_⟩
  obtain ⟨c,k1,rfl,k3⟩:=h.al s (hs s (by simp [Jd])) c' rc F0 hl hg
  rw [h.w] at hx ⊢
  obtain ⟨x,e1,rfl⟩:=Cv f p c (.reg rc) x' Lx hx
  exact h2 c rc F0 k1 k3 x Lx e1 (by rw [Kd] at ho;exact ho)
 | .ptr s p,_,_,hs,hv=>by
  unfold ren InV at *
  obtain ⟨h0,h1,h2⟩:=hv
  refine ⟨h0,h1,fun c' rc F0 hl hg x' Lx hx=>?_⟩
  obtain ⟨c,k1,rfl,k3⟩:=h.al s (hs s (by simp [Jd])) c' rc F0 hl hg
  rw [h.w] at hx
  obtain ⟨x,e1,rfl⟩:=Cv f p c (.reg rc) x' Lx hx
  exact h2 c rc F0 k1 k3 x Lx e1
 | .fn g caps,_,_,hs,hv=>by
  unfold ren InV at *
  rw [Wx,XG]
  obtain ⟨vals,h1,h2,h3⟩:=hv
  exact ⟨vals,h1,h.inVs caps (by simpa [Jd] using hs) h2,h3⟩
 | .nilfn,_,_,_,hv=>by unfold ren InV at *;exact hv
 | .nilptr,_,_,_,hv=>by unfold ren InV at *;exact hv
 | .mp _,_,_,_,hv=>by unfold ren InV at *;rw [h.w];exact hv
 | .mref s,_,_,hs,hv=>by
  unfold ren InV at *
  obtain ⟨h0,h1,h2⟩:=hv
  refine ⟨h0,h1,fun c' rc F0 hl hg ho=>?_⟩
  obtain ⟨c,k1,rfl,k3⟩:=h.al s (hs s (by simp [Jd])) c' rc F0 hl hg
  exact h2 c rc F0 k1 k3 (by rw [Kd] at ho;exact ho)
 | .tup _,_,_,_,hv=>by unfold InV at hv;exact hv.elim
theorem Ren.inVs {f:Nat→Nat} {L:List Nat} {E E':Env} (h:Ren f L E E'):∀ (vs:List V) {cs:List Value} {F:List Nat},(∀ s ∈ Jl vs,s ∈ L)→Jj E vs cs F→Jj E' (QA f vs) cs F
 | [],_,_,_,hv=>by unfold QA Jj at *;exact hv
 | v :: vs,_,_,hs,hv=>by
  unfold QA Jj at *
  obtain ⟨c1,c2,F1,F2,e1,e2,h1,h2⟩:=hv
  exact ⟨c1,c2,F1,F2,e1,e2,h.inV v (fun s hs'=>hs s (by simp [Jl,Ju,hs'])) h1,h.inVs vs (fun s hs'=>hs s (by simp [Jl,Ju,hs'])) h2⟩
end
theorem Ren.one {f:Nat→Nat} {L:List Nat} {E E':Env} (h:Ren f L E E') {x:V} {v:Value} {F:List Nat} (hs:∀ s ∈ Jd x,s ∈ L) (hv:One E x v F):One E' (ren f x) v F:=by
 obtain ⟨cs,h1,h2⟩:=hv
 refine ⟨cs,h.inV x hs h1,?_⟩
 unfold Qf at h2 ⊢
 rw [jE]
 exact h2
theorem Ren.tup {f:Nat→Nat} {L:List Nat} {E E':Env} (h:Ren f L E E'):∀ {xs:List V} {vs:List Value} {F:List Nat},(∀ s ∈ Jl xs,s ∈ L)→Tup E xs vs F→Tup E' (QA f xs) vs F
 | [],_,_,_,hv=>hv
 | x :: xs,_,_,hs,⟨v,r,F1,F2,e1,e2,h1,h2⟩=>
  ⟨v,r,F1,F2,e1,e2,h.one (fun s hs'=>hs s (by simp [Jl,Ju,hs'])) h1,h.tup (fun s hs'=>hs s (by simp [Jl,Ju,hs'])) h2⟩
theorem Ren.val {f:Nat→Nat} {L:List Nat} {E E':Env} (h:Ren f L E E') {x:V} {v:Value} {F:List Nat} (hs:∀ s ∈ Jd x,s ∈ L) (hv:Val E x v F):Val E' (ren f x) v F:=by
 cases x with
 | tup xs=>
  obtain ⟨vs,h1,h2⟩:=hv
  exact ⟨vs,h1,h.tup (by simpa [Jd] using hs) h2⟩
 | undef=>exact hv
 | _=>exact h.one hs hv
theorem Ke {f:Nat→Nat} {b:BL}:∀ {L:List Nat} {t:Nat} {c':V},Jb (Cn f b L) t=some c'→∃ s ∈ L,f s=t∧∃ c,Jb b s=some c∧c'=ren f c
 | [],t,c',h=>by simp [Cn,Jb] at h
 | s :: L,t,c',h=>by
  unfold Cn at h
  split at h
  ·rename_i c hc
   simp only [Jb] at h
   split at h
   ·rename_i hb
    simp only [oj] at h
    exact ⟨s,by simp,Nat.eq_of_beq_eq_true hb,c,hc,h.symm⟩
   ·obtain ⟨s',h1,h2⟩:=Ke h
    exact ⟨s',by simp [h1],h2⟩
  ·obtain ⟨s',h1,h2⟩:=Ke h
   exact ⟨s',by simp [h1],h2⟩
theorem Kf:∀ (L:List Nat) (k s:Nat),k≤H2 L k s
 | [],k,s=>Nat.le_refl _
 | a :: L,k,s=>by
  unfold H2
  split
  ·exact Nat.le_refl _
  ·exact Nat.le_trans (Nat.le_succ k) (Kf L (k + 1) s)
theorem S6:∀ (L:List Nat) (k:Nat) {s t:Nat},s ∈ L→t ∈ L→H2 L k s=H2 L k t→s=t
 | [],k,s,t,hs,_,_=>by cases hs
 | a :: L,k,s,t,hs,ht,h=>by
  unfold H2 at h
  split at h
  ·rename_i h1
   have:=Nat.eq_of_beq_eq_true h1
   subst this
   split at h
   ·rename_i h2
    exact Nat.eq_of_beq_eq_true h2
   ·have:=Kf L (k + 1) t
    omega
  ·rename_i h1
   split at h
   ·have:=Kf L (k + 1) s
    omega
   ·rename_i h2
    have n1:s ≠ a:=fun e=>by subst e;rw [Nat.beq_refl] at h1;cases h1
    have n2:t ≠ a:=fun e=>by subst e;rw [Nat.beq_refl] at h2;cases h2
    exact S6 L (k + 1) ((List.mem_cons.1 hs).resolve_left n1) ((List.mem_cons.1 ht).resolve_left n2) h
theorem Kg {L:List Nat}:∀ {r:List Nat},Vc L r=true→∀ s ∈ r,s ∈ L
 | [],_,s,hs=>by cases hs
 | a :: r,h,s,hs=>by
  unfold Vc at h
  rw [Je] at h
  rcases List.mem_cons.1 hs with rfl | hs
  ·exact UJ.1 h.1
  ·exact Kg h.2 s hs
theorem Kh {b:BL} {L:List Nat}:∀ {r:List Nat},Vd b L r=true→∀ s ∈ r,∀ c,Jb b s=some c→∀ t ∈ Jd c,t ∈ L
 | [],_,s,hs=>by cases hs
 | a :: r,h,s,hs=>by
  unfold Vd at h
  intro c hc
  split at h
  ·rename_i c0 h0
   rw [Je] at h
   rcases List.mem_cons.1 hs with rfl | hs
   ·rw [h0] at hc
    simp only [oj] at hc
    subst hc
    exact Kg h.1
   ·exact Kh h.2 s hs c hc
  ·rename_i h0
   rcases List.mem_cons.1 hs with rfl | hs
   ·rw [h0] at hc
    cases hc
   ·exact Kh h s hs c hc
theorem S7 (ks:List Nat):∀ (sl:List V) (t u:Nat),Jw (CI ks t sl) u=Jw sl u ∨ Jw (CI ks t sl) u=.undef
 | [],t,u=>.inl rfl
 | v :: sl,t,0=>by
  simp only [CI,Jw]
  split
  ·exact .inl rfl
  ·exact .inr rfl
 | v :: sl,t,u + 1=>by simpa only [CI,Jw] using S7 ks sl (t + 1) u
theorem S8 (ks:List Nat):∀ (sl:List V) (t:Nat),(CI ks t sl).length=sl.length
 | [],_=>rfl
 | v :: sl,t=>by simp [CI,S8 ks sl]
theorem S9 (f:Nat→Nat):∀ (sl:List V) (t:Nat),Jw (QA f sl) t=ren f (Jw sl t)
 | [],t=>by simp [QA,Jw,ren]
 | v :: sl,0=>by simp [QA,Jw]
 | v :: sl,t + 1=>by simp [QA,Jw,S9 f sl t]
section
variable {Pn:Nat→Option Value} {P:Program} {A:Ann} {w w' w0:World} {F0:List Nat} {sl:List V} {a:Act} {bl b':BL} {G:GT} {o:Oper} {X:List Nat}
theorem Jy.mask {E:Env} (h:Jy E sl a) (ks:List Nat):Jy E (CI ks 0 sl) a:=by
 intro t
 rcases S7 ks sl 0 t with h1 | h1
 ·rw [h1];exact h t
 ·rw [h1];exact Cq
theorem jF {m:List V} {L:List Nat} (hr:Rel Pn w0 F0 ⟨m,bl⟩ a w) (h1:Vc L (Jl m)=true) (h2:Vd bl L L=true) :
  Rel Pn w0 F0 ⟨QA (H2 L 1000) m,Cn (H2 L 1000) bl L⟩ a w:=by
 obtain ⟨⟨G,hc,hs⟩,hl,hd,hpin⟩:=hr
 let f:=H2 L 1000
 let G':GT:=fun t=>(L.find? (fun s=>f s == t)).bind G
 have inj:∀ {s t:Nat},s ∈ L→t ∈ L→f s=f t→s=t:=fun hs ht h=>S6 L 1000 hs ht h
 have hG:∀ s ∈ L,G' (f s)=G s:=by
  intro s hs
  show (L.find? (fun s'=>f s' == f s)).bind G=G s
  cases hq:L.find? (fun s'=>f s' == f s) with
  | none=>
   have:=List.find?_eq_none.1 hq s hs
   simp at this
  | some s'=>
   have e1:=List.find?_some hq
   have e2:=List.mem_of_find?_eq_some hq
   have:s'=s:=inj e2 hs (by simpa using e1)
   subst this
   rfl
 have look:∀ {t:Nat} {c':V},Jb (Cn f bl L) t=some c'→∃ s ∈ L,f s=t∧∃ c,Jb bl s=some c∧c'=ren f c:=fun h=>Ke h
 have owned:∀ b,Uk (Cn f bl L) G' [] b→Uk bl G [] b:=by
  rintro b (hb | ⟨t,c',rc,F,k1,k2,k3⟩)
  ·cases hb
  ·obtain ⟨s,hs,rfl,c,e1,rfl⟩:=look k1
   rw [hG s hs] at k2
   exact .inr ⟨s,c,rc,F,e1,k2,k3⟩
 have hren:Ren f L (Ja w bl G []) (Ja w (Cn f bl L) G' []):=by
  refine ⟨rfl,fun b hb=>⟨hb.1,fun ho=>hb.2 (owned b ho)⟩,fun b hb=>hb,?_⟩
  intro s hs c' rc F' k1 k2
  obtain ⟨s',hs',e0,c,e1,rfl⟩:=look k1
  have:=inj hs' hs e0
  subst this
  have k2':G' (f s')=some (rc,F'):=k2
  rw [hG s' hs'] at k2'
  exact ⟨c,e1,rfl,k2'⟩
 refine ⟨⟨G',⟨?_,hc.frame,fun b hb=>hc.own b (owned b hb),hc.size,hc.os,hc.tape,hc.output⟩,?_⟩,by rw [XG];exact hl,hd,hpin⟩
 ·refine ⟨?_,?_,List.nodup_nil,fun b hb=>by cases hb⟩
  ·intro t c' k1
   obtain ⟨s,hs',rfl,c,e1,rfl⟩:=look k1
   obtain ⟨rc,F,Fc,g1,g2,g3,g4,g5⟩:=hc.ok.root s c e1
   exact ⟨rc,F,Fc,by rw [hG s hs'];exact g1,hren.inV c (Kh h2 s hs' c e1) g2,g3,g4,g5⟩
  ·intro t t' c c' rc rc' F F' hne k1 k2 k3 k4
   obtain ⟨s,hs1,rfl,c1,e1,rfl⟩:=look k1
   obtain ⟨s',hs2,rfl,c2,e2,rfl⟩:=look k2
   rw [hG s hs1] at k3
   rw [hG s' hs2] at k4
   exact hc.ok.apart s s' c1 c2 rc rc' F F' (fun e=>hne (by rw [e])) e1 e2 k3 k4
 ·intro t
  show Val _ (Jw (QA f m) t) _ []
  rw [S9]
  exact hren.val (fun s hs'=>Kg h1 s (YC hs')) (hs t)
theorem XJ {R:Type} {ks:List Nat} {σ:St} {κ:St→Option R} {r:R} (hr:Rel Pn w0 F0 σ a w) (h:Ve ks σ κ=some r):∃ σ',κ σ'=some r∧Rel Pn w0 F0 σ' a w:=by
 unfold Ve at h
 rw [Ha,OO] at h
 split at h
 ·rename_i hb
  rw [Je] at hb
  rw [Ha,Ca] at h
  obtain ⟨⟨G,hc,hs⟩,hl,hd,hpin⟩:=hr
  exact ⟨_,h,jF ⟨⟨G,hc,hs.mask ks⟩,by rw [S8];exact hl,hd,hpin⟩ hb.1 hb.2⟩
 ·cases h
end
end Go.Rai
namespace Go.Rai
structure Rec where
 v:V
 rd:List Nat
 dst:Option Nat
 bar:Bool
 T:List Nat
 W:List Nat
 N:List Nat
 nm:List Nat
 L:List Nat
 sm:Bool
 bn:List Nat
 qf:List Nat
 qp:List Nat
 deriving Inhabited
inductive Cls where
 | read
 | fresh
 | store
 | call
 | app
 | bar
def cls:Op→Cls
 | .move _=>.read
 | .assign _=>.read
 | .pick _ _ _=>.read
 | .build _ _=>.read
 | .load _ _=>.read
 | .nilCheck _=>.read
 | .binOp _ _ _ _ _=>.read
 | .unOp _ _ _=>.read
 | .convert _ _ _=>.read
 | .makeFunc _ _ _=>.read
 | .slice _ _ _ _ _=>.read
 | .fieldAddr _ _ _=>.read
 | .field _ _ _=>.read
 | .indexAddr _ _ _=>.read
 | .index _ _ _=>.read
 | .extract _ _=>.read
 | .lookup _ _ _ _=>.read
 | .alloc _=>.fresh
 | .box _ _=>.fresh
 | .makeSlice _ _ _=>.fresh
 | .buildSlice _ _ _=>.fresh
 | .store _ _ _=>.store
 | .call c=>match c.callee with
  | .builtin .len=>.read
  | .builtin .max=>.read
  | .builtin .min=>.read
  | .builtin .append=>.app
  | .builtin .copy=>.app
  | .value _=>.call
  | _=>.bar
 | _=>.bar
def Wz:Option Operand→List Operand
 | some x=>[x]
 | none=>[]
def Jn:Op→List Operand
 | .move x=>[x]
 | .assign x=>[x]
 | .pick c x y=>[c,x,y]
 | .build _ ps=>ps.toList.map (·.2)
 | .load _ a=>[a]
 | .nilCheck x=>[x]
 | .binOp _ _ x y _=>[x,y]
 | .unOp _ _ x=>[x]
 | .convert _ _ x=>[x]
 | .makeFunc _ _ caps=>caps.toList
 | .slice _ x lo hi mx=>x :: cat (Wz lo) (cat (Wz hi) (Wz mx))
 | .fieldAddr _ x _=>[x]
 | .field _ x _=>[x]
 | .indexAddr _ x i=>[x,i]
 | .index _ x i=>[x,i]
 | .extract x _=>[x]
 | .lookup _ m k _=>[m,k]
 | .box _ x=>[x]
 | .makeSlice _ l c=>[l,c]
 | .buildSlice _ _ ps=>ps.toList.map (·.2)
 | .store _ a x=>[a,x]
 | .call c=>match c.callee with
  | .value f=>f :: c.args.toList
  | _=>c.args.toList
 | _=>[]
def Ul:List Operand→List Nat
 | []=>[]
 | .tmp t :: r=>t :: Ul r
 | _ :: r=>Ul r
def Cb (all:List Oper) (o:Oper):List Nat:=
 match o.guard with
 | some (j,_)=>match Hx all j with
  | some t=>[t]
  | none=>[]
 | none=>[]
def VG (b:BL):List Nat→List Nat
 | []=>[]
 | s :: r=>match Jb b s with
  | some c=>cat (Jd c) (VG b r)
  | none=>VG b r
def Od (b:BL):List Nat→BL
 | []=>[]
 | s :: r=>match Jb b s with
  | some c=>(s,c) :: Od b r
  | none=>Od b r
def QC:BL→List Nat
 | []=>[]
 | (k,_) :: r=>k :: QC r
def UV (s:Nat):Nat→List V→List Nat
 | _,[]=>[]
 | j,_ :: vs=>(10000 + 16 * s + j) :: UV s (j + 1) vs
def Um (d:Option Nat) (v:V):List Nat:=
 match d with
 | some s=>match v with
  | .tup vs=>UV s 0 vs
  | _=>[s]
 | none=>[]
def Pa {R:Type} (oc:OC R) (A:Ann) (σ:St) (d:Option Nat) (f:FuncId) (ts:List Ty) (args caps:List V) (κ:V→BL→List Nat→List Nat→Option R):Option R:=
 match Jh (Q0 args) (HJ caps) with
 | true=>Hu (Od σ.bl (Ox σ.bl 60 [] (Jl (cat args caps)))) (fun bR=>match Q9 A f bR 0 ts (cat args caps) with
  | some (c,ws)=>QR c (UA ws (fun ws=>oc f ws (fun res _=>
    match Qc res with
    | true=>match Uc σ.sl σ.bl d res with
     | some (v,b'')=>κ v b'' (QC bR) (Um d res)
     | none=>none
    | false=>none)))
  | none=>none)
 | false=>none
def WA:BL→List Nat→BL
 | b,[]=>b
 | b,s :: r=>WA (Qj b s) r
def CQ (b:BL) (K:List Nat) (b':BL):BL:=cat (WA b K) b'
def XK (A:Ann) (f:FuncId):Nat→List V→List V
 | _,[]=>[]
 | i,v :: vs=>match A.mode f i with
  | .io=>v :: XK A f (i + 1) vs
  | .take=>v :: XK A f (i + 1) vs
  | _=>XK A f (i + 1) vs
def Pb {R:Type} (oc:OC R) (A:Ann) (σ:St) (d:Option Nat) (f:FuncId) (ts:List Ty) (args caps:List V) (κ:V→BL→List Nat→List Nat→List Nat→Option R):Option R:=
 match Jh (Q0 args) (HJ caps) with
 | true=>Hu (Od σ.bl (Ox σ.bl 60 [] (Jl (XK A f 0 (cat args caps))))) (fun bW=>
   Hu (Od σ.bl (Ox σ.bl 60 [] (Jl (cat args caps)))) (fun bR=>
   match Hg A f bW 0 (cat args caps) with
   | true=>match Hv A f 0 bW (cat args caps) with
    | some (c,ws,b1)=>match Q9 A f (CQ bR (QC bW) b1) 0 ts ws with
     | some (c',us)=>QR (cat c c') (UA us (fun us=>Hu b1 (fun b1=>oc f us (fun res outs=>
       match Qc res with
       | true=>match Ua A (UO A f 0 us) f 0 b1 (cat args caps) outs with
        | some b2=>match Uc σ.sl (CQ σ.bl (QC bW) b2) d res with
         | some (v,b3)=>κ v b3 (cat (QC bR) (QC bW)) (QC bW) (Um d res)
         | none=>none
        | none=>none
       | false=>none))))
     | none=>none
    | none=>none
   | false=>none))
 | false=>none
def Cc (bar:Bool) (v:V) (b:BL) (W:List Nat):List Nat:=
 match bar with
 | true=>cat (Jd v) (Jv b)
 | false=>cat (Jd v) (VG b W)
def WB (bar:Bool) (b:BL) (W:List Nat):List Nat:=
 match bar with
 | true=>Jv b
 | false=>VG b W
def Oe (d:Option Nat) (sl:List V):V:=
 match d with
 | some t=>Jw sl t
 | none=>.undef
def HD {R:Type} (all:List Oper) (σ:St) (o:Oper) (bar:Bool) (v:V) (b:BL) (T W N L:List Nat) (sm:Bool) (κ:Rec→St→Option R):Option R:=
 Qz v (fun v=>QZ σ o.dst v b (fun σ'=>UB T (fun T=>UB (Cc bar v σ'.bl W) (fun nm=>UB L (fun L=>UB (WB bar σ'.bl W) (fun bn=>
  match sm with
  | true=>κ ⟨v,cat (Cb all o) (Ul (Jn o.op)),o.dst,bar,T,W,N,nm,L,true,bn,[],[]⟩ σ'
  | false=>κ ⟨v,cat (Cb all o) (Ul (Jn o.op)),o.dst,bar,T,W,N,nm,L,false,bn,[],[]⟩ σ'))))))
def Ki {R:Type} (all:List Oper) (σ:St) (o:Oper) (v:V) (b:BL) (T W N qf qp:List Nat) (κ:Rec→St→Option R):Option R:=
 Qz v (fun v=>QZ σ o.dst v b (fun σ'=>UB T (fun T=>UB W (fun W=>UB (Cc false v σ'.bl W) (fun nm=>UB (WB false σ'.bl W) (fun bn=>UB qf (fun qf=>UB qp (fun qp=>
  κ ⟨v,cat (Cb all o) (Ul (Jn o.op)),o.dst,false,T,W,N,nm,[],false,bn,qf,qp⟩ σ'))))))))
def VH (b:BL):V→Option Nat
 | .full s p _=>match Jb b s with
  | some c=>match Jh (c.outer p) (JO (W6 c)) with
   | true=>some s
   | false=>none
  | none=>none
 | .sub s p _ _ _=>match Jb b s with
  | some c=>match c.outer p with
   | true=>some s
   | false=>none
  | none=>none
 | _=>none
def VI (σ:St) (op:Op):List Nat:=
 match op with
 | .move _=>[]
 | .assign _=>[]
 | .pick _ _ _=>[]
 | .unOp _ _ _=>[]
 | .field _ _ _=>[]
 | .extract _ _=>[]
 | .indexAddr _ x i=>match VH σ.bl (opd σ.sl x) with
  | some _=>[]
  | none=>Jl (Jm σ.sl (Jn (.indexAddr 0 x i)))
 | op=>Jl (Jm σ.sl (Jn op))
def WC (σ:St) (op:Op):List Nat:=
 match op with
 | .indexAddr _ x _=>match VH σ.bl (opd σ.sl x) with
  | some s=>[s]
  | none=>[]
 | _=>[]
def Kj (σ:St) (op:Op):Bool:=
 match op with
 | .store _ a _=>match opd σ.sl a with
  | .ptr s p=>match Jb σ.bl s with
   | some c=>JO (c.outer p)
   | none=>false
  | _=>false
 | _=>false
def J0:Option Nat→List Nat
 | some t=>[t]
 | none=>[]
def VJ {R:Type} (A:Ann) (all:List Oper) (σ:St) (o:Oper) (bar:Bool) (T W N L:List Nat) (sm:Bool) (κ:Rec→St→Option R):Option R:=
 match JE A σ.sl σ.bl o.dst o.op with
 | some (c,v,b)=>QR c (HD all σ o bar v b T W N L sm κ)
 | none=>none
def Of (σ:St):Op→List Nat
 | .store _ a _=>Jd (opd σ.sl a)
 | _=>[]
def Pc:V→Bool
 | .nilsl=>true
 | .emp _=>true
 | .full _ _ _=>true
 | _=>false
def Pd:V→Bool
 | .sub _ _ _ _ _=>true
 | _=>false
def XL (b:BL):V→Bool
 | .full s p _=>match JS b s p with
  | some (_,.own _ _)=>true
  | _=>false
 | _=>true
def Pe:V→Bool
 | .full _ _ _=>true
 | .sub _ _ _ _ _=>true
 | _=>false
def XM (A:Ann) (σ:St) (op:Op):Bool:=
 match op with
 | .call c=>match c.argTypes.toList with
  | t :: ts=>match A.ty t with
   | .slice e=>match Jh e.flat (JO (O4 (A.ty (ts.headD 0)))) with
    | true=>match Jm σ.sl c.args.toList with
     | [s,x]=>match c.callee with
      | .builtin .append=>Jh (bor (Pc s) (Pd s)) (XL σ.bl x)
      | .builtin .copy=>Jh (Pe s) (XL σ.bl x)
      | _=>false
     | _=>false
    | false=>false
   | _=>false
  | []=>false
 | _=>false
def Cw (d:Option Nat) (op:Op):List Nat:=
 match op with
 | .call c=>match c.callee with
  | .builtin .copy=>[]
  | _=>J0 d
 | _=>J0 d
def Og (σ:St) (d:Option Nat) (op:Op):List Nat:=
 match op with
 | .call c=>match Jm σ.sl c.args.toList with
  | s :: _=>cat (Jd s) (Cw d op)
  | []=>Cw d op
 | _=>Cw d op
def OR (σ:St) (d:Option Nat) (op:Op):List Nat:=cat (Jl (Jm σ.sl (Jn op))) (Cw d op)
def WD {R:Type} (oc:OC R) (A:Ann) (all:List Oper) (σ:St) (o:Oper) (κ:Rec→St→Option R):Option R:=
 match cls o.op with
 | .read=>VJ A all σ o false (VI σ o.op) [] [] (WC σ o.op) false κ
 | .fresh=>VJ A all σ o false (J0 o.dst) (J0 o.dst) (J0 o.dst) [] false κ
 | .store=>match JE A σ.sl σ.bl o.dst o.op with
  | some _=>VJ A all σ o false (Of σ o.op) (Of σ o.op) [] [] (Kj σ o.op) κ
  | none=>CH oc A σ o (fun σ'=>HD all σ o true (Oe o.dst σ'.sl) σ'.bl [] [] [] [] false κ)
 | .call=>match o.op with
  | .call c=>match c.callee with
   | .value f=>match opd σ.sl f with
    | .fn g caps=>match UG A g 0 (cat (Jm σ.sl c.args.toList) caps) with
     | false=>Pa oc A σ o.dst g (Wa A c.argTypes.toList) (Jm σ.sl c.args.toList) caps (fun v b T N=>HD all σ o false v b (cat T N) N N [] false κ)
     | true=>match Yp A g σ.bl (cat (Jm σ.sl c.args.toList) caps) with
      | some _=>CH oc A σ o (fun σ'=>HD all σ o true (Oe o.dst σ'.sl) σ'.bl [] [] [] [] false κ)
      | none=>Pb oc A σ o.dst g (Wa A c.argTypes.toList) (Jm σ.sl c.args.toList) caps (fun v b T W N=>Ki all σ o v b (cat T N) (cat W N) N (ioF A g 0 (cat (Jm σ.sl c.args.toList) caps)) (ioP A g 0 (cat (Jm σ.sl c.args.toList) caps)) κ)
    | _=>none
   | _=>none
  | _=>none
 | .app=>match XM A σ o.op with
  | true=>VJ A all σ o false (OR σ o.dst o.op) (Og σ o.dst o.op) (Cw o.dst o.op) [] false κ
  | false=>CH oc A σ o (fun σ'=>HD all σ o true (Oe o.dst σ'.sl) σ'.bl [] [] [] [] false κ)
 | .bar=>CH oc A σ o (fun σ'=>HD all σ o true (Oe o.dst σ'.sl) σ'.bl [] [] [] [] false κ)
def Cx {R:Type} (oc:OC R) (A:Ann) (all:List Oper):List Oper→St→(List Rec→St→Option R)→Option R
 | [],σ,κ=>κ [] σ
 | o :: rest,σ,κ=>
  match o.guard with
  | none=>WD oc A all σ o (fun r σ'=>Cx oc A all rest σ' (fun rs=>κ (r :: rs)))
  | some (j,want)=>match Hx all j with
   | some t=>match Jw σ.sl t with
    | .void=>HD all σ o false .void σ.bl [] [] [] [] false (fun r σ'=>Cx oc A all rest σ' (fun rs=>κ (r :: rs)))
    | .bool b=>bif b
     then Hf σ.sl t (.bool true) (fun sl=>match want with
      | true=>WD oc A all ⟨sl,σ.bl⟩ o (fun r σ'=>Cx oc A all rest σ' (fun rs=>κ (r :: rs)))
      | false=>HD all ⟨sl,σ.bl⟩ o false .void σ.bl [] [] [] [] false (fun r σ'=>Cx oc A all rest σ' (fun rs=>κ (r :: rs))))
     else Hf σ.sl t (.bool false) (fun sl=>match want with
      | true=>HD all ⟨sl,σ.bl⟩ o false .void σ.bl [] [] [] [] false (fun r σ'=>Cx oc A all rest σ' (fun rs=>κ (r :: rs)))
      | false=>WD oc A all ⟨sl,σ.bl⟩ o (fun r σ'=>Cx oc A all rest σ' (fun rs=>κ (r :: rs))))
    | _=>none
   | none=>none
def Kk (e:Edge):Bool:=
 match e.ground with
 | .textOnly _=>false
 | .gcOnly _=>false
 | _=>true
def WE:List Nat→List Nat→List Nat
 | [],acc=>acc
 | i :: l,acc=>match JT acc i with
  | true=>WE l acc
  | false=>WE l (i :: acc)
def VK (acc:List (List Nat)):List Edge→List Nat→Option (List Nat)
 | [],l=>some l
 | e :: r,l=>match Kk e with
  | true=>match nth acc e.on with
   | some p=>VK acc r (WE (e.on :: p) l)
   | none=>none
  | false=>VK acc r l
def HU:List (List Nat)→List Oper→Option (List (List Nat))
 | acc,[]=>some acc
 | acc,o :: r=>match VK acc o.after.toList [] with
  | some l=>HU (cat acc [l]) r
  | none=>none
def Pf:Option Nat→Option Nat→Bool
 | some t,some u=>Nat.beq t u
 | _,_=>false
def XN (ri rj:Rec):Bool:=Jh (ioV rj.qf rj.qp ri.v) (Jh (Ui rj.qf ri.bn) (Ui rj.qp ri.bn))
def Kl (i:Nat) (ri:Rec) (bj:List Nat) (rj:Rec):Bool:=
 Jh (Jh (JO (Pf ri.dst rj.dst)) (XN ri rj)) (match JT bj i with
  | true=>Ui rj.N ri.nm
  | false=>Jh (XN rj ri) <| Jh (Jh (JO ri.bar) (JO rj.bar)) (Jh (Jh (Ui (J0 ri.dst) rj.rd) (Ui (J0 rj.dst) ri.rd))
    (Jh (Jh (Ui ri.W rj.T) (Ui rj.W ri.T)) (Jh (Jh (bor ri.sm (Ui ri.W rj.L)) (bor rj.sm (Ui rj.W ri.L))) (Jh (Ui rj.N ri.nm) (Ui ri.N rj.nm))))))
def XO:Nat→List Rec→List Nat→Rec→Bool
 | _,[],_,_=>true
 | i,ri :: r,bj,rj=>Jh (Kl i ri bj rj) (XO (i + 1) r bj rj)
def XP (σ:St):List Nat→Bool
 | []=>true
 | s :: r=>Jh (Uh σ.sl σ.bl .undef s) (XP σ r)
def Pg (σ:St) (r:Rec):Bool:=Jh (Ub r.qf r.qp σ.sl) (Jh (Ui r.qf (Jv σ.bl)) (Ui r.qp (Jv σ.bl)))
def WF (σ:St):List Rec→List (List Nat)→List Rec→Bool
 | _,_,[]=>true
 | pre,bj :: bs,rj :: rs=>Jh (Jh (Jh (XP σ rj.N) (Pg σ rj)) (XO 0 pre bj rj)) (WF σ (cat pre [rj]) bs rs)
 | _,_,_=>false
def XQ:Nat→List Nat→Bool
 | 0,_=>true
 | n + 1,l=>Jh (JT l n) (XQ n l)
def Cy:List Oper→List (List Nat)→Option (List Oper × List (List Nat) × Oper)
 | [],_=>none
 | [o],[b]=>match o.guard with
  | none=>some ([],[],o)
  | some _=>none
 | o :: os,b :: bs=>match Cy os bs with
  | some (pre,bpre,l)=>some (o :: pre,b :: bpre,l)
  | none=>none
 | _,_=>none
def WG (n:Nat):List Oper→Bool
 | []=>true
 | o :: os=>match o.guard with
  | none=>WG n os
  | some (j,_)=>Jh (Nat.ble (Nat.succ j) n) (WG n os)
def WH:List (List Nat)→List Nat
 | []=>[]
 | [b]=>b
 | _ :: bs=>WH bs
def Ph (ops:List Oper) (bs:List (List Nat)):Option (List Oper × List (List Nat) × Oper):=
 match Cy ops bs with
 | some (pre,bpre,o)=>match Jh (XQ (Up pre) (WH bs)) (WG (Up pre) pre) with
  | true=>some (pre,bpre,o)
  | false=>none
 | none=>none
def WI {R:Type} (oc:OC R) (A:Ann) (ops:List Oper) (σ:St) (bs:List (List Nat)) (κ:St→Option R):Option R:=
 Cx oc A ops ops σ (fun rs σ'=>match WF σ [] bs rs with
  | true=>κ σ'
  | false=>none)
def Km {R:Type} (oc:OC R) (A:Ann) (ops:List Oper) (σ:St) (κ:St→Option R):Option R:=
 match HU [] ops with
 | some bs=>match Ph ops bs with
  | some (pre,bpre,o)=>WI oc A pre σ bpre (fun σ'=>HL oc A σ' o κ)
  | none=>WI oc A ops σ bs κ
 | none=>none
open Classical in
noncomputable def VL {R:Type} (x y:Option R):Option R:=if x=y then x else none
def Kn (A:Ann) (σ:St) (o:Oper):Option (List Jk × List D × Bool):=
 match o.guard with
 | some _=>none
 | none=>match o.op with
  | .binOp op t x y _=>match UF (A.ty t) with
   | true=>match opd σ.sl y with
    | .nilsl=>match opd σ.sl x with
     | .nilsl=>none
     | v=>match U0 σ.bl v with
      | some (c,_,l)=>match op with
       | .eql=>some (c,l,false)
       | .neq=>some (c,l,true)
       | _=>none
      | none=>none
    | _=>none
   | false=>none
  | _=>none
noncomputable def UL {R:Type} (oc:OC R) (A:Ann) (all:List Oper):List Oper→St→(St→Option R)→Option R
 | [],σ,κ=>κ σ
 | o :: rest,σ,κ=>
  match Kn A σ o with
  | some (c,l,ng)=>QR c (if 1≤l.length then QZ σ o.dst (.bool ng) σ.bl (fun σ'=>UL oc A all rest σ' κ)
    else VL (QZ σ o.dst (.bool ng) σ.bl (fun σ'=>UL oc A all rest σ' κ)) (QZ σ o.dst (.bool (JO ng)) σ.bl (fun σ'=>UL oc A all rest σ' κ)))
  | none=>
  match o.guard with
  | none=>HL oc A σ o (fun σ'=>UL oc A all rest σ' κ)
  | some (j,want)=>match Hx all j with
   | some t=>match Jw σ.sl t with
    | .void=>QZ σ o.dst .void σ.bl (fun σ'=>UL oc A all rest σ' κ)
    | .bool b=>bif b
     then Hf σ.sl t (.bool true) (fun sl=>match want with
      | true=>HL oc A ⟨sl,σ.bl⟩ o (fun σ'=>UL oc A all rest σ' κ)
      | false=>QZ ⟨sl,σ.bl⟩ o.dst .void σ.bl (fun σ'=>UL oc A all rest σ' κ))
     else Hf σ.sl t (.bool false) (fun sl=>match want with
      | true=>QZ ⟨sl,σ.bl⟩ o.dst .void σ.bl (fun σ'=>UL oc A all rest σ' κ)
      | false=>HL oc A ⟨sl,σ.bl⟩ o (fun σ'=>UL oc A all rest σ' κ))
    | _=>none
   | none=>none
def XR {R:Type}:List Nat→List V→(List V→Option R)→Option R
 | [],sl,κ=>κ sl
 | t :: r,sl,κ=>Hf sl t .undef (fun sl'=>XR r sl' κ)
noncomputable def Ue {R:Type} (oc:OC R) (ol:OL R) (A:Ann) (fid:FuncId):Code→St→(Ex→St→Option R)→Option R
 | .skip,σ,κ=>κ .normal σ
 | .region id ops draw,σ,κ=>XR (A.dead fid id) σ.sl (fun sl=>match draw with
  | false=>match A.both fid with
   | true=>UL oc A ops.toList ops.toList ⟨sl,σ.bl⟩ (κ .normal)
   | false=>Hy oc A ops.toList ops.toList ⟨sl,σ.bl⟩ (κ .normal)
  | true=>Km oc A ops.toList ⟨sl,σ.bl⟩ (κ .normal))
 | .seq a b,σ,κ=>Ue oc ol A fid a σ (fun e σ'=>match e with
   | .normal=>Ue oc ol A fid b σ' κ
   | .exit i=>κ (.exit i) σ'
   | .ret=>κ .ret σ')
 | .cond c a b,σ,κ=>match c with
  | .tmp t=>match Jw σ.sl t with
   | .bool x=>bif x
    then Hf σ.sl t (.bool true) (fun sl=>Ue oc ol A fid a ⟨sl,σ.bl⟩ κ)
    else Hf σ.sl t (.bool false) (fun sl=>Ue oc ol A fid b ⟨sl,σ.bl⟩ κ)
   | _=>none
  | .const v=>match W3 v with
   | .bool x=>bif x then Ue oc ol A fid a σ κ else Ue oc ol A fid b σ κ
   | _=>none
  | _=>none
 | .block id b,σ,κ=>Ue oc ol A fid b σ (fun e σ'=>match e with
   | .normal=>κ .normal σ'
   | .exit i=>match Nat.beq i id with
    | true=>κ .normal σ'
    | false=>κ (.exit i) σ'
   | .ret=>κ .ret σ')
 | .loop b,σ,κ=>Ve (A.keep fid (Qv b)) σ (fun σ'=>ol (Qv b) b σ' κ)
 | .exit id,σ,κ=>κ (.exit id) σ
 | .ret,σ,κ=>κ .ret σ
 | _,_,_=>none
def JY:Code→List Code
 | .seq a b=>JY a ++ JY b
 | .cond _ a b=>JY a ++ JY b
 | .block _ b=>JY b
 | .loop b=>b :: JY b
 | _=>[]
def QV (id:Nat):Code→Option Code
 | .seq a b=>match QV id a with
  | some c=>some c
  | none=>QV id b
 | .cond _ a b=>match QV id a with
  | some c=>some c
  | none=>QV id b
 | .block _ b=>QV id b
 | .loop b=>match Nat.beq (Qv b) id with
  | true=>some b
  | false=>QV id b
 | _=>none
noncomputable def Q3 {R:Type} (oc:OC R) (ol:OL R) (A:Ann) (fid:FuncId) (b:Code) (σ:St) (κ:Ex→St→Option R):Option R:=
 Ue oc ol A fid b σ (fun e σ'=>match e with
  | .normal=>Ve (A.keep fid (Qv b)) σ' (fun σ''=>ol (Qv b) b σ'' κ)
  | .exit i=>Ve (A.out fid (Qv b)) σ' (κ (.exit i))
  | .ret=>Ve (A.out fid (Qv b)) σ' (κ .ret))
def Cz:Nat→List V→List V
 | _,[]=>[]
 | i,v :: vs=>Qb i [] v :: Cz ((i + 1)) vs
def Hp:Nat→List V→BL
 | _,[]=>[]
 | i,v :: vs=>match QE v with
  | true=>(i,v) :: Hp ((i + 1)) vs
  | false=>Hp ((i + 1)) vs
def Hq:Nat→List V→List V
 | 0,l=>l
 | n + 1,[]=>.undef :: Hq n []
 | n + 1,v :: l=>v :: Hq n l
def Ko (n:Nat) (args:List V):St:=
 { sl:=Hq n (Cz 0 args),bl:=Hp 0 args }
def VM (q:Bool) (ty:Ty) (v:V):V:=
 match q with
 | true=>match v with
  | .nilsl=>.nilsl
  | v=>UN ty v
 | false=>UN ty v
def Kp (A:Ann) (q:Bool) (σ:St) (ty:Ty):ResultVar→Option V
 | .tmp t=>some (VM q ty (Jw σ.sl t))
 | .cell a t=>match Ck (A.ty t) σ.bl (Jw σ.sl a) with
  | some ([],v,_)=>some (VM q ty v)
  | _=>none
def WJ (A:Ann) (q:Bool) (σ:St):List Ty→List ResultVar→Option (List V)
 | _,[]=>some []
 | ts,r :: rs=>match Kp A q σ (ts.headD .other) r with
  | some v=>match WJ A q σ ts.tail rs with
   | some vs=>some (v :: vs)
   | none=>none
  | none=>none
def HV (A:Ann) (f:FuncId) (sl:List V):Nat→List V→List V
 | _,[]=>[]
 | i,_ :: vs=>match A.mode f i with
  | .io=>Jw sl i :: HV A f sl (i + 1) vs
  | _=>HV A f sl (i + 1) vs
def HW (A:Ann) (f:FuncId):Nat→List V→List V→List V
 | _,[],_=>[]
 | i,_ :: vs,ws=>match A.mode f i with
  | .io=>match ws with
   | w :: ws=>w :: HW A f (i + 1) vs ws
   | []=>.undef :: HW A f (i + 1) vs []
  | _=>.undef :: HW A f (i + 1) vs ws
def VN:List V→List V→List V
 | [],_=>[]
 | _ :: vs,w :: ws=>w :: VN vs ws
 | _ :: _,[]=>[]
def VO:List V→List V→List V
 | [],ws=>ws
 | _ :: vs,_ :: ws=>VO vs ws
 | _ :: _,[]=>[]
def XS (A:Ann) (f:FuncId):List Oper→Bool
 | []=>true
 | o :: os=>match (match o.dst with
   | some t=>match A.mode f t with
    | .io=>false
    | _=>true
   | none=>true) with
  | true=>XS A f os
  | false=>false
def HX (A:Ann) (f:FuncId):Code→Bool
 | .region _ ops _=>XS A f ops.toList
 | .seq a b=>Jh (HX A f a) (HX A f b)
 | .cond _ a b=>Jh (HX A f a) (HX A f b)
 | .block _ b=>HX A f b
 | .loop b=>HX A f b
 | _=>true
def Kq:List V→V
 | [w]=>w
 | ws=>.tup ws
def XT {R:Type} (A:Ann) (fid:FuncId) (fn:Func) (args:List V) (σ:St) (κ:V→List V→Option R):Option R:=
 match WJ A (A.nils fid) σ (Wa A fn.resultTypes.toList) fn.results.toList with
 | some vs=>match Q0 (cat vs (HV A fid σ.sl 0 args)) with
  | true=>match Q7 30 σ.bl (cat vs (HV A fid σ.sl 0 args)) with
   | some (c,ws,b)=>match Jh (Hd (VN vs ws)) (HI (VO vs ws)) with
    | true=>QR c (Qz (Kq (VN vs ws)) (fun r=>UA (HW A fid 0 args (VO vs ws)) (fun os=>κ r os)))
    | false=>none
   | none=>none
  | false=>none
 | none=>none
def Ks:List Nat→Bool
 | []=>true
 | _=>false
noncomputable def QH {R:Type} (oc:OC R) (ol:OL R) (A:Ann) (fid:FuncId) (fn:Func) (args:List V) (κ:V→List V→Option R):Option R:=
 match fn.body with
 | some c=>match Jh (Q0 args) (Jh (Ks (Jl args)) (bor (JO (UG A fid 0 args)) (HX A fid c))) with
  | true=>UA (Ko fn.ntmps args).sl (fun sl=>Hu (Ko fn.ntmps args).bl (fun b=>
   Ue oc ol A fid c ⟨sl,b⟩ (fun e σ=>match e with
   | .normal=>XT A fid fn args σ κ
   | .ret=>XT A fid fn args σ κ
   | .exit _=>none)))
  | false=>none
 | none=>none
end Go.Rai
namespace Go.Rai
variable [Inhabited Qk]
def Qm (sl sl':List V) (xs:List Operand):Prop:=∀ x ∈ xs,opd sl' x=opd sl x
theorem Hr {sl sl':List V}:∀ {xs:List Operand},(∀ t ∈ Ul xs,Jw sl' t=Jw sl t)→Qm sl sl' xs
 | [],_=>fun x hx=>by cases hx
 | y :: ys,h=>by
  intro x hx
  have hr:Qm sl sl' ys:=Hr (fun t ht=>h t (by cases y<;>simp [Ul,ht]))
  rcases List.mem_cons.1 hx with rfl | hx
  ·cases x with
   | tmp t=>exact h t (by simp [Ul])
   | _=>rfl
  ·exact hr x hx
theorem Qm.map {sl sl':List V}:∀ {xs:List Operand},Qm sl sl' xs→Jm sl' xs=Jm sl xs
 | [],_=>rfl
 | x :: xs,h=>by
  simp only [Jm]
  rw [h x (by simp),Qm.map (xs:=xs) (fun y hy=>h y (by simp [hy]))]
theorem Qm.opds {sl sl':List V}:∀ {ps:List (Nat × Operand)},Qm sl sl' (ps.map (·.2))→H0 sl' ps=H0 sl ps
 | [],_=>rfl
 | (i,x) :: ps,h=>by
  simp only [H0]
  rw [h x (by simp),Qm.opds (ps:=ps) (fun y hy=>h y (by simp at hy ⊢;exact .inr hy))]
theorem Qm.opt {sl sl':List V} {x:Option Operand} (h:Qm sl sl' (Wz x)):QT sl' x=QT sl x:=by
 cases x with
 | none=>rfl
 | some x=>simp only [QT];rw [h x (by simp [Wz])]
def QP (b b':BL) (T:List Nat):Prop:=∀ s ∈ T,Jb b' s=Jb b s
theorem QP.sub {b b':BL} {T T':List Nat} (h:QP b b' T) (hs:∀ s ∈ T',s ∈ T):QP b b' T':=fun s hs'=>h s (hs s hs')
theorem Cd {b b':BL} {s:Nat} {p:List Nat} (h:Jb b' s=Jb b s):JS b' s p=JS b s p:=by
 unfold JS;rw [h]
theorem XU {b b':BL} {x:V} (h:QP b b' (Jd x)):U0 b' x=U0 b x:=by
 cases x with
 | full s p e=>simp only [U0,Cd (h s (by simp [Jd]))]
 | sub s p o l e=>simp only [U0,Cd (h s (by simp [Jd]))]
 | _=>rfl
theorem Pi {b b':BL} {x:V} (h:QP b b' (Jd x)):Om b' x=Om b x:=by
 have:=XU h
 cases x<;>simp only [Om,this]
theorem jG {t:Ty} {b b':BL} {op:BinOp} {x y:V} (hx:QP b b' (Jd x)) (hy:QP b b' (Jd y)):O3 t b' op x y=O3 t b op x y:=by
 have h1:=Pi hx
 have h2:=Pi hy
 unfold O3
 split<;>first | rfl | (simp only [h1]) | (simp only [h2])
def Ce (b b':BL) (r r':G Out):Prop:=∀ c v b1,r=some (c,v,b1)→b1=b∧r'=some (c,v,b')
theorem Qi {b b':BL} {c:List Jk} {v:V}:Ce b b' (some (c,v,b)) (some (c,v,b')):=by
 intro c1 v1 b1 h
 simp only [oj,pj] at h
 obtain ⟨rfl,rfl,rfl⟩:=h
 exact ⟨rfl,rfl⟩
theorem Jz {b b':BL} {r:G Out}:Ce b b' none r:=by intro c1 v1 b1 h;cases h
theorem jH {t:Ty} {b b':BL} {a:V} (h:QP b b' (Jd a)):Ce b b' (Ck t b a) (Ck t b' a):=by
 cases a with
 | ptr s p=>
  simp only [Ck,Cd (h s (by simp [Jd]))]
  split
  ·split
   ·exact Qi
   ·exact Jz
  ·exact Jz
 | rp x=>
  simp only [Ck]
  split
  ·exact Qi
  ·exact Jz
 | _=>exact Jz
theorem jI {t:Ty} {b b':BL} {f:Nat} {a:V} (h:QP b b' (Jd a)):Ce b b' (Oq t b f a) (Oq t b' f a):=by
 cases t with
 | struct fs=>
  cases a with
  | ptr s p=>
   simp only [Oq,Cd (h s (by simp [Jd]))]
   split
   ·split
    ·split
     ·exact Qi
     ·exact Jz
    ·exact Jz
   ·exact Jz
  | rp x=>
   cases x with
   | agg vs=>
    simp only [Oq]
    split
    ·split
     ·exact Qi
     ·exact Jz
    ·exact Jz
   | _=>exact Jz
  | _=>exact Jz
 | _=>exact Jz
theorem jJ {t:Ty} {b b':BL} {x i:V} (h:QP b b' (Jd x)):Ce b b' (CE t b x i) (CE t b' x i):=by
 unfold CE
 split
 ·split
  ·split
   ·split
    ·exact Qi
    ·exact Jz
   ·rw [Cd (h _ (by simp [Jd]))]
    split
    ·split
     ·exact Qi
     ·exact Jz
    ·unfold W7
     rw [h _ (by simp [Jd])]
     split
     ·split
      ·split
       ·exact Qi
       ·exact Jz
      ·exact Jz
     ·exact Jz
   ·rw [Cd (h _ (by simp [Jd]))]
    split
    ·split
     ·exact Qi
     ·exact Jz
    ·exact Jz
   ·exact Jz
  ·split
   ·rw [Cd (h _ (by simp [Jd]))]
    split
    ·split
     ·exact Qi
     ·exact Jz
    ·exact Jz
   ·split
    ·exact Qi
    ·exact Jz
   ·exact Jz
  ·exact Jz
 ·exact Jz
theorem jK {b b':BL} {x i:V}:Ce b b' (O7 x i b) (O7 x i b'):=by
 unfold O7
 split
 ·exact Qi
 ·exact Jz
theorem jL {t:Ty} {b b':BL} {x:V} {lo hi mx:Option V} (h:QP b b' (Jd x)):Ce b b' (O6 t b x lo hi mx) (O6 t b' x lo hi mx):=by
 unfold O6
 split
 ·split
  ·split
   ·split
    ·exact Qi
    ·exact Jz
   ·exact Jz
  ·split
   ·split
    ·split
     ·split
      ·split
       ·rw [Cd (h _ (by simp [Jd]))]
        split
        ·split
         ·exact Qi
         ·exact Jz
        ·exact Jz
       ·exact Jz
      ·exact Jz
     ·exact Jz
    ·exact Jz
   ·exact Jz
  ·exact Jz
 ·split
  ·split
   ·split
    ·exact Qi
    ·exact Jz
   ·exact Jz
  ·split
   ·split
    ·exact Qi
    ·exact Jz
   ·exact Jz
  ·split
   ·split
    ·exact Qi
    ·exact Jz
   ·exact Jz
  ·rw [Cd (h _ (by simp [Jd]))]
   split
   ·split
    ·split
     ·exact Qi
     ·exact Jz
    ·exact Jz
   ·exact Jz
  ·split
   ·split
    ·split
     ·exact Qi
     ·exact Jz
    ·rw [Cd (h _ (by simp [Jd]))]
     split
     ·split
      ·split
       ·exact Qi
       ·exact Jz
      ·exact Jz
     ·exact Jz
   ·exact Jz
  ·exact Jz
theorem jM {A:Ann} {sl sl':List V} {b b':BL} {d:Option Nat} {ts:List TypeId} {xs:List V} (h:QP b b' (Jl xs)):Ce b b' (Ql A sl b d .len ts xs) (Ql A sl' b' d .len ts xs):=by
 cases xs with
 | nil=>exact Jz
 | cons x r=>
  cases r with
  | cons y r=>exact Jz
  | nil=>
   have hx:QP b b' (Jd x):=h.sub (fun s hs=>by simp [Jl,Ju,hs])
   simp only [Ql]
   split
   ·split
    ·split
     ·exact Qi
     ·exact Jz
    ·split
     ·exact Qi
     ·exact Qi
     ·exact Qi
     ·rw [XU hx]
      split
      ·exact Qi
      ·exact Jz
    ·exact Jz
   ·exact Jz
theorem Pj {A:Ann} {sl sl':List V} {b b':BL} {d:Option Nat} {ts:List TypeId} {xs:List V} {f:Builtin} (hf:f=.max ∨ f=.min):Ce b b' (Ql A sl b d f ts xs) (Ql A sl' b' d f ts xs):=by
 unfold Ql
 rcases hf with rfl | rfl<;>cases xs with
 | nil=>exact Jz
 | cons x r=>
  simp only
  split
  ·exact Qi
  ·exact Jz
section
variable {A:Ann} {sl sl':List V} {b b':BL} {d:Option Nat} {op:Op}
theorem Kt (hcl:(match cls op with | .read=>true | _=>false)=true) (ho:Qm sl sl' (Jn op)) (hb:QP b b' (Jl (Jm sl (Jn op)))):Ce b b' (JE A sl b d op) (JE A sl' b' d op):=by
 cases op with
 | move x=>simp only [JE];rw [ho x (by simp [Jn])];exact Qi
 | assign x=>simp only [JE];rw [ho x (by simp [Jn])];exact Qi
 | pick c x y=>
  simp only [JE];rw [ho c (by simp [Jn]),ho x (by simp [Jn]),ho y (by simp [Jn])]
  split
  ·exact Qi
  ·exact Jz
 | build t ps=>
  simp only [JE]
  rw [Qm.opds (sl:=sl) (sl':=sl') (ps:=ps.toList) (by simpa [Jn] using ho)]
  split
  ·split
   ·split
    ·exact Qi
    ·exact Jz
   ·exact Jz
  ·split
   ·split
    ·exact Qi
    ·exact Jz
   ·exact Jz
  ·exact Jz
 | load t a=>
  simp only [JE];rw [ho a (by simp [Jn])]
  exact jH (hb.sub (fun s hs=>by simp [Jn,Jm,Jl,Ju,hs]))
 | nilCheck x=>
  simp only [JE];rw [ho x (by simp [Jn])]
  split<;>first | exact Qi | exact Jz
 | binOp o t x y t2=>
  simp only [JE];rw [ho x (by simp [Jn]),ho y (by simp [Jn]),jG (b:=b) (b':=b') (hb.sub (fun s hs=>by simp [Jn,Jm,Jl,Ju,hs])) (hb.sub (fun s hs=>by simp [Jn,Jm,Jl,Ju,hs]))]
  split
  ·exact Qi
  ·exact Jz
 | unOp o t x=>
  simp only [JE];rw [ho x (by simp [Jn])]
  split
  ·exact Qi
  ·exact Jz
 | convert s t x=>
  simp only [JE];rw [ho x (by simp [Jn])]
  split
  ·split
   ·unfold W8
    split
    ·rw [XU (hb.sub (fun s hs=>by simp [Jn,Jm,Jl,Ju,hs]))]
     split
     ·split
      ·exact Qi
      ·exact Jz
     ·exact Jz
    ·exact Jz
   ·exact Jz
  ·split<;>first | exact Qi | exact Jz
 | makeFunc fn first caps=>
  simp only [JE]
  rw [Qm.map (sl:=sl) (sl':=sl') (xs:=caps.toList) (by simpa [Jn] using ho)]
  split
  ·split
   ·exact Qi
   ·exact Jz
  ·exact Jz
 | slice t x lo hi mx=>
  simp only [JE]
  rw [ho x (by simp [Jn]),Qm.opt (sl:=sl) (sl':=sl') (x:=lo) (fun y hy=>ho y (by simp [Jn,Qd,hy])),Qm.opt (sl:=sl) (sl':=sl') (x:=hi) (fun y hy=>ho y (by simp [Jn,Qd,hy])),Qm.opt (sl:=sl) (sl':=sl') (x:=mx) (fun y hy=>ho y (by simp [Jn,Qd,hy]))]
  exact jL (hb.sub (fun s hs=>by simp [Jn,Jm,Jl,Ju,hs]))
 | fieldAddr t x f=>
  simp only [JE];rw [ho x (by simp [Jn])]
  exact jI (hb.sub (fun s hs=>by simp [Jn,Jm,Jl,Ju,hs]))
 | field t x f=>
  simp only [JE];rw [ho x (by simp [Jn])]
  split
  ·exact Qi
  ·exact Jz
 | indexAddr t x i=>
  simp only [JE];rw [ho x (by simp [Jn]),ho i (by simp [Jn])]
  exact jJ (hb.sub (fun s hs=>by simp [Jn,Jm,Jl,Ju,hs]))
 | index t x i=>
  simp only [JE];rw [ho x (by simp [Jn]),ho i (by simp [Jn])]
  split
  ·exact jK
  ·exact Jz
 | extract x i=>
  simp only [JE];rw [ho x (by simp [Jn])]
  split
  ·split
   ·exact Qi
   ·exact Jz
  ·exact Jz
 | lookup t m k ok=>
  have hl:Ot b' (opd sl m) (opd sl k)=Ot b (opd sl m) (opd sl k):=by
   unfold Ot
   split
   ·rename_i s hs
    rw [hb s (by simp [Jn,Jm,Jl,Ju,hs,Jd])]
   ·rfl
  simp only [JE];rw [ho m (by simp [Jn]),ho k (by simp [Jn]),hl]
  split
  ·split
   ·split
    ·exact Qi
    ·exact Jz
   ·exact Jz
  ·exact Jz
 | call c=>
  simp only [JE]
  cases hc:c.callee with
  | builtin f=>
   have hops:Jn (.call c)=c.args.toList:=by simp [Jn,hc]
   rw [hops] at ho hb
   simp only
   rw [Qm.map ho]
   cases f with
   | len=>exact jM hb
   | max=>exact Pj (.inl rfl)
   | min=>exact Pj (.inr rfl)
   | _=>simp [cls,hc] at hcl
  | _=>simp [cls,hc] at hcl
 | _=>simp [cls] at hcl
end
end Go.Rai
