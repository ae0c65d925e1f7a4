/- An evaluator of the model's programs over plain values, proved sound, part 3 of 6. It is used by the claim's law; it has no condition of its own. -/
import Derived.Test.YtdoaceeakjbgfaaRaiU2
import Derived.Laws.BytesString
import Derived.Tactics
set_option linter.unusedVariables false
set_option linter.unusedSectionVars false
set_option linter.unusedSimpArgs false
namespace Go.Rai
variable [Inhabited Kset]
theorem Row_append {R:D→List Value→List Nat→Prop}:∀ {l l':List D} {cs cs':List Value} {F F':List Nat},Row R l cs F→Row R l' cs' F'→Row R (l ++ l') (cs ++ cs') (F ++ F')
 | [],l',cs,cs',F,F',h,h'=>by obtain ⟨rfl,rfl⟩:=h; exact h'
 | d :: l,l',cs,cs',F,F',⟨c1,c2,F1,F2,e1,e2,h1,h2⟩,h'=>by
  subst e1; subst e2
  exact ⟨c1,c2 ++ cs',F1,F2 ++ F',by simp,by simp,h1,Row_append h2 h'⟩
section
variable {P:Program} {A:Ann} {w w' w0:World} {F0:List Nat} {sl:List V} {a:Act} {bl b':BL} {G:GT} {o:Oper} {X:List Nat}
theorem plain_zero {e:Ty} {te:TypeId} (hp:e.plain=true) (hte:A.ty te=e) (hT:TyOK P A.ty te) :
  ∃ i z,P.info? te=some i∧i.zero=some z∧i.size=e.size∧i.bytes≤32768∧z.cells=(zcells e).toArray∧(zcells e).length=e.size:=by
 obtain ⟨i,z,hi,hsz,hiz,hby,hsmall,hzv⟩:=hT.info
 rw [hte] at hsz hzv hsmall
 have hin:=zeroD_in (o:=true) (w:=⟨#[],fun _ _=>0,0,default,#[]⟩) e hp
 have hzlen:(zcells e).length=e.size:=DIn_len e hin
 refine ⟨i,z,hi,hiz,hsz,hby,?_,hzlen⟩
 rw [hzv]
 unfold cval
 cases hA:isAT e with
 | true=>rfl
 | false=>
  have h1:=size_one hA
  rw [h1] at hzlen
  match hq:zcells e,hzlen with
  | [u],_=>exact cells_one (DIn_one e hin u (by rw [hq]; simp))
theorem Row_world {e:Ty} {l:List D} {cs:List Value} {F:List Nat} (hs:w.heap.size≤w'.heap.size) (hF:Same w w' F) (h:Row (DIn true w e) l cs F):Row (DIn true w' e) l cs F:=
 Row_frame (fun d _ c G' hG hd=>DIn_frame hs e (fun b hb=>hF b (hG b hb)) hd) h
def Fed (w:World) (vx:Value) (n:Nat) (news:List Value):Prop:=∃ Ad cap,vx=.slice Ad n cap∧(n ≠ 0→∃ ad,Ad=some ad∧cellsAt w ad news)
theorem Fed.src {vx:Value} {n:Nat} {news:List Value} {size:Nat} {tx e':TypeId} (h:Fed w vx n news) (hk:P.underlying tx=some (.slice e')) (hl:news.length=n * size) (h1:∀ u ∈ news,u.oneCell'=true):Src P size tx vx n news w:=by
 obtain ⟨Ad,cap,rfl,hA⟩:=h
 by_cases hn:n=0
 ·subst hn
  have:news=[]:=List.eq_nil_of_length_eq_zero (by simpa using hl)
  subst this
  cases Ad with
  | none=>exact Src.ofNil w hk cap
  | some ad=>exact Src.ofSlice w hk ad 0 cap [] (by simp) (by simp) (by simp)
 ·obtain ⟨ad,rfl,hc⟩:=hA hn
  exact Src.ofSlice w hk ad n cap news hl hc h1
theorem zeros_run {e:Ty} {t te tx ty:TypeId} {k:IntKind} (hp:e.plain=true) (hz:e.size ≠ 0) (hte:A.ty te=e) (hT:TyOK P A.ty te) (ht:P.underlying t=some (.slice te)) (hk:P.underlying tx=some (.int k)) {n:Nat} (hn:n≤4294967296) :
  (n=0→(Builtin.append_ #[t,tx] ty #[.slice none 0 0,.int .i64 (n:Int)]).run P w=.ok (.slice none 0 0) w) ∧
  (0<n→(Builtin.append_ #[t,tx] ty #[.slice none 0 0,.int .i64 (n:Int)]).run P w =
   .ok (.slice (some ⟨w.heap.size,0,none⟩) n (grownCap w n 0 te)) (w.drew.alloc (.cells ((rep' n (zcells e)).toArray ++ Builtin.zeroCells (zcells e).toArray (grownCap w n 0 te - n)) te))):=by
 obtain ⟨i,z,hi,hiz,hisz,hby,hzc,hzl⟩:=plain_zero (P:=P) hp hte hT
 have hw:IntKind.i64.wrap (n:Int)=(n:Int):=by
  unfold IntKind.wrap
  simp [IntKind.signed,IntKind.bits]
  omega
 have hb1:(n:Int) * (i.bytes:Int)≤4294967296 * 32768:=Int.mul_le_mul (by omega) (by omega) (by omega) (by omega)
 have hnb:n * i.bytes≤4294967296 * 32768:=Nat.mul_le_mul hn hby
 have h1:¬ ((n:Int)<0):=by omega
 have h2:¬ (281474976710656<(n:Int) * (i.bytes:Int)):=by omega
 constructor
 ·intro h0
  subst h0
  have hw0:IntKind.i64.wrap 0=0:=by decide
  simp [Builtin.append_,run_underlying ht,run_underlying hk,sizeOf,typeInfo,hi,asInt,asIntOf,hw0]
 ·intro hpos
  have hne:¬ n=0:=by omega
  have hne2:¬ (n≤0):=by omega
  have h3:¬ (9223372036854775807<(n:Int)):=by omega
  have h4:¬ (281474976710656<Builtin.nextslicecap n 0 * i.bytes):=by
   have:Builtin.nextslicecap n 0=n:=by unfold Builtin.nextslicecap; rw [if_pos (by omega)]
   rw [this]; omega
  have h5:¬ (n * i.size=0):=by rw [hisz]; exact Nat.mul_ne_zero hne hz
  have hzr:Builtin.zeroCells (zcells e).toArray n=(rep' n (zcells e)).toArray:=by
   have:=made_eq (n:=n) hzl
   rw [← this]; unfold Builtin.zeroCells; rw [List.size_toArray,hzl]
  simp [Builtin.append_,run_underlying ht,run_underlying hk,sizeOf,typeInfo,zeroValue,hi,hiz,hw,h1,h2,hne,hne2,h3,h4,h5,asInt,asIntOf,Builtin.firstCells,Question.forced,newRow,grownCap,hzc,hzr]
structure App (P:Program) (t tx ty te:TypeId) (i:TypeInfo) (z vx:Value) (n:Nat) (news:List Value) (w:World):Prop where
 zero:n=0→∀ (Ad:Option Addr) (m cap:Nat),m≤cap→(Builtin.append_ #[t,tx] ty #[.slice Ad m cap,vx]).run P w=.ok (.slice Ad m cap) w
 room:∀ b off m cap:Nat,m + n≤cap→(∀ j,j<news.length→(w.cell? ⟨b,off + m * i.size + j,none⟩).isSome=true)→(∀ j,j<news.length→w.frozen? ⟨b,off + m * i.size + j,none⟩=false) →
  (Builtin.append_ #[t,tx] ty #[.slice (some ⟨b,off,none⟩) m cap,vx]).run P w=.ok (.slice (some ⟨b,off,none⟩) (m + n) cap) (w.setCells b (off + m * i.size) news)
 grow:∀ (base:Option Addr) (m cap:Nat) (olds:List Value),(Builtin.firstCells i.size m (.slice base m cap)).run P w.drew=.ok olds.toArray w.drew→cap<m + n→((m + n:Nat):Int)≤9223372036854775807→Builtin.nextslicecap (m + n) cap * i.bytes≤281474976710656 →
  (Builtin.append_ #[t,tx] ty #[.slice base m cap,vx]).run P w=.ok (.slice (some ⟨w.heap.size,0,none⟩) (m + n) (grownCap w (m + n) cap te)) (w.drew.alloc (.cells ((olds ++ news).toArray ++ Builtin.zeroCells z.cells (grownCap w (m + n) cap te - (m + n))) te))
theorem App.ofSrc {t tx ty te:TypeId} {i:TypeInfo} {z vx:Value} {n:Nat} {news:List Value} (ht:P.underlying t=some (.slice te)) (hi:P.info? te=some i) (hz:i.zero=some z) (h:Src P i.size tx vx n news w):App P t tx ty te i z vx n news w:=by
 refine ⟨fun h0 Ad m cap hm=>?_,fun b off m cap h1 h2 h3=>run_append_room_src (P:=P) w t tx ty te i ht hi b off m cap vx n news h h1 h2 h3,fun base m cap olds h1 h2 h3 h4=>run_append_grow_src (P:=P) w t tx ty te i z ht hi hz base m cap olds h1 vx n news h h2 h3 h4⟩
 subst h0
 have hn:news=[]:=List.eq_nil_of_length_eq_zero (by rw [h.newsLen]; simp)
 subst hn
 have e1:=h.len w
 have e2:=h.cells
 rcases h.kind with ⟨e',hk⟩ | hk <;> cases Ad <;> simp [Builtin.append_,run_underlying ht,run_underlying hk,sizeOf,typeInfo,hi,e1,e2,storeCells,hm]
theorem App.ofInt {t tx ty te:TypeId} {k:IntKind} {e:Ty} {i:TypeInfo} {z:Value} {n:Nat} (hz0:e.size ≠ 0) (ht:P.underlying t=some (.slice te)) (hk:P.underlying tx=some (.int k)) (hi:P.info? te=some i) (hz:i.zero=some z) (hisz:i.size=e.size) (hby:i.bytes≤32768) (hzc:z.cells=(zcells e).toArray) (hzl:(zcells e).length=e.size) (hn:n≤4294967296) (hone:∀ u ∈ rep' n (zcells e),u.oneCell'=true) :
  App P t tx ty te i z (.int .i64 (n:Int)) n (rep' n (zcells e)) w:=by
 have hw:IntKind.i64.wrap (n:Int)=(n:Int):=by
  unfold IntKind.wrap
  simp [IntKind.signed,IntKind.bits]
  omega
 have hb1:(n:Int) * (i.bytes:Int)≤4294967296 * 32768:=Int.mul_le_mul (by omega) (by omega) (by omega) (by omega)
 have h1:¬ ((n:Int)<0):=by omega
 have h2:¬ (281474976710656<(n:Int) * (i.bytes:Int)):=by omega
 have hzr:Builtin.zeroCells (zcells e).toArray n=(rep' n (zcells e)).toArray:=by
  have:=made_eq (n:=n) hzl
  rw [← this]; unfold Builtin.zeroCells; rw [List.size_toArray,hzl]
 refine ⟨fun h0 Ad m cap hm=>?_,fun b off m cap hr h3 h4=>?_,fun base m cap olds hold hg h63 hfit=>?_⟩
 ·subst h0
  have hw0:IntKind.i64.wrap 0=0:=by decide
  cases Ad <;> simp [Builtin.append_,run_underlying ht,run_underlying hk,sizeOf,typeInfo,hi,asInt,asIntOf,hw0,hm,storeCells]
 ·have hst:=run_storeCells_cells (P:=P) b (off + m * i.size) (rep' n (zcells e)) 0 w (by simpa using h3) (by simpa using h4) hone
  simp only [Nat.add_zero] at hst
  by_cases hn0:n=0
  ·subst hn0
   have hw0:IntKind.i64.wrap 0=0:=by decide
   have hr0:rep' 0 (zcells e)=[]:=rfl
   rw [hr0] at hst ⊢
   simp [storeCells] at hst
   simp [Builtin.append_,run_underlying ht,run_underlying hk,sizeOf,typeInfo,hi,asInt,asIntOf,hw0,show m≤cap by omega,storeCells,Addr.add_lit,← hst]
  ·have h5:¬ (n * i.size=0):=by rw [hisz]; exact Nat.mul_ne_zero hn0 hz0
   have h6:¬ (n=0 ∨ i.size=0):=by rw [hisz]; omega
   simp [Builtin.append_,run_underlying ht,run_underlying hk,sizeOf,typeInfo,zeroValue,hi,hz,hw,h1,h2,h5,h6,hr,asInt,asIntOf,hzc,hzr,Addr.add_lit,hst]
 ·have hn0:¬ (m + n≤cap):=by omega
  have h63':¬ (9223372036854775807<((m:Int) + (n:Int))):=by omega
  have h48':¬ (281474976710656<Builtin.nextslicecap (m + n) cap * i.bytes):=by omega
  by_cases hnz:n=0
  ·subst hnz
   have hw0:IntKind.i64.wrap 0=0:=by decide
   have hr0:rep' 0 (zcells e)=[]:=rfl
   rw [hr0]
   have hn0':¬ m≤cap:=by omega
   have h63'':¬ (9223372036854775807<(m:Int)):=by omega
   have h48'':¬ (281474976710656<Builtin.nextslicecap m cap * i.bytes):=by simpa using h48'
   simp [Builtin.append_,run_underlying ht,run_underlying hk,sizeOf,typeInfo,zeroValue,hi,hz,hw0,hn0',h63'',h48'',asInt,asIntOf,hold,Question.forced,newRow,grownCap]
  ·have h5:¬ (n * i.size=0):=by rw [hisz]; exact Nat.mul_ne_zero hnz hz0
   have h6:¬ (n=0 ∨ i.size=0):=by rw [hisz]; omega
   simp [Builtin.append_,run_underlying ht,run_underlying hk,sizeOf,typeInfo,zeroValue,hi,hz,hw,h1,h2,h5,h6,hn0,h63',h48',asInt,asIntOf,hold,Question.forced,newRow,grownCap,hzc,hzr]
   congr 2
   apply Array.ext'
   simp [List.append_assoc]
theorem append_coreA {Fl Fs:List Nat} (hc:CoreX w bl G (Fl ++ (Fs ++ X)) w0 F0) {e:Ty} {t te tx ty:TypeId} (hp:e.plain=true) (hz:e.size ≠ 0) (hte:A.ty te=e) (hT:TyOK P A.ty te)
  {Ad:Option Addr} {cap:Nat} {l xs:List D} {news:List Value} {vx:Value}
  (hl:SlIn true w (DIn true w e) e.size Ad cap l Fl) (hx:Row (DIn true w e) xs news Fs) (happ:∀ i z,P.info? te=some i→i.zero=some z→i.size=e.size→i.bytes≤32768→z.cells=(zcells e).toArray→(zcells e).length=e.size→App P t tx ty te i z vx xs.length news w) (hsz:l.length + xs.length≤4294967296) :
  ∃ v' w' F',(Builtin.append_ #[t,tx] ty #[.slice Ad l.length cap,vx]).run P w=.ok v' w'∧CoreX w' bl G (F' ++ X) w0 F0∧InV (envOf w' bl G (F' ++ X)) (.own e (l ++ xs)) [v'] F' ∧
   Goes (envOf w bl G (Fl ++ (Fs ++ X))) (envOf w' bl G (F' ++ X)) (fun _=>False):=by
 obtain ⟨i,z,hi,hiz,hisz,hby,hzc,hzl⟩:=plain_zero (P:=P) hp hte hT
 have hnl:news.length=xs.length * e.size:=Row_len (fun d c G hd=>DIn_len e hd) hx
 have hone:∀ u ∈ news,u.oneCell'=true:=Row_one (fun d c F=>DIn_one e) hx
 have hsrc:=happ i z hi hiz hisz hby hzc hzl
 have hnd:=hc.ok.xnd
 have hlt:=hc.ok.xlt
 have hbytes:(l.length + xs.length) * i.bytes≤140737488355328:=by
  have:(l.length + xs.length) * i.bytes≤4294967296 * 32768:=Nat.mul_le_mul hsz hby
  omega
 have grow:∀ (olds:List Value) (F':List Nat),Row (DIn true w e) l olds F'→F'.Sublist Fl→cap<l.length + xs.length→(Builtin.firstCells i.size l.length (.slice Ad l.length cap)).run P w.drew=.ok olds.toArray w.drew →
   ∃ v' w' F',(Builtin.append_ #[t,tx] ty #[.slice Ad l.length cap,vx]).run P w=.ok v' w'∧CoreX w' bl G (F' ++ X) w0 F0∧InV (envOf w' bl G (F' ++ X)) (.own e (l ++ xs)) [v'] F' ∧
    Goes (envOf w bl G (Fl ++ (Fs ++ X))) (envOf w' bl G (F' ++ X)) (fun _=>False):=by
  intro olds F' hrow hsub hg hold
  have hr:=hsrc.grow Ad l.length cap olds hold hg (by omega) (growslice_fits hg hbytes)
  obtain ⟨d1,d2⟩:=hc.drew
  have hndd:(F' ++ (Fs ++ X)).Nodup:=(hsub.append_right (Fs ++ X)).nodup hnd
  obtain ⟨s1,s2⟩:=d1.sub hndd (fun b hb=>(hsub.append_right (Fs ++ X)).subset hb)
  have hge:=grownCap_ge w (l.length + xs.length) cap te
  generalize hN:grownCap w (l.length + xs.length) cap te=N at hr hge
  have hcells:(olds ++ news).toArray ++ Builtin.zeroCells z.cells (N - (l.length + xs.length))=((olds ++ news) ++ (Builtin.zeroCells z.cells (N - (l.length + xs.length))).toList).toArray:=by
   apply Array.ext'; simp
  rw [hcells] at hr
  obtain ⟨k1,k2⟩:=s1.alloc (.cells ((olds ++ news) ++ (Builtin.zeroCells z.cells (N - (l.length + xs.length))).toList).toArray te)
  have hrl:Row (DIn true w.drew e) l olds F':=Row_world (w:=w) (w':=w.drew) (Nat.le_refl _) (fun b hb=>rfl) hrow
  have hrx:Row (DIn true w.drew e) xs news Fs:=Row_world (w:=w) (w':=w.drew) (Nat.le_refl _) (fun b hb=>rfl) hx
  have hXe:(w.heap.size :: (F' ++ Fs)) ++ X=w.heap.size :: (F' ++ (Fs ++ X)):=by simp
  have hzl2:(Builtin.zeroCells z.cells (N - (l.length + xs.length))).toList.length=(N - (l.length + xs.length)) * e.size:=by rw [Array.length_toList,size_zeroCells,hzc,List.size_toArray,hzl]
  refine ⟨_,_,w.heap.size :: (F' ++ Fs),hr,?_,?_,?_⟩
  ·rw [hXe]
   exact k1
  ·have hrow2:=Row_append hrl hrx
   have hw2:Row (DIn true (w.drew.alloc (.cells ((olds ++ news) ++ (Builtin.zeroCells z.cells (N - (l.length + xs.length))).toList).toArray te)) e) (l ++ xs) (olds ++ news) (F' ++ Fs):=by
    refine Row_world (by simp) (fun b hb=>?_) hrow2
    have hb':b<w.drew.heap.size:=by
     refine s1.ok.xlt b ?_
     rw [← List.append_assoc]
     exact List.mem_append.2 (.inl hb)
    exact Go.RowKit.Below.heap_alloc _ _ _ hb'
   have hol:olds.length=l.length * e.size:=Row_len (fun d c G hd=>DIn_len e hd) hrow
   have:=own_new' (te:=te) (E:=envOf (w.drew.alloc (.cells ((olds ++ news) ++ (Builtin.zeroCells z.cells (N - (l.length + xs.length))).toList).toArray te)) bl G ((w.heap.size :: (F' ++ Fs)) ++ X)) (w1:=w.drew) (c:=N) hp rfl hw2 (by simp; exact hge) (by
    rw [hzl2,List.length_append,hol,hnl]
    rw [← Nat.add_mul,← Nat.add_mul]
    congr 1
    omega)
   simpa using this
  ·rw [hXe]
   exact (d2.trans s2).trans k2
 rcases hl with ⟨h1,h2,h3⟩ | ⟨ad,cs,F',h1,h2,h3,h4,h5,h6,h7⟩
 ·subst h1; subst h2; subst h3
  by_cases hx0:xs.length=0
  ·have hxs:xs=[]:=List.eq_nil_of_length_eq_zero hx0
   subst hxs
   obtain ⟨rfl,rfl⟩:=hx
   refine ⟨.slice Ad 0 0,w,[],?_,by simpa using hc,?_,by simpa using Goes.refl_ _ _⟩
   ·exact hsrc.zero rfl Ad 0 0 (Nat.le_refl _)
   ·unfold InV
    exact ⟨hp,Ad,0,rfl,.inl ⟨rfl,rfl,rfl⟩⟩
  ·refine grow [] [] ⟨rfl,rfl⟩ (List.Sublist.refl _) (by simp; omega) ?_
   cases Ad with
   | none=>simp [Builtin.firstCells]
   | some ad=>exact run_firstCells_some w.drew i.size 0 ad 0 0 [] (by simp) (by simp)
 ·subst h1
  have hcl:cs.length=l.length * e.size:=Row_len (fun d c G hd=>DIn_len e hd) h2
  by_cases hroom:l.length + xs.length≤cap
  ·by_cases hx0:xs.length=0
   ·have hxs:xs=[]:=List.eq_nil_of_length_eq_zero hx0
    subst hxs
    obtain ⟨rfl,rfl⟩:=hx
    refine ⟨.slice (some ad) l.length cap,w,Fl,?_,by simpa using hc,?_,by simpa using Goes.refl_ _ _⟩
    ·exact hsrc.zero rfl (some ad) l.length cap h5
    ·unfold InV
     refine ⟨hp,some ad,cap,by simp,.inr ⟨ad,cs,F',rfl,by rw [List.append_nil]; exact h2,h3,h4,by rw [List.append_nil]; exact h5,h6,h7⟩⟩
   ·have hun:=h7 rfl
    have hcap0:cap * e.size ≠ 0:=by
     have:0<cap:=by omega
     exact Nat.mul_ne_zero (by omega) hz
    have hsp:=spot_of_unfz hun hcap0
    have hadd:=add_lit' hsp
    have had:ad=⟨ad.block,ad.off,none⟩:=by cases ad; simp_all
    have hfit:l.length * e.size + news.length≤cap * e.size:=by rw [hnl,← Nat.add_mul]; exact Nat.mul_le_mul_right _ hroom
    have hun2:unfz w (ad.add (l.length * e.size)) news.length:=unfz_shift hun hfit
    have hr:=hsrc.room ad.block ad.off l.length cap hroom
     (fun j hj=>by
      obtain ⟨⟨u,hu⟩,_⟩:=hun2 j hj
      rw [add_add',hadd] at hu
      rw [hisz,Nat.add_assoc,hu]; rfl)
     (fun j hj=>by
      obtain ⟨_,hu⟩:=hun2 j hj
      rw [add_add',hadd] at hu
      rw [hisz,Nat.add_assoc,hu])
    rw [← had] at hr
    rw [hisz] at hr
    have hbl:ad.block ∈ Fl:=by rw [h4]; simp
    have hsz':(w.setCells ad.block (ad.off + l.length * e.size) news).heap.size=w.heap.size:=setCells_size _ _ _ _
    obtain ⟨e1,e2,e3⟩:=setCells_streams ad.block news (ad.off + l.length * e.size) w
    have hpm:(Fl ++ (Fs ++ X)).Perm ((ad.block :: (F' ++ Fs)) ++ X):=by rw [h4]; simp
    obtain ⟨k1,k2⟩:=hc.world (w':=w.setCells ad.block (ad.off + l.length * e.size) news) (X':=(ad.block :: (F' ++ Fs)) ++ X) (by rw [hsz']; exact Nat.le_refl _) (fun b hb hbX=>setCells_heap _ _ (fun e=>hbX (by rw [e]; exact List.mem_append.2 (.inl hbl))) _ _ _)
     ((hpm.nodup_iff).1 hnd) (fun b hb=>⟨by rw [hsz']; exact hlt b ((hpm.mem_iff).2 hb),.inl ((hpm.mem_iff).2 hb)⟩) e1 e2 e3
    refine ⟨_,_,ad.block :: (F' ++ Fs),hr,k1,?_,k2⟩
    have hnd2:=(hpm.nodup_iff).1 hnd
    have hnotF:ad.block ∉ F' ++ Fs:=fun hm=>(List.nodup_cons.1 hnd2).1 (List.mem_append.2 (.inl hm))
    have hsame:Same w (w.setCells ad.block (ad.off + l.length * e.size) news) (F' ++ Fs):=fun b hb=>setCells_heap _ _ (fun e=>hnotF (by rw [← e]; exact hb)) _ _ _
    unfold InV
    refine ⟨hp,some ad,cap,by simp,.inr ⟨ad,cs ++ news,F' ++ Fs,rfl,?_,?_,rfl,by simpa using hroom,by show _<(World.setCells _ _ _ _).heap.size; rw [hsz']; exact h6,fun _=>?_⟩⟩
    ·exact Row_world (by show w.heap.size≤(World.setCells _ _ _ _).heap.size; rw [hsz']; exact Nat.le_refl _) hsame (Row_append h2 hx)
    ·have hat:=setCells_at (w:=w) (ad:=ad.add (l.length * e.size)) (cs:=news) (spot_of_unfz hun2) hun2
     rw [add_block] at hat
     have hoff:(ad.add (l.length * e.size)).off=ad.off + l.length * e.size:=add_off _ _
     rw [hoff] at hat
     refine cellsAt_append ?_ (by rw [hcl]; exact hat)
     intro j v hj
     have hv:=h3 j v hj
     have hjl:=(List.getElem?_eq_some_iff.1 hj).1
     show (World.setCells _ _ _ _).cell? _=_
     rw [setCells_out _ _ _ _ _ (by rw [add_off]; omega)]
     exact hv
    ·intro j hj
     obtain ⟨⟨u,hu⟩,hf⟩:=hun j hj
     have hpart:=setCells_part (w:=w) (ad:=ad.add (l.length * e.size)) (n:=news.length) (cs:=news) (spot_of_unfz hun2) hun2 rfl
     rw [add_block,add_off] at hpart
     exact unfz_part (a:=ad) (i:=l.length * e.size) hpart hun j hj
  ·refine grow cs F' h2 ?_ (by omega) ?_
   ·rw [h4]; exact List.sublist_cons_self _ _
   ·exact run_firstCells_some w.drew i.size l.length ad l.length cap cs (by rw [hisz]; exact hcl) (fun j v hj=>by rw [World.cell?_drew]; exact h3 j v hj)
theorem append_core {Fl Fs:List Nat} (hc:CoreX w bl G (Fl ++ (Fs ++ X)) w0 F0) {e:Ty} {t te tx e' ty:TypeId} (hp:e.plain=true) (hz:e.size ≠ 0) (hte:A.ty te=e) (hT:TyOK P A.ty te)
  (ht:P.underlying t=some (.slice te)) (hk:P.underlying tx=some (.slice e')) {Ad:Option Addr} {cap:Nat} {l xs:List D} {news:List Value} {vx:Value}
  (hl:SlIn true w (DIn true w e) e.size Ad cap l Fl) (hx:Row (DIn true w e) xs news Fs) (hfed:Fed w vx xs.length news) (hsz:l.length + xs.length≤4294967296) :
  ∃ v' w' F',(Builtin.append_ #[t,tx] ty #[.slice Ad l.length cap,vx]).run P w=.ok v' w'∧CoreX w' bl G (F' ++ X) w0 F0∧InV (envOf w' bl G (F' ++ X)) (.own e (l ++ xs)) [v'] F' ∧
   Goes (envOf w bl G (Fl ++ (Fs ++ X))) (envOf w' bl G (F' ++ X)) (fun _=>False):=by
 have hnl:news.length=xs.length * e.size:=Row_len (fun d c G hd=>DIn_len e hd) hx
 have hone:∀ u ∈ news,u.oneCell'=true:=Row_one (fun d c F=>DIn_one e) hx
 refine append_coreA hc hp hz hte hT hl hx (fun i z hi hiz hisz _ _ _=>App.ofSrc ht hi hiz (hfed.src hk (by rw [hisz]; exact hnl) hone)) hsz
end
end Go.Rai
namespace Go.Rai
variable [Inhabited Kset]
section
variable {P:Program} {A:Ann} {w w' w0:World} {F0:List Nat} {sl:List V} {a:Act} {bl b':BL} {G:GT} {o:Oper} {X:List Nat}
theorem inlD_ok {e:Ty} (hp:e.plain=true) {F:List Nat} {v:V} {cs:List Value} {d:D} {c:List Cond} (hc:CoreX w bl G (F ++ X) w0 F0) (hv:InV (envOf w bl G (F ++ X)) v cs F) (h:inlD e bl v=some (c,d,b')) (hk:∀ k ∈ c,k.ok) :
  Took w (envOf w bl G (F ++ X)) w0 F0 X b' (fun E F'=>DIn true w e d cs F'):=by
 unfold inlD at h
 split at h
 ·rename_i c2 x b2 hin
  split at h
  ·rename_i hb
   simp only [oj,pj] at h
   obtain ⟨rfl,rfl,rfl⟩:=h
   rw [band_true] at hb
   obtain ⟨F',G',q1,q2,q3⟩:=(inl_ok 9).1 hc (ownNil_in e hv) hin hk
   exact ⟨F',G',q1,enc_own e (fits_shp_own hp hb.2 hb.1) q2,q3⟩
  ·simp at h
 ·simp at h
theorem inlDs_ok {e:Ty} (hp:e.plain=true):∀ {vs:List V} {bl b':BL} {G:GT} {X F:List Nat} {cs:List Value} {ds:List D} {c:List Cond},CoreX w bl G (F ++ X) w0 F0→InVs (envOf w bl G (F ++ X)) vs cs F→inlDs e bl vs=some (c,ds,b')→(∀ k ∈ c,k.ok) →
  Took w (envOf w bl G (F ++ X)) w0 F0 X b' (fun E F'=>Row (DIn true w e) ds cs F')
 | [],bl,b',G,X,F,cs,ds,c,hc,hv,h,hk=>by
  simp only [inlDs,oj,pj] at h
  obtain ⟨rfl,rfl,rfl⟩:=h
  unfold InVs at hv
  exact ⟨F,G,hc,hv,Goes.refl_ _ _⟩
 | v :: vs,bl,b',G,X,F,cs,ds,c,hc,hv,h,hk=>by
  simp only [inlDs] at h
  split at h
  ·rename_i c1 d1 b1 h1
   split at h
   ·rename_i c2 ds2 b2 h2
    simp only [oj,pj] at h
    obtain ⟨rfl,rfl,rfl⟩:=h
    obtain ⟨hk1,hk2⟩:=conds_cat hk
    unfold InVs at hv
    obtain ⟨cs1,cs2,F1,F2,rfl,rfl,i1,i2⟩:=hv
    obtain ⟨p1,p2⟩:=hc.perm (show ((F1 ++ F2) ++ X).Perm (F1 ++ (F2 ++ X)) by rw [List.append_assoc])
    obtain ⟨F1',G1,q1,q2,q3⟩:=inlD_ok hp p1 (p2.inV (fun _ _=>id) (fun _ _=>rfl) i1) h1 hk1
    obtain ⟨r1,r2⟩:=q1.perm (show (F1' ++ (F2 ++ X)).Perm (F2 ++ (F1' ++ X)) by
     rw [← List.append_assoc,← List.append_assoc]
     exact List.Perm.append_right X List.perm_append_comm)
    have g1:=(p2.trans q3).trans r2
    obtain ⟨F2',G2,s1,s2,s3⟩:=inlDs_ok hp r1 (InVs_frame g1.le vs (fun s _=>g1.al s id) (fun b _=>rfl) i2) h2 hk2
    obtain ⟨t1,t2⟩:=s1.perm (show (F2' ++ (F1' ++ X)).Perm ((F1' ++ F2') ++ X) by
     rw [← List.append_assoc]
     exact List.Perm.append_right X List.perm_append_comm)
    exact ⟨F1' ++ F2',G2,t1,⟨cs1,cs2,F1',F2',rfl,rfl,q2,s2⟩,(g1.trans s3).trans t2⟩
   ·simp at h
  ·simp at h
theorem inlDs_len {e:Ty}:∀ {b b':BL} {vs:List V} {ws:List D} {c:List Cond},inlDs e b vs=some (c,ws,b')→ws.length=vs.length
 | b,b',[],ws,c,h=>by simp [inlDs] at h; rw [h.2.1]; rfl
 | b,b',v :: vs,ws,c,h=>by
  simp only [inlDs] at h
  split at h
  ·split at h
   ·rename_i h2
    simp only [oj,pj] at h
    obtain ⟨_,rfl,_⟩:=h
    simp [inlDs_len h2]
   ·simp at h
  ·simp at h
theorem source_ok (hc:Core w bl G w0 F0) {e:Ty} {x:V} {vx:Value} (hx:Val (envOf w bl G []) x vx []) {c:List Cond} {xs:List D} (hp:e.plain=true) (h:source e bl x=some (c,xs,b')) (hk:∀ k ∈ c,k.ok) :
  Took w (envOf w bl G []) w0 F0 [] b' (fun E F'=>∃ news,Row (DIn true w e) xs news F'∧Fed w vx xs.length news):=by
 have flatE:∀ {c:List Cond} {l:List D},e.flat=true→elems bl x=some (c,e,l)→(∀ k ∈ c,k.ok)→Took w (envOf w bl G []) w0 F0 [] bl (fun E F'=>∃ news,Row (DIn true w e) l news F'∧Fed w vx l.length news):=by
  intro c l hf he hk
  obtain ⟨Ad,cap,F,h1,h2,h3,h4⟩:=elems_ok hc hx he hk
  rcases h2 with ⟨g1,g2,g3⟩ | ⟨ad,cs,F',g1,g2,g3,g4,g5,g6,_⟩
  ·subst g1
   exact ⟨[],G,hc.x,⟨[],⟨rfl,rfl⟩,Ad,cap,h1,fun hn=>absurd rfl hn⟩,Goes.refl_ _ _⟩
  ·have hrow:Row (DIn true w e) l cs F':=Row_frame (fun d _ c G' _ hd=>DIn_flat_o e hf hd) g2
   have hF:F'=[]:=Row_flatF (fun d c G' hd=>DIn_flat e hf hd) g2
   subst hF
   exact ⟨[],G,hc.x,⟨cs,hrow,Ad,cap,h1,fun _=>⟨ad,g1,g3⟩⟩,Goes.refl_ _ _⟩
 unfold source at h
 split at h
 ·simp only [oj,pj] at h
  obtain ⟨rfl,rfl,rfl⟩:=h
  obtain ⟨rfl,_⟩:=val_nilsl.1 hx
  exact ⟨[],G,hc.x,⟨[],⟨rfl,rfl⟩,none,0,rfl,fun hn=>absurd rfl hn⟩,Goes.refl_ _ _⟩
 ·rename_i e1
  simp only [oj,pj] at h
  obtain ⟨rfl,rfl,rfl⟩:=h
  have hx':=(val_one rfl (by simp) (by simp)).1 hx
  unfold InV at hx'
  obtain ⟨⟨Ad,hx'⟩,_⟩:=hx'
  simp only [List.cons.injEq,and_true] at hx'
  exact ⟨[],G,hc.x,⟨[],⟨rfl,rfl⟩,Ad,0,hx',fun hn=>absurd rfl hn⟩,Goes.refl_ _ _⟩
 ·rename_i s p e1
  split at h
  ·rename_i c1 e2 vs hg
   split at h
   ·split at h
    ·rename_i c2 ds b2 hin
     simp only [oj,pj] at h
     obtain ⟨rfl,rfl,rfl⟩:=h
     obtain ⟨hk1,hk2⟩:=conds_cat hk
     obtain ⟨c0,rc,F,i1,i2,i3,_⟩:=place_of hc hg hk1
     have hc0:c0=.lst e2 vs:=by
      simp only [V.get,oj,pj] at i3
      exact i3.2
     subst hc0
     have ht:takeAt bl s []=some (.lst e2 vs,dropB bl s):=by unfold takeAt; rw [i1]
     obtain ⟨c0',rc',Fs,Lv,csv,Fv,G',k1,k2,k3,k4,k5,k6,k7,k8⟩:=take_ok hc.x ht
     have hh:=full_at hx k1 k2 k3 rfl
     unfold InV at k6
     obtain ⟨ad,cc,cs',F',hcs',hlc,hes,hin',hca,hF,hbl,hun⟩:=k6
     rw [hcs'] at k4
     have hhd:=head_of k4
     rw [show (envOf w bl G []).w=w from rfl,hhd] at hh
     simp only [oj] at hh
     subst hF
     have hnd:=k7.ok.xnd
     obtain ⟨p1,p2⟩:=k7.sub (X':=F' ++ []) (by simpa using (List.nodup_cons.1 (by simpa using hnd)).2) (fun b hb=>by simp at hb ⊢; exact .inr hb)
     obtain ⟨F2,G2,q1,q2,q3⟩:=inlDs_ok hp (X:=[]) (F:=F') p1 (InVs_frame p2.le vs (fun s _=>p2.al s id) (fun b _=>rfl) hin') hin hk2
     have hlen:ds.length=vs.length:=by
      exact inlDs_len hin
     exact ⟨F2,G2,q1,⟨cs',q2,some ad,cc,by rw [hlen]; exact hh.symm,fun _=>⟨ad,rfl,hca⟩⟩,(k8.trans p2).trans q3⟩
    ·simp at h
   ·simp at h
  ·rename_i c1 e2 l hg
   split at h
   ·rename_i hbeq
    have hee:=Ty.beq_eq _ _ hbeq
    subst hee
    split at h
    ·rename_i hf
     simp only [oj,pj] at h
     obtain ⟨rfl,rfl,rfl⟩:=h
     exact flatE hf (by simp [elems,hg]) hk
    ·split at h
     ·rename_i v2 b2 ht
      simp only [oj,pj] at h
      obtain ⟨rfl,rfl,rfl⟩:=h
      obtain ⟨c0,rc,F,i1,i2,i3,Lx,csx,Fx,i4,_⟩:=place_of hc hg hk
      obtain ⟨c0',rc',Fs,Lv,csv,Fv,G',k1,k2,k3,k4,k5,k6,k7,k8⟩:=take_ok hc.x ht
      rw [i1] at k1; simp only [oj] at k1; subst k1
      rw [i2] at k2; simp only [oj,pj] at k2; obtain ⟨rfl,rfl⟩:=k2
      rw [i4] at k3; simp only [oj,pj] at k3; obtain ⟨rfl,rfl⟩:=k3
      have hh:=full_at hx i1 i2 i4 rfl
      unfold InV at k6
      obtain ⟨_,Ad,cap,hcs',hsl⟩:=k6
      rw [hcs'] at k4
      have hhd:=head_of k4
      rw [show (envOf w bl G []).w=w from rfl,hhd] at hh
      simp only [oj] at hh
      rcases hsl with ⟨g1,g2,g3⟩ | ⟨ad,cs,F',g1,g2,g3,g4,g5,g6,_⟩
      ·subst g1; subst g3
       exact ⟨[],G',k7,⟨[],⟨rfl,rfl⟩,Ad,cap,hh.symm,fun hn=>absurd rfl hn⟩,k8⟩
      ·subst g4
       have hnd:=k7.ok.xnd
       obtain ⟨p1,p2⟩:=k7.sub (X':=F' ++ []) (by simpa using (List.nodup_cons.1 (by simpa using hnd)).2) (fun b hb=>by simp at hb ⊢; exact .inr hb)
       exact ⟨F',G',p1,⟨cs,g2,Ad,cap,hh.symm,fun _=>⟨ad,g1,g3⟩⟩,k8.trans p2⟩
     ·simp at h
   ·simp at h
  ·simp at h
 ·split at h
  ·rename_i hf
   split at h
   ·rename_i c1 e2 l he
    split at h
    ·rename_i hbeq
     have hee:=Ty.beq_eq _ _ hbeq
     subst hee
     simp only [oj,pj] at h
     obtain ⟨rfl,rfl,rfl⟩:=h
     exact flatE hf he hk
    ·simp at h
   ·simp at h
  ·simp at h
theorem own_write (hc:CoreX w bl G X w0 F0) {s:Nat} {p:List Nat} {c0:V} {rc:List Value} {F:List Nat} {e:Ty} {l xs:List D} {Lx:Where} {Ad:Option Addr} {n k i:Nat} {news:List Value}
  (hl:lookB bl s=some c0) (hg:G s=some (rc,F)) (hloc:locF w c0 (.reg rc) p=some (.own e l,Lx)) (hhd:Lx.head w=some (.slice Ad n k)) (hf:e.flat=true) (hz:e.size ≠ 0)
  (hi:i + xs.length≤l.length) (hrow:Row (DIn true w e) xs news []) :
  ∃ w' G',(xs=[]→w'=w)∧(∀ ad,Ad=some ad→w'=w.setCells ad.block (ad.off + i * e.size) news∧(xs ≠ []→unfz w (ad.add (i * e.size)) news.length∧ad.spot=none))∧(xs ≠ []→∃ ad,Ad=some ad)∧l.length≤k ∧
   CoreX w' (setB bl s (c0.set p (.own e (l.take i ++ xs ++ l.drop (i + xs.length))))) G' X w0 F0∧(∃ F2,G' s=some (rc,F2)) ∧
   Goes (envOf w bl G X) (envOf w' (setB bl s (c0.set p (.own e (l.take i ++ xs ++ l.drop (i + xs.length))))) G' X) (fun _=>False):=by
 obtain ⟨csx,Fx,Fr,m1,m2,m3,m4,m5⟩:=hc.modify hl hg hloc
 obtain ⟨rc',F',F1,g1,g2,g3,g4,g5⟩:=hc.ok.root s c0 hl
 rw [hg] at g1; simp only [oj,pj] at g1; obtain ⟨rfl,rfl⟩:=g1
 have hnd:=(m3.nodup_iff).1 g4
 have m1':=m1
 unfold InV at m1'
 obtain ⟨hp,Ad',k',hcs,hsl⟩:=m1'
 have hnews:news.length=xs.length * e.size:=Row_len (fun d c G hd=>DIn_len e hd) hrow
 have hhd':Lx.head w=some (.slice Ad' l.length k'):=head_of (by rw [← hcs]; exact m2)
 rw [hhd] at hhd'
 simp only [oj,Value.slice.injEq] at hhd'
 obtain ⟨rfl,rfl,rfl⟩:=hhd'
 have hlen':(l.take i ++ xs ++ l.drop (i + xs.length)).length=l.length:=by simp; omega
 have hndX:(Fx ++ X).Nodup:=List.nodup_append.2 ⟨(List.nodup_append.1 hnd).2.1,hc.ok.xnd,fun a ha b hb hab=>by subst hab; exact (g5 a ((m3.mem_iff).2 (by simp [ha]))).2 hb⟩
 have hlt':∀ (w':World),w'.heap.size=w.heap.size→∀ b ∈ Fx ++ X,b<w'.heap.size∧(b ∈ Fx ∨ b ∈ X ∨ w.heap.size≤b):=by
  intro w' hw b hb
  rw [hw]
  rcases List.mem_append.1 hb with q | q
  ·exact ⟨(g5 b ((m3.mem_iff).2 (by simp [q]))).1,.inl q⟩
  ·exact ⟨hc.ok.xlt b q,.inr (.inl q)⟩
 rcases hsl with ⟨h1,h2,h3⟩ | ⟨ad,cs,F',h1,h2,h3,h4,h5,h6,h7⟩
 ·-- nothing there
  subst h1; subst h3
  obtain ⟨hi0,hxs⟩:i=0∧xs=[]:=by simpa using hi
  subst hxs
  subst hi0
  obtain ⟨rfl,_⟩:=hrow
  obtain ⟨p1,p2⟩:=m5 w (.own e ([].take 0 ++ [] ++ [].drop (0 + 0))) csx [] X rfl (fun _ t ht=>by cases t <;> simp [shp] at ht; simpa [shp] using ht) (Nat.le_refl _) (fun _ _ _ _ _=>rfl) (fun _ _=>.inr (.inr trivial))
   (by cases Lx with
     | reg _=>exact True.intro
     | mem a=>exact fun b _ _=>⟨fun _=>rfl,rfl,fun h=>h⟩) m2 (fun _=>rfl) (by simpa using hc.ok.xnd) (by intro b hb; exact ⟨hc.ok.xlt b (by simpa using hb),.inr (.inl (by simpa using hb))⟩)
   LocLe.refl rfl rfl rfl (fun _ _ _ _=>rfl) (fun hle=>InV_frame hle _ (fun s _ c' rc' F' hlk=>by simp [lookB] at hlk) (fun b hb=>rfl) m1) (fun hgo=>hgo.inV (fun _ _=>id) (fun _ _=>rfl) m1)
  refine ⟨w,_,fun _=>rfl,fun ad _=>⟨rfl,fun h=>absurd rfl h⟩,fun h=>absurd rfl h,Nat.zero_le _,p1,?_,p2⟩
  exact ⟨_,if_pos rfl⟩
 ·subst h1
  have hF':F'=[]:=Row_flatF (fun d c G hd=>DIn_flat e hf hd) h2
  subst hF'
  have hcl:cs.length=l.length * e.size:=Row_len (fun d c G hd=>DIn_len e hd) h2
  have hbl:ad.block ∈ Fx:=by rw [h4]; simp
  have hun:=h7 rfl
  obtain ⟨c1,c2,G1,G2,i1,i2,i3,i4,i5⟩:=Row_drop (fun d c G hd=>DIn_len e hd) (n:=i) h2 (by omega)
  obtain ⟨d1,d2,K1,K2,j1,j2,j3,j4,j5⟩:=Row_drop (fun d c G hd=>DIn_len e hd) (n:=xs.length) i5 (by simp; omega)
  subst i1; subst j1
  have hG1:G1=[]:=Row_flatF (fun d c G hd=>DIn_flat e hf hd) i4
  have hK2:K2=[]:=Row_flatF (fun d c G hd=>DIn_flat e hf hd) j5
  subst hG1; subst hK2
  have hfit:i * e.size + news.length≤k * e.size:=by rw [hnews,← Nat.add_mul]; exact Nat.mul_le_mul_right _ (by omega)
  have hun2:unfz w (ad.add (i * e.size)) news.length:=unfz_shift hun hfit
  have hsz':(w.setCells ad.block (ad.off + i * e.size) news).heap.size=w.heap.size:=setCells_size _ _ _ _
  obtain ⟨e1,e2,e3⟩:=setCells_streams ad.block news (ad.off + i * e.size) w
  have hmem:∀ b,b<w.heap.size→b ∉ Fx→(∀ a,Lx=.mem a→b ≠ a.block)→(w.setCells ad.block (ad.off + i * e.size) news).heap[b]?=w.heap[b]?:=
   fun b hb hbF _=>setCells_heap _ _ (fun e=>hbF (by rw [e]; exact hbl)) _ _ _
  have hLx:∀ a,Lx=.mem a→(w.setCells ad.block (ad.off + i * e.size) news).heap[a.block]?=w.heap[a.block]?:=by
   intro a ha
   refine setCells_heap _ _ (fun e=>?_) _ _ _
   rcases m4 with ⟨a',ha',hin⟩ | ⟨ds,hds⟩
   ·rw [ha] at ha'; cases ha'
    exact (List.nodup_append.1 hnd).2.2 _ hin _ hbl e
   ·rw [ha] at hds; cases hds
  have hpart:=setCells_part (w:=w) (ad:=ad.add (i * e.size)) (n:=news.length) (cs:=news) (spot_of_unfz hun2) hun2 rfl
  have hat:=setCells_at (w:=w) (ad:=ad.add (i * e.size)) (cs:=news) (spot_of_unfz hun2) hun2
  rw [add_block,add_off] at hpart hat
  have hnew:InV (envOf (w.setCells ad.block (ad.off + i * e.size) news) bl G X) (.own e (l.take i ++ xs ++ l.drop (i + xs.length))) csx Fx:=by
   unfold InV
   refine ⟨hp,some ad,k,by rw [hlen']; exact hcs,.inr ⟨ad,c1 ++ (news ++ d2),[],rfl,?_,?_,h4,by rw [hlen']; exact h5,by show _<(World.setCells _ _ _ _).heap.size; rw [hsz']; exact h6,fun _=>?_⟩⟩
   ·have r1:=Row_append (Row_append i4 hrow) j5
    rw [List.drop_drop,List.append_assoc c1] at r1
    exact Row_world (w:=w) (by show w.heap.size≤(World.setCells _ _ _ _).heap.size; rw [hsz']; exact Nat.le_refl _) (fun b hb=>by cases hb) r1
   ·refine cellsAt_append ?_ (cellsAt_append (by rw [i3]; exact hat) ?_)
    ·exact cellsAt_part hpart (fun j v hj=>h3 j v (by rw [List.getElem?_append_left (List.getElem?_eq_some_iff.1 hj).1]; exact hj)) (by rw [i3]; exact Nat.le_refl _)
    ·rw [add_add',i3]
     refine cellsAt_part' hpart ?_ (Nat.le_refl _)
     have:=holds_mid (L:=.mem ad) (w:=w) (c1:=c1 ++ d1) (c:=d2) (c2:=[]) (by rw [List.append_nil,List.append_assoc]; exact h3)
     rw [List.length_append,i3,j3,← hnews] at this
     exact this
   ·exact unfz_part hpart hun
  have hkeep:Lx.holds (w.setCells ad.block (ad.off + i * e.size) news) csx:=by
   cases hLxe:Lx with
   | reg ds=>rw [hLxe] at m2; exact m2
   | mem a=>
    rw [hLxe] at m2
    exact cellsAt_frame (hLx a hLxe) m2
  have hps:PartSame w (w.setCells ad.block (ad.off + i * e.size) news) Lx (vsz (.own e l)):=by
   cases hLxe:Lx with
   | reg ds=>exact True.intro
   | mem a=>
    intro b hb hs
    have hbb:=hLx a hLxe
    rw [← hb] at hbb
    exact ⟨fun _=>cell_of_block hbb,frozen_of_block hbb,fun ⟨v,hv⟩=>⟨v,by rw [cell_of_block hbb]; exact hv⟩⟩
  have hhd2:Lx.head (w.setCells ad.block (ad.off + i * e.size) news)=some (.slice (some ad) l.length k):=by
   have:=head_of (by rw [← hcs]; exact hkeep)
   exact this
  obtain ⟨p1,p2⟩:=m5 (w.setCells ad.block (ad.off + i * e.size) news) (.own e (l.take i ++ xs ++ l.drop (i + xs.length))) csx Fx X rfl (fun _ t ht=>by cases t <;> simp [shp] at ht; simpa [shp] using ht) (by rw [hsz']; exact Nat.le_refl _)
   (fun b hb hbF _ hba=>hmem b hb hbF hba) (fun _ _=>.inr (.inr trivial)) hps hkeep (fun _=>rfl) hndX (hlt' _ hsz')
   (by
    intro q x' L' hq
    cases q with
    | nil=>
     simp only [locF,oj,pj] at hq
     obtain ⟨rfl,rfl⟩:=hq
     exact ⟨_,rfl,fun _=>⟨rfl,by rw [hhd2,hhd]⟩⟩
    | cons j q=>
     simp only [locF] at hq ⊢
     split at hq
     ·rename_i hj
      rw [hlen'] at hj
      rw [hhd2] at hq
      rw [if_pos hj,hhd]
      simp only at hq ⊢
      have hnew':=hnew
      unfold InV at hnew'
      obtain ⟨_,A3,k3,hcs3,hsl3⟩:=hnew'
      rcases hsl3 with ⟨z1,_⟩ | ⟨ad3,cs3,F3,_,z2,_⟩
      ·rw [z1] at hlen'; simp at hlen'; omega
      ·obtain ⟨_,_,_,_,_,_,_,_,_,f4,_⟩:=Row_at (fun d c G hd=>DIn_len _ hd) z2 (show j<_ by rw [hlen']; exact hj)
       obtain ⟨_,_,_,_,_,_,_,_,_,e4,_⟩:=Row_at (fun d c G hd=>DIn_len _ hd) h2 hj
       obtain ⟨y',r1,r2⟩:=loc_sim (E:=envOf (w.setCells ad.block (ad.off + i * e.size) news) bl G X) (E':=envOf w bl G X) q (shp_fits (shp_dec e _ hp)) (shp_fits (shp_dec e _ hp)) (simple_dec e _ hf) (simple_dec e _ hf) (dec_own e hp f4) (dec_own e hp e4) hq
       exact ⟨y',r1,fun ho=>by rw [r2] at ho; cases ho⟩
     ·simp at hq) e1 e2 e3 hmem
   (fun hle=>by
    unfold InV at hnew ⊢
    exact hnew)
   (fun hgo=>by
    unfold InV at hnew ⊢
    exact hnew)
  refine ⟨_,_,?_,?_,fun _=>⟨ad,rfl⟩,h5,p1,⟨_,if_pos rfl⟩,p2⟩
  ·intro hxs
   subst hxs
   have:news=[]:=List.eq_nil_of_length_eq_zero (by rw [hnews]; simp)
   rw [this]; rfl
  ·intro ad' hadd
   cases hadd
   refine ⟨rfl,fun hxs=>⟨hun2,?_⟩⟩
   have hnz:news.length ≠ 0:=by
    rw [hnews]
    exact Nat.mul_ne_zero (fun h0=>hxs (List.eq_nil_of_length_eq_zero h0)) hz
   exact spot_of_unfz hun (by omega)
end
end Go.Rai
namespace Go.Rai
variable [Inhabited Kset]
section
variable {P:Program} {A:Ann} {w w' w0:World} {F0:List Nat} {sl:List V} {a:Act} {bl b':BL} {G:GT} {o:Oper} {X:List Nat}
theorem call_run {c:Call} {f:Builtin} {xs:List Operand} {R:Result Next} (h:o.op=.call c) (hcal:c.callee=.builtin f) (hargs:c.args.toList=xs)
  (hr:∀ cs,(builtin f c.argTypes o.type cs (xs.map a.eval).toArray).run P w=R):(execOp a.eval o).run P w=R:=by
 have:c.args=xs.toArray:=by apply Array.toList_inj.1; rw [hargs]
 rw [← hr (xs.map fun x=>match x with | .const _=>true | _=>false).toArray]
 simp [execOp,h,resolve,hcal,this,invoke]
 rfl
theorem sub_alias {E E':Env} (hgo:Goes E E' (fun _=>False)) {s:Nat} {p:List Nat} {c0:V} {rc:List Value} {F:List Nat} {x0:V} {Lx:Where} {A A':Option Addr} {n k off len:Nat} {e:Ty}
  (hl:lookB E.bl s=some c0) (hg:E.G s=some (rc,F)) (hloc:locF E.w c0 (.reg rc) p=some (x0,Lx)) (hhd:Lx.head E.w=some (.slice A n k)) (hle:off + len≤k) (hA:off<k→∃ a,A=some a∧A'=some (a.add (off * e.size))) :
  InV E' (.sub s p off len e) [.slice A' len (k - off)] []:=by
 unfold InV
 refine ⟨rfl,⟨A',k - off,rfl,by omega⟩,fun c rc' F0 k1 k2 x L k3 k4=>?_⟩
 obtain ⟨c1,F1,g1,g2,g3⟩:=hgo.al s id c rc' F0 k1 k2
 rw [hl] at g1; simp only [oj] at g1; subst g1
 rw [hg] at g2; simp only [oj,pj] at g2; obtain ⟨rfl,_⟩:=g2
 obtain ⟨x1,q1,q2⟩:=g3 p x L k3
 rw [hloc] at q1
 simp only [oj,pj] at q1
 obtain ⟨rfl,rfl⟩:=q1
 exact ⟨A,n,k,A',by rw [(q2 k4).2]; exact hhd,hle,rfl,hA⟩
theorem ok_appendZ (HT:TysOK P A.ty) (hc:Core w bl G w0 F0) (hs:Slots (envOf w bl G []) sl a) {c:Call} {s x:Operand} {t tx:TypeId} {e:Ty} {co:List Cond} {v:V} {b:BL} (h:o.op=.call c) (hcal:c.callee=.builtin .append)
  (hargs:c.args.toList=[s,x]) (hts:c.argTypes.toList=[t,tx]) (hty:A.ty t=.slice e) (hit:isIntT (A.ty tx)=true) (hv:appendZ e sl bl o.dst (opd sl s) (opd sl x)=some (co,v,b)) (hk:∀ k ∈ co,k.ok):Prim P w0 F0 sl a w o v b:=by
 obtain ⟨kx,hxt⟩:∃ k,A.ty tx=.int k:=by
  cases hq:A.ty tx with
  | int k=>exact ⟨k,rfl⟩
  | _=>rw [hq] at hit; simp [isIntT] at hit
 obtain ⟨dx,hdx,hdxk⟩:=(HT tx (by rw [hxt]; simp)).desc
 rw [hxt] at hdxk
 have hdx':=desc_int hdxk
 subst hdx'
 obtain ⟨d,hd,hdk⟩:=(HT t (by rw [hty]; simp)).desc
 rw [hty] at hdk
 obtain ⟨te,rfl,hte,hne⟩:=desc_slice hdk
 have hT:=HT te (by rw [hte]; exact hne)
 have hats:c.argTypes=#[t,tx]:=by apply Array.toList_inj.1; rw [hts]
 have hrun:∀ vv w2,(Builtin.append_ #[t,tx] o.type #[a.eval s,a.eval x]).run P w=.ok vv w2→(execOp a.eval o).run P w=.ok (.value vv) w2:=by
  intro vv w2 hr
  refine call_run h hcal hargs (fun cs=>?_)
  rw [hats]
  simp [builtin,hr]
 have hsv:=opd_val hs s
 have hxv:=opd_val hs x
 unfold appendZ at hv
 split at hv
 ·rename_i hse
  rw [hse] at hsv
  obtain ⟨hes,_⟩:=val_nilsl.1 hsv
  split at hv
  ·rename_i k n hxe
   rw [hxe] at hxv
   obtain ⟨hex,_⟩:=val_int.1 hxv
   split at hv
   ·rename_i hkq
    have hk64:=keq_eq hkq
    subst hk64
    obtain ⟨hpz,hv⟩:=whenG_some hv
    rw [band_true] at hpz
    obtain ⟨hp,hz'⟩:=hpz
    have hz:e.size ≠ 0:=by
     intro h0; rw [h0] at hz'; simp [bneg] at hz'
    obtain ⟨rfl,hfr⟩:=withC_some hv
    obtain ⟨m1,_,m3⟩:0≤n∧n≤n∧n≤4294967296:=hk (.mk n n) (by simp)
    obtain ⟨m,rfl⟩:∃ m:Nat,n=(m:Int):=⟨n.toNat,by omega⟩
    simp only [Int.toNat_natCast] at hfr
    obtain ⟨r0,r1⟩:=zeros_run (w:=w) (ty:=o.type) hp hz hte hT hd hdx (n:=m) (by omega)
    by_cases hm0:m=0
    ·subst hm0
     have hin:InV (envOf w bl G ([] ++ [])) (.own e (List.replicate 0 (zeroD e))) [.slice none 0 0] []:=by
      unfold InV
      exact ⟨hp,none,0,rfl,.inl ⟨rfl,rfl,rfl⟩⟩
     obtain ⟨G',g1,g2,g3⟩:=fresh_ok (F:=[]) (X:=[]) hc.x hs (v:=.slice none 0 0) hin (by unfold asVal; rfl) hfr
     exact ⟨_,w,G',.inl (hrun _ _ (by rw [hes,hex]; exact r0 rfl)),g1.c,g2,g3⟩
    ·have hr:=r1 (by omega)
     have hge:=grownCap_ge w m 0 te
     generalize hN:grownCap w m 0 te=N at hr hge
     obtain ⟨i,z,hi,hiz,hisz,hby,hzc,hzl⟩:=plain_zero (P:=P) hp hte hT
     have hcells:(rep' m (zcells e)).toArray ++ Builtin.zeroCells (zcells e).toArray (N - m)=((rep' m (zcells e)) ++ (Builtin.zeroCells (zcells e).toArray (N - m)).toList).toArray:=by
      apply Array.ext'; simp
     rw [hcells] at hr
     obtain ⟨d1,d2⟩:=hc.x.drew
     obtain ⟨k1,k2⟩:=d1.alloc (.cells ((rep' m (zcells e)) ++ (Builtin.zeroCells (zcells e).toArray (N - m)).toList).toArray te)
     have hzl2:(Builtin.zeroCells (zcells e).toArray (N - m)).toList.length=(N - m) * e.size:=by rw [Array.length_toList,size_zeroCells,List.size_toArray,hzl]
     have hin:=own_new' (te:=te) (E:=envOf (w.drew.alloc (.cells ((rep' m (zcells e)) ++ (Builtin.zeroCells (zcells e).toArray (N - m)).toList).toArray te)) bl G ([w.drew.heap.size] ++ [])) (w1:=w.drew) (c:=N) (l:=List.replicate m (zeroD e)) (F:=[]) hp rfl (Row_rep (zeroD_in e hp) m) (by simp; exact hge) (by
      rw [hzl2,rep'_len,hzl,← Nat.add_mul]
      congr 1
      omega)
     rw [List.length_replicate] at hin
     obtain ⟨G',g1,g2,g3⟩:=fresh_ok (F:=[w.drew.heap.size]) (X:=[]) k1 (hs.go0 (d2.trans k2)) (v:=.slice (some ⟨w.heap.size,0,none⟩) m N) hin (by unfold asVal; rfl) hfr
     exact ⟨_,_,G',.inl (hrun _ _ (by rw [hes,hex]; exact hr)),g1.c,g2,g3⟩
   ·cases hv
  ·cases hv
 ·rename_i t2 p e2 hse
  split at hv
  ·rename_i k n hxe
   rw [hxe] at hxv
   obtain ⟨hex,_⟩:=val_int.1 hxv
   split at hv
   ·rename_i hkq
    have hk64:=keq_eq hkq
    subst hk64
    obtain ⟨hpz,hv⟩:=whenG_some hv
    rw [band_true,band_true] at hpz
    obtain ⟨hb1,hp,hz'⟩:=hpz
    have hz:e.size ≠ 0:=by
     intro h0; rw [h0] at hz'; simp [bneg] at hz'
    split at hv
    ·rename_i e3 l b2 ht
     obtain ⟨hb2,hv2⟩:=whenG_some hv
     have hee:=Ty.beq_eq _ _ hb2
     subst hee
     obtain ⟨rfl,hfr⟩:=withC_some hv2
     obtain ⟨m1,_,m3⟩:0≤n∧n≤n∧n≤4294967296:=hk (.mk n n) (by simp)
     obtain ⟨m,rfl⟩:∃ m:Nat,n=(m:Int):=⟨n.toNat,by omega⟩
     have hsz:l.length + ((m:Int)).toNat≤4294967296:=hk (.sz l.length ((m:Int)).toNat) (by simp)
     simp only [Int.toNat_natCast] at hfr hsz
     rw [hse] at hsv
     obtain ⟨c0,rc,Fz,Lv,csv,Fv,G2,k1,k2,k3,k4,k5,k6,k7,k8⟩:=take_ok hc.x ht
     have hh:=full_at hsv k1 k2 k3 rfl
     have hh2:Lv.head w=some (a.eval s):=hh
     unfold InV at k6
     obtain ⟨_,Ad,cap,hcs',hsl⟩:=k6
     rw [hcs'] at k4
     have hhd:=head_of k4
     rw [hhd] at hh2
     simp only [oj] at hh2
     have hrow:Row (DIn true w e) (List.replicate m (zeroD e)) (rep' m (zcells e)) []:=Row_rep (zeroD_in e hp) m
     have hone:∀ u ∈ rep' m (zcells e),u.oneCell'=true:=Row_one (fun d c F=>DIn_one e) hrow
     obtain ⟨v',w',F',r1,r2,r3,r4⟩:=append_coreA (P:=P) (A:=A) (w:=w) (ty:=o.type) (t:=t) (tx:=tx) (vx:=.int .i64 (m:Int)) (Fs:=[]) (X:=[]) (xs:=List.replicate m (zeroD e)) (by simpa using k7) hp hz hte hT hsl hrow (fun i z hi hiz hisz hby hzc hzl=>by
      rw [List.length_replicate]
      exact App.ofInt hz hd hdx hi hiz hisz hby hzc hzl (by omega) hone) (by rw [List.length_replicate]; exact hsz)
     rw [← hex,hh2] at r1
     obtain ⟨G',g1,g2,g3⟩:=fresh_ok (F:=F') (X:=[]) r2 (hs.go0 (k8.trans r4)) (v:=v') r3 (by unfold asVal; rfl) hfr
     exact ⟨v',w',G',.inl (hrun _ _ r1),g1.c,g2,g3⟩
    ·cases hv
   ·cases hv
  ·cases hv
 ·cases hv
theorem ok_append (HT:TysOK P A.ty) (hc:Core w bl G w0 F0) (hs:Slots (envOf w bl G []) sl a) {c:Call} {co:List Cond} {v:V} {b:BL} (h:o.op=.call c) (hcal:c.callee=.builtin .append)
  (hv:builtinV A sl bl o.dst .append c.argTypes.toList (mapOpd sl c.args.toList)=some (co,v,b)) (hk:∀ k ∈ co,k.ok):Prim P w0 F0 sl a w o v b:=by
 match hargs:c.args.toList with
 | []=>rw [hargs] at hv; simp [mapOpd,builtinV] at hv
 | [x]=>rw [hargs] at hv; simp [mapOpd,builtinV] at hv
 | x :: y :: z :: r=>rw [hargs] at hv; simp [mapOpd,builtinV] at hv
 | [s,x]=>
  rw [hargs] at hv
  simp only [mapOpd,builtinV] at hv
  split at hv
  ·rename_i t tx hts
   split at hv
   ·rename_i e hty
    split at hv
    ·rename_i hit
     exact ok_appendZ HT hc hs h hcal hargs hts hty hit hv hk
    rename_i hnit
    obtain ⟨htx,hv⟩:=whenG_some hv
    obtain ⟨e',hd'⟩:=slice_desc HT htx
    obtain ⟨d,hd,hdk⟩:=(HT t (by rw [hty]; simp)).desc
    rw [hty] at hdk
    obtain ⟨te,rfl,hte,hne⟩:=desc_slice hdk
    have hT:=HT te (by rw [hte]; exact hne)
    have hats:c.argTypes=#[t,tx]:=by apply Array.toList_inj.1; rw [hts]
    have hrun:∀ vv w2,(Builtin.append_ #[t,tx] o.type #[a.eval s,a.eval x]).run P w=.ok vv w2→(execOp a.eval o).run P w=.ok (.value vv) w2:=by
     intro vv w2 hr
     refine call_run h hcal hargs (fun cs=>?_)
     rw [hats]
     simp [builtin,hr]
    unfold appendV at hv
    split at hv
    ·rename_i c1 xs b1 hsrc
     obtain ⟨hpz,hsrc⟩:=whenG_some hsrc
     rw [band_true] at hpz
     obtain ⟨hp,hz'⟩:=hpz
     have hz:e.size ≠ 0:=by
      intro h0; rw [h0] at hz'; simp [bneg] at hz'
     have fin:∀ (Fl Fs:List Nat) (Ad:Option Addr) (cap:Nat) (l:List D) (G1:GT) (b2:BL) (news:List Value),CoreX w b2 G1 (Fl ++ (Fs ++ [])) w0 F0→Goes (envOf w bl G []) (envOf w b2 G1 (Fl ++ (Fs ++ []))) (fun _=>False) →
       SlIn true w (DIn true w e) e.size Ad cap l Fl→Row (DIn true w e) xs news Fs→Fed w (a.eval x) xs.length news→l.length + xs.length≤4294967296→a.eval s=.slice Ad l.length cap→fresh sl b2 o.dst (.own e (l ++ xs))=some (v,b)→Prim P w0 F0 sl a w o v b:=by
      intro Fl Fs Ad cap l G1 b2 news hcx hgo hsl hrow hfed hsz hes hfr
      obtain ⟨v',w',F',r1,r2,r3,r4⟩:=append_core (P:=P) (A:=A) (ty:=o.type) hcx hp hz hte hT hd hd' hsl hrow hfed hsz
      rw [← hes] at r1
      obtain ⟨G',g1,g2,g3⟩:=fresh_ok (F:=F') (X:=[]) r2 (hs.go0 (hgo.trans r4)) (v:=v') r3 (by unfold asVal; rfl) hfr
      exact ⟨v',w',G',.inl (hrun _ _ r1),g1.c,g2,g3⟩
     have hsv:=opd_val hs s
     split at hv
     ·rename_i hse
      obtain ⟨rfl,hfr⟩:=withC_some hv
      obtain ⟨hk1,hk2⟩:=conds_cat hk
      obtain ⟨Fs,G1,q1,⟨news,q2,q3⟩,q4⟩:=source_ok hc (opd_val hs x) hp hsrc hk1
      rw [hse] at hsv
      obtain ⟨hes,_⟩:=val_nilsl.1 hsv
      have hsz:0 + xs.length≤4294967296:=hk2 (.sz 0 xs.length) (by simp)
      exact fin [] Fs none 0 [] G1 b1 news q1 q4 (.inl ⟨rfl,rfl,rfl⟩) q2 q3 hsz hes hfr
     ·rename_i e2 hse
      split at hv
      ·obtain ⟨rfl,hfr⟩:=withC_some hv
       obtain ⟨hk1,hk2⟩:=conds_cat hk
       obtain ⟨Fs,G1,q1,⟨news,q2,q3⟩,q4⟩:=source_ok hc (opd_val hs x) hp hsrc hk1
       rw [hse] at hsv
       have hx':=(val_one rfl (by simp) (by simp)).1 hsv
       unfold InV at hx'
       obtain ⟨⟨Ad,hx'⟩,_⟩:=hx'
       simp only [List.cons.injEq,and_true] at hx'
       have hsz:0 + xs.length≤4294967296:=hk2 (.sz 0 xs.length) (by simp)
       exact fin [] Fs Ad 0 [] G1 b1 news q1 q4 (.inl ⟨rfl,rfl,rfl⟩) q2 q3 hsz hx' hfr
      ·simp at hv
     ·rename_i t2 p e2 hse
      split at hv
      ·rename_i hb1
       split at hv
       ·rename_i e3 l b2 ht
        obtain ⟨hb2,hv2⟩:=whenG_some hv
        have hee:=Ty.beq_eq _ _ hb2
        subst hee
        obtain ⟨rfl,hfr⟩:=withC_some hv2
        obtain ⟨hk1,hk2⟩:=conds_cat hk
        obtain ⟨Fs,G1,q1,⟨news,q2,q3⟩,q4⟩:=source_ok hc (opd_val hs x) hp hsrc hk1
        have hsv1:=opd_val (hs.go0 q4) s
        rw [hse] at hsv1
        obtain ⟨c0,rc,Fz,Lv,csv,Fv,G2,k1,k2,k3,k4,k5,k6,k7,k8⟩:=take_ok q1 ht
        have hh:=full_at hsv1 k1 k2 k3 rfl
        have hh2:Lv.head w=some (a.eval s):=hh
        unfold InV at k6
        obtain ⟨_,Ad,cap,hcs',hsl⟩:=k6
        rw [hcs'] at k4
        have hhd:=head_of k4
        rw [hhd] at hh2
        simp only [oj] at hh2
        have hsz:l.length + xs.length≤4294967296:=hk2 (.sz l.length xs.length) (by simp)
        exact fin Fv Fs Ad cap l G2 b2 news k7 (q4.trans k8) hsl q2 q3 hsz hh2.symm hfr
       ·simp at hv
      ·simp at hv
     ·rename_i t2 p off len e2 hse
      split at hv
      ·rename_i hb1
       rw [band_true] at hb1
       obtain ⟨hbe,hf⟩:=hb1
       have hee0:=Ty.beq_eq _ _ hbe
       subst hee0
       split at hv
       ·rename_i c2 e3 l hga
        split at hv
        ·rename_i cx b2 hset
         obtain ⟨hb2,hv2⟩:=whenG_some hv
         have hee:=Ty.beq_eq _ _ hb2
         subst hee
         simp only [oj,pj] at hv2
         obtain ⟨rfl,rfl,rfl⟩:=hv2
         obtain ⟨hk12,hk3⟩:=conds_cat hk
         obtain ⟨hk1,hk2⟩:=conds_cat hk12
         obtain ⟨Fs,G1,q1,⟨news,q2,q3⟩,q4⟩:=source_ok hc (opd_val hs x) hp hsrc hk1
         have hFs:Fs=[]:=Row_flatF (fun d c G hd=>DIn_flat e hf hd) q2
         subst hFs
         have hroom:off + len + xs.length≤l.length:=hk3 (.le (off + len + xs.length) l.length) (by simp)
         have hc1:Core w b1 G1 w0 F0:=q1.c
         have hs1:Slots (envOf w b1 G1 []) sl a:=hs.go0 q4
         have hsv1:=opd_val hs1 s
         rw [hse] at hsv1
         obtain ⟨c0,rc,F,i1,i2,i3,Lx,csx,Fx,i4,i5,i6,i7,i8,i9⟩:=place_of hc1 hga hk2
         obtain ⟨A0,n0,k0,A1,j1,j2,j3,j4⟩:=sub_at hsv1 i1 i2 i4 rfl
         have j1':Lx.head w=some (.slice A0 n0 k0):=j1
         obtain ⟨w',G',z1,z2,z3,z4,z5,⟨F2,z6⟩,z7⟩:=own_write (X:=[]) hc1.x (i:=off + len) (xs:=xs) (news:=news) i1 i2 i4 j1' hf hz hroom q2
         have hb':b2=setB b1 t2 (c0.set p (.own e (l.take (off + len) ++ xs ++ l.drop (off + len + xs.length)))):=by
          unfold setAt at hset
          rw [i1] at hset
          simp only [i3,oj,pj] at hset
          exact hset.2.symm
         subst hb'
         have hal:=sub_alias z7 (len:=len + xs.length) (off:=off) (e:=e) (A':=A1) i1 i2 i4 j1 (by omega) j4
         obtain ⟨i,z,hi,hiz,hisz,hby,hzc,hzl⟩:=plain_zero (P:=P) hp hte hT
         have hnl:news.length=xs.length * e.size:=Row_len (fun d c G hd=>DIn_len e hd) q2
         have hone:∀ u ∈ news,u.oneCell'=true:=Row_one (fun d c F=>DIn_one e) q2
         have hsr:Src P i.size tx (a.eval x) xs.length news w:=q3.src hd' (by rw [hisz]; exact hnl) hone
         have hex:a.eval s=.slice A1 len (k0 - off):=j3
         have hgoal:(Builtin.append_ #[t,tx] o.type #[.slice A1 len (k0 - off),a.eval x]).run P w=.ok (.slice A1 (len + xs.length) (k0 - off)) w':=by
          by_cases hx0:xs=[]
          ·have hw:=z1 hx0
           subst hw
           subst hx0
           have hn0:news=[]:=List.eq_nil_of_length_eq_zero (by simpa using hnl)
           subst hn0
           have e1:=hsr.len w'
           have e2:=hsr.cells
           simp only [List.length_nil] at e1 e2
           have hr0:len≤k0 - off:=by omega
           cases A1 with
           | none=>simp [Builtin.append_,run_underlying hd,run_underlying hd',sizeOf,typeInfo,hi,e1,e2,hr0]
           | some ad1=>simp [Builtin.append_,run_underlying hd,run_underlying hd',sizeOf,typeInfo,hi,e1,e2,hr0,storeCells]
          ·obtain ⟨ad,rfl⟩:=z3 hx0
           obtain ⟨hw,hu⟩:=z2 ad rfl
           obtain ⟨hun,hsp⟩:=hu hx0
           subst hw
           have hpos:0<xs.length:=List.length_pos_iff.2 hx0
           obtain ⟨ad',r1,r2⟩:=j4 (by omega)
           simp only [oj] at r1
           subst r1
           rw [add_lit' hsp] at r2
           subst r2
           have hsp2:(ad.add ((off + len) * e.size)).spot=none:=spot_add _ _ hsp
           have hr:=run_append_room_src (P:=P) w t tx o.type te i hd hi ad.block (ad.off + off * e.size) len (k0 - off) (a.eval x) xs.length news hsr (by omega)
            (fun j hj=>by
             obtain ⟨⟨u,hu⟩,_⟩:=hun j hj
             rw [add_add',add_lit' hsp] at hu
             rw [hisz,show ad.off + off * e.size + len * e.size + j=ad.off + ((off + len) * e.size + j) by rw [Nat.add_mul]; omega,hu]; rfl)
            (fun j hj=>by
             obtain ⟨_,hu⟩:=hun j hj
             rw [add_add',add_lit' hsp] at hu
             rw [hisz,show ad.off + off * e.size + len * e.size + j=ad.off + ((off + len) * e.size + j) by rw [Nat.add_mul]; omega,hu])
           rw [hisz,show ad.off + off * e.size + len * e.size=ad.off + (off + len) * e.size by rw [Nat.add_mul]; omega] at hr
           exact hr
         rw [← hex] at hgoal
         refine ⟨_,w',G',.inl (hrun _ _ hgoal),z5.c,hs1.go0 z7,?_⟩
         rw [val_one rfl (by simp) (by simp)]
         exact hal
        ·simp at hv
       ·simp at hv
      ·simp at hv
     ·simp at hv
    ·simp at hv
   ·simp at hv
  ·simp at hv
theorem Row_u8 {o:Bool} {w:World}:∀ {l:List D} {cs:List Value} {F:List Nat},Row (DIn o w (.int .u8)) l cs F→cs=(l.map D.toInt).map (Value.int .u8)
 | [],cs,F,h=>by obtain ⟨rfl,_⟩:=h; rfl
 | d :: l,cs,F,⟨c1,c2,F1,F2,e1,e2,h1,h2⟩=>by
  unfold DIn at h1
  rw [e1,h1.1,Row_u8 h2]; rfl
theorem ok_bytes (HT:TysOK P A.ty) (hc:Core w bl G w0 F0) (hs:Slots (envOf w bl G []) sl a) {s t:TypeId} {x:Operand} {e:Ty} {c:List Cond} {v:V} {b:BL} (h:o.op=.convert s t x) (hts:A.ty s=.slice e) (htt:A.ty t=.str)
  (hv:bytesV e bl (opd sl x)=some (c,v,b)) (hk:∀ k ∈ c,k.ok):Prim P w0 F0 sl a w o v b:=by
 unfold bytesV at hv
 split at hv
 ·rename_i he8
  have he:=Ty.beq_eq _ _ he8
  subst he
  split at hv
  ·rename_i c1 e1 l hel
   split at hv
   ·rename_i hbe
    have hee:=Ty.beq_eq _ _ hbe
    subst hee
    simp only [oj,pj] at hv
    obtain ⟨rfl,rfl,rfl⟩:=hv
    obtain ⟨d,hd,hdk⟩:=(HT s (by rw [hts]; simp)).desc
    rw [hts] at hdk
    obtain ⟨te,rfl,hte,hne⟩:=desc_slice hdk
    obtain ⟨d2,hd2,hk2⟩:=(HT te (by rw [hte]; simp)).desc
    rw [hte] at hk2
    have e2:=desc_int hk2
    subst e2
    obtain ⟨d3,hd3,hk3⟩:=(HT t (by rw [htt]; simp)).desc
    rw [htt] at hk3
    have e3:=desc_str hk3
    subst e3
    obtain ⟨Ad,cap,F,h1,h2,h3,h4⟩:=elems_ok hc (opd_val hs x) hel hk
    have hrun:(convert s t (.slice Ad l.length cap)).run P w=.ok (.string (bytesOf l)) w:=by
     rw [run_convert_bytes_string w s t te Ad l.length cap hd hd2 hd3]
     rcases h2 with ⟨g1,g2,g3⟩ | ⟨ad,cs,F',g1,g2,g3,_⟩
     ·subst g1
      cases Ad with
      | none=>simp [Conv.bytesToString,bytesOf]
      | some ad=>
       have:=run_bytesToString (P:=P) w ad 0 cap [] (by simpa using run_loadCells_list (P:=P) w ad [] (by simp))
       simpa [bytesOf] using this
     ·subst g1
      have hcs:=Row_u8 g2
      subst hcs
      have:=run_loadCells_list (P:=P) w ad _ g3
      rw [List.length_map,List.length_map] at this
      exact run_bytesToString w ad l.length cap (l.map D.toInt) this
    refine Prim.pure hc hs (vv:=.string (bytesOf l)) ?_ (val_str.2 ⟨rfl,rfl⟩)
    simp [execOp,h,h1,hrun]
   ·simp at hv
  ·simp at hv
 ·simp at hv
theorem copy_run {t tx ty te:TypeId} {i:TypeInfo} {e':TypeId} (hd:P.underlying t=some (.slice te)) (hd':P.underlying tx=some (.slice e')) (hi:P.info? te=some i) {A1 Ad:Option Addr} {len cp n cap m:Nat} {news:List Value} (hm:m=Nat.min n len)
  (hfed:m ≠ 0→∃ ad,Ad=some ad∧cellsAt w ad news) (hnl:news.length=m * i.size) (hone:∀ u ∈ news,u.oneCell'=true)
  (hw:(m=0∧w'=w) ∨ ∃ ad1,A1=some ad1∧ad1.spot=none∧unfz w ad1 news.length∧w'=w.setCells ad1.block ad1.off news) :
  (Builtin.copy_ #[t,tx] ty #[.slice A1 len cp,.slice Ad n cap]).run P w=.ok (.int .i64 m) w':=by
 have hsr:Src P i.size tx (.slice Ad m cap) m news w:=Fed.src ⟨Ad,cap,rfl,hfed⟩ hd' hnl hone
 have hcells:(Builtin.firstCells i.size m (.slice Ad n cap)).run P w=.ok news.toArray w:=by
  have h1:=hsr.cells
  cases Ad <;> exact h1
 rcases hw with ⟨h0,rfl⟩ | ⟨ad1,rfl,hsp,hun,rfl⟩
 ·have hn0:news=[]:=List.eq_nil_of_length_eq_zero (by rw [hnl,h0]; simp)
  subst hn0
  cases A1 with
  | none=>simp [Builtin.copy_,run_underlying hd,sizeOf,typeInfo,hi,Builtin.lenOf,← hm,hcells,goInt]
  | some ad=>simp [Builtin.copy_,run_underlying hd,sizeOf,typeInfo,hi,Builtin.lenOf,← hm,hcells,goInt,storeCells]
 ·obtain ⟨b,of,sp⟩:=ad1
  simp only at hsp
  subst hsp
  have hst:=run_storeCells_cells (P:=P) b of news 0 w (fun j hj=>by
   obtain ⟨⟨u,hu⟩,_⟩:=hun j hj
   rw [Addr.add_lit] at hu
   rw [Nat.add_zero,hu]; rfl) (fun j hj=>by
   obtain ⟨_,hu⟩:=hun j hj
   rw [Addr.add_lit] at hu
   rw [Nat.add_zero]; exact hu) hone
  simp only [Nat.add_zero] at hst
  simp [Builtin.copy_,run_underlying hd,sizeOf,typeInfo,hi,Builtin.lenOf,← hm,hcells,goInt,hst]
theorem ok_copy (HT:TysOK P A.ty) (hc:Core w bl G w0 F0) (hs:Slots (envOf w bl G []) sl a) {c:Call} {co:List Cond} {v:V} {b:BL} (h:o.op=.call c) (hcal:c.callee=.builtin .copy)
  (hv:builtinV A sl bl o.dst .copy c.argTypes.toList (mapOpd sl c.args.toList)=some (co,v,b)) (hk:∀ k ∈ co,k.ok):Prim P w0 F0 sl a w o v b:=by
 match hargs:c.args.toList with
 | []=>rw [hargs] at hv; simp [mapOpd,builtinV] at hv
 | [x]=>rw [hargs] at hv; simp [mapOpd,builtinV] at hv
 | x :: y :: z :: r=>rw [hargs] at hv; simp [mapOpd,builtinV] at hv
 | [s,x]=>
  rw [hargs] at hv
  simp only [mapOpd,builtinV] at hv
  split at hv
  ·rename_i t tx hts
   split at hv
   ·rename_i e hty
    obtain ⟨htx,hv⟩:=whenG_some hv
    obtain ⟨e',hd'⟩:=slice_desc HT htx
    obtain ⟨d,hd,hdk⟩:=(HT t (by rw [hty]; simp)).desc
    rw [hty] at hdk
    obtain ⟨te,rfl,hte,hne⟩:=desc_slice hdk
    have hT:=HT te (by rw [hte]; exact hne)
    have hats:c.argTypes=#[t,tx]:=by apply Array.toList_inj.1; rw [hts]
    have hrun:∀ vv w2,(Builtin.copy_ #[t,tx] o.type #[a.eval s,a.eval x]).run P w=.ok vv w2→(execOp a.eval o).run P w=.ok (.value vv) w2:=by
     intro vv w2 hr
     refine call_run h hcal hargs (fun cs=>?_)
     rw [hats]
     simp [builtin,hr]
    unfold copyV at hv
    split at hv
    ·rename_i c1 xs b1 hsrc
     obtain ⟨hpz,hsrc⟩:=whenG_some hsrc
     rw [band_true] at hpz
     obtain ⟨hp,hz0⟩:=hpz
     have hz:e.size ≠ 0:=by
      intro h0
      rw [h0] at hz0
      simp [bneg] at hz0
     split at hv
     ·rename_i hf
      obtain ⟨i,z,hi,hiz,hisz,hby,hzc,hzl⟩:=plain_zero (P:=P) hp hte hT
      have fin:∀ {t2:Nat} {p:List Nat} {off len:Nat} {l:List D} {c0:V} {rc:List Value} {F:List Nat} {G1:GT} {Lx:Where} {A0 A1:Option Addr} {n0 k0 cp:Nat} {news:List Value},CoreX w b1 G1 [] w0 F0→Slots (envOf w b1 G1 []) sl a →
        Row (DIn true w e) xs news []→Fed w (a.eval x) xs.length news→lookB b1 t2=some c0→G1 t2=some (rc,F)→locF w c0 (.reg rc) p=some (.own e l,Lx)→Lx.head w=some (.slice A0 n0 k0) →
        off + len≤l.length→a.eval s=.slice A1 len cp→((xs.take len) ≠ []→∀ ad,A0=some ad→ad.spot=none→A1=some (ad.add (off * e.size))) →
        Prim P w0 F0 sl a w o (.int .i64 (xs.take len).length) (setB b1 t2 (c0.set p (.own e (l.take off ++ xs.take len ++ l.drop (off + (xs.take len).length))))):=by
       intro t2 p off len l c0 rc F G1 Lx A0 A1 n0 k0 cp news hc1 hs1 q2 q3 i1 i2 i4 j1 hroom hex hA
       obtain ⟨Ad,cap,hvx,hfed⟩:=q3
       obtain ⟨d1,d2,K1,K2,y1,y2,y3,y4,y5⟩:=Row_drop (fun d c G hd=>DIn_len e hd) (n:=(xs.take len).length) q2 (by simp; omega)
       have hK1:K1=[]:=by
        have:K1 ++ K2=[]:=y2.symm
        simpa using (List.append_eq_nil_iff.1 this).1
       subst hK1
       have htk:xs.take (xs.take len).length=xs.take len:=by
        rw [List.length_take]
        rcases Nat.le_total len xs.length with hl | hl
        ·rw [Nat.min_eq_left hl]
        ·rw [Nat.min_eq_right hl,List.take_of_length_le (Nat.le_refl _),List.take_of_length_le hl]
       rw [htk] at y4
       have hone:∀ u ∈ d1,u.oneCell'=true:=Row_one (fun d c F=>DIn_one e) y4
       obtain ⟨w',G',z1,z2,z3,z4,z5,⟨F2,z6⟩,z7⟩:=own_write (X:=[]) hc1 (i:=off) (xs:=xs.take len) (news:=d1) i1 i2 i4 j1 hf hz (by simp; omega) y4
       have hm:(xs.take len).length=Nat.min xs.length len:=by rw [List.length_take]; exact Nat.min_comm _ _
       have hgoal:(Builtin.copy_ #[t,tx] o.type #[.slice A1 len cp,.slice Ad xs.length cap]).run P w=.ok (.int .i64 ((xs.take len).length:Nat)) w':=by
        refine copy_run (w':=w') hd hd' hi hm (news:=d1) (fun hm0=>?_) (by rw [y3,hisz]) hone ?_
        ·obtain ⟨ad,e1,e2⟩:=hfed (by intro h0; apply hm0; rw [hm,h0]; simp)
         refine ⟨ad,e1,fun j u hj=>e2 j u ?_⟩
         rw [y1,List.getElem?_append_left (List.getElem?_eq_some_iff.1 hj).1]; exact hj
        ·by_cases hx0:xs.take len=[]
         ·exact .inl ⟨by rw [hx0]; rfl,z1 hx0⟩
         ·obtain ⟨ad,rfl⟩:=z3 hx0
          obtain ⟨hw,hu⟩:=z2 ad rfl
          obtain ⟨hun,hsp⟩:=hu hx0
          refine .inr ⟨ad.add (off * e.size),hA hx0 ad rfl hsp,spot_add _ _ hsp,hun,?_⟩
          rw [hw,add_block,add_off]
       rw [← hex,← hvx] at hgoal
       exact ⟨_,w',G',.inl (hrun _ _ hgoal),z5.c,hs1.go0 z7,val_int.2 ⟨rfl,rfl⟩⟩
      split at hv
      ·rename_i t2 p e2 hse
       split at hv
       ·rename_i hb1
        have hee0:=Ty.beq_eq _ _ hb1
        subst hee0
        split at hv
        ·rename_i c2 e3 l hga
         split at hv
         ·rename_i cx b2 hset
          obtain ⟨hb2,hv2⟩:=whenG_some hv
          have hee:=Ty.beq_eq _ _ hb2
          subst hee
          simp only [oj,pj] at hv2
          obtain ⟨rfl,rfl,rfl⟩:=hv2
          obtain ⟨hk1,hk2⟩:=conds_cat hk
          obtain ⟨Fs,G1,q1,⟨news,q2,q3⟩,q4⟩:=source_ok hc (opd_val hs x) hp hsrc hk1
          have hFs:Fs=[]:=Row_flatF (fun d c G hd=>DIn_flat e hf hd) q2
          subst hFs
          have hc1:Core w b1 G1 w0 F0:=q1.c
          have hs1:Slots (envOf w b1 G1 []) sl a:=hs.go0 q4
          have hsv1:=opd_val hs1 s
          rw [hse] at hsv1
          obtain ⟨c0,rc,F,i1,i2,i3,Lx,csx,Fx,i4,i5,i6,i7,i8,i9⟩:=place_of hc1 hga hk2
          have hh:=full_at hsv1 i1 i2 i4 rfl
          have hh2:Lx.head w=some (a.eval s):=hh
          have i5':=i5
          unfold InV at i5'
          obtain ⟨_,Ad,cap,hcs',hsl⟩:=i5'
          rw [hcs'] at i6
          have hhd:Lx.head w=some (.slice Ad l.length cap):=head_of i6
          rw [hhd] at hh2
          simp only [oj] at hh2
          have hb':b2=setB b1 t2 (c0.set p (.own e (l.take 0 ++ xs.take l.length ++ l.drop (0 + (xs.take l.length).length)))):=by
           unfold setAt at hset
           rw [i1] at hset
           simp only [i3,oj,pj] at hset
           exact hset.2.symm
          subst hb'
          exact fin (off:=0) (len:=l.length) hc1.x hs1 q2 q3 i1 i2 i4 hhd (by omega) hh2.symm (fun _ ad ha hsp=>by rw [ha]; simp [Addr.add])
         ·simp at hv
        ·simp at hv
       ·simp at hv
      ·rename_i t2 p off len e2 hse
       split at hv
       ·rename_i hb1
        have hee0:=Ty.beq_eq _ _ hb1
        subst hee0
        split at hv
        ·rename_i c2 e3 l hga
         split at hv
         ·rename_i cx b2 hset
          obtain ⟨hb2,hv2⟩:=whenG_some hv
          have hee:=Ty.beq_eq _ _ hb2
          subst hee
          simp only [oj,pj] at hv2
          obtain ⟨rfl,rfl,rfl⟩:=hv2
          obtain ⟨hk12,hk3⟩:=conds_cat hk
          obtain ⟨hk1,hk2⟩:=conds_cat hk12
          obtain ⟨Fs,G1,q1,⟨news,q2,q3⟩,q4⟩:=source_ok hc (opd_val hs x) hp hsrc hk1
          have hFs:Fs=[]:=Row_flatF (fun d c G hd=>DIn_flat e hf hd) q2
          subst hFs
          have hroom:off + len≤l.length:=hk3 (.le (off + len) l.length) (by simp)
          have hc1:Core w b1 G1 w0 F0:=q1.c
          have hs1:Slots (envOf w b1 G1 []) sl a:=hs.go0 q4
          have hsv1:=opd_val hs1 s
          rw [hse] at hsv1
          obtain ⟨c0,rc,F,i1,i2,i3,Lx,csx,Fx,i4,i5,i6,i7,i8,i9⟩:=place_of hc1 hga hk2
          obtain ⟨A0,n0,k0,A1,j1,j2,j3,j4⟩:=sub_at hsv1 i1 i2 i4 rfl
          have j1':Lx.head w=some (.slice A0 n0 k0):=j1
          have hex:a.eval s=.slice A1 len (k0 - off):=j3
          have hb':b2=setB b1 t2 (c0.set p (.own e (l.take off ++ xs.take len ++ l.drop (off + (xs.take len).length)))):=by
           unfold setAt at hset
           rw [i1] at hset
           simp only [i3,oj,pj] at hset
           exact hset.2.symm
          subst hb'
          refine fin (off:=off) (len:=len) hc1.x hs1 q2 q3 i1 i2 i4 j1' hroom hex (fun hx0 ad ha hsp=>?_)
          have hpos:0<(xs.take len).length:=List.length_pos_iff.2 hx0
          have hlen:0<len:=by rw [List.length_take] at hpos; omega
          obtain ⟨ad',r1,r2⟩:=j4 (by omega)
          rw [ha] at r1
          simp only [oj] at r1
          rw [r2,r1]
         ·simp at hv
        ·simp at hv
       ·simp at hv
      ·simp at hv
     ·simp at hv
    ·simp at hv
   ·simp at hv
  ·simp at hv
theorem zeroCells_rep {cs:List Value} {n s:Nat} (h:cs.length=s):Builtin.zeroCells cs.toArray n=(rep' n cs).toArray:=by
 have h1:=made_eq (n:=n) h
 rw [← h1]
 unfold Builtin.zeroCells
 rw [List.size_toArray,h]
theorem ok_clear (HT:TysOK P A.ty) (hc:Core w bl G w0 F0) (hs:Slots (envOf w bl G []) sl a) {c:Call} {co:List Cond} {v:V} {b:BL} (h:o.op=.call c) (hcal:c.callee=.builtin .clear)
  (hv:builtinV A sl bl o.dst .clear c.argTypes.toList (mapOpd sl c.args.toList)=some (co,v,b)) (hk:∀ k ∈ co,k.ok):Prim P w0 F0 sl a w o v b:=by
 match hargs:c.args.toList with
 | []=>rw [hargs] at hv; simp [mapOpd,builtinV] at hv
 | x :: z :: r=>rw [hargs] at hv; simp [mapOpd,builtinV] at hv
 | [s]=>
  rw [hargs] at hv
  simp only [mapOpd,builtinV] at hv
  split at hv
  ·rename_i t hts
   split at hv
   ·rename_i e hty
    obtain ⟨d,hd,hdk⟩:=(HT t (by rw [hty]; simp)).desc
    rw [hty] at hdk
    obtain ⟨te,rfl,hte,hne⟩:=desc_slice hdk
    have hT:=HT te (by rw [hte]; exact hne)
    have hats:c.argTypes=#[t]:=by apply Array.toList_inj.1; rw [hts]
    have hrun:∀ w2,(Builtin.clear_ #[t] o.type #[a.eval s]).run P w=.ok (.tuple #[]) w2→(execOp a.eval o).run P w=.ok (.value (.tuple #[])) w2:=by
     intro w2 hr
     refine call_run h hcal hargs (fun cs=>?_)
     rw [hats]
     simp [builtin,hr]
    unfold clearV at hv
    split at hv
    ·rename_i t2 p off len e' hse
     split at hv
     ·rename_i hb1
      rw [band_true,band_true] at hb1
      obtain ⟨hf,hbe,hz0⟩:=hb1
      have hee0:=Ty.beq_eq _ _ hbe
      subst hee0
      have hz:e.size ≠ 0:=by
       intro h0
       rw [h0] at hz0
       simp [bneg] at hz0
      split at hv
      ·rename_i c2 e3 l hga
       split at hv
       ·rename_i cx b2 hset
        obtain ⟨hb2,hv2⟩:=whenG_some hv
        have hee:=Ty.beq_eq _ _ hb2
        subst hee
        simp only [oj,pj] at hv2
        obtain ⟨rfl,rfl,rfl⟩:=hv2
        obtain ⟨hk1,hk2⟩:=conds_cat hk
        have hroom:off + len≤l.length:=hk2 (.le (off + len) l.length) (by simp)
        have hsv1:=opd_val hs s
        rw [hse] at hsv1
        obtain ⟨c0,rc,F,i1,i2,i3,Lx,csx,Fx,i4,i5,i6,i7,i8,i9⟩:=place_of hc hga hk1
        obtain ⟨A0,n0,k0,A1,j1,j2,j3,j4⟩:=sub_at hsv1 i1 i2 i4 rfl
        have j1':Lx.head w=some (.slice A0 n0 k0):=j1
        have hex:a.eval s=.slice A1 len (k0 - off):=j3
        have hp:e.plain=true:=by
         unfold InV at i5
         exact i5.1
        obtain ⟨i,z,hi,hiz,hisz,hby,hzc,hzl⟩:=plain_zero (P:=P) hp hte hT
        have hb':b2=setB bl t2 (c0.set p (.own e (l.take off ++ List.replicate len (zeroD e) ++ l.drop (off + (List.replicate len (zeroD e)).length)))):=by
         unfold setAt at hset
         rw [i1] at hset
         simp only [i3,oj,pj] at hset
         exact hset.2.symm
        subst hb'
        have hrow:Row (DIn true w e) (List.replicate len (zeroD e)) (rep' len (zcells e)) []:=Row_rep (zeroD_in e hp) len
        obtain ⟨w',G',z1,z2,z3,z4,z5,⟨F2,z6⟩,z7⟩:=own_write (X:=[]) hc.x (i:=off) (xs:=List.replicate len (zeroD e)) (news:=rep' len (zcells e)) i1 i2 i4 j1' hf hz (by simpa using hroom) hrow
        have hone:∀ u ∈ rep' len (zcells e),u.oneCell'=true:=Row_one (fun d c F=>DIn_one e) hrow
        have hgoal:(Builtin.clear_ #[t] o.type #[.slice A1 len (k0 - off)]).run P w=.ok (.tuple #[]) w':=by
         by_cases hl0:len=0
         ·subst hl0
          have hw:=z1 rfl
          subst hw
          cases A1 <;> simp [Builtin.clear_,run_underlying hd]
         ·have hx0:List.replicate len (zeroD e) ≠ []:=by
           intro h0
           have:=congrArg List.length h0
           simp at this; exact hl0 this
          obtain ⟨ad,rfl⟩:=z3 hx0
          obtain ⟨hw,hu⟩:=z2 ad rfl
          obtain ⟨hun,hsp⟩:=hu hx0
          subst hw
          obtain ⟨ad',r1,r2⟩:=j4 (by omega)
          simp only [oj] at r1
          subst r1
          rw [add_lit' hsp] at r2 hun
          subst r2
          have hst:=run_storeCells_cells (P:=P) ad.block (ad.off + off * e.size) (rep' len (zcells e)) 0 w (fun j hj=>by
           obtain ⟨⟨u,hu⟩,_⟩:=hun j hj
           rw [Addr.add_lit] at hu
           rw [Nat.add_zero,hu]; rfl) (fun j hj=>by
           obtain ⟨_,hu⟩:=hun j hj
           rw [Addr.add_lit] at hu
           rw [Nat.add_zero]; exact hu) hone
          simp only [Nat.add_zero] at hst
          obtain ⟨ln,rfl⟩:∃ m,len=m + 1:=⟨len - 1,by omega⟩
          have hzr:Builtin.zeroCells z.cells (ln + 1)=(rep' (ln + 1) (zcells e)).toArray:=by rw [hzc]; exact zeroCells_rep hzl
          simp [Builtin.clear_,run_underlying hd,zeroValue,typeInfo,hi,hiz,hzr,hst]
        rw [← hex] at hgoal
        exact ⟨_,w',G',.inl (hrun _ hgoal),z5.c,hs.go0 z7,⟨#[],rfl,rfl,rfl⟩⟩
       ·simp at hv
      ·simp at hv
     ·simp at hv
    ·simp at hv
   ·simp at hv
  ·simp at hv
end
end Go.Rai
namespace Go.Rai
variable [Inhabited Kset]
section
variable {P:Program} {A:Ann} {w w' w0:World} {F0:List Nat} {sl:List V} {a:Act} {bl b':BL} {G:GT} {o:Oper} {X:List Nat}
theorem fold_ok {E:Env} (hs:Slots E sl a) {f:Int→Int→Int} {g:Value→Value→Sem Value} (hg:∀ k x k' y,(g (.int k x) (.int k' y)).run P w=.ok (.int k (f x y)) w) :
  ∀ (ys:List Operand) {x:V} {vx:Value} {v:V},Val E x vx []→maxVs f x (mapOpd sl ys)=some v→(∃ k n,v=.int k n)→∃ vv,((ys.map a.eval).foldlM g vx).run P w=.ok vv w∧Val E v vv []
 | [],x,vx,v,hx,h,hv=>by
  simp only [mapOpd,maxVs,oj] at h
  subst h
  exact ⟨vx,by simp,hx⟩
 | y :: ys,x,vx,v,hx,h,hv=>by
  have hy:=opd_val hs y
  simp only [mapOpd] at h
  cases x with
  | int k p=>
   cases hye:opd sl y with
   | int k' q=>
    rw [hye] at h hy
    simp only [maxVs] at h
    split at h
    ·obtain ⟨rfl,_⟩:=val_int.1 hx
     obtain ⟨hy,_⟩:=val_int.1 hy
     obtain ⟨vv,r1,r2⟩:=fold_ok hs hg ys (x:=.int k (f p q)) (vx:=.int k (f p q)) (val_int.2 ⟨rfl,rfl⟩) h hv
     refine ⟨vv,?_,r2⟩
     simp only [List.map_cons,List.foldlM_cons,Sem.run_bind,hy,hg,Result.andThen_ok]
     exact r1
    ·simp at h
   | _=>rw [hye] at h; simp [maxVs] at h
  | _=>simp [maxVs] at h
theorem ok_maxmin (hc:Core w bl G w0 F0) (hs:Slots (envOf w bl G []) sl a) {c:Call} {bu:Builtin} (hbu:bu=.max ∨ bu=.min) {co:List Cond} {v:V} {b:BL} (h:o.op=.call c) (hcal:c.callee=.builtin bu)
  (hv:builtinV A sl bl o.dst bu c.argTypes.toList (mapOpd sl c.args.toList)=some (co,v,b)):Prim P w0 F0 sl a w o v b:=by
 match hargs:c.args.toList with
 | []=>rw [hargs] at hv; rcases hbu with rfl | rfl <;> simp [mapOpd,builtinV] at hv
 | x :: ys=>
  rw [hargs] at hv
  rcases hbu with rfl | rfl
  ·simp only [mapOpd,builtinV] at hv
   split at hv
   ·rename_i k n hm
    simp only [oj,pj] at hv
    obtain ⟨rfl,rfl,rfl⟩:=hv
    obtain ⟨vv,r1,r2⟩:=fold_ok (P:=P) (w:=w) hs (g:=Builtin.max2) (fun k x k' y=>by simp [Builtin.max2]) ys (opd_val hs x) hm ⟨_,_,rfl⟩
    refine Prim.pure hc hs (vv:=vv) (call_run h hcal hargs (fun cs=>?_)) r2
    simp [builtin,Builtin.max_,r1]
   ·simp at hv
  ·simp only [mapOpd,builtinV] at hv
   split at hv
   ·rename_i k n hm
    simp only [oj,pj] at hv
    obtain ⟨rfl,rfl,rfl⟩:=hv
    obtain ⟨vv,r1,r2⟩:=fold_ok (P:=P) (w:=w) hs (g:=Builtin.min2) (fun k x k' y=>by simp [Builtin.min2]) ys (opd_val hs x) hm ⟨_,_,rfl⟩
    refine Prim.pure hc hs (vv:=vv) (call_run h hcal hargs (fun cs=>?_)) r2
    simp [builtin,Builtin.min_,r1]
   ·simp at hv
theorem stepPrim_ok (HT:TysOK P A.ty) (hc:Core w bl G w0 F0) (hs:Slots (envOf w bl G []) sl a) {op:Op} (h:o.op=op) {c:List Cond} {v:V} {b:BL} (hv:stepPrim A sl bl o.dst op=some (c,v,b)) (hk:∀ k ∈ c,k.ok) :
  Prim P w0 F0 sl a w o v b:=by
 unfold stepPrim at hv
 split at hv
 ·simp only [oj,pj] at hv
  obtain ⟨rfl,rfl,rfl⟩:=hv
  exact Prim.pure hc hs (ex_move h) (opd_val hs _)
 ·simp only [oj,pj] at hv
  obtain ⟨rfl,rfl,rfl⟩:=hv
  exact Prim.pure hc hs (ex_assign h) (opd_val hs _)
 ·split at hv
  ·rename_i hp
   simp only [oj,pj] at hv
   obtain ⟨rfl,rfl,rfl⟩:=hv
   exact ok_pick hc hs h hp
  ·simp at hv
 ·split at hv
  ·rename_i hz
   exact ok_alloc HT hc hs h hz (withC_some hv).2
  ·simp at hv
 ·split at hv
  ·rename_i hz
   exact ok_box hc hs h hz (withC_some hv).2
  ·simp at hv
 ·split at hv
  ·rename_i fs hty
   split at hv
   ·rename_i hz
    split at hv
    ·rename_i vs hf
     simp only [oj,pj] at hv
     obtain ⟨rfl,rfl,rfl⟩:=hv
     exact ok_build HT hc hs h hty hz hf
    ·simp at hv
   ·simp at hv
  ·simp at hv
 ·split at hv
  ·rename_i e hty
   split at hv
   ·rename_i hz
    rw [band_true] at hz
    split at hv
    ·rename_i vs hf
     exact ok_buildSlice HT hc hs h hty hz.1 (Nat.le_of_ble_eq_true hz.2) hf hv
    ·simp at hv
   ·simp at hv
  ·simp at hv
 ·exact ok_load HT hc hs h hv hk
 ·split at hv
  ·simp at hv
  ·rename_i hz
   exact ok_store HT hc hs h (fun h0=>by rw [h0] at hz; simp at hz) hv hk
 ·split at hv
  ·rename_i hx
   simp only [oj,pj] at hv
   obtain ⟨rfl,rfl,rfl⟩:=hv
   exact ok_nilCheck hc hs h hx (.inl ⟨_,_,rfl⟩)
  ·rename_i hx
   simp only [oj,pj] at hv
   obtain ⟨rfl,rfl,rfl⟩:=hv
   exact ok_nilCheck hc hs h hx (.inr (.inl ⟨_,rfl⟩))
  ·rename_i hx
   simp only [oj,pj] at hv
   obtain ⟨rfl,rfl,rfl⟩:=hv
   exact ok_nilCheck hc hs h hx (.inr (.inr ⟨_,_,rfl⟩))
  ·simp at hv
 ·split at hv
  ·rename_i hb
   simp only [oj,pj] at hv
   obtain ⟨rfl,rfl,rfl⟩:=hv
   exact ok_binOp HT hc hs h hb hk
  ·simp at hv
 ·split at hv
  ·rename_i hb
   simp only [oj,pj] at hv
   obtain ⟨rfl,rfl,rfl⟩:=hv
   exact ok_unOp hc hs h hb
  ·simp at hv
 ·split at hv
  ·rename_i hsl
   split at hv
   ·rename_i e hts htt
    exact ok_bytes HT hc hs h hts htt hv hk
   ·simp at hv
  ·exact ok_convert HT hc hs h hv
 ·split at hv
  ·rename_i f hfi
   split at hv
   ·rename_i hcap
    simp only [oj,pj] at hv
    obtain ⟨rfl,rfl,rfl⟩:=hv
    exact ok_makeFunc hc hs h hfi hcap
   ·simp at hv
  ·simp at hv
 ·split at hv
  ·rename_i e hty
   split at hv
   ·rename_i hp
    split at hv
    ·rename_i ln cn h1 h2
     obtain ⟨rfl,hfr⟩:=withC_some hv
     exact ok_makeSlice HT hc hs h hty hp h1 h2 (hk _ (by simp)) hfr
    ·simp at hv
   ·simp at hv
  ·simp at hv
 ·exact ok_slice HT hc hs h hv hk
 ·exact ok_fieldAddr HT hc hs h hv hk
 ·split at hv
  ·rename_i hf
   simp only [oj,pj] at hv
   obtain ⟨rfl,rfl,rfl⟩:=hv
   exact ok_field HT hc hs h hf
  ·simp at hv
 ·exact ok_indexAddr HT hc hs h hv hk
 ·split at hv
  ·rename_i hty
   exact ok_index HT hc hs h hty hv hk
  ·simp at hv
 ·split at hv
  ·rename_i vs hx
   split at hv
   ·rename_i hn
    simp only [oj,pj] at hv
    obtain ⟨rfl,rfl,rfl⟩:=hv
    exact ok_extract hc hs h hx hn
   ·simp at hv
  ·simp at hv
 ·rename_i cl
  split at hv
  ·rename_i f hcal
   cases f with
   | len=>exact ok_len (xs:=[]) HT hc hs h hcal hv hk
   | cap=>exact ok_cap HT hc hs h hcal hv
   | append=>exact ok_append HT hc hs h hcal hv hk
   | copy=>exact ok_copy HT hc hs h hcal hv hk
   | clear=>exact ok_clear HT hc hs h hcal hv hk
   | max=>exact ok_maxmin hc hs (.inl rfl) h hcal hv
   | min=>exact ok_maxmin hc hs (.inr rfl) h hcal hv
   | _=>simp [builtinV] at hv
  ·simp at hv
 ·simp at hv
end
end Go.Rai
namespace Go.Rai
variable [Inhabited Kset]
mutual
theorem deepV_eq {R:Type}:∀ (v:V) (κ:V→Option R),deepV v κ=κ v
 | .agg vs,κ=>by unfold deepV; rw [deepVs_eq vs]
 | .lst e vs,κ=>by unfold deepV; rw [deepVs_eq vs]
 | .tup vs,κ=>by unfold deepV; rw [deepVs_eq vs]
 | .fn f vs,κ=>by unfold deepV; rw [deepVs_eq vs]
 | .obox v,κ=>by unfold deepV; rw [deepV_eq v]
 | .rp v,κ=>by unfold deepV; rw [deepV_eq v]
 | .full s p e,κ=>by unfold deepV; rw [deepP_eq p]
 | .sub s p o l e,κ=>by unfold deepV; rw [deepP_eq p]
 | .ptr s p,κ=>by unfold deepV; rw [deepP_eq p]
 | .undef,κ=>by unfold deepV; rfl
 | .void,κ=>by unfold deepV; rfl
 | .int k n,κ=>by unfold deepV; rfl
 | .bool b,κ=>by unfold deepV; rfl
 | .str s,κ=>by unfold deepV; rfl
 | .arr n e l,κ=>by unfold deepV; rfl
 | .own e l,κ=>by unfold deepV; rfl
 | .rd e l,κ=>by unfold deepV; rfl
 | .nilsl,κ=>by unfold deepV; rfl
 | .emp e,κ=>by unfold deepV; rfl
 | .nilfn,κ=>by unfold deepV; rfl
 | .nilptr,κ=>by unfold deepV; rfl
theorem deepVs_eq {R:Type}:∀ (vs:List V) (κ:List V→Option R),deepVs vs κ=κ vs
 | [],κ=>by unfold deepVs; rfl
 | v :: vs,κ=>by unfold deepVs; rw [deepV_eq v,deepVs_eq vs]
theorem deepP_eq {R:Type}:∀ (p:List Nat) (κ:List Nat→Option R),deepP p κ=κ p
 | [],κ=>by unfold deepP; rfl
 | n :: p,κ=>by unfold deepP; rw [deepP_eq p]
end
theorem deepB_eq {R:Type}:∀ (b:BL) (κ:BL→Option R),deepB b κ=κ b
 | [],κ=>rfl
 | (k,v) :: r,κ=>by unfold deepB; rw [deepV_eq,deepB_eq r]
theorem setK_eq {R:Type}:∀ (l:List V) (n:Nat) (x:V) (κ:List V→Option R),setK l n x κ=κ (setNth l n x)
 | [],_,_,_=>rfl
 | _ :: _,0,_,_=>rfl
 | a :: l,n + 1,x,κ=>by unfold setK setNth; rw [setK_eq l]
def putSl (sl:List V):Option Nat→V→List V
 | some t,v=>setNth sl t v
 | none,_=>sl
theorem putK_eq {R:Type} (σ:St) (d:Option Nat) (v:V) (b:BL) (κ:St→Option R):putK σ d v b κ=κ ⟨putSl σ.sl d v,b⟩:=by
 unfold putK putSl
 cases d with
 | none=>simp [deepB_eq]
 | some t=>simp [deepV_eq,setK_eq,deepB_eq]
theorem guards_some {R:Type}:∀ {c:List Cond} {k:Option R} {r:R},guards c k=some r→(∀ x ∈ c,x.ok)∧k=some r
 | [],k,r,h=>⟨fun x hx=>(by cases hx),h⟩
 | x :: c,k,r,h=>by
  have step:∀ (p:Prop) [Decidable p],(p→x.ok)→(if p then guards c k else none)=some r→(∀ y ∈ x :: c,y.ok)∧k=some r:=by
   intro p _ hp hh
   split at hh
   ·rename_i hc
    obtain ⟨h1,h2⟩:=guards_some hh
    refine ⟨fun y hy=>?_,h2⟩
    rcases List.mem_cons.1 hy with rfl | hy
    ·exact hp hc
    ·exact h1 y hy
   ·cases hh
  cases x <;> exact step _ (fun h=>h) h
theorem slotL_set:∀ (sl:List V) (t u:Nat) (v:V),slotL (setNth sl t v) u=if u=t∧t<sl.length then v else slotL sl u
 | [],t,u,v=>by simp [setNth]
 | x :: sl,0,0,v=>by simp [setNth,slotL]
 | x :: sl,0,u + 1,v=>by simp [setNth,slotL]
 | x :: sl,t + 1,0,v=>by simp [setNth,slotL]
 | x :: sl,t + 1,u + 1,v=>by simp [setNth,slotL,slotL_set sl t u v]
theorem setNth_len' {α:Type}:∀ (l:List α) (n:Nat) (x:α),(setNth l n x).length=l.length
 | [],_,_=>rfl
 | _ :: _,0,_=>rfl
 | a :: l,n + 1,x=>by simp [setNth,setNth_len' l]
section
variable {P:Program} {A:Ann} {w w' w0:World} {F0:List Nat} {sl:List V} {a:Act} {bl b':BL} {G:GT} {o:Oper} {X:List Nat}
theorem Slots.put {E:Env} (hs:Slots E sl a) (hl:a.tmps.size=sl.length) {d:Option Nat} {v:V} {vv:Value} (hv:Val E v vv []):Slots E (putSl sl d v) (a.put d vv):=by
 cases d with
 | none=>exact hs
 | some t=>
  intro u
  simp only [putSl,Act.put,slotL_set]
  by_cases hu:u=t∧t<sl.length
  ·obtain ⟨rfl,hlt⟩:=hu
   rw [if_pos ⟨rfl,hlt⟩]
   have:(a.tmps.setIfInBounds u vv).getD u undef=vv:=by
    rw [Array.getD_eq_getD_getElem?,Array.getElem?_setIfInBounds_self_of_lt (by omega)]
    rfl
   rw [this]; exact hv
  ·rw [if_neg hu]
   have:(a.tmps.setIfInBounds t vv).getD u undef=a.tmps.getD u undef:=by
    rw [Array.getD_eq_getD_getElem?,Array.getD_eq_getD_getElem?]
    by_cases hut:t=u
    ·subst hut
     have:¬ t<sl.length:=fun h=>hu ⟨rfl,h⟩
     rw [Array.setIfInBounds_eq_of_size_le (by omega)]
    ·rw [Array.getElem?_setIfInBounds_ne hut]
   rw [this]; exact hs u
theorem pin_put {Pn:Nat→Option Value} (hp:∀ t v,Pn t=some v→a.tmps.getD t undef=v) {d:Option Nat} (hdst:∀ t,d=some t→Pn t=none) {vv:Value}:∀ t v,Pn t=some v→(a.put d vv).tmps.getD t undef=v:=by
 intro t v h
 cases d with
 | none=>exact hp t v h
 | some u=>
  have hne:u ≠ t:=fun e=>by
   subst e
   rw [hdst u rfl] at h
   cases h
  have:=hp t v h
  rw [Array.getD_eq_getD_getElem?] at this ⊢
  simp only [Act.put]
  rw [Array.getElem?_setIfInBounds_ne hne]
  exact this
theorem Rel.put {Pn:Nat→Option Value} (hc:Core w bl G w0 F0) (hs:Slots (envOf w bl G []) sl a) (hl:a.tmps.size=sl.length) (hd:a.defers=[]) (hp:∀ t v,Pn t=some v→a.tmps.getD t undef=v) {d:Option Nat} (hdst:∀ t,d=some t→Pn t=none) {v:V} {vv:Value} (hv:Val (envOf w bl G []) v vv []) :
  Rel Pn w0 F0 ⟨putSl sl d v,bl⟩ (a.put d vv) w:=by
 refine ⟨⟨G,hc,hs.put hl hv⟩,?_,?_,pin_put hp hdst⟩
 ·cases d with
  | none=>exact hl
  | some t=>simp [Act.put,putSl,setNth_len',hl]
 ·cases d <;> exact hd
end
def Loops (P:Program) (c:Code) (Q:Exit→Act→World→Prop) (a:Act) (w:World):Prop:=
 ∀ (b:Frame) (k:List Item) (cs:List Frame),∃ e a' w',Q e a' w'∧Arrives P (lone (b.at a (.code c :: .inLoop c :: k)) cs w) b k cs e a' w'
theorem wp_of_loops {P:Program} {c:Code} {Q:Exit→Act→World→Prop} {a:Act} {w:World} (h:Loops P c Q a w):(Code.loop c).wp P Q a w:=by
 intro b k cs
 obtain ⟨e,a',w',hq,harr⟩:=h b k cs
 exact ⟨e,a',w',hq,.of_steps (.one step_loop) harr⟩
theorem loops_round {P:Program} {c:Code} {Q:Exit→Act→World→Prop} {a:Act} {w:World} (h:c.wp P (Exit.then (Loops P c Q) Q) a w):Loops P c Q a w:=by
 intro b k cs
 obtain ⟨e,a₁,w₁,hq,harr⟩:=h b (.inLoop c :: k) cs
 cases e with
 | normal=>
  obtain ⟨e₂,a₂,w₂,hq₂,harr₂⟩:=hq b k cs
  exact ⟨e₂,a₂,w₂,hq₂,.of_steps (Steps.trans harr (.one step_inLoop)) harr₂⟩
 | exit id=>exact ⟨_,a₁,w₁,hq,.pass (x:=.inLoop c) rfl (fun _ _=>.inl (by simp)) harr⟩
 | goto l=>exact ⟨_,a₁,w₁,hq,.pass (x:=.inLoop c) rfl (fun _ _=>.inl (by simp)) harr⟩
 | ret=>exact ⟨_,a₁,w₁,hq,.pass (x:=.inLoop c) rfl (fun _ _=>.inl (by simp)) harr⟩
 | panic ch=>exact ⟨_,a₁,w₁,hq,.pass (x:=.inLoop c) rfl (fun _ _=>.inl (by simp)) harr⟩
 | outgrown=>exact ⟨_,a₁,w₁,hq,.pass (x:=.inLoop c) rfl (fun _ _=>.inl (by simp)) harr⟩
end Go.Rai
namespace Go.Rai
variable [Inhabited Kset]
section
variable {P:Program} {A:Ann} {w w' w0:World} {F0:List Nat} {sl:List V} {a:Act} {bl b':BL} {G:GT} {o:Oper} {X:List Nat}
theorem place_ofX (ho:Ok w bl G X) {s:Nat} {p:List Nat} {c:List Cond} {x:V} (hg:getAt bl s p=some (c,x)) (hk:∀ k ∈ c,k.ok) :
  ∃ c0 rc F,lookB bl s=some c0∧G s=some (rc,F)∧∃ Lx csx Fx,locF w c0 (.reg rc) p=some (x,Lx)∧InV (envOf w bl G X) x csx Fx∧Lx.holds w csx∧(∀ b ∈ Fx,b<w.heap.size∧b ∉ X)∧∀ ad,Lx=.mem ad→ad.block<w.heap.size∧ad.block ∉ X:=by
 unfold getAt at hg
 split at hg
 ·rename_i c0 hl
  obtain ⟨rc,F,F1,h1,h2,h3,h4,h5⟩:=ho.root s c0 hl
  obtain ⟨Lx,h6⟩:=get_loc (envOf w bl G X) p c0 rc F1 (.reg rc) c x h2 ⟨[],by simp⟩ hg hk
  obtain ⟨csx,Fx,Fr,i1,i2,i3,i4,_⟩:=ho.modify hl h1 h6
  exact ⟨c0,rc,F,hl,h1,Lx,csx,Fx,h6,i1,i2,fun b hb=>h5 b ((i3.mem_iff).2 (by simp [hb])),fun ad had=>by
   rcases i4 with ⟨a',ha',hin⟩ | ⟨ds,hds⟩
   ·rw [had] at ha'; cases ha'
    exact h5 _ ((i3.mem_iff).2 (by simp [hin]))
   ·rw [had] at hds; cases hds⟩
 ·simp at hg
theorem encs_row_rd {E:Env} {e:Ty} (hp:e.plain=true):∀ {n:Nat} {vs:List V} {cs:List Value},fitss (rep n e) vs=true→allRd vs=true→InVs E vs cs []→∃ F,Row (DIn false E.w e) (encs vs) cs F∧∀ b ∈ F,E.Sb e b
 | 0,vs,cs,h,_,hi=>by
  cases vs <;> simp [rep,fitss] at h
  unfold InVs at hi
  obtain ⟨rfl,_⟩:=hi
  exact ⟨[],⟨rfl,rfl⟩,fun b hb=>by cases hb⟩
 | n + 1,vs,cs,h,ho,hi=>by
  cases vs with
  | nil=>simp [rep,fitss] at h
  | cons v vs=>
   simp only [rep,fitss,band_true] at h
   cases v <;> simp [allRd] at ho
   rename_i e1 l
   unfold InVs at hi
   obtain ⟨c1,c2,F1,F2,e1',e2',h1,h2⟩:=hi
   obtain ⟨rfl,rfl⟩:=List.append_eq_nil_iff.1 e2'.symm
   obtain ⟨F,g1,g2⟩:=encs_row_rd hp h.2 ho h2
   unfold InV at h1
   obtain ⟨_,_,Ad,cap,F',q1,q2,q3⟩:=h1
   have he:e=.slice e1:=by
    have:=h.1
    cases e <;> simp [fits] at this
    rw [Ty.beq_eq _ _ this]
   subst he
   refine ⟨F' ++ F,⟨c1,c2,F',F,e1',rfl,?_,g1⟩,fun b hb=>?_⟩
   ·unfold DIn
    exact ⟨Ad,cap,q1,q2⟩
   ·rcases List.mem_append.1 hb with q | q
    ·exact q3 b q
    ·exact g2 b q
theorem noBs_rd {e:Ty} (he:byteT e=false):∀ {n:Nat} {vs:List V},fitss (rep n e) vs=true→allRd vs=true→noBs vs=true
 | 0,vs,h,_=>by cases vs <;> simp [rep,fitss] at h; rfl
 | n + 1,vs,h,ho=>by
  cases vs with
  | nil=>rfl
  | cons v vs=>
   simp only [rep,fitss,band_true] at h
   cases v <;> simp [allRd] at ho
   rename_i e1 l
   have he1:e=.slice e1:=by
    have:=h.1
    cases e <;> simp [fits] at this
    rw [Ty.beq_eq _ _ this]
   subst he1
   have:byteT e1=false:=he
   unfold noBs noB
   rw [this,noBs_rd he h.2 ho]
   rfl
theorem lends_len:∀ (n:Nat) {b:BL} {vs ws:List V} {c:List Cond},lends b n vs=some (c,ws)→ws.length=vs.length
 | 0,b,vs,ws,c,h=>by simp [lends] at h
 | n + 1,b,[],ws,c,h=>by simp [lends] at h; rw [h.2]
 | n + 1,b,v :: vs,ws,c,h=>by
  simp only [lends] at h
  split at h
  ·split at h
   ·rename_i h2
    simp only [oj,pj] at h
    obtain ⟨_,rfl⟩:=h
    simp [lends_len n h2]
   ·simp at h
  ·simp at h
def Lasts (w:World) (X:List Nat) (Ec:Env) (q:Bool):Prop:=q=true ∨ ∀ b,b<w.heap.size→b ∉ X→Ec.K b
theorem lend_ok (ho:Ok w bl G X) {Ec:Env} (hw:Ec.w=w) (hbl:Ec.bl=[]) (hS:∀ b,b<w.heap.size→b ∉ X→Ec.S b) (hle:Le (envOf w bl G X) Ec):∀ n,
  (∀ {v y:V} {c:List Cond} {cs:List Value} {F:List Nat},InV (envOf w bl G X) v cs F→(∀ b ∈ F,b<w.heap.size∧b ∉ X)→lend bl n v=some (c,y)→(∀ k ∈ c,k.ok)→Lasts w X Ec (noB y)→InV Ec y cs []) ∧
  (∀ {vs ys:List V} {c:List Cond} {cs:List Value} {F:List Nat},InVs (envOf w bl G X) vs cs F→(∀ b ∈ F,b<w.heap.size∧b ∉ X)→lends bl n vs=some (c,ys)→(∀ k ∈ c,k.ok)→Lasts w X Ec (noBs ys)→InVs Ec ys cs [])
 | 0=>⟨fun _ _ h=>by simp [lend] at h,fun _ _ h=>by simp [lends] at h⟩
 | n + 1=>by
  obtain ⟨ih1,ih2⟩:=lend_ok ho hw hbl hS hle n
  have keep:∀ {v:V} {cs:List Value},InV (envOf w bl G X) v cs []→InV Ec v cs []:=fun h=>InV_frame hle _ (fun s _ c' rc' F' hlk=>by rw [hbl] at hlk; simp [lookB] at hlk) (fun b hb=>by cases hb) h
  have rd:∀ {e:Ty} {l:List D} {Ad:Option Addr} {cap:Nat} {F:List Nat},e.plain=true→SlIn true w (DIn true w e) e.size Ad cap l F→(∀ b ∈ F,b<w.heap.size∧b ∉ X)→Lasts w X Ec (noB (.rd e l))→InV Ec (.rd e l) [.slice Ad l.length cap] []:=by
   intro e l Ad cap F hp hs hF hq
   unfold InV
   refine ⟨rfl,hp,Ad,cap,F,rfl,?_,fun b hb=>⟨hS b (hF b hb).1 (hF b hb).2,fun he=>?_⟩⟩
   ·rw [hw]
    exact SlIn_o (fun d c G hd=>DIn_lend _ hd) hs
   ·rcases hq with hq | hq
    ·unfold noB at hq; rw [he] at hq; cases hq
    ·exact hq b (hF b hb).1 (hF b hb).2
  constructor
  ·intro v y c cs F hv hF h hk hq
   unfold lend at h
   split at h
   ·rename_i s p e
    unfold InV at hv
    obtain ⟨rfl,_,hal⟩:=hv
    split at h
    ·rename_i c1 e1 l hg
     simp only [oj,pj] at h
     obtain ⟨rfl,rfl⟩:=h
     obtain ⟨c0,rc,Fs,k1,k2,Lx,csx,Fx,k3,k4,k5,k6,k7⟩:=place_ofX ho hg hk
     obtain ⟨u,g1,g2⟩:=hal c0 rc Fs k1 k2 _ _ k3 rfl
     unfold InV at k4
     obtain ⟨hp,Ad,cap,hcs,hsl⟩:=k4
     rw [hcs] at k5
     have hh:=head_of k5
     rw [show (envOf w bl G X).w=w from rfl,hh] at g1
     simp only [oj] at g1
     rw [g2,← g1]
     exact rd hp hsl k6 hq
    ·rename_i c1 e1 vs hg
     split at h
     ·rename_i c2 ws hin
      split at h
      ·rename_i hall
       simp only [oj,pj] at h
       obtain ⟨rfl,rfl⟩:=h
       rw [band_true] at hall
       rw [band_true] at hall
       obtain ⟨hp,hrd,hfit⟩:=hall
       obtain ⟨hk1,hk2⟩:=conds_cat hk
       obtain ⟨c0,rc,Fs,k1,k2,Lx,csx,Fx,k3,k4,k5,k6,k7⟩:=place_ofX ho hg hk1
       obtain ⟨u,g1,g2⟩:=hal c0 rc Fs k1 k2 _ _ k3 rfl
       unfold InV at k4
       obtain ⟨ad,cc,cs',F',hcs',hlc,hes,hin',hca,hFx,hb,hun⟩:=k4
       rw [hcs'] at k5
       have hh:=head_of k5
       rw [show (envOf w bl G X).w=w from rfl,hh] at g1
       simp only [oj] at g1
       subst hFx
       have hws:=ih2 hin' (fun b hb=>k6 b (by simp [hb])) hin hk2 (by
        rcases hq with hq | hq
        ·unfold noB at hq
         cases hbe:byteT e1 with
         | true=>rw [hbe] at hq; cases hq
         | false=>exact .inl (noBs_rd hbe hfit hrd)
        ·exact .inr hq)
       obtain ⟨Fr,r1,r2⟩:=encs_row_rd hp hfit hrd hws
       have hlen:(encs ws).length=vs.length:=by
        rw [encs_len]
        exact lends_len n hin
       rw [g2,← g1]
       unfold InV
       refine ⟨rfl,hp,some ad,cc,ad.block :: Fr,by rw [hlen],.inr ⟨ad,cs',Fr,rfl,r1,by rw [hw]; exact hca,rfl,by rw [hlen]; exact hlc,by rw [hw]; exact hb,fun h=>by cases h⟩,fun b hb=>?_⟩
       rcases List.mem_cons.1 hb with rfl | hb
       ·refine ⟨hS _ (k6 _ (by simp)).1 (k6 _ (by simp)).2,fun he=>?_⟩
        rcases hq with hq | hq
        ·unfold noB at hq; rw [he] at hq; cases hq
        ·exact hq _ (k6 _ (by simp)).1 (k6 _ (by simp)).2
       ·exact r2 b hb
      ·simp at h
     ·simp at h
    ·simp at h
   ·rename_i s p off len e
    unfold InV at hv
    obtain ⟨rfl,_,hal⟩:=hv
    split at h
    ·rename_i c1 e1 l hg
     split at h
     ·rename_i hbe
      have hee:=Ty.beq_eq _ _ hbe
      subst hee
      simp only [oj,pj] at h
      obtain ⟨rfl,rfl⟩:=h
      obtain ⟨hk1,hk2⟩:=conds_cat hk
      have hb:off + len≤l.length:=hk2 (.le (off + len) l.length) (by simp)
      obtain ⟨c0,rc,Fs,k1,k2,Lx,csx,Fx,k3,k4,k5,k6,k7⟩:=place_ofX ho hg hk1
      obtain ⟨A0,n0,k0,A',g1,g2,g3,g4⟩:=hal c0 rc Fs k1 k2 _ _ k3 rfl
      unfold InV at k4
      obtain ⟨hp,Ad,cap,hcs,hsl⟩:=k4
      rw [hcs] at k5
      have hh:=head_of k5
      rw [show (envOf w bl G X).w=w from rfl,hh] at g1
      simp only [oj,Value.slice.injEq] at g1
      obtain ⟨rfl,rfl,rfl⟩:=g1
      obtain ⟨F'',r1,r2,_⟩:=SlIn_sub (off:=off) (len:=len) (fun d c G hd=>DIn_len _ hd) hsl hb g4
      rw [g3]
      have:=rd hp r1 (fun b hb=>k6 b (r2 b hb)) hq
      rwa [show ((l.drop off).take len).length=len by simp; omega] at this
     ·simp at h
    ·simp at h
   ·rename_i s p
    unfold InV at hv
    obtain ⟨rfl,_,hal⟩:=hv
    split at h
    ·rename_i c1 x hg
     split at h
     ·rename_i c2 y' hin
      simp only [oj,pj] at h
      obtain ⟨rfl,rfl⟩:=h
      obtain ⟨hk1,hk2⟩:=conds_cat hk
      obtain ⟨c0,rc,Fs,k1,k2,Lx,csx,Fx,k3,k4,k5,k6,k7⟩:=place_ofX ho hg hk1
      obtain ⟨ad,g1,g2⟩:=hal c0 rc Fs k1 k2 _ _ k3
      subst g1
      have hy:=ih1 k4 k6 hin hk2 hq
      rw [g2]
      unfold InV
      exact ⟨rfl,ad,csx,rfl,hy,by rw [hw]; exact k5,hS _ (k7 ad rfl).1 (k7 ad rfl).2⟩
     ·simp at h
    ·simp at h
   ·rename_i e l
    simp only [oj,pj] at h
    obtain ⟨rfl,rfl⟩:=h
    unfold InV at hv
    obtain ⟨hp,Ad,cap,rfl,hsl⟩:=hv
    exact rd hp hsl hF hq
   ·rename_i x
    split at h
    ·rename_i c2 y' hin
     simp only [oj,pj] at h
     obtain ⟨rfl,rfl⟩:=h
     unfold InV at hv
     obtain ⟨ad,cs',F',rfl,hin',hca,hFx,hb,hun⟩:=hv
     subst hFx
     have hy:=ih1 hin' (fun b hb=>hF b (by simp [hb])) hin hk hq
     unfold InV
     exact ⟨rfl,ad,cs',rfl,hy,by rw [hw]; exact hca,hS _ (hF _ (by simp)).1 (hF _ (by simp)).2⟩
    ·simp at h
   ·rename_i vs
    split at h
    ·rename_i c2 ws hin
     simp only [oj,pj] at h
     obtain ⟨rfl,rfl⟩:=h
     unfold InV at hv ⊢
     exact ih2 hv hF hin hk hq
    ·simp at h
   ·rename_i f caps
    split at h
    ·rename_i c2 ws hin
     simp only [oj,pj] at h
     obtain ⟨rfl,rfl⟩:=h
     unfold InV at hv ⊢
     obtain ⟨vals,hcs,hvs,hvz⟩:=hv
     have hws:=ih2 hvs hF hin hk hq
     refine ⟨vals,hcs,hws,?_⟩
     rw [← InVs_len _ hws,InVs_len _ hvs,hvz,lends_len n hin]
    ·simp at h
   ·simp at h
   ·simp at h
   ·simp at h
   ·simp at h
   ·simp only [oj,pj] at h
    obtain ⟨rfl,rfl⟩:=h
    have hnil:F=[]:=by
     have hv':=hv
     unfold InV at hv'
     split at hv' <;> first | exact hv'.2 | exact hv'.1 | (exact Row_flatF (fun d c G hd=>DIn_flat _ hv'.2.1 hd) hv'.2.2) | simp_all
    subst hnil
    exact keep hv
  ·intro vs ys c cs F hv hF h hk hq
   cases vs with
   | nil=>
    simp only [lends,oj,pj] at h
    obtain ⟨rfl,rfl⟩:=h
    unfold InVs at hv ⊢
    exact ⟨hv.1,rfl⟩
   | cons v vs=>
    simp only [lends] at h
    split at h
    ·rename_i c1 w1 h1
     split at h
     ·rename_i c2 ws h2
      simp only [oj,pj] at h
      obtain ⟨rfl,rfl⟩:=h
      obtain ⟨hk1,hk2⟩:=conds_cat hk
      unfold InVs at hv ⊢
      obtain ⟨d1,d2,F1,F2,rfl,rfl,i1,i2⟩:=hv
      have hq1:Lasts w X Ec (noB w1):=by
       rcases hq with hq | hq
       ·unfold noBs at hq; rw [band_true] at hq; exact .inl hq.1
       ·exact .inr hq
      have hq2:Lasts w X Ec (noBs ws):=by
       rcases hq with hq | hq
       ·unfold noBs at hq; rw [band_true] at hq; exact .inl hq.2
       ·exact .inr hq
      exact ⟨d1,d2,[],[],rfl,rfl,ih1 i1 (fun b hb=>hF b (by simp [hb])) h1 hk1 hq1,ih2 i2 (fun b hb=>hF b (by simp [hb])) h2 hk2 hq2⟩
     ·simp at h
    ·simp at h
end
end Go.Rai
namespace Go.Rai
variable [Inhabited Kset]
def calleeEnv (K:Nat→Prop) (w:World) (F:List Nat):Env:=⟨w,fun b=>b<w.heap.size∧b ∉ F,K,[],fun _=>none⟩
def Outs (E:Env) (io:Nat→Bool):Nat→List V→List Value→List Nat→Prop
 | _,[],vs,F=>vs=[]∧F=[]
 | i,x :: xs,vs,F=>∃ v r F1 F2,vs=v :: r∧F=F1 ++ F2∧(io i=true→One E x v F1)∧(io i=false→F1=[])∧Outs E io (i + 1) xs r F2
def Args (E:Env) (io:Nat→Bool):Nat→List V→List Value→List Nat→Prop
 | _,[],vs,F=>vs=[]∧F=[]
 | i,x :: xs,vs,F=>∃ v r F1 F2,vs=v :: r∧F=F1 ++ F2∧One E x v F1∧(io i=false→F1=[])∧Args E io (i + 1) xs r F2
def isIo:Mode→Bool
 | .io=>true
 | _=>false
def movesIn:Mode→Bool
 | .io=>true
 | .take=>true
 | _=>false
def Callable (P : Program) (f : FuncId) : Prop := ∃ fn, P.funcs[f]? = some fn ∧ (fn.name == "runtime.NumGoroutine") = false ∧ fn.body.isNone = false
def CallsOK (P:Program) (io:Nat→Bool) (f:FuncId) (args:List V) (res:V) (outs:List V):Prop:=
 Callable P f∧∀ (K:Nat→Prop) (w:World) (vals:List Value) (F:List Nat),Tup (calleeEnv K w F) args vals F→F.Nodup→(∀ b ∈ F,b<w.heap.size) →
  Calls P f vals.toArray w fun e w'=>∃ v Fr Fo,e=.returned v∧Val (calleeEnv K w' (Fr ++ Fo)) res v Fr∧Outs (calleeEnv K w' (Fr ++ Fo)) io 0 outs vals Fo ∧
   (Fr ++ Fo).Nodup∧(∀ b ∈ Fr ++ Fo,b<w'.heap.size∧(b ∈ F ∨ w.heap.size≤b)) ∧
   (∀ b,b<w.heap.size→b ∉ F→w'.heap[b]?=w.heap[b]?)∧w.heap.size≤w'.heap.size∧w'.os=w.os∧w'.tape=w.tape∧w'.output=w.output
def OCok (P:Program) (A:Ann) {R:Type} (oc:OC R):Prop:=
 ∀ f args κ r,oc f args κ=some r→∃ res outs,κ res outs=some r∧CallsOK P (fun i=>isIo (A.mode f i)) f args res outs
section
variable {P:Program} {A:Ann} {w w' w0:World} {F0:List Nat} {sl:List V} {a:Act} {bl b':BL} {G:GT} {o:Oper} {X:List Nat}
theorem unNil_in {E:Env}:∀ (t:Ty) {v:V} {cs:List Value},InV E v cs []→InV E (unNil t v) cs []:=by
 intro t v cs h
 cases t with
 | slice e=>
  cases v with
  | nilsl=>
   show InV E (match e.plain with | true=>.rd e [] | false=>.nilsl) cs []
   cases hp:e.plain with
   | false=>exact h
   | true=>
    show InV E (.rd e []) cs []
    unfold InV at h ⊢
    exact ⟨rfl,hp,none,0,[],h.1,.inl ⟨rfl,rfl,rfl⟩,fun b hb=>by cases hb⟩
  | emp e'=>
   show InV E (match e.plain with | true=>.rd e [] | false=>.emp e') cs []
   cases hp:e.plain with
   | false=>exact h
   | true=>
    show InV E (.rd e []) cs []
    unfold InV at h ⊢
    obtain ⟨⟨A,rfl⟩,_⟩:=h
    exact ⟨rfl,hp,A,0,[],rfl,.inl ⟨rfl,rfl,rfl⟩,fun b hb=>by cases hb⟩
  | _=>exact h
 | _=>cases v <;> exact h
theorem unNil_isA (t:Ty) (v:V):isA (unNil t v)=isA v:=by
 cases t with
 | slice e=>
  cases v with
  | nilsl=>show isA (match e.plain with | true=>.rd e [] | false=>.nilsl)=false; cases e.plain <;> rfl
  | emp e'=>show isA (match e.plain with | true=>.rd e [] | false=>.emp e')=false; cases e.plain <;> rfl
  | _=>rfl
 | _=>cases v <;> rfl
theorem Tup_goes {E E':Env} (h:Goes E E' (fun _=>False)):∀ {xs:List V} {vs:List Value} {F:List Nat},Same E.w E'.w F→Tup E xs vs F→Tup E' xs vs F
 | [],vs,F,_,hh=>hh
 | x :: xs,vs,F,hF,⟨v,r,F1,F2,e1,e2,⟨cs,h1,h2⟩,h3⟩=>by
  subst e2
  exact ⟨v,r,F1,F2,e1,rfl,⟨cs,h.inV (fun _ _=>id) (fun b hb=>hF b (by simp [hb])) h1,h2⟩,Tup_goes h (fun b hb=>hF b (by simp [hb])) h3⟩
theorem Args_goes {E E':Env} {io:Nat→Bool} (h:Goes E E' (fun _=>False)):∀ {i:Nat} {xs:List V} {vs:List Value} {F:List Nat},Same E.w E'.w F→Args E io i xs vs F→Args E' io i xs vs F
 | i,[],vs,F,_,hh=>hh
 | i,x :: xs,vs,F,hF,⟨v,r,F1,F2,e1,e2,⟨cs,h1,h2⟩,h4,h3⟩=>by
  subst e2
  exact ⟨v,r,F1,F2,e1,rfl,⟨cs,h.inV (fun _ _=>id) (fun b hb=>hF b (by simp [hb])) h1,h2⟩,h4,Args_goes h (fun b hb=>hF b (by simp [hb])) h3⟩
theorem inl_isA {n:Nat} {b b':BL} {v v':V} {c:List Cond} (h:inl n b v=some (c,v',b')):isA v'=isA v:=by
 cases n with
 | zero=>simp [inl] at h
 | succ n=>
  unfold inl at h
  split at h
  ·split at h
   ·simp only [oj,pj] at h; rw [← h.2.1]; rfl
   ·split at h
    ·split at h
     ·simp only [oj,pj] at h; rw [← h.2.1]; rfl
     ·simp at h
    ·simp at h
   ·simp at h
  ·split at h
   ·split at h
    ·simp only [oj,pj] at h; rw [← h.2.1]; rfl
    ·simp at h
   ·simp at h
  ·split at h
   ·split at h
    ·split at h
     ·simp only [oj,pj] at h; rw [← h.2.1]; rfl
     ·simp at h
    ·simp at h
   ·simp at h
  ·split at h
   ·simp only [oj,pj] at h; rw [← h.2.1]; rfl
   ·simp at h
  ·split at h
   ·simp only [oj,pj] at h; rw [← h.2.1]; rfl
   ·simp at h
  ·split at h
   ·simp only [oj,pj] at h; rw [← h.2.1]; rfl
   ·simp at h
  ·split at h
   ·simp only [oj,pj] at h; rw [← h.2.1]; rfl
   ·simp at h
  ·simp at h
  ·simp at h
  ·simp at h
  ·simp only [oj,pj] at h; rw [← h.2.1]
theorem prepIo_ok {f:FuncId}:∀ {vs:List V} {i:Nat} {bl b':BL} {G:GT} {X:List Nat} {vals:List Value} {ws:List V} {c:List Cond},CoreX w bl G X w0 F0→Tup (envOf w bl G X) vs vals []→prepIo A f i bl vs=some (c,ws,b')→(∀ k ∈ c,k.ok) →
  Took w (envOf w bl G X) w0 F0 X b' (fun E F'=>Args E (fun j=>movesIn (A.mode f j)) i ws vals F')
 | [],i,bl,b',G,X,vals,ws,c,hc,hv,h,hk=>by
  simp only [prepIo,oj,pj] at h
  obtain ⟨rfl,rfl,rfl⟩:=h
  exact ⟨[],G,hc,hv,Goes.refl_ _ _⟩
 | v :: vs,i,bl,b',G,X,vals,ws,c,hc,hv,h,hk=>by
  obtain ⟨u,r,F1,F2,rfl,e2,⟨cs,i1,i2⟩,i3⟩:=hv
  obtain ⟨rfl,rfl⟩:=List.append_eq_nil_iff.1 e2.symm
  simp only [prepIo] at h
  split at h
  ·rename_i c1 w1 b1 h1
   split at h
   ·rename_i c2 ws2 b2 h2
    simp only [oj,pj] at h
    obtain ⟨rfl,rfl,rfl⟩:=h
    obtain ⟨hk1,hk2⟩:=conds_cat hk
    have first:Took w (envOf w bl G X) w0 F0 X b1 (fun E F'=>One E w1 u F'∧(movesIn (A.mode f i)=false→F'=[])):=by
     split at h1
     ·obtain ⟨F',G',q1,q2,q3⟩:=(inl_ok 9).1 (F:=[]) hc i1 h1 hk1
      rename_i hmode
      refine ⟨F',G',q1,⟨⟨cs,q2,?_⟩,fun hf=>by rw [hmode] at hf; cases hf⟩,q3⟩
      unfold asVal at i2 ⊢
      rw [inl_isA h1]
      exact i2
     ·obtain ⟨F',G',q1,q2,q3⟩:=(inl_ok 9).1 (F:=[]) hc i1 h1 hk1
      rename_i hmode
      refine ⟨F',G',q1,⟨⟨cs,q2,?_⟩,fun hf=>by rw [hmode] at hf; cases hf⟩,q3⟩
      unfold asVal at i2 ⊢
      rw [inl_isA h1]
      exact i2
     ·simp only [oj,pj] at h1
      obtain ⟨rfl,rfl,rfl⟩:=h1
      exact ⟨[],G,hc,⟨⟨cs,i1,i2⟩,fun _=>rfl⟩,Goes.refl_ _ _⟩
    obtain ⟨F',G',q1,⟨q2,q4⟩,q3⟩:=first
    obtain ⟨F2',G2,s1,s2,s3⟩:=prepIo_ok (X:=F' ++ X) q1 (Tup_goes q3 (fun b hb=>by cases hb) i3) h2 hk2
    obtain ⟨t1,t2⟩:=s1.perm (show (F2' ++ (F' ++ X)).Perm ((F' ++ F2') ++ X) by
     rw [← List.append_assoc]
     exact List.Perm.append_right X List.perm_append_comm)
    obtain ⟨cs',j1,j2⟩:=q2
    exact ⟨F' ++ F2',G2,t1,⟨u,r,F',F2',rfl,rfl,⟨cs',(s3.trans t2).inV (fun _ _=>id) (fun _ _=>rfl) j1,j2⟩,q4,Args_goes t2 (fun _ _=>rfl) s2⟩,(q3.trans s3).trans t2⟩
   ·simp at h
  ·simp at h
theorem lend_isA {n:Nat} {b:BL} {v v':V} {c:List Cond} (h:lend b n v=some (c,v')):isA v'=isA v:=by
 cases n with
 | zero=>simp [lend] at h
 | succ n=>
  unfold lend at h
  split at h
  ·split at h
   ·simp only [oj,pj] at h; rw [← h.2]; rfl
   ·split at h
    ·split at h
     ·simp only [oj,pj] at h; rw [← h.2]; rfl
     ·simp at h
    ·simp at h
   ·simp at h
  ·split at h
   ·split at h
    ·simp only [oj,pj] at h; rw [← h.2]; rfl
    ·simp at h
   ·simp at h
  ·split at h
   ·split at h
    ·simp only [oj,pj] at h; rw [← h.2]; rfl
    ·simp at h
   ·simp at h
  ·simp only [oj,pj] at h; rw [← h.2]; rfl
  ·split at h
   ·simp only [oj,pj] at h; rw [← h.2]; rfl
   ·simp at h
  ·split at h
   ·simp only [oj,pj] at h; rw [← h.2]; rfl
   ·simp at h
  ·split at h
   ·simp only [oj,pj] at h; rw [← h.2]; rfl
   ·simp at h
  ·simp at h
  ·simp at h
  ·simp at h
  ·simp at h
  ·simp only [oj,pj] at h; rw [← h.2]
mutual
theorem kept_site:∀ {v:V},allKept v=true→sites v=[]
 | .int _ _,_=>rfl
 | .bool _,_=>rfl
 | .str _,_=>rfl
 | .own _ _,_=>rfl
 | .arr _ _ _,_=>rfl
 | .rd _ _,_=>rfl
 | .agg vs,h=>by unfold allKept at h; unfold sites; exact kept_sites h
 | .obox v,h=>by unfold allKept at h; unfold sites; exact kept_site h
 | .tup vs,h=>by unfold allKept at h; unfold sites; exact kept_sites h
 | .undef,ho=>by simp [allKept] at ho
 | .void,ho=>by simp [allKept] at ho
 | .lst _ _,ho=>by simp [allKept] at ho
 | .nilsl,ho=>by simp [allKept] at ho
 | .emp _,ho=>by simp [allKept] at ho
 | .rp _,ho=>by simp [allKept] at ho
 | .full _ _ _,ho=>by simp [allKept] at ho
 | .sub _ _ _ _ _,ho=>by simp [allKept] at ho
 | .ptr _ _,ho=>by simp [allKept] at ho
 | .fn _ _,ho=>by simp [allKept] at ho
 | .nilfn,ho=>by simp [allKept] at ho
 | .nilptr,_=>rfl
theorem kept_sites:∀ {vs:List V},allKepts vs=true→sitess vs=[]
 | [],_=>rfl
 | v :: vs,h=>by
  unfold allKepts at h; rw [band_true] at h
  unfold sitess; rw [kept_site h.1,kept_sites h.2]; rfl
end
def Kle (E E':Env):Prop:=∀ b,E.S b→E.K b→E'.S b∧E'.K b
theorem Le.kle {E E':Env} (h:Le E E'):Kle E E':=fun b h1 h2=>⟨(h.stab b h1).1,h.kept b h1 h2⟩
mutual
theorem kept_env {E E':Env} (hle:Kle E E') (hw:E'.w=E.w):∀ {v:V} {cs:List Value} {F:List Nat},allKept v=true→InV E v cs F→InV E' v cs F
 | .int _ _,_,_,_,h=>h
 | .bool _,_,_,_,h=>h
 | .str _,_,_,_,h=>h
 | .own e l,cs,F,hv,h=>by unfold InV at h ⊢; rw [hw]; exact h
 | .arr n e l,cs,F,hv,h=>by unfold InV at h ⊢; rw [hw]; exact h
 | .rd e l,cs,F,hv,h=>by
  unfold allKept at hv
  unfold InV at h ⊢
  rw [hw]
  obtain ⟨h0,hp,A,c,F',h1,h2,h3⟩:=h
  exact ⟨h0,hp,A,c,F',h1,h2,fun b hb=>⟨(hle b (h3 b hb).1 ((h3 b hb).2 hv)).1,fun _=>(hle b (h3 b hb).1 ((h3 b hb).2 hv)).2⟩⟩
 | .agg vs,cs,F,hv,h=>by
  unfold allKept at hv
  unfold InV at h ⊢
  exact kept_envs hle hw hv h
 | .obox v,cs,F,hv,h=>by
  unfold allKept at hv
  unfold InV at h ⊢
  rw [hw]
  obtain ⟨a,cs',F',h1,h2,h3⟩:=h
  exact ⟨a,cs',F',h1,kept_env hle hw hv h2,h3⟩
 | .tup vs,_,_,_,h=>by unfold InV at h; exact h.elim
 | .undef,_,_,ho,_=>by simp [allKept] at ho
 | .void,_,_,ho,_=>by simp [allKept] at ho
 | .lst _ _,_,_,ho,_=>by simp [allKept] at ho
 | .nilsl,_,_,ho,_=>by simp [allKept] at ho
 | .emp _,_,_,ho,_=>by simp [allKept] at ho
 | .rp _,_,_,ho,_=>by simp [allKept] at ho
 | .full _ _ _,_,_,ho,_=>by simp [allKept] at ho
 | .sub _ _ _ _ _,_,_,ho,_=>by simp [allKept] at ho
 | .ptr _ _,_,_,ho,_=>by simp [allKept] at ho
 | .fn _ _,_,_,ho,_=>by simp [allKept] at ho
 | .nilfn,_,_,ho,_=>by simp [allKept] at ho
 | .nilptr,_,_,_,h=>h
theorem kept_envs {E E':Env} (hle:Kle E E') (hw:E'.w=E.w):∀ {vs:List V} {cs:List Value} {F:List Nat},allKepts vs=true→InVs E vs cs F→InVs E' vs cs F
 | [],_,_,_,h=>h
 | v :: vs,cs,F,hv,h=>by
  unfold allKepts at hv; rw [band_true] at hv
  unfold InVs at h ⊢
  obtain ⟨c1,c2,F1,F2,e1,e2,h1,h2⟩:=h
  exact ⟨c1,c2,F1,F2,e1,e2,kept_env hle hw hv.1 h1,kept_envs hle hw hv.2 h2⟩
end
mutual
theorem own_kept:∀ {v:V},allOwn v=true→allKept v=true
 | .int _ _,_=>rfl
 | .bool _,_=>rfl
 | .str _,_=>rfl
 | .own _ _,_=>rfl
 | .arr _ _ _,_=>rfl
 | .agg vs,h=>by unfold allOwn at h; unfold allKept; exact own_kepts h
 | .obox v,h=>by unfold allOwn at h; unfold allKept; exact own_kept h
 | .tup vs,h=>by unfold allOwn at h; unfold allKept; exact own_kepts h
 | .undef,ho=>by simp [allOwn] at ho
 | .void,ho=>by simp [allOwn] at ho
 | .lst _ _,ho=>by simp [allOwn] at ho
 | .nilsl,ho=>by simp [allOwn] at ho
 | .emp _,ho=>by simp [allOwn] at ho
 | .rp _,ho=>by simp [allOwn] at ho
 | .full _ _ _,ho=>by simp [allOwn] at ho
 | .sub _ _ _ _ _,ho=>by simp [allOwn] at ho
 | .ptr _ _,ho=>by simp [allOwn] at ho
 | .fn _ _,ho=>by simp [allOwn] at ho
 | .nilfn,ho=>by simp [allOwn] at ho
 | .nilptr,_=>rfl
 | .rd _ _,ho=>by simp [allOwn] at ho
theorem own_kepts:∀ {vs:List V},allOwns vs=true→allKepts vs=true
 | [],_=>rfl
 | v :: vs,h=>by
  unfold allOwns at h; rw [band_true] at h
  unfold allKepts; rw [own_kept h.1,own_kepts h.2]; rfl
end
theorem prepLend_ok {f:FuncId} (ho:Ok w bl G X) {Ec:Env} (hw:Ec.w=w) (hbl:Ec.bl=[]) (hS:∀ b,b<w.heap.size→b ∉ X→Ec.S b) (hle:Le (envOf w bl G X) Ec):∀ {vs:List V} {i:Nat} {ts:List Ty} {vals:List Value} {us:List V} {c:List Cond} {F:List Nat},
  Args (envOf w bl G X) (fun j=>movesIn (A.mode f j)) i vs vals F→prepLend A f bl i ts vs=some (c,us)→(∀ k ∈ c,k.ok)→Lasts w X Ec (scalL A f i us)→Tup Ec us vals F
 | [],i,ts,vals,us,c,F,hv,h,hk,hsc=>by
  simp only [prepLend,oj,pj] at h
  obtain ⟨rfl,rfl⟩:=h
  exact hv
 | v :: vs,i,ts,vals,us,c,F,hv,h,hk,hsc=>by
  have keep:∀ {v:V} {cs:List Value} {F:List Nat},InV (envOf w bl G X) v cs F→InV Ec v cs F:=fun h=>InV_frame hle _ (fun s _ c' rc' F' hlk=>by rw [hbl] at hlk; simp [lookB] at hlk) (fun b hb=>by rw [hw]; rfl) h
  obtain ⟨u,r,F1,F2,rfl,rfl,⟨cs,i1,i2⟩,i4,i3⟩:=hv
  simp only [prepLend] at h
  split at h
  ·rename_i c1 w1 h1
   split at h
   ·rename_i c2 ws2 h2
    simp only [oj,pj] at h
    obtain ⟨rfl,rfl⟩:=h
    obtain ⟨hk1,hk2⟩:=conds_cat hk
    have hsc2:Lasts w X Ec (scalL A f (i + 1) ws2):=by
     rcases hsc with hsc | hsc
     ·simp only [scalL] at hsc
      split at hsc
      ·split at hsc
       ·exact .inl hsc
       ·cases hsc
      ·exact .inl hsc
     ·exact .inr hsc
    have hrest:=prepLend_ok ho hw hbl hS hle i3 h2 hk2 hsc2
    have first:One Ec w1 u F1:=by
     split at h1
     ·rename_i hm
      have hF1:=i4 (by show movesIn (A.mode f i)=false; rw [hm]; rfl)
      subst hF1
      have hsw:Lasts w X Ec (noB w1):=by
       rcases hsc with hsc | hsc
       ·simp only [scalL,hm] at hsc
        split at hsc
        ·rename_i hq; exact .inl hq
        ·cases hsc
       ·exact .inr hsc
      refine ⟨cs,(lend_ok ho hw hbl hS hle 9).1 (unNil_in _ i1) (fun b hb=>by cases hb) h1 hk1 hsw,?_⟩
      unfold asVal at i2 ⊢
      rw [lend_isA h1,unNil_isA]
      exact i2
     ·simp only [oj,pj] at h1
      obtain ⟨rfl,rfl⟩:=h1
      exact ⟨cs,keep i1,i2⟩
     ·simp only [oj,pj] at h1
      obtain ⟨rfl,rfl⟩:=h1
      exact ⟨cs,keep i1,i2⟩
     ·split at h1
      ·simp at h1
      ·simp only [oj,pj] at h1
       obtain ⟨rfl,rfl⟩:=h1
       exact ⟨cs,keep i1,i2⟩
    exact ⟨u,r,F1,F2,rfl,rfl,first,hrest⟩
   ·simp at h
  ·simp at h
def lastsK (w:World) (bl:BL) (G:GT) (F:List Nat):Nat→Prop:=fun b=>(envOf w bl G F).S b∧Kept.K b
theorem lent_ok {f:FuncId} (ho:Ok w bl G X) {vs:List V} {ts:List Ty} {vals:List Value} {us:List V} {c:List Cond} {F Y:List Nat} (hY:∀ b ∈ Y,b ∈ X)
  (hv:Args (envOf w bl G X) (fun j=>movesIn (A.mode f j)) 0 vs vals F) (h:prepLend A f bl 0 ts vs=some (c,us)) (hk:∀ k ∈ c,k.ok) :
  Tup (calleeEnv (fun _=>True) w Y) us vals F∧(scalL A f 0 us=true→Tup (calleeEnv (lastsK w bl G X) w Y) us vals F):=
 ⟨prepLend_ok (Ec:=calleeEnv (fun _=>True) w Y) ho rfl rfl (fun b hb hx=>(⟨hb,fun hm=>hx (hY b hm)⟩:b<w.heap.size∧b ∉ Y)) ⟨fun b hb=>⟨⟨hb.1,fun hx=>hb.2 (.inl (hY b hx))⟩,rfl⟩,Nat.le_refl _,fun _ _ _=>trivial⟩ hv h hk (.inr fun _ _ _=>trivial),
  fun hs=>prepLend_ok (Ec:=calleeEnv (lastsK w bl G X) w Y) ho rfl rfl (fun b hb hx=>(⟨hb,fun hm=>hx (hY b hm)⟩:b<w.heap.size∧b ∉ Y)) ⟨fun b hb=>⟨⟨hb.1,fun hx=>hb.2 (.inl (hY b hx))⟩,rfl⟩,Nat.le_refl _,fun b h1 h2=>⟨h1,h2⟩⟩ hv h hk (.inl hs)⟩
theorem prep_kept {f:FuncId} {vs:List V} {ts:List Ty} {vals:List Value} {us:List V} {c:List Cond} (hc:Core w bl G w0 F0) (hv:Tup (envOf w bl G []) vs vals []) (h:prep A f bl ts vs=some (c,us,b')) (hk:∀ k ∈ c,k.ok) :
  ∃ F G',CoreX w b' G' F w0 F0∧Tup (calleeEnv (fun _=>True) w F) us vals F∧Goes (envOf w bl G []) (envOf w b' G' F) (fun _=>False)∧(scalL A f 0 us=true→Tup (calleeEnv (lastsK w b' G' F) w F) us vals F):=by
 unfold prep at h
 split at h
 ·rename_i c1 ws b1 h1
  split at h
  ·rename_i c2 us2 h2
   simp only [oj,pj] at h
   obtain ⟨rfl,rfl,rfl⟩:=h
   obtain ⟨hk1,hk2⟩:=conds_cat hk
   obtain ⟨F,G',q1,q2,q3⟩:=prepIo_ok (A:=A) hc.x hv h1 hk1
   rw [List.append_nil] at q1 q2 q3
   obtain ⟨r1,r2⟩:=lent_ok q1.ok (fun b hb=>hb) q2 h2 hk2
   exact ⟨F,G',q1,r1,q3,r2⟩
  ·simp at h
 ·simp at h
end
end Go.Rai
namespace Go.Rai
variable [Inhabited Kset]
mutual
theorem own_env {E E':Env} (hw:E'.w=E.w):∀ (v:V) {cs:List Value} {F:List Nat},allOwn v=true→InV E v cs F→InV E' v cs F
 | .int _ _,_,_,_,h=>by unfold InV at h ⊢; exact h
 | .bool _,_,_,_,h=>by unfold InV at h ⊢; exact h
 | .str _,_,_,_,h=>by unfold InV at h ⊢; exact h
 | .own e l,_,_,_,h=>by unfold InV at h ⊢; rw [hw]; exact h
 | .arr n e l,_,_,_,h=>by unfold InV at h ⊢; rw [hw]; exact h
 | .agg vs,cs,F,ho,h=>by unfold allOwn at ho; unfold InV at h ⊢; exact owns_env hw vs ho h
 | .obox v,cs,F,ho,h=>by
  unfold allOwn at ho
  unfold InV at h ⊢
  obtain ⟨a,cs',F',h1,h2,h3⟩:=h
  exact ⟨a,cs',F',h1,own_env hw v ho h2,by rw [hw]; exact h3⟩
 | .tup vs,_,_,_,h=>by unfold InV at h; exact h.elim
 | .undef,_,_,ho,_=>by simp [allOwn] at ho
 | .void,_,_,ho,_=>by simp [allOwn] at ho
 | .rd _ _,_,_,ho,_=>by simp [allOwn] at ho
 | .lst _ _,_,_,ho,_=>by simp [allOwn] at ho
 | .nilsl,_,_,ho,_=>by simp [allOwn] at ho
 | .emp _,_,_,ho,_=>by simp [allOwn] at ho
 | .rp _,_,_,ho,_=>by simp [allOwn] at ho
 | .full _ _ _,_,_,ho,_=>by simp [allOwn] at ho
 | .sub _ _ _ _ _,_,_,ho,_=>by simp [allOwn] at ho
 | .ptr _ _,_,_,ho,_=>by simp [allOwn] at ho
 | .fn _ _,_,_,ho,_=>by simp [allOwn] at ho
 | .nilfn,_,_,ho,_=>by simp [allOwn] at ho
 | .nilptr,_,_,_,h=>by unfold InV at h ⊢; exact h
theorem owns_env {E E':Env} (hw:E'.w=E.w):∀ (vs:List V) {cs:List Value} {F:List Nat},allOwns vs=true→InVs E vs cs F→InVs E' vs cs F
 | [],_,_,_,h=>by unfold InVs at h ⊢; exact h
 | v :: vs,cs,F,ho,h=>by
  unfold allOwns at ho; rw [band_true] at ho
  unfold InVs at h ⊢
  obtain ⟨c1,c2,F1,F2,e1,e2,h1,h2⟩:=h
  exact ⟨c1,c2,F1,F2,e1,e2,own_env hw v ho.1 h1,owns_env hw vs ho.2 h2⟩
end
mutual
theorem res_env {E E':Env} (hw:E'.w=E.w):∀ (v:V) {cs:List Value} {F:List Nat},resOwn v=true→InV E v cs F→InV E' v cs F
 | .int _ _,_,_,_,h=>by unfold InV at h ⊢; exact h
 | .bool _,_,_,_,h=>by unfold InV at h ⊢; exact h
 | .str _,_,_,_,h=>by unfold InV at h ⊢; exact h
 | .own e l,_,_,_,h=>by unfold InV at h ⊢; rw [hw]; exact h
 | .arr n e l,_,_,_,h=>by unfold InV at h ⊢; rw [hw]; exact h
 | .agg vs,cs,F,ho,h=>by unfold resOwn at ho; unfold InV at h ⊢; exact ress_env hw vs ho h
 | .obox v,cs,F,ho,h=>by
  unfold resOwn at ho
  unfold InV at h ⊢
  obtain ⟨a,cs',F',h1,h2,h3⟩:=h
  exact ⟨a,cs',F',h1,res_env hw v ho h2,by rw [hw]; exact h3⟩
 | .tup vs,_,_,_,h=>by unfold InV at h; exact h.elim
 | .undef,_,_,ho,_=>by simp [resOwn] at ho
 | .void,_,_,ho,_=>by simp [resOwn] at ho
 | .rd _ _,_,_,ho,_=>by simp [resOwn] at ho
 | .lst _ _,_,_,ho,_=>by simp [resOwn] at ho
 | .nilsl,_,_,_,h=>by unfold InV at h ⊢; exact h
 | .emp _,_,_,ho,_=>by simp [resOwn] at ho
 | .rp _,_,_,ho,_=>by simp [resOwn] at ho
 | .full _ _ _,_,_,ho,_=>by simp [resOwn] at ho
 | .sub _ _ _ _ _,_,_,ho,_=>by simp [resOwn] at ho
 | .ptr _ _,_,_,ho,_=>by simp [resOwn] at ho
 | .fn _ _,_,_,ho,_=>by simp [resOwn] at ho
 | .nilfn,_,_,ho,_=>by simp [resOwn] at ho
 | .nilptr,_,_,_,h=>by unfold InV at h ⊢; exact h
theorem ress_env {E E':Env} (hw:E'.w=E.w):∀ (vs:List V) {cs:List Value} {F:List Nat},resOwns vs=true→InVs E vs cs F→InVs E' vs cs F
 | [],_,_,_,h=>by unfold InVs at h ⊢; exact h
 | v :: vs,cs,F,ho,h=>by
  unfold resOwns at ho; rw [band_true] at ho
  unfold InVs at h ⊢
  obtain ⟨c1,c2,F1,F2,e1,e2,h1,h2⟩:=h
  exact ⟨c1,c2,F1,F2,e1,e2,res_env hw v ho.1 h1,ress_env hw vs ho.2 h2⟩
end
end Go.Rai
namespace Go.Rai
variable [Inhabited Kset]
theorem bor_false {a b:Bool}:bor a b=false ↔ a=false∧b=false:=by cases a <;> cases b <;> simp [bor]
mutual
theorem noOwn_F {E:Env}:∀ (v:V) {cs:List Value} {F:List Nat},resOwn v=true→hasOwn v=false→InV E v cs F→F=[]
 | .int _ _,_,_,_,_,h=>by unfold InV at h; exact h.2
 | .bool _,_,_,_,_,h=>by unfold InV at h; exact h.2
 | .str _,_,_,_,_,h=>by unfold InV at h; exact h.2
 | .own e l,_,_,_,hn,h=>by simp [hasOwn] at hn
 | .arr n e l,_,_,_,_,h=>by unfold InV at h; exact Row_flatF (fun d c G hd=>DIn_flat e h.2.1 hd) h.2.2
 | .agg vs,cs,F,ho,hn,h=>by unfold resOwn at ho; unfold hasOwn at hn; unfold InV at h; exact noOwns_F vs ho hn h
 | .obox v,cs,F,ho,hn,h=>by simp [hasOwn] at hn
 | .tup vs,_,_,_,_,h=>by unfold InV at h; exact h.elim
 | .undef,_,_,ho,_,_=>by simp [resOwn] at ho
 | .void,_,_,ho,_,_=>by simp [resOwn] at ho
 | .rd _ _,_,_,ho,_,_=>by simp [resOwn] at ho
 | .lst _ _,_,_,ho,_,_=>by simp [resOwn] at ho
 | .nilsl,_,_,_,_,h=>by unfold InV at h; exact h.2
 | .emp _,_,_,ho,_,_=>by simp [resOwn] at ho
 | .rp _,_,_,ho,_,_=>by simp [resOwn] at ho
 | .full _ _ _,_,_,ho,_,_=>by simp [resOwn] at ho
 | .sub _ _ _ _ _,_,_,ho,_,_=>by simp [resOwn] at ho
 | .ptr _ _,_,_,ho,_,_=>by simp [resOwn] at ho
 | .fn _ _,_,_,ho,_,_=>by simp [resOwn] at ho
 | .nilfn,_,_,ho,_,_=>by simp [resOwn] at ho
 | .nilptr,_,_,_,_,h=>by unfold InV at h; exact h.2
theorem noOwns_F {E:Env}:∀ (vs:List V) {cs:List Value} {F:List Nat},resOwns vs=true→hasOwns vs=false→InVs E vs cs F→F=[]
 | [],_,_,_,_,h=>by unfold InVs at h; exact h.2
 | v :: vs,cs,F,ho,hn,h=>by
  unfold resOwns at ho; rw [band_true] at ho
  unfold hasOwns at hn; rw [bor_false] at hn
  unfold InVs at h
  obtain ⟨c1,c2,F1,F2,e1,e2,h1,h2⟩:=h
  rw [e2,noOwn_F v ho.1 hn.1 h1,noOwns_F vs ho.2 hn.2 h2]
  rfl
end
section
variable {P:Program} {A:Ann} {w w' w0:World} {F0:List Nat} {sl:List V} {a:Act} {bl b':BL} {G:GT} {o:Oper} {X:List Nat}
theorem place_go {F:List Nat} (h:CoreX w bl G (F ++ X) w0 F0) {s:Nat} {x x':V} {cs:List Value} {v:Value} (hx:InV (envOf w bl G (F ++ X)) x cs F) (hu:asVal x cs v) (ho:resOwn x=true)
  (hf:place sl bl s x=some (x',b')):∃ G',CoreX w b' G' X w0 F0∧One (envOf w b' G' X) x' v []∧Goes (envOf w bl G (F ++ X)) (envOf w b' G' X) (fun t=>t ∉ sitess sl):=by
 unfold place at hf
 split at hf
 ·split at hf
  ·rename_i hun
   simp only [oj,pj] at hf
   obtain ⟨rfl,rfl⟩:=hf
   obtain ⟨u1,u2,u3,u4⟩:=unused_iff hun
   obtain ⟨g1,g2⟩:=h.add u1 u3 hx u4
   refine ⟨_,g1,?_,⟨g2.le,fun t ht=>g2.al t (fun e=>ht (by rw [e]; exact u2))⟩⟩
   have hb:lookB (setB bl s x) s=some x:=by rw [lookB_set]; simp
   have hin:=alias_ok (Fv:=F) (E:=envOf w (setB bl s x) (fun q=>if q=s then some (cs,F) else G q) X) (s:=s) (c0:=x) (rc:=cs) (F:=F) hb (by simp [envOf]) x (p:=[]) (L:=.reg cs) (by simp [locF]) ⟨[],by simp⟩ (g2.inV (fun s' hs' hst=>u4 (hst ▸ hs')) (fun b _=>rfl) hx)
   refine ⟨cs,hin,?_⟩
   unfold asVal at hu ⊢
   rw [isA_alias]
   exact hu
  ·simp at hf
 ·rename_i hno
  simp only [oj,pj] at hf
  obtain ⟨rfl,rfl⟩:=hf
  have hF:=noOwn_F x ho hno hx
  subst hF
  exact ⟨G,h,⟨cs,hx,hu⟩,⟨(Goes.refl_ _ (fun _=>False)).le,fun t _=>(Goes.refl_ _ (fun _=>False)).al t id⟩⟩
theorem Goes.mono {E E':Env} {N N':Nat→Prop} (h:Goes E E' N) (hn:∀ s,N s→N' s):Goes E E' N':=⟨h.le,fun s hs=>h.al s (fun hN=>hs (hn s hN))⟩
theorem owns_tup {E E':Env} (hw:E'.w=E.w):∀ {xs:List V} {vs:List Value} {F:List Nat},resOwns xs=true→Tup E xs vs F→Tup E' xs vs F
 | [],vs,F,_,h=>h
 | x :: xs,vs,F,ho,⟨v,r,F1,F2,e1,e2,⟨cs,h1,h2⟩,h3⟩=>by
  unfold resOwns at ho; rw [band_true] at ho
  exact ⟨v,r,F1,F2,e1,e2,⟨cs,res_env hw x ho.1 h1,h2⟩,owns_tup hw ho.2 h3⟩
theorem places_ok {s:Nat}:∀ {vs:List V} {j:Nat} {sl:List V} {bl b':BL} {G:GT} {X F:List Nat} {xs:List V} {vals:List Value},CoreX w bl G (F ++ X) w0 F0→Tup (envOf w bl G (F ++ X)) vs vals F→resOwns vs=true →
  places s sl bl j vs=some (xs,b')→∃ G',CoreX w b' G' X w0 F0∧Tup (envOf w b' G' X) xs vals []∧Goes (envOf w bl G (F ++ X)) (envOf w b' G' X) (fun t=>t ∉ sitess sl)
 | [],j,sl,bl,b',G,X,F,xs,vals,hc,hv,ho,h=>by
  simp only [places,oj,pj] at h
  obtain ⟨rfl,rfl⟩:=h
  obtain ⟨rfl,rfl⟩:=hv
  exact ⟨G,hc,⟨rfl,rfl⟩,(Goes.refl_ _ (fun _=>False)).mono (fun _ h=>h.elim)⟩
 | v :: vs,j,sl,bl,b',G,X,F,xs,vals,hc,hv,ho,h=>by
  unfold resOwns at ho; rw [band_true] at ho
  obtain ⟨u,r,F1,F2,rfl,rfl,⟨cs,i1,i2⟩,i3⟩:=hv
  simp only [places] at h
  split at h
  ·rename_i x b1 h1
   split at h
   ·rename_i ys b2 h2
    simp only [oj,pj] at h
    obtain ⟨rfl,rfl⟩:=h
    obtain ⟨p1,p2⟩:=hc.perm (show ((F1 ++ F2) ++ X).Perm (F1 ++ (F2 ++ X)) by rw [List.append_assoc])
    obtain ⟨G1,q1,⟨cs',q3,q5⟩,q4⟩:=place_go (sl:=sl) (X:=F2 ++ X) p1 (res_env (E:=envOf w bl G ((F1 ++ F2) ++ X)) (E':=envOf w bl G (F1 ++ (F2 ++ X))) rfl v ho.1 i1) i2 ho.1 h1
    obtain ⟨G2,r1,r2,r3⟩:=places_ok (sl:=x :: sl) q1 (owns_tup (E:=envOf w bl G ((F1 ++ F2) ++ X)) (E':=envOf w b1 G1 (F2 ++ X)) rfl ho.2 i3) ho.2 h2
    have hg:Goes (envOf w bl G ((F1 ++ F2) ++ X)) (envOf w b1 G1 (F2 ++ X)) (fun t=>t ∉ sitess sl):=(p2.mono (fun _ h=>h.elim)).trans q4
    have hg2:Goes (envOf w b1 G1 (F2 ++ X)) (envOf w b2 G2 X) (fun t=>t ∉ sitess sl):=r3.mono (fun t ht hm=>ht (by simp [sitess,mem_cat,hm]))
    have hx:One (envOf w b2 G2 X) x u []:=⟨cs',r3.inV (fun t ht hn=>hn (by simp [sitess,mem_cat,ht])) (fun _ hb=>by cases hb) q3,q5⟩
    exact ⟨G2,r1,⟨u,r,[],[],rfl,rfl,hx,r2⟩,hg.trans hg2⟩
   ·simp at h
  ·simp at h
theorem placeRes_ok {F:List Nat} (h:CoreX w bl G F w0 F0) (hs:Slots (envOf w bl G F) sl a) {d:Option Nat} {x x':V} {v:Value} {E:Env} (hE:E.w=w) (hx:Val E x v F) (ho:resOwn x=true)
  (hf:placeRes sl bl d x=some (x',b')):∃ G',Core w b' G' w0 F0∧Slots (envOf w b' G' []) sl a∧Val (envOf w b' G' []) x' v []:=by
 unfold placeRes at hf
 have hF0:F ++ []=F:=List.append_nil F
 split at hf
 ·rename_i s
  split at hf
  ·rename_i vs
   split at hf
   ·rename_i xs b1 hp
    simp only [oj,pj] at hf
    obtain ⟨rfl,rfl⟩:=hf
    obtain ⟨vals,rfl,ht⟩:=hx
    unfold resOwn at ho
    obtain ⟨G',g1,g2,g3⟩:=places_ok (X:=[]) (F:=F) (by rw [hF0]; exact h) (owns_tup (E:=E) (E':=envOf w bl G (F ++ [])) (by rw [hE]; rfl) ho ht) ho hp
    rw [hF0] at g3
    exact ⟨G',g1.c,hs.goes g3 (fun t ht hn=>hn ht),⟨vals,rfl,g2⟩⟩
   ·simp at hf
  ·rename_i hnt
   have hone:One E x v F:=by
    cases x <;> first | exact hx | (simp [resOwn] at ho; done) | exact absurd rfl (hnt _)
   obtain ⟨cs,h1,h2⟩:=hone
   obtain ⟨G',g1,g2,g3⟩:=place_go (sl:=sl) (X:=[]) (F:=F) (by rw [hF0]; exact h) (res_env (E:=E) (E':=envOf w bl G (F ++ [])) (by rw [hE]; rfl) x ho h1) h2 ho hf
   rw [hF0] at g3
   exact ⟨G',g1.c,hs.goes g3 (fun t ht hn=>hn ht),one_val g2⟩
 ·simp only [oj,pj] at hf
  obtain ⟨rfl,rfl⟩:=hf
  obtain ⟨p1,p2⟩:=h.sub (X':=[]) (by simp) (fun b hb=>by cases hb)
  exact ⟨G,p1.c,hs.go0 p2,val_undef⟩
end
end Go.Rai
namespace Go.Rai
variable [Inhabited Kset]
section
variable {P:Program} {A:Ann} {w w' w0:World} {F0:List Nat} {sl:List V} {a:Act} {bl b':BL} {G:GT} {o:Oper} {X:List Nat}
theorem val_one_nt {E:Env} {x:V} {v:Value} (hx:∀ xs,x ≠ .tup xs) (h:Val E x v []):One E x v []:=by
 cases x with
 | tup xs=>exact absurd rfl (hx xs)
 | undef=>exact ⟨[v],by unfold InV; exact ⟨⟨v,rfl⟩,rfl⟩,by unfold asVal; rfl⟩
 | _=>exact h
theorem opds_args {E:Env} (hs:Slots E sl a) {io:Nat→Bool}:∀ {xs:List Operand} {i:Nat},noTups (mapOpd sl xs)=true→Args E io i (mapOpd sl xs) (xs.map a.eval) []
 | [],i,_=>⟨rfl,rfl⟩
 | x :: xs,i,h=>by
  simp only [mapOpd] at h
  have hx:(∀ ys,opd sl x ≠ .tup ys)∧noTups (mapOpd sl xs)=true:=by
   cases hq:opd sl x <;> rw [hq] at h <;> simp [noTups] at h <;> exact ⟨(by intro ys hh; cases hh),h⟩
  exact ⟨a.eval x,xs.map a.eval,[],[],rfl,rfl,val_one_nt hx.1 (opd_val hs x),fun _=>rfl,opds_args hs hx.2⟩
theorem caps_args {E:Env} {io:Nat→Bool}:∀ {caps:List V} {i:Nat} {vals:List Value},noAggs caps=true→InVs E caps vals []→Args E io i caps vals []
 | [],i,vals,_,h=>by unfold InVs at h; exact h
 | x :: caps,i,vals,h,hi=>by
  unfold InVs at hi
  obtain ⟨c1,c2,F1,F2,e1,e2,h1,h2⟩:=hi
  obtain ⟨rfl,rfl⟩:=List.append_eq_nil_iff.1 e2.symm
  have hx:isA x=false∧vsz x=1∧noAggs caps=true:=by
   cases x <;> simp [noAggs] at h <;> exact ⟨rfl,rfl,h⟩
  have hl:=InV_len _ h1
  rw [hx.2.1] at hl
  match c1,hl with
  | [u],_=>exact ⟨u,c2,[],[],e1,rfl,⟨[u],h1,by unfold asVal; rw [hx.1]⟩,fun _=>rfl,caps_args hx.2.2 h2⟩
theorem Args_append {E:Env} {io:Nat→Bool}:∀ {xs ys:List V} {i:Nat} {vs us:List Value} {F F':List Nat},Args E io i xs vs F→Args E io (i + xs.length) ys us F'→Args E io i (xs ++ ys) (vs ++ us) (F ++ F')
 | [],ys,i,vs,us,F,F',h,h'=>by obtain ⟨rfl,rfl⟩:=h; exact h'
 | x :: xs,ys,i,vs,us,F,F',⟨v,r,F1,F2,e1,e2,h1,h2,h3⟩,h'=>by
  subst e1; subst e2
  exact ⟨v,r ++ us,F1,F2 ++ F',by simp,by simp,h1,h2,Args_append h3 (by rw [show i + 1 + xs.length=i + (x :: xs).length by simp; omega]; exact h')⟩
theorem Args_len {E:Env} {io:Nat→Bool}:∀ {xs:List V} {i:Nat} {vs:List Value} {F:List Nat},Args E io i xs vs F→vs.length=xs.length
 | [],i,vs,F,h=>by rw [h.1]; rfl
 | x :: xs,i,vs,F,⟨v,r,F1,F2,e1,e2,h1,h2,h3⟩=>by subst e1; simp [Args_len h3]
theorem outs_nil {E:Env} {f:FuncId}:∀ {vs outs:List V} {i:Nat} {vals:List Value} {Fo:List Nat},anyIo A f i vs=false→vals.length=vs.length→Outs E (fun j=>isIo (A.mode f j)) i outs vals Fo→Fo=[]
 | vs,[],i,vals,Fo,_,_,h=>h.2
 | [],x :: outs,i,vals,Fo,_,hl,⟨v,r,F1,F2,e1,_⟩=>by subst e1; simp at hl
 | _ :: vs,x :: outs,i,vals,Fo,hio,hl,⟨v,r,F1,F2,e1,e2,h1,h2,h3⟩=>by
  subst e1; subst e2
  simp only [anyIo] at hio
  split at hio
  ·cases hio
  ·cases hio
  ·rename_i hm hm2
   have hf:isIo (A.mode f i)=false:=by
    cases hq:A.mode f i with
    | io=>exact absurd hq hm
    | take=>rfl
    | lend=>rfl
    | keep=>rfl
   rw [h2 hf,outs_nil hio (by simpa using hl) h3]
   rfl
theorem callFunc_run {f : FuncId} {args : Array Value} {fn : Func} (j1 : P.funcs[f]? = some fn) (j2 : (fn.name == "runtime.NumGoroutine") = false) (j3 : fn.body.isNone = false) : (callFunc f args).run P w = .ok (.enter f args) w := by
 unfold callFunc
 simp only [Sem.run_bind,run_program,Result.andThen_ok,j1,j2,j3,Bool.false_eq_true,if_false,Sem.run_pure]
end
end Go.Rai
namespace Go.Rai
variable [Inhabited Kset]
theorem undef_bool (b:Bool):undef ≠ Value.bool b:=by intro h; cases h
section
variable {P:Program} {A:Ann} {w w' w0:World} {F0:List Nat} {sl:List V} {a:Act} {bl b':BL} {G:GT} {o:Oper} {X:List Nat}
theorem dstAt_eq:∀ (l:List Oper) (j:Nat),dstAt l j=(l[j]?).bind (·.dst)
 | [],j=>by simp [dstAt]
 | o :: l,0=>by simp [dstAt]
 | o :: l,j + 1=>by simp [dstAt,dstAt_eq l j]
theorem setNth_same:∀ {sl:List V} {t:Nat} {v:V},slotL sl t=v→v ≠ .undef→setNth sl t v=sl
 | [],t,v,h,hn=>by simp [slotL] at h; exact absurd h.symm hn
 | x :: sl,0,v,h,hn=>by simp [slotL] at h; simp [setNth,h]
 | x :: sl,t + 1,v,h,hn=>by simp [slotL] at h; simp [setNth,setNth_same h hn]
theorem yielded_bool {ops:Array Oper} {E:Env} (hs:Slots E sl a) {j t:Nat} (hd:dstAt ops.toList j=some t) {b:Bool} (hb:slotL sl t=.bool b):yielded ops a.tmps j=some b:=by
 rw [dstAt_eq] at hd
 have hv:=hs t
 rw [hb] at hv
 obtain ⟨hv,_⟩:=val_bool.1 hv
 have:a.tmps[t]?=some (.bool b):=by
  rw [Array.getD_eq_getD_getElem?] at hv
  cases hq:a.tmps[t]? with
  | none=>rw [hq] at hv; exact absurd hv (undef_bool b)
  | some u=>rw [hq] at hv; simp at hv; rw [hv]
 unfold yielded
 rw [show ops[j]?=ops.toList[j]? by simp,hd]
 simp [this]
theorem yielded_void {ops:Array Oper} {E:Env} (hs:Slots E sl a) {j t:Nat} (hd:dstAt ops.toList j=some t) (hb:slotL sl t=.void):yielded ops a.tmps j=none:=by
 rw [dstAt_eq] at hd
 have hv:=hs t
 rw [hb] at hv
 obtain ⟨hv,_⟩:=val_void.1 hv
 unfold yielded
 rw [show ops[j]?=ops.toList[j]? by simp,hd]
 simp only [Option.bind_some]
 rw [Array.getD_eq_getD_getElem?] at hv
 cases hq:a.tmps[t]? with
 | none=>simp
 | some u=>rw [hq] at hv; simp at hv; subst hv; rfl
end
end Go.Rai
namespace Go.Rai
variable [Inhabited Kset]
theorem vsz_ren (f:Nat→Nat):∀ (v:V),vsz (ren f v)=vsz v
 | .agg vs=>by
  unfold ren vsz
  exact go vs
 | .arr _ _ _=>rfl
 | .int _ _=>rfl
 | .bool _=>rfl
 | .str _=>rfl
 | .own _ _=>rfl
 | .rd _ _=>rfl
 | .lst _ _=>rfl
 | .nilsl=>rfl
 | .emp _=>rfl
 | .obox _=>rfl
 | .rp _=>rfl
 | .full _ _ _=>rfl
 | .sub _ _ _ _ _=>rfl
 | .ptr _ _=>rfl
 | .fn _ _=>rfl
 | .nilfn=>rfl
 | .nilptr=>rfl
 | .undef=>rfl
 | .void=>rfl
 | .tup _=>rfl
 where go:∀ (vs:List V),vszs (rens f vs)=vszs vs
 | []=>rfl
 | v :: vs=>by unfold rens vszs; rw [vsz_ren f v,go vs]
theorem vszs_rens (f:Nat→Nat) (vs:List V):vszs (rens f vs)=vszs vs:=by
 induction vs with
 | nil=>rfl
 | cons v vs ih=>unfold rens vszs; rw [vsz_ren,ih]
theorem rens_len (f:Nat→Nat):∀ (vs:List V),(rens f vs).length=vs.length
 | []=>rfl
 | v :: vs=>by unfold rens; simp [rens_len f vs]
theorem rens_nth (f:Nat→Nat):∀ (vs:List V) (j:Nat),nth (rens f vs) j=(nth vs j).map (ren f)
 | [],j=>by simp [rens,nth]
 | v :: vs,0=>by simp [rens,nth]
 | v :: vs,j + 1=>by simp [rens,nth,rens_nth f vs j]
theorem rens_take (f:Nat→Nat):∀ (vs:List V) (j:Nat),(rens f vs).take j=rens f (vs.take j)
 | [],j=>by simp [rens]
 | v :: vs,0=>by simp [rens]
 | v :: vs,j + 1=>by simp [rens,rens_take f vs j]
theorem ownish_ren (f:Nat→Nat) (v:V):ownish (ren f v)=ownish v:=by cases v <;> rfl
theorem isA_ren (f:Nat→Nat) (v:V):isA (ren f v)=isA v:=by cases v <;> rfl
mutual
theorem ren_nosites (f:Nat→Nat):∀ (v:V),sites v=[]→ren f v=v
 | .agg vs,h=>by unfold ren; unfold sites at h; rw [rens_nosites f vs h]
 | .lst e vs,h=>by unfold ren; unfold sites at h; rw [rens_nosites f vs h]
 | .tup vs,h=>by unfold ren; unfold sites at h; rw [rens_nosites f vs h]
 | .fn g vs,h=>by unfold ren; unfold sites at h; rw [rens_nosites f vs h]
 | .obox v,h=>by unfold ren; unfold sites at h; rw [ren_nosites f v h]
 | .rp v,h=>by unfold ren; unfold sites at h; rw [ren_nosites f v h]
 | .full _ _ _,h=>by simp [sites] at h
 | .sub _ _ _ _ _,h=>by simp [sites] at h
 | .ptr _ _,h=>by simp [sites] at h
 | .arr _ _ _,_=>rfl
 | .int _ _,_=>rfl
 | .bool _,_=>rfl
 | .str _,_=>rfl
 | .own _ _,_=>rfl
 | .rd _ _,_=>rfl
 | .nilsl,_=>rfl
 | .emp _,_=>rfl
 | .nilfn,_=>rfl
 | .nilptr,_=>rfl
 | .undef,_=>rfl
 | .void,_=>rfl
theorem rens_nosites (f:Nat→Nat):∀ (vs:List V),sitess vs=[]→rens f vs=vs
 | [],_=>rfl
 | v :: vs,h=>by
  unfold sitess at h
  rw [cat_eq,List.append_eq_nil_iff] at h
  unfold rens
  rw [ren_nosites f v h.1,rens_nosites f vs h.2]
end
theorem loc_ren (f:Nat→Nat) {w:World}:∀ (p:List Nat) (v:V) (L:Where) (x':V) (L':Where),locF w (ren f v) L p=some (x',L')→∃ x,locF w v L p=some (x,L')∧x'=ren f x
 | [],v,L,x',L',h=>by
  simp only [locF,oj,pj] at h
  exact ⟨v,by simp [locF,h.2],h.1.symm⟩
 | j :: p,v,L,x',L',h=>by
  cases v with
  | agg vs=>
   simp only [ren,locF,rens_nth,rens_take,vszs_rens] at h
   cases hj:nth vs j with
   | none=>rw [hj] at h; simp at h
   | some xj=>
    rw [hj] at h
    simp only [Option.map_some] at h
    obtain ⟨x,h1,h2⟩:=loc_ren f p xj _ x' L' h
    exact ⟨x,by simp only [locF,hj]; exact h1,h2⟩
  | lst e vs=>
   simp only [ren,locF,rens_nth,rens_take,vszs_rens] at h
   cases hj:nth vs j with
   | none=>rw [hj] at h; simp at h
   | some xj=>
    rw [hj] at h
    simp only [Option.map_some] at h
    split at h
    ·rename_i a _ _ hh
     obtain ⟨x,h1,h2⟩:=loc_ren f p xj _ x' L' h
     exact ⟨x,by simp only [locF,hj,hh]; exact h1,h2⟩
    ·simp at h
  | fn g vs=>
   simp only [ren,locF,rens_nth,rens_take,vszs_rens] at h
   cases hj:nth vs j with
   | none=>rw [hj] at h; simp at h
   | some xj=>
    rw [hj] at h
    simp only [Option.map_some] at h
    split at h
    ·rename_i a _ _ hh
     obtain ⟨x,h1,h2⟩:=loc_ren f p xj _ x' L' h
     exact ⟨x,by simp only [locF,hj,hh]; exact h1,h2⟩
    ·simp at h
  | obox y=>
   simp only [ren,locF] at h
   split at h
   ·rename_i a hh
    obtain ⟨x,h1,h2⟩:=loc_ren f p y _ x' L' h
    exact ⟨x,by simp only [locF,hh]; exact h1,h2⟩
   ·simp at h
  | own e l=>
   simp only [ren,locF] at h
   split at h
   ·rename_i hj
    split at h
    ·rename_i a _ _ hh
     rw [← ren_nosites f (dec true e (l.getD j (.int 0))) (sites_dec true e _)] at h
     obtain ⟨x,h1,h2⟩:=loc_ren f p _ _ x' L' h
     exact ⟨x,by simp only [locF,if_pos hj,hh]; exact h1,h2⟩
    ·simp at h
   ·simp at h
  | arr n e l=>
   simp only [ren,locF] at h
   split at h
   ·rename_i hj
    rw [← ren_nosites f (dec true e (l.getD j (.int 0))) (sites_dec true e _)] at h
    obtain ⟨x,h1,h2⟩:=loc_ren f p _ _ x' L' h
    exact ⟨x,by simp only [locF,if_pos hj]; exact h1,h2⟩
   ·simp at h
  | _=>simp [ren,locF] at h
structure Ren (f:Nat→Nat) (L:List Nat) (E E':Env):Prop where
 w:E'.w=E.w
 S:∀ b,E.S b→E'.S b
 K:∀ b,E.K b→E'.K b
 al:∀ s,s ∈ L→∀ c' rc F',lookB E'.bl (f s)=some c'→E'.G (f s)=some (rc,F')→∃ c,lookB E.bl s=some c∧c'=ren f c∧E.G s=some (rc,F')
mutual
theorem Ren.inV {f:Nat→Nat} {L:List Nat} {E E':Env} (h:Ren f L E E'):∀ (v:V) {cs:List Value} {F:List Nat},(∀ s ∈ sites v,s ∈ L)→InV E v cs F→InV E' (ren f v) cs F
 | .undef,_,_,_,hv=>by unfold ren InV at *; exact hv
 | .void,_,_,_,hv=>by unfold ren InV at *; exact hv
 | .int _ _,_,_,_,hv=>by unfold ren InV at *; exact hv
 | .bool _,_,_,_,hv=>by unfold ren InV at *; exact hv
 | .str _,_,_,_,hv=>by unfold ren InV at *; exact hv
 | .agg vs,_,_,hs,hv=>by unfold ren InV at *; exact h.inVs vs (by simpa [sites] using hs) hv
 | .arr _ _ _,_,_,_,hv=>by unfold ren InV at *; rw [h.w]; exact hv
 | .own _ _,_,_,_,hv=>by unfold ren InV at *; rw [h.w]; exact hv
 | .rd _ _,_,_,_,hv=>by
  unfold ren InV at *
  rw [h.w]
  obtain ⟨h1,h2,A,c,F',h3,h4,h5⟩:=hv
  exact ⟨h1,h2,A,c,F',h3,h4,fun b hb=>⟨h.S b (h5 b hb).1,fun he=>h.K b ((h5 b hb).2 he)⟩⟩
 | .lst e vs,_,_,hs,hv=>by
  unfold ren InV at *
  rw [h.w,rens_len,vszs_rens]
  obtain ⟨a,c,cs',F',h1,h2,h3,h4,h5⟩:=hv
  exact ⟨a,c,cs',F',h1,h2,h3,h.inVs vs (by simpa [sites] using hs) h4,h5⟩
 | .nilsl,_,_,_,hv=>by unfold ren InV at *; exact hv
 | .emp _,_,_,_,hv=>by unfold ren InV at *; exact hv
 | .obox v,_,_,hs,hv=>by
  unfold ren InV at *
  rw [h.w]
  obtain ⟨a,cs',F',h1,h2,h3⟩:=hv
  exact ⟨a,cs',F',h1,h.inV v (by simpa [sites] using hs) h2,h3⟩
 | .rp v,_,_,hs,hv=>by
  unfold ren InV at *
  rw [h.w]
  obtain ⟨h0,a,cs',h1,h2,h3,h4⟩:=hv
  exact ⟨h0,a,cs',h1,h.inV v (by simpa [sites] using hs) h2,h3,h.S _ h4⟩
 | .full s p e,_,_,hs,hv=>by
  unfold ren InV at *
  obtain ⟨h0,h1,h2⟩:=hv
  refine ⟨h0,h1,fun c' rc F0 hl hg x' Lx hx ho=>?_⟩
  obtain ⟨c,k1,rfl,k3⟩:=h.al s (hs s (by simp [sites])) c' rc F0 hl hg
  rw [h.w] at hx ⊢
  obtain ⟨x,e1,rfl⟩:=loc_ren f p c (.reg rc) x' Lx hx
  exact h2 c rc F0 k1 k3 x Lx e1 (by rw [ownish_ren] at ho; exact ho)
 | .sub s p off len e,_,_,hs,hv=>by
  unfold ren InV at *
  obtain ⟨h0,h1,h2⟩:=hv
  refine ⟨h0,h1,fun c' rc F0 hl hg x' Lx hx ho=>?_⟩
  obtain ⟨c,k1,rfl,k3⟩:=h.al s (hs s (by simp [sites])) c' rc F0 hl hg
  rw [h.w] at hx ⊢
  obtain ⟨x,e1,rfl⟩:=loc_ren f p c (.reg rc) x' Lx hx
  exact h2 c rc F0 k1 k3 x Lx e1 (by rw [ownish_ren] at ho; exact ho)
 | .ptr s p,_,_,hs,hv=>by
  unfold ren InV at *
  obtain ⟨h0,h1,h2⟩:=hv
  refine ⟨h0,h1,fun c' rc F0 hl hg x' Lx hx=>?_⟩
  obtain ⟨c,k1,rfl,k3⟩:=h.al s (hs s (by simp [sites])) c' rc F0 hl hg
  rw [h.w] at hx
  obtain ⟨x,e1,rfl⟩:=loc_ren f p c (.reg rc) x' Lx hx
  exact h2 c rc F0 k1 k3 x Lx e1
 | .fn g caps,_,_,hs,hv=>by
  unfold ren InV at *
  rw [vszs_rens,rens_len]
  obtain ⟨vals,h1,h2,h3⟩:=hv
  exact ⟨vals,h1,h.inVs caps (by simpa [sites] using hs) h2,h3⟩
 | .nilfn,_,_,_,hv=>by unfold ren InV at *; exact hv
 | .nilptr,_,_,_,hv=>by unfold ren InV at *; exact hv
 | .tup _,_,_,_,hv=>by unfold InV at hv; exact hv.elim
theorem Ren.inVs {f:Nat→Nat} {L:List Nat} {E E':Env} (h:Ren f L E E'):∀ (vs:List V) {cs:List Value} {F:List Nat},(∀ s ∈ sitess vs,s ∈ L)→InVs E vs cs F→InVs E' (rens f vs) cs F
 | [],_,_,_,hv=>by unfold rens InVs at *; exact hv
 | v :: vs,_,_,hs,hv=>by
  unfold rens InVs at *
  obtain ⟨c1,c2,F1,F2,e1,e2,h1,h2⟩:=hv
  exact ⟨c1,c2,F1,F2,e1,e2,h.inV v (fun s hs'=>hs s (by simp [sitess,mem_cat,hs'])) h1,h.inVs vs (fun s hs'=>hs s (by simp [sitess,mem_cat,hs'])) h2⟩
end
theorem Ren.one {f:Nat→Nat} {L:List Nat} {E E':Env} (h:Ren f L E E') {x:V} {v:Value} {F:List Nat} (hs:∀ s ∈ sites x,s ∈ L) (hv:One E x v F):One E' (ren f x) v F:=by
 obtain ⟨cs,h1,h2⟩:=hv
 refine ⟨cs,h.inV x hs h1,?_⟩
 unfold asVal at h2 ⊢
 rw [isA_ren]
 exact h2
theorem Ren.tup {f:Nat→Nat} {L:List Nat} {E E':Env} (h:Ren f L E E'):∀ {xs:List V} {vs:List Value} {F:List Nat},(∀ s ∈ sitess xs,s ∈ L)→Tup E xs vs F→Tup E' (rens f xs) vs F
 | [],_,_,_,hv=>hv
 | x :: xs,_,_,hs,⟨v,r,F1,F2,e1,e2,h1,h2⟩=>
  ⟨v,r,F1,F2,e1,e2,h.one (fun s hs'=>hs s (by simp [sitess,mem_cat,hs'])) h1,h.tup (fun s hs'=>hs s (by simp [sitess,mem_cat,hs'])) h2⟩
theorem Ren.val {f:Nat→Nat} {L:List Nat} {E E':Env} (h:Ren f L E E') {x:V} {v:Value} {F:List Nat} (hs:∀ s ∈ sites x,s ∈ L) (hv:Val E x v F):Val E' (ren f x) v F:=by
 cases x with
 | tup xs=>
  obtain ⟨vs,h1,h2⟩:=hv
  exact ⟨vs,h1,h.tup (by simpa [sites] using hs) h2⟩
 | undef=>exact hv
 | _=>exact h.one hs hv
theorem lookB_reblock {f:Nat→Nat} {b:BL}:∀ {L:List Nat} {t:Nat} {c':V},lookB (reblock f b L) t=some c'→∃ s ∈ L,f s=t∧∃ c,lookB b s=some c∧c'=ren f c
 | [],t,c',h=>by simp [reblock,lookB] at h
 | s :: L,t,c',h=>by
  unfold reblock at h
  split at h
  ·rename_i c hc
   simp only [lookB] at h
   split at h
   ·rename_i hb
    simp only [oj] at h
    exact ⟨s,by simp,Nat.eq_of_beq_eq_true hb,c,hc,h.symm⟩
   ·obtain ⟨s',h1,h2⟩:=lookB_reblock h
    exact ⟨s',by simp [h1],h2⟩
  ·obtain ⟨s',h1,h2⟩:=lookB_reblock h
   exact ⟨s',by simp [h1],h2⟩
theorem posOf_le:∀ (L:List Nat) (k s:Nat),k≤posOf L k s
 | [],k,s=>Nat.le_refl _
 | a :: L,k,s=>by
  unfold posOf
  split
  ·exact Nat.le_refl _
  ·exact Nat.le_trans (Nat.le_succ k) (posOf_le L (k + 1) s)
theorem posOf_inj:∀ (L:List Nat) (k:Nat) {s t:Nat},s ∈ L→t ∈ L→posOf L k s=posOf L k t→s=t
 | [],k,s,t,hs,_,_=>by cases hs
 | a :: L,k,s,t,hs,ht,h=>by
  unfold posOf at h
  split at h
  ·rename_i h1
   have:=Nat.eq_of_beq_eq_true h1
   subst this
   split at h
   ·rename_i h2
    exact Nat.eq_of_beq_eq_true h2
   ·have:=posOf_le L (k + 1) t
    omega
  ·rename_i h1
   split at h
   ·have:=posOf_le L (k + 1) s
    omega
   ·rename_i h2
    have n1:s ≠ a:=fun e=>by subst e; rw [Nat.beq_refl] at h1; cases h1
    have n2:t ≠ a:=fun e=>by subst e; rw [Nat.beq_refl] at h2; cases h2
    exact posOf_inj L (k + 1) ((List.mem_cons.1 hs).resolve_left n1) ((List.mem_cons.1 ht).resolve_left n2) h
theorem allIn_spec {L:List Nat}:∀ {r:List Nat},allIn L r=true→∀ s ∈ r,s ∈ L
 | [],_,s,hs=>by cases hs
 | a :: r,h,s,hs=>by
  unfold allIn at h
  rw [band_true] at h
  rcases List.mem_cons.1 hs with rfl | hs
  ·exact isIn_mem.1 h.1
  ·exact allIn_spec h.2 s hs
theorem closedIn_spec {b:BL} {L:List Nat}:∀ {r:List Nat},closedIn b L r=true→∀ s ∈ r,∀ c,lookB b s=some c→∀ t ∈ sites c,t ∈ L
 | [],_,s,hs=>by cases hs
 | a :: r,h,s,hs=>by
  unfold closedIn at h
  intro c hc
  split at h
  ·rename_i c0 h0
   rw [band_true] at h
   rcases List.mem_cons.1 hs with rfl | hs
   ·rw [h0] at hc
    simp only [oj] at hc
    subst hc
    exact allIn_spec h.1
   ·exact closedIn_spec h.2 s hs c hc
  ·rename_i h0
   rcases List.mem_cons.1 hs with rfl | hs
   ·rw [h0] at hc
    cases hc
   ·exact closedIn_spec h s hs c hc
theorem slotL_mask (ks:List Nat):∀ (sl:List V) (t u:Nat),slotL (maskSl ks t sl) u=slotL sl u ∨ slotL (maskSl ks t sl) u=.undef
 | [],t,u=>.inl rfl
 | v :: sl,t,0=>by
  simp only [maskSl,slotL]
  split
  ·exact .inl rfl
  ·exact .inr rfl
 | v :: sl,t,u + 1=>by simpa only [maskSl,slotL] using slotL_mask ks sl (t + 1) u
theorem mask_len (ks:List Nat):∀ (sl:List V) (t:Nat),(maskSl ks t sl).length=sl.length
 | [],_=>rfl
 | v :: sl,t=>by simp [maskSl,mask_len ks sl]
theorem slotL_rens (f:Nat→Nat):∀ (sl:List V) (t:Nat),slotL (rens f sl) t=ren f (slotL sl t)
 | [],t=>by simp [rens,slotL,ren]
 | v :: sl,0=>by simp [rens,slotL]
 | v :: sl,t + 1=>by simp [rens,slotL,slotL_rens f sl t]
section
variable {Pn:Nat→Option Value} {P:Program} {A:Ann} {w w' w0:World} {F0:List Nat} {sl:List V} {a:Act} {bl b':BL} {G:GT} {o:Oper} {X:List Nat}
theorem Slots.mask {E:Env} (h:Slots E sl a) (ks:List Nat):Slots E (maskSl ks 0 sl) a:=by
 intro t
 rcases slotL_mask ks sl 0 t with h1 | h1
 ·rw [h1]; exact h t
 ·rw [h1]; exact val_undef
theorem canon_rel {m:List V} {L:List Nat} (hr:Rel Pn w0 F0 ⟨m,bl⟩ a w) (h1:allIn L (sitess m)=true) (h2:closedIn bl L L=true) :
  Rel Pn w0 F0 ⟨rens (posOf L 1000) m,reblock (posOf L 1000) bl L⟩ a w:=by
 obtain ⟨⟨G,hc,hs⟩,hl,hd,hpin⟩:=hr
 let f:=posOf L 1000
 let G':GT:=fun t=>(L.find? (fun s=>f s == t)).bind G
 have inj:∀ {s t:Nat},s ∈ L→t ∈ L→f s=f t→s=t:=fun hs ht h=>posOf_inj L 1000 hs ht h
 have hG:∀ s ∈ L,G' (f s)=G s:=by
  intro s hs
  show (L.find? (fun s'=>f s' == f s)).bind G=G s
  cases hq:L.find? (fun s'=>f s' == f s) with
  | none=>
   have:=List.find?_eq_none.1 hq s hs
   simp at this
  | some s'=>
   have e1:=List.find?_some hq
   have e2:=List.mem_of_find?_eq_some hq
   have:s'=s:=inj e2 hs (by simpa using e1)
   subst this
   rfl
 have look:∀ {t:Nat} {c':V},lookB (reblock f bl L) t=some c'→∃ s ∈ L,f s=t∧∃ c,lookB bl s=some c∧c'=ren f c:=fun h=>lookB_reblock h
 have owned:∀ b,Owned (reblock f bl L) G' [] b→Owned bl G [] b:=by
  rintro b (hb | ⟨t,c',rc,F,k1,k2,k3⟩)
  ·cases hb
  ·obtain ⟨s,hs,rfl,c,e1,rfl⟩:=look k1
   rw [hG s hs] at k2
   exact .inr ⟨s,c,rc,F,e1,k2,k3⟩
 have hren:Ren f L (envOf w bl G []) (envOf w (reblock f bl L) G' []):=by
  refine ⟨rfl,fun b hb=>⟨hb.1,fun ho=>hb.2 (owned b ho)⟩,fun b hb=>hb,?_⟩
  intro s hs c' rc F' k1 k2
  obtain ⟨s',hs',e0,c,e1,rfl⟩:=look k1
  have:=inj hs' hs e0
  subst this
  have k2':G' (f s')=some (rc,F'):=k2
  rw [hG s' hs'] at k2'
  exact ⟨c,e1,rfl,k2'⟩
 refine ⟨⟨G',⟨?_,hc.frame,fun b hb=>hc.own b (owned b hb),hc.size,hc.os,hc.tape,hc.output⟩,?_⟩,by rw [rens_len]; exact hl,hd,hpin⟩
 ·refine ⟨?_,?_,List.nodup_nil,fun b hb=>by cases hb⟩
  ·intro t c' k1
   obtain ⟨s,hs',rfl,c,e1,rfl⟩:=look k1
   obtain ⟨rc,F,Fc,g1,g2,g3,g4,g5⟩:=hc.ok.root s c e1
   exact ⟨rc,F,Fc,by rw [hG s hs']; exact g1,hren.inV c (closedIn_spec h2 s hs' c e1) g2,g3,g4,g5⟩
  ·intro t t' c c' rc rc' F F' hne k1 k2 k3 k4
   obtain ⟨s,hs1,rfl,c1,e1,rfl⟩:=look k1
   obtain ⟨s',hs2,rfl,c2,e2,rfl⟩:=look k2
   rw [hG s hs1] at k3
   rw [hG s' hs2] at k4
   exact hc.ok.apart s s' c1 c2 rc rc' F F' (fun e=>hne (by rw [e])) e1 e2 k3 k4
 ·intro t
  show Val _ (slotL (rens f m) t) _ []
  rw [slotL_rens]
  exact hren.val (fun s hs'=>allIn_spec h1 s (mem_sites_slot hs')) (hs t)
theorem canonK_rel {R:Type} {ks:List Nat} {σ:St} {κ:St→Option R} {r:R} (hr:Rel Pn w0 F0 σ a w) (h:canonK ks σ κ=some r):∃ σ',κ σ'=some r∧Rel Pn w0 F0 σ' a w:=by
 unfold canonK at h
 rw [deepVs_eq,deepP_eq] at h
 split at h
 ·rename_i hb
  rw [band_true] at hb
  rw [deepVs_eq,deepB_eq] at h
  obtain ⟨⟨G,hc,hs⟩,hl,hd,hpin⟩:=hr
  exact ⟨_,h,canon_rel ⟨⟨G,hc,hs.mask ks⟩,by rw [mask_len]; exact hl,hd,hpin⟩ hb.1 hb.2⟩
 ·cases h
end
end Go.Rai
namespace Go.Rai
structure Rec where
 v:V
 rd:List Nat
 dst:Option Nat
 bar:Bool
 T:List Nat
 W:List Nat
 N:List Nat
 nm:List Nat
 L:List Nat
 sm:Bool
 bn:List Nat
 qf:List Nat
 qp:List Nat
 deriving Inhabited
inductive Cls where
 | read
 | fresh
 | store
 | call
 | app
 | bar
def cls:Op→Cls
 | .move _=>.read
 | .assign _=>.read
 | .pick _ _ _=>.read
 | .build _ _=>.read
 | .load _ _=>.read
 | .nilCheck _=>.read
 | .binOp _ _ _ _ _=>.read
 | .unOp _ _ _=>.read
 | .convert _ _ _=>.read
 | .makeFunc _ _ _=>.read
 | .slice _ _ _ _ _=>.read
 | .fieldAddr _ _ _=>.read
 | .field _ _ _=>.read
 | .indexAddr _ _ _=>.read
 | .index _ _ _=>.read
 | .extract _ _=>.read
 | .alloc _=>.fresh
 | .box _ _=>.fresh
 | .makeSlice _ _ _=>.fresh
 | .buildSlice _ _ _=>.fresh
 | .store _ _ _=>.store
 | .call c=>match c.callee with
  | .builtin .len=>.read
  | .builtin .max=>.read
  | .builtin .min=>.read
  | .builtin .append=>.app
  | .builtin .copy=>.app
  | .value _=>.call
  | _=>.bar
 | _=>.bar
def optL:Option Operand→List Operand
 | some x=>[x]
 | none=>[]
def opsOf:Op→List Operand
 | .move x=>[x]
 | .assign x=>[x]
 | .pick c x y=>[c,x,y]
 | .build _ ps=>ps.toList.map (·.2)
 | .load _ a=>[a]
 | .nilCheck x=>[x]
 | .binOp _ _ x y _=>[x,y]
 | .unOp _ _ x=>[x]
 | .convert _ _ x=>[x]
 | .makeFunc _ _ caps=>caps.toList
 | .slice _ x lo hi mx=>x :: cat (optL lo) (cat (optL hi) (optL mx))
 | .fieldAddr _ x _=>[x]
 | .field _ x _=>[x]
 | .indexAddr _ x i=>[x,i]
 | .index _ x i=>[x,i]
 | .extract x _=>[x]
 | .box _ x=>[x]
 | .makeSlice _ l c=>[l,c]
 | .buildSlice _ _ ps=>ps.toList.map (·.2)
 | .store _ a x=>[a,x]
 | .call c=>match c.callee with
  | .value f=>f :: c.args.toList
  | _=>c.args.toList
 | _=>[]
def tmpsOf:List Operand→List Nat
 | []=>[]
 | .tmp t :: r=>t :: tmpsOf r
 | _ :: r=>tmpsOf r
def guardSlot (all:List Oper) (o:Oper):List Nat:=
 match o.guard with
 | some (j,_)=>match dstAt all j with
  | some t=>[t]
  | none=>[]
 | none=>[]
def sitesW (b:BL):List Nat→List Nat
 | []=>[]
 | s :: r=>match lookB b s with
  | some c=>cat (sites c) (sitesW b r)
  | none=>sitesW b r
def restr (b:BL):List Nat→BL
 | []=>[]
 | s :: r=>match lookB b s with
  | some c=>(s,c) :: restr b r
  | none=>restr b r
def keys:BL→List Nat
 | []=>[]
 | (k,_) :: r=>k :: keys r
def newSites (s:Nat):Nat→List V→List Nat
 | _,[]=>[]
 | j,_ :: vs=>(10000 + 16 * s + j) :: newSites s (j + 1) vs
def resSites (d:Option Nat) (v:V):List Nat:=
 match d with
 | some s=>match v with
  | .tup vs=>newSites s 0 vs
  | _=>[s]
 | none=>[]
def callL {R:Type} (oc:OC R) (A:Ann) (σ:St) (d:Option Nat) (f:FuncId) (ts:List Ty) (args caps:List V) (κ:V→BL→List Nat→List Nat→Option R):Option R:=
 match band (noTups args) (noAggs caps) with
 | true=>deepB (restr σ.bl (reach σ.bl 60 [] (sitess (cat args caps)))) (fun bR=>match prepLend A f bR 0 ts (cat args caps) with
  | some (c,ws)=>guards c (deepVs ws (fun ws=>oc f ws (fun res _=>
    match resOwn res with
    | true=>match placeRes σ.sl σ.bl d res with
     | some (v,b'')=>κ v b'' (keys bR) (resSites d res)
     | none=>none
    | false=>none)))
  | none=>none)
 | false=>none
def dropAll:BL→List Nat→BL
 | b,[]=>b
 | b,s :: r=>dropAll (dropB b s) r
def over (b:BL) (K:List Nat) (b':BL):BL:=cat (dropAll b K) b'
def ioArgs (A:Ann) (f:FuncId):Nat→List V→List V
 | _,[]=>[]
 | i,v :: vs=>match A.mode f i with
  | .io=>v :: ioArgs A f (i + 1) vs
  | .take=>v :: ioArgs A f (i + 1) vs
  | _=>ioArgs A f (i + 1) vs
def callD {R:Type} (oc:OC R) (A:Ann) (σ:St) (d:Option Nat) (f:FuncId) (ts:List Ty) (args caps:List V) (κ:V→BL→List Nat→List Nat→List Nat→Option R):Option R:=
 match band (noTups args) (noAggs caps) with
 | true=>deepB (restr σ.bl (reach σ.bl 60 [] (sitess (ioArgs A f 0 (cat args caps))))) (fun bW=>
   deepB (restr σ.bl (reach σ.bl 60 [] (sitess (cat args caps)))) (fun bR=>
   match ioRoots A f bW 0 (cat args caps) with
   | true=>match prepIo A f 0 bW (cat args caps) with
    | some (c,ws,b1)=>match prepLend A f (over bR (keys bW) b1) 0 ts ws with
     | some (c',us)=>guards (cat c c') (deepVs us (fun us=>deepB b1 (fun b1=>oc f us (fun res outs=>
       match resOwn res with
       | true=>match reputAll A (scalL A f 0 us) f 0 b1 (cat args caps) outs with
        | some b2=>match placeRes σ.sl (over σ.bl (keys bW) b2) d res with
         | some (v,b3)=>κ v b3 (cat (keys bR) (keys bW)) (keys bW) (resSites d res)
         | none=>none
        | none=>none
       | false=>none))))
     | none=>none
    | none=>none
   | false=>none))
 | false=>none
def nmOf (bar:Bool) (v:V) (b:BL) (W:List Nat):List Nat:=
 match bar with
 | true=>cat (sites v) (sitesB b)
 | false=>cat (sites v) (sitesW b W)
def bnOf (bar:Bool) (b:BL) (W:List Nat):List Nat:=
 match bar with
 | true=>sitesB b
 | false=>sitesW b W
def dstV (d:Option Nat) (sl:List V):V:=
 match d with
 | some t=>slotL sl t
 | none=>.undef
def recK {R:Type} (all:List Oper) (σ:St) (o:Oper) (bar:Bool) (v:V) (b:BL) (T W N L:List Nat) (sm:Bool) (κ:Rec→St→Option R):Option R:=
 deepV v (fun v=>putK σ o.dst v b (fun σ'=>deepP T (fun T=>deepP (nmOf bar v σ'.bl W) (fun nm=>deepP L (fun L=>deepP (bnOf bar σ'.bl W) (fun bn=>
  match sm with
  | true=>κ ⟨v,cat (guardSlot all o) (tmpsOf (opsOf o.op)),o.dst,bar,T,W,N,nm,L,true,bn,[],[]⟩ σ'
  | false=>κ ⟨v,cat (guardSlot all o) (tmpsOf (opsOf o.op)),o.dst,bar,T,W,N,nm,L,false,bn,[],[]⟩ σ'))))))
def recQ {R:Type} (all:List Oper) (σ:St) (o:Oper) (v:V) (b:BL) (T W N qf qp:List Nat) (κ:Rec→St→Option R):Option R:=
 deepV v (fun v=>putK σ o.dst v b (fun σ'=>deepP T (fun T=>deepP W (fun W=>deepP (nmOf false v σ'.bl W) (fun nm=>deepP (bnOf false σ'.bl W) (fun bn=>deepP qf (fun qf=>deepP qp (fun qp=>
  κ ⟨v,cat (guardSlot all o) (tmpsOf (opsOf o.op)),o.dst,false,T,W,N,nm,[],false,bn,qf,qp⟩ σ'))))))))
def lenSite (b:BL):V→Option Nat
 | .full s p _=>match lookB b s with
  | some c=>match c.outer p with
   | true=>some s
   | false=>none
  | none=>none
 | .sub s p _ _ _=>match lookB b s with
  | some c=>match c.outer p with
   | true=>some s
   | false=>none
  | none=>none
 | _=>none
def readT (σ:St) (op:Op):List Nat:=
 match op with
 | .move _=>[]
 | .assign _=>[]
 | .pick _ _ _=>[]
 | .unOp _ _ _=>[]
 | .field _ _ _=>[]
 | .extract _ _=>[]
 | .indexAddr _ x i=>match lenSite σ.bl (opd σ.sl x) with
  | some _=>[]
  | none=>sitess (mapOpd σ.sl (opsOf (.indexAddr 0 x i)))
 | op=>sitess (mapOpd σ.sl (opsOf op))
def readL (σ:St) (op:Op):List Nat:=
 match op with
 | .indexAddr _ x _=>match lenSite σ.bl (opd σ.sl x) with
  | some s=>[s]
  | none=>[]
 | _=>[]
def storeSm (σ:St) (op:Op):Bool:=
 match op with
 | .store _ a _=>match opd σ.sl a with
  | .ptr s p=>match lookB σ.bl s with
   | some c=>bneg (c.outer p)
   | none=>false
  | _=>false
 | _=>false
def dstL:Option Nat→List Nat
 | some t=>[t]
 | none=>[]
def primD {R:Type} (A:Ann) (all:List Oper) (σ:St) (o:Oper) (bar:Bool) (T W N L:List Nat) (sm:Bool) (κ:Rec→St→Option R):Option R:=
 match stepPrim A σ.sl σ.bl o.dst o.op with
 | some (c,v,b)=>guards c (recK all σ o bar v b T W N L sm κ)
 | none=>none
def storeSites (σ:St):Op→List Nat
 | .store _ a _=>sites (opd σ.sl a)
 | _=>[]
def rootS:V→Bool
 | .nilsl=>true
 | .emp _=>true
 | .full _ _ _=>true
 | _=>false
def isSub:V→Bool
 | .sub _ _ _ _ _=>true
 | _=>false
def stillS (b:BL):V→Bool
 | .full s p _=>match getAt b s p with
  | some (_,.own _ _)=>true
  | _=>false
 | _=>true
def mineS:V→Bool
 | .full _ _ _=>true
 | .sub _ _ _ _ _=>true
 | _=>false
def appOk (A:Ann) (σ:St) (op:Op):Bool:=
 match op with
 | .call c=>match c.argTypes.toList with
  | t :: ts=>match A.ty t with
   | .slice e=>match band e.flat (bneg (isIntT (A.ty (ts.headD 0)))) with
    | true=>match mapOpd σ.sl c.args.toList with
     | [s,x]=>match c.callee with
      | .builtin .append=>band (bor (rootS s) (isSub s)) (stillS σ.bl x)
      | .builtin .copy=>band (mineS s) (stillS σ.bl x)
      | _=>false
     | _=>false
    | false=>false
   | _=>false
  | []=>false
 | _=>false
def appN (d:Option Nat) (op:Op):List Nat:=
 match op with
 | .call c=>match c.callee with
  | .builtin .copy=>[]
  | _=>dstL d
 | _=>dstL d
def appW (σ:St) (d:Option Nat) (op:Op):List Nat:=
 match op with
 | .call c=>match mapOpd σ.sl c.args.toList with
  | s :: _=>cat (sites s) (appN d op)
  | []=>appN d op
 | _=>appN d op
def appT (σ:St) (d:Option Nat) (op:Op):List Nat:=cat (sitess (mapOpd σ.sl (opsOf op))) (appN d op)
def stepD {R:Type} (oc:OC R) (A:Ann) (all:List Oper) (σ:St) (o:Oper) (κ:Rec→St→Option R):Option R:=
 match cls o.op with
 | .read=>primD A all σ o false (readT σ o.op) [] [] (readL σ o.op) false κ
 | .fresh=>primD A all σ o false (dstL o.dst) (dstL o.dst) (dstL o.dst) [] false κ
 | .store=>match stepPrim A σ.sl σ.bl o.dst o.op with
  | some _=>primD A all σ o false (storeSites σ o.op) (storeSites σ o.op) [] [] (storeSm σ o.op) κ
  | none=>stepOp oc A σ o (fun σ'=>recK all σ o true (dstV o.dst σ'.sl) σ'.bl [] [] [] [] false κ)
 | .call=>match o.op with
  | .call c=>match c.callee with
   | .value f=>match opd σ.sl f with
    | .fn g caps=>match anyIo A g 0 (cat (mapOpd σ.sl c.args.toList) caps) with
     | false=>callL oc A σ o.dst g (mapTy A c.argTypes.toList) (mapOpd σ.sl c.args.toList) caps (fun v b T N=>recK all σ o false v b (cat T N) N N [] false κ)
     | true=>match ioOne A g σ.bl (cat (mapOpd σ.sl c.args.toList) caps) with
      | some _=>stepOp oc A σ o (fun σ'=>recK all σ o true (dstV o.dst σ'.sl) σ'.bl [] [] [] [] false κ)
      | none=>callD oc A σ o.dst g (mapTy A c.argTypes.toList) (mapOpd σ.sl c.args.toList) caps (fun v b T W N=>recQ all σ o v b (cat T N) (cat W N) N (ioF A g 0 (cat (mapOpd σ.sl c.args.toList) caps)) (ioP A g 0 (cat (mapOpd σ.sl c.args.toList) caps)) κ)
    | _=>none
   | _=>none
  | _=>none
 | .app=>match appOk A σ o.op with
  | true=>primD A all σ o false (appT σ o.dst o.op) (appW σ o.dst o.op) (appN o.dst o.op) [] false κ
  | false=>stepOp oc A σ o (fun σ'=>recK all σ o true (dstV o.dst σ'.sl) σ'.bl [] [] [] [] false κ)
 | .bar=>stepOp oc A σ o (fun σ'=>recK all σ o true (dstV o.dst σ'.sl) σ'.bl [] [] [] [] false κ)
def runRec {R:Type} (oc:OC R) (A:Ann) (all:List Oper):List Oper→St→(List Rec→St→Option R)→Option R
 | [],σ,κ=>κ [] σ
 | o :: rest,σ,κ=>
  match o.guard with
  | none=>stepD oc A all σ o (fun r σ'=>runRec oc A all rest σ' (fun rs=>κ (r :: rs)))
  | some (j,want)=>match dstAt all j with
   | some t=>match slotL σ.sl t with
    | .void=>recK all σ o false .void σ.bl [] [] [] [] false (fun r σ'=>runRec oc A all rest σ' (fun rs=>κ (r :: rs)))
    | .bool b=>bif b
     then setK σ.sl t (.bool true) (fun sl=>match want with
      | true=>stepD oc A all ⟨sl,σ.bl⟩ o (fun r σ'=>runRec oc A all rest σ' (fun rs=>κ (r :: rs)))
      | false=>recK all ⟨sl,σ.bl⟩ o false .void σ.bl [] [] [] [] false (fun r σ'=>runRec oc A all rest σ' (fun rs=>κ (r :: rs))))
     else setK σ.sl t (.bool false) (fun sl=>match want with
      | true=>recK all ⟨sl,σ.bl⟩ o false .void σ.bl [] [] [] [] false (fun r σ'=>runRec oc A all rest σ' (fun rs=>κ (r :: rs)))
      | false=>stepD oc A all ⟨sl,σ.bl⟩ o (fun r σ'=>runRec oc A all rest σ' (fun rs=>κ (r :: rs))))
    | _=>none
   | none=>none
def bindsAny (e:Edge):Bool:=
 match e.ground with
 | .textOnly _=>false
 | .gcOnly _=>false
 | _=>true
def addNew:List Nat→List Nat→List Nat
 | [],acc=>acc
 | i :: l,acc=>match isIn acc i with
  | true=>addNew l acc
  | false=>addNew l (i :: acc)
def befOf (acc:List (List Nat)):List Edge→List Nat→Option (List Nat)
 | [],l=>some l
 | e :: r,l=>match bindsAny e with
  | true=>match nth acc e.on with
   | some p=>befOf acc r (addNew (e.on :: p) l)
   | none=>none
  | false=>befOf acc r l
def befs:List (List Nat)→List Oper→Option (List (List Nat))
 | acc,[]=>some acc
 | acc,o :: r=>match befOf acc o.after.toList [] with
  | some l=>befs (cat acc [l]) r
  | none=>none
def sameDst:Option Nat→Option Nat→Bool
 | some t,some u=>Nat.beq t u
 | _,_=>false
def quietOK (ri rj:Rec):Bool:=band (ioV rj.qf rj.qp ri.v) (band (apartL rj.qf ri.bn) (apartL rj.qp ri.bn))
def pairOK (i:Nat) (ri:Rec) (bj:List Nat) (rj:Rec):Bool:=
 band (band (bneg (sameDst ri.dst rj.dst)) (quietOK ri rj)) (match isIn bj i with
  | true=>apartL rj.N ri.nm
  | false=>band (quietOK rj ri) <| band (band (bneg ri.bar) (bneg rj.bar)) (band (band (apartL (dstL ri.dst) rj.rd) (apartL (dstL rj.dst) ri.rd))
    (band (band (apartL ri.W rj.T) (apartL rj.W ri.T)) (band (band (bor ri.sm (apartL ri.W rj.L)) (bor rj.sm (apartL rj.W ri.L))) (band (apartL rj.N ri.nm) (apartL ri.N rj.nm))))))
def pairsOK:Nat→List Rec→List Nat→Rec→Bool
 | _,[],_,_=>true
 | i,ri :: r,bj,rj=>band (pairOK i ri bj rj) (pairsOK (i + 1) r bj rj)
def newOK (σ:St):List Nat→Bool
 | []=>true
 | s :: r=>band (unused σ.sl σ.bl .undef s) (newOK σ r)
def startOK (σ:St) (r:Rec):Bool:=band (ioVs r.qf r.qp σ.sl) (band (apartL r.qf (sitesB σ.bl)) (apartL r.qp (sitesB σ.bl)))
def drawOK (σ:St):List Rec→List (List Nat)→List Rec→Bool
 | _,_,[]=>true
 | pre,bj :: bs,rj :: rs=>band (band (band (newOK σ rj.N) (startOK σ rj)) (pairsOK 0 pre bj rj)) (drawOK σ (cat pre [rj]) bs rs)
 | _,_,_=>false
def below:Nat→List Nat→Bool
 | 0,_=>true
 | n + 1,l=>band (isIn l n) (below n l)
def lastOf:List Oper→List (List Nat)→Option (List Oper × List (List Nat) × Oper)
 | [],_=>none
 | [o],[b]=>match o.guard with
  | none=>some ([],[],o)
  | some _=>none
 | o :: os,b :: bs=>match lastOf os bs with
  | some (pre,bpre,l)=>some (o :: pre,b :: bpre,l)
  | none=>none
 | _,_=>none
def guardsIn (n:Nat):List Oper→Bool
 | []=>true
 | o :: os=>match o.guard with
  | none=>guardsIn n os
  | some (j,_)=>band (Nat.ble (Nat.succ j) n) (guardsIn n os)
def lastB:List (List Nat)→List Nat
 | []=>[]
 | [b]=>b
 | _ :: bs=>lastB bs
def splitD (ops:List Oper) (bs:List (List Nat)):Option (List Oper × List (List Nat) × Oper):=
 match lastOf ops bs with
 | some (pre,bpre,o)=>match band (below (llen pre) (lastB bs)) (guardsIn (llen pre) pre) with
  | true=>some (pre,bpre,o)
  | false=>none
 | none=>none
def runDraw1 {R:Type} (oc:OC R) (A:Ann) (ops:List Oper) (σ:St) (bs:List (List Nat)) (κ:St→Option R):Option R:=
 runRec oc A ops ops σ (fun rs σ'=>match drawOK σ [] bs rs with
  | true=>κ σ'
  | false=>none)
def runDraw {R:Type} (oc:OC R) (A:Ann) (ops:List Oper) (σ:St) (κ:St→Option R):Option R:=
 match befs [] ops with
 | some bs=>match splitD ops bs with
  | some (pre,bpre,o)=>runDraw1 oc A pre σ bpre (fun σ'=>stepK oc A σ' o κ)
  | none=>runDraw1 oc A ops σ bs κ
 | none=>none
open Classical in
noncomputable def bothK {R:Type} (x y:Option R):Option R:=if x=y then x else none
def nilAsk (A:Ann) (σ:St) (o:Oper):Option (List Cond × List D × Bool):=
 match o.guard with
 | some _=>none
 | none=>match o.op with
  | .binOp op t x y _=>match isSliceT (A.ty t) with
   | true=>match opd σ.sl y with
    | .nilsl=>match opd σ.sl x with
     | .nilsl=>none
     | v=>match elems σ.bl v with
      | some (c,_,l)=>match op with
       | .eql=>some (c,l,false)
       | .neq=>some (c,l,true)
       | _=>none
      | none=>none
    | _=>none
   | false=>none
  | _=>none
noncomputable def runOpsB {R:Type} (oc:OC R) (A:Ann) (all:List Oper):List Oper→St→(St→Option R)→Option R
 | [],σ,κ=>κ σ
 | o :: rest,σ,κ=>
  match nilAsk A σ o with
  | some (c,l,ng)=>guards c (if 1≤l.length then putK σ o.dst (.bool ng) σ.bl (fun σ'=>runOpsB oc A all rest σ' κ)
    else bothK (putK σ o.dst (.bool ng) σ.bl (fun σ'=>runOpsB oc A all rest σ' κ)) (putK σ o.dst (.bool (bneg ng)) σ.bl (fun σ'=>runOpsB oc A all rest σ' κ)))
  | none=>
  match o.guard with
  | none=>stepK oc A σ o (fun σ'=>runOpsB oc A all rest σ' κ)
  | some (j,want)=>match dstAt all j with
   | some t=>match slotL σ.sl t with
    | .void=>putK σ o.dst .void σ.bl (fun σ'=>runOpsB oc A all rest σ' κ)
    | .bool b=>bif b
     then setK σ.sl t (.bool true) (fun sl=>match want with
      | true=>stepK oc A ⟨sl,σ.bl⟩ o (fun σ'=>runOpsB oc A all rest σ' κ)
      | false=>putK ⟨sl,σ.bl⟩ o.dst .void σ.bl (fun σ'=>runOpsB oc A all rest σ' κ))
     else setK σ.sl t (.bool false) (fun sl=>match want with
      | true=>putK ⟨sl,σ.bl⟩ o.dst .void σ.bl (fun σ'=>runOpsB oc A all rest σ' κ)
      | false=>stepK oc A ⟨sl,σ.bl⟩ o (fun σ'=>runOpsB oc A all rest σ' κ))
    | _=>none
   | none=>none
def dropK {R:Type}:List Nat→List V→(List V→Option R)→Option R
 | [],sl,κ=>κ sl
 | t :: r,sl,κ=>setK sl t .undef (fun sl'=>dropK r sl' κ)
noncomputable def runCode {R:Type} (oc:OC R) (ol:OL R) (A:Ann) (fid:FuncId):Code→St→(Ex→St→Option R)→Option R
 | .skip,σ,κ=>κ .normal σ
 | .region id ops draw,σ,κ=>dropK (A.dead fid id) σ.sl (fun sl=>match draw with
  | false=>match A.both fid with
   | true=>runOpsB oc A ops.toList ops.toList ⟨sl,σ.bl⟩ (κ .normal)
   | false=>runOps oc A ops.toList ops.toList ⟨sl,σ.bl⟩ (κ .normal)
  | true=>runDraw oc A ops.toList ⟨sl,σ.bl⟩ (κ .normal))
 | .seq a b,σ,κ=>runCode oc ol A fid a σ (fun e σ'=>match e with
   | .normal=>runCode oc ol A fid b σ' κ
   | .exit i=>κ (.exit i) σ'
   | .ret=>κ .ret σ')
 | .cond c a b,σ,κ=>match c with
  | .tmp t=>match slotL σ.sl t with
   | .bool x=>bif x
    then setK σ.sl t (.bool true) (fun sl=>runCode oc ol A fid a ⟨sl,σ.bl⟩ κ)
    else setK σ.sl t (.bool false) (fun sl=>runCode oc ol A fid b ⟨sl,σ.bl⟩ κ)
   | _=>none
  | .const v=>match constV v with
   | .bool x=>bif x then runCode oc ol A fid a σ κ else runCode oc ol A fid b σ κ
   | _=>none
  | _=>none
 | .block id b,σ,κ=>runCode oc ol A fid b σ (fun e σ'=>match e with
   | .normal=>κ .normal σ'
   | .exit i=>match Nat.beq i id with
    | true=>κ .normal σ'
    | false=>κ (.exit i) σ'
   | .ret=>κ .ret σ')
 | .loop b,σ,κ=>canonK (A.keep fid (regionOf b)) σ (fun σ'=>ol (regionOf b) b σ' κ)
 | .exit id,σ,κ=>κ (.exit id) σ
 | .ret,σ,κ=>κ .ret σ
 | _,_,_=>none
def loopsOf:Code→List Code
 | .seq a b=>loopsOf a ++ loopsOf b
 | .cond _ a b=>loopsOf a ++ loopsOf b
 | .block _ b=>loopsOf b
 | .loop b=>b :: loopsOf b
 | _=>[]
def loopAt (id:Nat):Code→Option Code
 | .seq a b=>match loopAt id a with
  | some c=>some c
  | none=>loopAt id b
 | .cond _ a b=>match loopAt id a with
  | some c=>some c
  | none=>loopAt id b
 | .block _ b=>loopAt id b
 | .loop b=>match Nat.beq (regionOf b) id with
  | true=>some b
  | false=>loopAt id b
 | _=>none
noncomputable def runLoop {R:Type} (oc:OC R) (ol:OL R) (A:Ann) (fid:FuncId) (b:Code) (σ:St) (κ:Ex→St→Option R):Option R:=
 runCode oc ol A fid b σ (fun e σ'=>match e with
  | .normal=>canonK (A.keep fid (regionOf b)) σ' (fun σ''=>ol (regionOf b) b σ'' κ)
  | .exit i=>canonK (A.out fid (regionOf b)) σ' (κ (.exit i))
  | .ret=>canonK (A.out fid (regionOf b)) σ' (κ .ret))
def entrySl:Nat→List V→List V
 | _,[]=>[]
 | i,v :: vs=>alias i [] v :: entrySl ((i + 1)) vs
def entryBl:Nat→List V→BL
 | _,[]=>[]
 | i,v :: vs=>match hasOwn v with
  | true=>(i,v) :: entryBl ((i + 1)) vs
  | false=>entryBl ((i + 1)) vs
def padTo:Nat→List V→List V
 | 0,l=>l
 | n + 1,[]=>.undef :: padTo n []
 | n + 1,v :: l=>v :: padTo n l
def entry (n:Nat) (args:List V):St:=
 { sl:=padTo n (entrySl 0 args),bl:=entryBl 0 args }
def resV (q:Bool) (ty:Ty) (v:V):V:=
 match q with
 | true=>match v with
  | .nilsl=>.nilsl
  | v=>ownNil ty v
 | false=>ownNil ty v
def resultV (A:Ann) (q:Bool) (σ:St) (ty:Ty):ResultVar→Option V
 | .tmp t=>some (resV q ty (slotL σ.sl t))
 | .cell a t=>match loadV (A.ty t) σ.bl (slotL σ.sl a) with
  | some ([],v,_)=>some (resV q ty v)
  | _=>none
def resultVs (A:Ann) (q:Bool) (σ:St):List Ty→List ResultVar→Option (List V)
 | _,[]=>some []
 | ts,r :: rs=>match resultV A q σ (ts.headD .other) r with
  | some v=>match resultVs A q σ ts.tail rs with
   | some vs=>some (v :: vs)
   | none=>none
  | none=>none
def ioSl (A:Ann) (f:FuncId) (sl:List V):Nat→List V→List V
 | _,[]=>[]
 | i,_ :: vs=>match A.mode f i with
  | .io=>slotL sl i :: ioSl A f sl (i + 1) vs
  | _=>ioSl A f sl (i + 1) vs
def outsV (A:Ann) (f:FuncId):Nat→List V→List V→List V
 | _,[],_=>[]
 | i,_ :: vs,ws=>match A.mode f i with
  | .io=>match ws with
   | w :: ws=>w :: outsV A f (i + 1) vs ws
   | []=>.undef :: outsV A f (i + 1) vs []
  | _=>.undef :: outsV A f (i + 1) vs ws
def takeL:List V→List V→List V
 | [],_=>[]
 | _ :: vs,w :: ws=>w :: takeL vs ws
 | _ :: _,[]=>[]
def dropL:List V→List V→List V
 | [],ws=>ws
 | _ :: vs,_ :: ws=>dropL vs ws
 | _ :: _,[]=>[]
def dstBs (A:Ann) (f:FuncId):List Oper→Bool
 | []=>true
 | o :: os=>match (match o.dst with
   | some t=>match A.mode f t with
    | .io=>false
    | _=>true
   | none=>true) with
  | true=>dstBs A f os
  | false=>false
def dstB (A:Ann) (f:FuncId):Code→Bool
 | .region _ ops _=>dstBs A f ops.toList
 | .seq a b=>band (dstB A f a) (dstB A f b)
 | .cond _ a b=>band (dstB A f a) (dstB A f b)
 | .block _ b=>dstB A f b
 | .loop b=>dstB A f b
 | _=>true
def oneOrTup:List V→V
 | [w]=>w
 | ws=>.tup ws
def finish {R:Type} (A:Ann) (fid:FuncId) (fn:Func) (args:List V) (σ:St) (κ:V→List V→Option R):Option R:=
 match resultVs A (A.nils fid) σ (mapTy A fn.resultTypes.toList) fn.results.toList with
 | some vs=>match noTups (cat vs (ioSl A fid σ.sl 0 args)) with
  | true=>match inls 30 σ.bl (cat vs (ioSl A fid σ.sl 0 args)) with
   | some (c,ws,b)=>match band (resOwns (takeL vs ws)) (allKepts (dropL vs ws)) with
    | true=>guards c (deepV (oneOrTup (takeL vs ws)) (fun r=>deepVs (outsV A fid 0 args (dropL vs ws)) (fun os=>κ r os)))
    | false=>none
   | none=>none
  | false=>none
 | none=>none
def noSites:List Nat→Bool
 | []=>true
 | _=>false
noncomputable def runFn {R:Type} (oc:OC R) (ol:OL R) (A:Ann) (fid:FuncId) (fn:Func) (args:List V) (κ:V→List V→Option R):Option R:=
 match fn.body with
 | some c=>match band (noTups args) (band (noSites (sitess args)) (bor (bneg (anyIo A fid 0 args)) (dstB A fid c))) with
  | true=>deepVs (entry fn.ntmps args).sl (fun sl=>deepB (entry fn.ntmps args).bl (fun b=>
   runCode oc ol A fid c ⟨sl,b⟩ (fun e σ=>match e with
   | .normal=>finish A fid fn args σ κ
   | .ret=>finish A fid fn args σ κ
   | .exit _=>none)))
  | false=>none
 | none=>none
end Go.Rai
namespace Go.Rai
variable [Inhabited Kset]
def AgreeO (sl sl':List V) (xs:List Operand):Prop:=∀ x ∈ xs,opd sl' x=opd sl x
theorem agreeO_of {sl sl':List V}:∀ {xs:List Operand},(∀ t ∈ tmpsOf xs,slotL sl' t=slotL sl t)→AgreeO sl sl' xs
 | [],_=>fun x hx=>by cases hx
 | y :: ys,h=>by
  intro x hx
  have hr:AgreeO sl sl' ys:=agreeO_of (fun t ht=>h t (by cases y <;> simp [tmpsOf,ht]))
  rcases List.mem_cons.1 hx with rfl | hx
  ·cases x with
   | tmp t=>exact h t (by simp [tmpsOf])
   | _=>rfl
  ·exact hr x hx
theorem AgreeO.map {sl sl':List V}:∀ {xs:List Operand},AgreeO sl sl' xs→mapOpd sl' xs=mapOpd sl xs
 | [],_=>rfl
 | x :: xs,h=>by
  simp only [mapOpd]
  rw [h x (by simp),AgreeO.map (xs:=xs) (fun y hy=>h y (by simp [hy]))]
theorem AgreeO.opds {sl sl':List V}:∀ {ps:List (Nat × Operand)},AgreeO sl sl' (ps.map (·.2))→opdsV sl' ps=opdsV sl ps
 | [],_=>rfl
 | (i,x) :: ps,h=>by
  simp only [opdsV]
  rw [h x (by simp),AgreeO.opds (ps:=ps) (fun y hy=>h y (by simp at hy ⊢; exact .inr hy))]
theorem AgreeO.opt {sl sl':List V} {x:Option Operand} (h:AgreeO sl sl' (optL x)):optOpd sl' x=optOpd sl x:=by
 cases x with
 | none=>rfl
 | some x=>simp only [optOpd]; rw [h x (by simp [optL])]
def AgreeB (b b':BL) (T:List Nat):Prop:=∀ s ∈ T,lookB b' s=lookB b s
theorem AgreeB.sub {b b':BL} {T T':List Nat} (h:AgreeB b b' T) (hs:∀ s ∈ T',s ∈ T):AgreeB b b' T':=fun s hs'=>h s (hs s hs')
theorem getAt_agree {b b':BL} {s:Nat} {p:List Nat} (h:lookB b' s=lookB b s):getAt b' s p=getAt b s p:=by
 unfold getAt; rw [h]
theorem elems_agree {b b':BL} {x:V} (h:AgreeB b b' (sites x)):elems b' x=elems b x:=by
 cases x with
 | full s p e=>simp only [elems,getAt_agree (h s (by simp [sites]))]
 | sub s p o l e=>simp only [elems,getAt_agree (h s (by simp [sites]))]
 | _=>rfl
theorem isNilS_agree {b b':BL} {x:V} (h:AgreeB b b' (sites x)):isNilS b' x=isNilS b x:=by
 have:=elems_agree h
 cases x <;> simp only [isNilS,this]
theorem binV_agree {t:Ty} {b b':BL} {op:BinOp} {x y:V} (hx:AgreeB b b' (sites x)) (hy:AgreeB b b' (sites y)):binV t b' op x y=binV t b op x y:=by
 have h1:=isNilS_agree hx
 have h2:=isNilS_agree hy
 unfold binV
 split <;> first | rfl | (simp only [h1]) | (simp only [h2])
def Moved (b b':BL) (r r':G Out):Prop:=∀ c v b1,r=some (c,v,b1)→b1=b∧r'=some (c,v,b')
theorem moved_some {b b':BL} {c:List Cond} {v:V}:Moved b b' (some (c,v,b)) (some (c,v,b')):=by
 intro c1 v1 b1 h
 simp only [oj,pj] at h
 obtain ⟨rfl,rfl,rfl⟩:=h
 exact ⟨rfl,rfl⟩
theorem moved_none {b b':BL} {r:G Out}:Moved b b' none r:=by intro c1 v1 b1 h; cases h
theorem loadV_agree {t:Ty} {b b':BL} {a:V} (h:AgreeB b b' (sites a)):Moved b b' (loadV t b a) (loadV t b' a):=by
 cases a with
 | ptr s p=>
  simp only [loadV,getAt_agree (h s (by simp [sites]))]
  split
  ·split
   ·exact moved_some
   ·exact moved_none
  ·exact moved_none
 | rp x=>
  simp only [loadV]
  split
  ·exact moved_some
  ·exact moved_none
 | _=>exact moved_none
theorem fieldAddrV_agree {t:Ty} {b b':BL} {f:Nat} {a:V} (h:AgreeB b b' (sites a)):Moved b b' (fieldAddrV t b f a) (fieldAddrV t b' f a):=by
 cases t with
 | struct fs=>
  cases a with
  | ptr s p=>
   simp only [fieldAddrV,getAt_agree (h s (by simp [sites]))]
   split
   ·split
    ·split
     ·exact moved_some
     ·exact moved_none
    ·exact moved_none
   ·exact moved_none
  | rp x=>
   cases x with
   | agg vs=>
    simp only [fieldAddrV]
    split
    ·split
     ·exact moved_some
     ·exact moved_none
    ·exact moved_none
   | _=>exact moved_none
  | _=>exact moved_none
 | _=>exact moved_none
theorem indexV_agree {t:Ty} {b b':BL} {x i:V} (h:AgreeB b b' (sites x)):Moved b b' (indexV t b x i) (indexV t b' x i):=by
 unfold indexV
 split
 ·split
  ·split
   ·split
    ·exact moved_some
    ·exact moved_none
   ·rw [getAt_agree (h _ (by simp [sites]))]
    split
    ·split
     ·exact moved_some
     ·exact moved_none
    ·exact moved_none
   ·rw [getAt_agree (h _ (by simp [sites]))]
    split
    ·split
     ·exact moved_some
     ·exact moved_none
    ·exact moved_none
   ·exact moved_none
  ·split
   ·rw [getAt_agree (h _ (by simp [sites]))]
    split
    ·split
     ·exact moved_some
     ·exact moved_none
    ·exact moved_none
   ·split
    ·exact moved_some
    ·exact moved_none
   ·exact moved_none
  ·exact moved_none
 ·exact moved_none
theorem indexStr_agree {b b':BL} {x i:V}:Moved b b' (indexStr x i b) (indexStr x i b'):=by
 unfold indexStr
 split
 ·exact moved_some
 ·exact moved_none
theorem sliceV_agree {t:Ty} {b b':BL} {x:V} {lo hi mx:Option V} (h:AgreeB b b' (sites x)):Moved b b' (sliceV t b x lo hi mx) (sliceV t b' x lo hi mx):=by
 unfold sliceV
 split
 ·split
  ·split
   ·split
    ·exact moved_some
    ·exact moved_none
   ·exact moved_none
  ·split
   ·split
    ·split
     ·split
      ·split
       ·rw [getAt_agree (h _ (by simp [sites]))]
        split
        ·split
         ·exact moved_some
         ·exact moved_none
        ·exact moved_none
       ·exact moved_none
      ·exact moved_none
     ·exact moved_none
    ·exact moved_none
   ·exact moved_none
  ·exact moved_none
 ·split
  ·split
   ·split
    ·exact moved_some
    ·exact moved_none
   ·exact moved_none
  ·split
   ·split
    ·exact moved_some
    ·exact moved_none
   ·exact moved_none
  ·split
   ·split
    ·exact moved_some
    ·exact moved_none
   ·exact moved_none
  ·rw [getAt_agree (h _ (by simp [sites]))]
   split
   ·split
    ·split
     ·exact moved_some
     ·exact moved_none
    ·exact moved_none
   ·exact moved_none
  ·split
   ·split
    ·split
     ·exact moved_some
     ·exact moved_none
    ·rw [getAt_agree (h _ (by simp [sites]))]
     split
     ·split
      ·split
       ·exact moved_some
       ·exact moved_none
      ·exact moved_none
     ·exact moved_none
   ·exact moved_none
  ·exact moved_none
theorem lenV_agree {A:Ann} {sl sl':List V} {b b':BL} {d:Option Nat} {ts:List TypeId} {xs:List V} (h:AgreeB b b' (sitess xs)):Moved b b' (builtinV A sl b d .len ts xs) (builtinV A sl' b' d .len ts xs):=by
 cases xs with
 | nil=>exact moved_none
 | cons x r=>
  cases r with
  | cons y r=>exact moved_none
  | nil=>
   have hx:AgreeB b b' (sites x):=h.sub (fun s hs=>by simp [sitess,mem_cat,hs])
   simp only [builtinV]
   split
   ·split
    ·split
     ·exact moved_some
     ·exact moved_none
    ·split
     ·exact moved_some
     ·exact moved_some
     ·exact moved_some
     ·rw [elems_agree hx]
      split
      ·exact moved_some
      ·exact moved_none
    ·exact moved_none
   ·exact moved_none
theorem maxV_agree {A:Ann} {sl sl':List V} {b b':BL} {d:Option Nat} {ts:List TypeId} {xs:List V} {f:Builtin} (hf:f=.max ∨ f=.min):Moved b b' (builtinV A sl b d f ts xs) (builtinV A sl' b' d f ts xs):=by
 unfold builtinV
 rcases hf with rfl | rfl <;> cases xs with
 | nil=>exact moved_none
 | cons x r=>
  simp only
  split
  ·exact moved_some
  ·exact moved_none
section
variable {A:Ann} {sl sl':List V} {b b':BL} {d:Option Nat} {op:Op}
theorem read_agree (hcl:(match cls op with | .read=>true | _=>false)=true) (ho:AgreeO sl sl' (opsOf op)) (hb:AgreeB b b' (sitess (mapOpd sl (opsOf op)))):Moved b b' (stepPrim A sl b d op) (stepPrim A sl' b' d op):=by
 cases op with
 | move x=>simp only [stepPrim]; rw [ho x (by simp [opsOf])]; exact moved_some
 | assign x=>simp only [stepPrim]; rw [ho x (by simp [opsOf])]; exact moved_some
 | pick c x y=>
  simp only [stepPrim]; rw [ho c (by simp [opsOf]),ho x (by simp [opsOf]),ho y (by simp [opsOf])]
  split
  ·exact moved_some
  ·exact moved_none
 | build t ps=>
  simp only [stepPrim]
  rw [AgreeO.opds (sl:=sl) (sl':=sl') (ps:=ps.toList) (by simpa [opsOf] using ho)]
  split
  ·split
   ·split
    ·exact moved_some
    ·exact moved_none
   ·exact moved_none
  ·exact moved_none
 | load t a=>
  simp only [stepPrim]; rw [ho a (by simp [opsOf])]
  exact loadV_agree (hb.sub (fun s hs=>by simp [opsOf,mapOpd,sitess,mem_cat,hs]))
 | nilCheck x=>
  simp only [stepPrim]; rw [ho x (by simp [opsOf])]
  split <;> first | exact moved_some | exact moved_none
 | binOp o t x y t2=>
  simp only [stepPrim]; rw [ho x (by simp [opsOf]),ho y (by simp [opsOf]),binV_agree (b:=b) (b':=b') (hb.sub (fun s hs=>by simp [opsOf,mapOpd,sitess,mem_cat,hs])) (hb.sub (fun s hs=>by simp [opsOf,mapOpd,sitess,mem_cat,hs]))]
  split
  ·exact moved_some
  ·exact moved_none
 | unOp o t x=>
  simp only [stepPrim]; rw [ho x (by simp [opsOf])]
  split
  ·exact moved_some
  ·exact moved_none
 | convert s t x=>
  simp only [stepPrim]; rw [ho x (by simp [opsOf])]
  split
  ·split
   ·unfold bytesV
    split
    ·rw [elems_agree (hb.sub (fun s hs=>by simp [opsOf,mapOpd,sitess,mem_cat,hs]))]
     split
     ·split
      ·exact moved_some
      ·exact moved_none
     ·exact moved_none
    ·exact moved_none
   ·exact moved_none
  ·split <;> first | exact moved_some | exact moved_none
 | makeFunc fn first caps=>
  simp only [stepPrim]
  rw [AgreeO.map (sl:=sl) (sl':=sl') (xs:=caps.toList) (by simpa [opsOf] using ho)]
  split
  ·split
   ·exact moved_some
   ·exact moved_none
  ·exact moved_none
 | slice t x lo hi mx=>
  simp only [stepPrim]
  rw [ho x (by simp [opsOf]),AgreeO.opt (sl:=sl) (sl':=sl') (x:=lo) (fun y hy=>ho y (by simp [opsOf,cat_eq,hy])),AgreeO.opt (sl:=sl) (sl':=sl') (x:=hi) (fun y hy=>ho y (by simp [opsOf,cat_eq,hy])),AgreeO.opt (sl:=sl) (sl':=sl') (x:=mx) (fun y hy=>ho y (by simp [opsOf,cat_eq,hy]))]
  exact sliceV_agree (hb.sub (fun s hs=>by simp [opsOf,mapOpd,sitess,mem_cat,hs]))
 | fieldAddr t x f=>
  simp only [stepPrim]; rw [ho x (by simp [opsOf])]
  exact fieldAddrV_agree (hb.sub (fun s hs=>by simp [opsOf,mapOpd,sitess,mem_cat,hs]))
 | field t x f=>
  simp only [stepPrim]; rw [ho x (by simp [opsOf])]
  split
  ·exact moved_some
  ·exact moved_none
 | indexAddr t x i=>
  simp only [stepPrim]; rw [ho x (by simp [opsOf]),ho i (by simp [opsOf])]
  exact indexV_agree (hb.sub (fun s hs=>by simp [opsOf,mapOpd,sitess,mem_cat,hs]))
 | index t x i=>
  simp only [stepPrim]; rw [ho x (by simp [opsOf]),ho i (by simp [opsOf])]
  split
  ·exact indexStr_agree
  ·exact moved_none
 | extract x i=>
  simp only [stepPrim]; rw [ho x (by simp [opsOf])]
  split
  ·split
   ·exact moved_some
   ·exact moved_none
  ·exact moved_none
 | call c=>
  simp only [stepPrim]
  cases hc:c.callee with
  | builtin f=>
   have hops:opsOf (.call c)=c.args.toList:=by simp [opsOf,hc]
   rw [hops] at ho hb
   simp only
   rw [AgreeO.map ho]
   cases f with
   | len=>exact lenV_agree hb
   | max=>exact maxV_agree (.inl rfl)
   | min=>exact maxV_agree (.inr rfl)
   | _=>simp [cls,hc] at hcl
  | _=>simp [cls,hc] at hcl
 | _=>simp [cls] at hcl
end
end Go.Rai
