/- An evaluator of the model's programs over plain values, proved sound, part 3 of 5. It is used by the claim's law; it has no condition of its own. -/
import Derived.Test.YtdoaceeakjbgfaaRaiU2
import Derived.Laws.BytesString
import Derived.Tactics
set_option linter.unusedVariables false
set_option linter.unusedSectionVars false
set_option linter.unusedSimpArgs false
namespace Go.Rai
variable [Inhabited Qk]
section
variable {P:Program} {A:Ann} {w w' w0:World} {F0:List Nat} {sl:List V} {a:Act} {bl b':BL} {G:GT} {o:Oper} {X:List Nat}
theorem MJ {e:Ty} (hp:e.plain=true) {F:List Nat} {v:V} {cs:List Value} {d:D} {c:List Jt} (hc:JZ w bl G (F ++ X) w0 F0) (hv:InV (Jc w bl G (F ++ X)) v cs F) (h:X7 e bl v=some (c,d,b')) (hk:∀ k ∈ c,k.ok) :
  CE w (Jc w bl G (F ++ X)) w0 F0 X b' (fun E F'=>DIn true w e d cs F'):=by
 unfold X7 at h
 split at h
 ·rename_i c2 x b2 hin
  split at h
  ·rename_i hb
   simp only [oj,pj] at h
   obtain ⟨rfl,rfl,rfl⟩:=h
   rw [Jg] at hb
   obtain ⟨F',G',q1,q2,q3⟩:=(Oy 9).1 hc (V7 e hv) hin hk
   exact ⟨F',G',q1,VS e (Wg hp hb.2 hb.1) q2,q3⟩
  ·simp at h
 ·simp at h
theorem Sm {e:Ty} (hp:e.plain=true):∀ {vs:List V} {bl b':BL} {G:GT} {X F:List Nat} {cs:List Value} {ds:List D} {c:List Jt},JZ w bl G (F ++ X) w0 F0→Jo (Jc w bl G (F ++ X)) vs cs F→CN e bl vs=some (c,ds,b')→(∀ k ∈ c,k.ok) →
  CE w (Jc w bl G (F ++ X)) w0 F0 X b' (fun E F'=>Row (DIn true w e) ds cs F')
 | [],bl,b',G,X,F,cs,ds,c,hc,hv,h,hk=>by
  simp only [CN,oj,pj] at h
  obtain ⟨rfl,rfl,rfl⟩:=h
  unfold Jo at hv
  exact ⟨F,G,hc,hv,JO.refl_ _ _⟩
 | v :: vs,bl,b',G,X,F,cs,ds,c,hc,hv,h,hk=>by
  simp only [CN] at h
  split at h
  ·rename_i c1 d1 b1 h1
   split at h
   ·rename_i c2 ds2 b2 h2
    simp only [oj,pj] at h
    obtain ⟨rfl,rfl,rfl⟩:=h
    obtain ⟨hk1,hk2⟩:=Q4 hk
    unfold Jo at hv
    obtain ⟨cs1,cs2,F1,F2,rfl,rfl,i1,i2⟩:=hv
    obtain ⟨p1,p2⟩:=hc.perm (show ((F1 ++ F2) ++ X).Perm (F1 ++ (F2 ++ X)) by rw [List.append_assoc])
    obtain ⟨F1',G1,q1,q2,q3⟩:=MJ hp p1 (p2.inV (fun _ _=>id) (fun _ _=>rfl) i1) h1 hk1
    obtain ⟨r1,r2⟩:=q1.perm (show (F1' ++ (F2 ++ X)).Perm (F2 ++ (F1' ++ X)) by
     rw [← List.append_assoc,← List.append_assoc]
     exact List.Perm.append_right X List.perm_append_comm)
    have g1:=(p2.trans q3).trans r2
    obtain ⟨F2',G2,s1,s2,s3⟩:=Sm hp r1 (HC g1.le vs (fun s _=>g1.al s id) (fun b _=>rfl) i2) h2 hk2
    obtain ⟨t1,t2⟩:=s1.perm (show (F2' ++ (F1' ++ X)).Perm ((F1' ++ F2') ++ X) by
     rw [← List.append_assoc]
     exact List.Perm.append_right X List.perm_append_comm)
    exact ⟨F1' ++ F2',G2,t1,⟨cs1,cs2,F1',F2',rfl,rfl,q2,s2⟩,(g1.trans s3).trans t2⟩
   ·simp at h
  ·simp at h
theorem Sn {e:Ty}:∀ {b b':BL} {vs:List V} {ws:List D} {c:List Jt},CN e b vs=some (c,ws,b')→ws.length=vs.length
 | b,b',[],ws,c,h=>by simp [CN] at h; rw [h.2.1]; rfl
 | b,b',v :: vs,ws,c,h=>by
  simp only [CN] at h
  split at h
  ·split at h
   ·rename_i h2
    simp only [oj,pj] at h
    obtain ⟨_,rfl,_⟩:=h
    simp [Sn h2]
   ·simp at h
  ·simp at h
theorem Vk (hc:Qd w bl G w0 F0) {e:Ty} {x:V} {vx:Value} (hx:Val (Jc w bl G []) x vx []) {c:List Jt} {xs:List D} (hp:e.plain=true) (h:Um e bl x=some (c,xs,b')) (hk:∀ k ∈ c,k.ok) :
  CE w (Jc w bl G []) w0 F0 [] b' (fun E F'=>∃ news,Row (DIn true w e) xs news F'∧Fed w vx xs.length news):=by
 have flatE:∀ {c:List Jt} {l:List D},e.flat=true→UT bl x=some (c,e,l)→(∀ k ∈ c,k.ok)→CE w (Jc w bl G []) w0 F0 [] bl (fun E F'=>∃ news,Row (DIn true w e) l news F'∧Fed w vx l.length news):=by
  intro c l hf he hk
  obtain ⟨Ad,cap,F,h1,h2,h3,h4⟩:=VZ hc hx he hk
  rcases h2 with ⟨g1,g2,g3⟩ | ⟨ad,cs,F',g1,g2,g3,g4,g5,g6,_⟩
  ·subst g1
   exact ⟨[],G,hc.x,⟨[],⟨rfl,rfl⟩,Ad,cap,h1,fun hn=>absurd rfl hn⟩,JO.refl_ _ _⟩
  ·have hrow:Row (DIn true w e) l cs F':=Cv (fun d _ c G' _ hd=>W0 e hf hd) g2
   have hF:F'=[]:=Hd (fun d c G' hd=>He e hf hd) g2
   subst hF
   exact ⟨[],G,hc.x,⟨cs,hrow,Ad,cap,h1,fun _=>⟨ad,g1,g3⟩⟩,JO.refl_ _ _⟩
 unfold Um at h
 split at h
 ·simp only [oj,pj] at h
  obtain ⟨rfl,rfl,rfl⟩:=h
  obtain ⟨rfl,_⟩:=Ow.1 hx
  exact ⟨[],G,hc.x,⟨[],⟨rfl,rfl⟩,none,0,rfl,fun hn=>absurd rfl hn⟩,JO.refl_ _ _⟩
 ·rename_i e1
  simp only [oj,pj] at h
  obtain ⟨rfl,rfl,rfl⟩:=h
  have hx':=(JY rfl (by simp) (by simp)).1 hx
  unfold InV at hx'
  obtain ⟨⟨Ad,hx'⟩,_⟩:=hx'
  simp only [List.cons.injEq,and_true] at hx'
  exact ⟨[],G,hc.x,⟨[],⟨rfl,rfl⟩,Ad,0,hx',fun hn=>absurd rfl hn⟩,JO.refl_ _ _⟩
 ·rename_i s p e1
  split at h
  ·rename_i c1 e2 vs hg
   split at h
   ·split at h
    ·rename_i c2 ds b2 hin
     simp only [oj,pj] at h
     obtain ⟨rfl,rfl,rfl⟩:=h
     obtain ⟨hk1,hk2⟩:=Q4 hk
     obtain ⟨c0,rc,F,i1,i2,i3,_⟩:=Uw hc hg hk1
     have hc0:c0=.lst e2 vs:=by
      simp only [V.get,oj,pj] at i3
      exact i3.2
     subst hc0
     have ht:Ud bl s []=some (.lst e2 vs,Qt bl s):=by unfold Ud; rw [i1]
     obtain ⟨c0',rc',Fs,Lv,csv,Fv,G',k1,k2,k3,k4,k5,k6,k7,k8⟩:=CW hc.x ht
     have hh:=CA hx k1 k2 k3 rfl
     unfold InV at k6
     obtain ⟨ad,cc,cs',F',hcs',hlc,hes,hin',hca,hF,hbl,hun⟩:=k6
     rw [hcs'] at k4
     have hhd:=J2 k4
     rw [show (Jc w bl G []).w=w from rfl,hhd] at hh
     simp only [oj] at hh
     subst hF
     have hnd:=k7.ok.xnd
     obtain ⟨p1,p2⟩:=k7.sub (X':=F' ++ []) (by simpa using (List.nodup_cons.1 (by simpa using hnd)).2) (fun b hb=>by simp at hb ⊢; exact .inr hb)
     obtain ⟨F2,G2,q1,q2,q3⟩:=Sm hp (X:=[]) (F:=F') p1 (HC p2.le vs (fun s _=>p2.al s id) (fun b _=>rfl) hin') hin hk2
     have hlen:ds.length=vs.length:=by
      exact Sn hin
     exact ⟨F2,G2,q1,⟨cs',q2,some ad,cc,by rw [hlen]; exact hh.symm,fun _=>⟨ad,rfl,hca⟩⟩,(k8.trans p2).trans q3⟩
    ·simp at h
   ·simp at h
  ·rename_i c1 e2 l hg
   split at h
   ·rename_i hbeq
    have hee:=Ty.beq_eq _ _ hbeq
    subst hee
    split at h
    ·rename_i hf
     simp only [oj,pj] at h
     obtain ⟨rfl,rfl,rfl⟩:=h
     exact flatE hf (by simp [UT,hg]) hk
    ·split at h
     ·rename_i v2 b2 ht
      simp only [oj,pj] at h
      obtain ⟨rfl,rfl,rfl⟩:=h
      obtain ⟨c0,rc,F,i1,i2,i3,Lx,csx,Fx,i4,_⟩:=Uw hc hg hk
      obtain ⟨c0',rc',Fs,Lv,csv,Fv,G',k1,k2,k3,k4,k5,k6,k7,k8⟩:=CW hc.x ht
      rw [i1] at k1; simp only [oj] at k1; subst k1
      rw [i2] at k2; simp only [oj,pj] at k2; obtain ⟨rfl,rfl⟩:=k2
      rw [i4] at k3; simp only [oj,pj] at k3; obtain ⟨rfl,rfl⟩:=k3
      have hh:=CA hx i1 i2 i4 rfl
      unfold InV at k6
      obtain ⟨_,Ad,cap,hcs',hsl⟩:=k6
      rw [hcs'] at k4
      have hhd:=J2 k4
      rw [show (Jc w bl G []).w=w from rfl,hhd] at hh
      simp only [oj] at hh
      rcases hsl with ⟨g1,g2,g3⟩ | ⟨ad,cs,F',g1,g2,g3,g4,g5,g6,_⟩
      ·subst g1; subst g3
       exact ⟨[],G',k7,⟨[],⟨rfl,rfl⟩,Ad,cap,hh.symm,fun hn=>absurd rfl hn⟩,k8⟩
      ·subst g4
       have hnd:=k7.ok.xnd
       obtain ⟨p1,p2⟩:=k7.sub (X':=F' ++ []) (by simpa using (List.nodup_cons.1 (by simpa using hnd)).2) (fun b hb=>by simp at hb ⊢; exact .inr hb)
       exact ⟨F',G',p1,⟨cs,g2,Ad,cap,hh.symm,fun _=>⟨ad,g1,g3⟩⟩,k8.trans p2⟩
     ·simp at h
   ·simp at h
  ·simp at h
 ·split at h
  ·rename_i hf
   split at h
   ·rename_i c1 e2 l he
    split at h
    ·rename_i hbeq
     have hee:=Ty.beq_eq _ _ hbeq
     subst hee
     simp only [oj,pj] at h
     obtain ⟨rfl,rfl,rfl⟩:=h
     exact flatE hf he hk
    ·simp at h
   ·simp at h
  ·simp at h
theorem YK (hc:JZ w bl G X w0 F0) {s:Nat} {p:List Nat} {c0:V} {rc:List Value} {F:List Nat} {e:Ty} {l xs:List D} {Lx:Jp} {Ad:Option Addr} {n k i:Nat} {news:List Value}
  (hl:Jd bl s=some c0) (hg:G s=some (rc,F)) (hloc:Jj w c0 (.reg rc) p=some (.own e l,Lx)) (hhd:Lx.head w=some (.slice Ad n k)) (hf:e.flat=true) (hz:e.size ≠ 0)
  (hi:i + xs.length≤l.length) (hrow:Row (DIn true w e) xs news []) :
  ∃ w' G',(xs=[]→w'=w)∧(∀ ad,Ad=some ad→w'=w.setCells ad.block (ad.off + i * e.size) news∧(xs ≠ []→QS w (ad.add (i * e.size)) news.length∧ad.spot=none))∧(xs ≠ []→∃ ad,Ad=some ad)∧l.length≤k ∧
   JZ w' (JM bl s (c0.set p (.own e (l.take i ++ xs ++ l.drop (i + xs.length))))) G' X w0 F0∧(∃ F2,G' s=some (rc,F2)) ∧
   JO (Jc w bl G X) (Jc w' (JM bl s (c0.set p (.own e (l.take i ++ xs ++ l.drop (i + xs.length))))) G' X) (fun _=>False):=by
 obtain ⟨csx,Fx,Fr,m1,m2,m3,m4,m5⟩:=hc.modify hl hg hloc
 obtain ⟨rc',F',F1,g1,g2,g3,g4,g5⟩:=hc.ok.root s c0 hl
 rw [hg] at g1; simp only [oj,pj] at g1; obtain ⟨rfl,rfl⟩:=g1
 have hnd:=(m3.nodup_iff).1 g4
 have m1':=m1
 unfold InV at m1'
 obtain ⟨hp,Ad',k',hcs,hsl⟩:=m1'
 have hnews:news.length=xs.length * e.size:=HD (fun d c G hd=>Qy e hd) hrow
 have hhd':Lx.head w=some (.slice Ad' l.length k'):=J2 (by rw [← hcs]; exact m2)
 rw [hhd] at hhd'
 simp only [oj,Value.slice.injEq] at hhd'
 obtain ⟨rfl,rfl,rfl⟩:=hhd'
 have hlen':(l.take i ++ xs ++ l.drop (i + xs.length)).length=l.length:=by simp; omega
 have hndX:(Fx ++ X).Nodup:=List.nodup_append.2 ⟨(List.nodup_append.1 hnd).2.1,hc.ok.xnd,fun a ha b hb hab=>by subst hab; exact (g5 a ((m3.mem_iff).2 (by simp [ha]))).2 hb⟩
 have hlt':∀ (w':World),w'.heap.size=w.heap.size→∀ b ∈ Fx ++ X,b<w'.heap.size∧(b ∈ Fx ∨ b ∈ X ∨ w.heap.size≤b):=by
  intro w' hw b hb
  rw [hw]
  rcases List.mem_append.1 hb with q | q
  ·exact ⟨(g5 b ((m3.mem_iff).2 (by simp [q]))).1,.inl q⟩
  ·exact ⟨hc.ok.xlt b q,.inr (.inl q)⟩
 rcases hsl with ⟨h1,h2,h3⟩ | ⟨ad,cs,F',h1,h2,h3,h4,h5,h6,h7⟩
 ·-- nothing there
  subst h1; subst h3
  obtain ⟨hi0,hxs⟩:i=0∧xs=[]:=by simpa using hi
  subst hxs
  subst hi0
  obtain ⟨rfl,_⟩:=hrow
  obtain ⟨p1,p2⟩:=m5 w (.own e ([].take 0 ++ [] ++ [].drop (0 + 0))) csx [] X rfl (fun _ t ht=>by cases t <;> simp [shp] at ht; simpa [shp] using ht) (Nat.le_refl _) (fun _ _ _ _ _=>rfl) (fun _ _=>.inr (.inr trivial))
   (by cases Lx with
     | reg _=>exact True.intro
     | mem a=>exact fun b _ _=>⟨fun _=>rfl,rfl,fun h=>h⟩) m2 (fun _=>rfl) (by simpa using hc.ok.xnd) (by intro b hb; exact ⟨hc.ok.xlt b (by simpa using hb),.inr (.inl (by simpa using hb))⟩)
   Uf.refl rfl rfl rfl (fun _ _ _ _=>rfl) (fun hle=>Hb hle _ (fun s _ c' rc' F' hlk=>by simp [Jd] at hlk) (fun b hb=>rfl) m1) (fun hgo=>hgo.inV (fun _ _=>id) (fun _ _=>rfl) m1)
  refine ⟨w,_,fun _=>rfl,fun ad _=>⟨rfl,fun h=>absurd rfl h⟩,fun h=>absurd rfl h,Nat.zero_le _,p1,?_,p2⟩
  exact ⟨_,if_pos rfl⟩
 ·subst h1
  have hF':F'=[]:=Hd (fun d c G hd=>He e hf hd) h2
  subst hF'
  have hcl:cs.length=l.length * e.size:=HD (fun d c G hd=>Qy e hd) h2
  have hbl:ad.block ∈ Fx:=by rw [h4]; simp
  have hun:=h7 rfl
  obtain ⟨c1,c2,G1,G2,i1,i2,i3,i4,i5⟩:=Va (fun d c G hd=>Qy e hd) (n:=i) h2 (by omega)
  obtain ⟨d1,d2,K1,K2,j1,j2,j3,j4,j5⟩:=Va (fun d c G hd=>Qy e hd) (n:=xs.length) i5 (by simp; omega)
  subst i1; subst j1
  have hG1:G1=[]:=Hd (fun d c G hd=>He e hf hd) i4
  have hK2:K2=[]:=Hd (fun d c G hd=>He e hf hd) j5
  subst hG1; subst hK2
  have hfit:i * e.size + news.length≤k * e.size:=by rw [hnews,← Nat.add_mul]; exact Nat.mul_le_mul_right _ (by omega)
  have hun2:QS w (ad.add (i * e.size)) news.length:=Ou hun hfit
  have hsz':(w.setCells ad.block (ad.off + i * e.size) news).heap.size=w.heap.size:=CC _ _ _ _
  obtain ⟨e1,e2,e3⟩:=Vh ad.block news (ad.off + i * e.size) w
  have hmem:∀ b,b<w.heap.size→b ∉ Fx→(∀ a,Lx=.mem a→b ≠ a.block)→(w.setCells ad.block (ad.off + i * e.size) news).heap[b]?=w.heap[b]?:=
   fun b hb hbF _=>HY _ _ (fun e=>hbF (by rw [e]; exact hbl)) _ _ _
  have hLx:∀ a,Lx=.mem a→(w.setCells ad.block (ad.off + i * e.size) news).heap[a.block]?=w.heap[a.block]?:=by
   intro a ha
   refine HY _ _ (fun e=>?_) _ _ _
   rcases m4 with ⟨a',ha',hin⟩ | ⟨ds,hds⟩
   ·rw [ha] at ha'; cases ha'
    exact (List.nodup_append.1 hnd).2.2 _ hin _ hbl e
   ·rw [ha] at hds; cases hds
  have hpart:=Wd (w:=w) (ad:=ad.add (i * e.size)) (n:=news.length) (cs:=news) (Hs hun2) hun2 rfl
  have hat:=We (w:=w) (ad:=ad.add (i * e.size)) (cs:=news) (Hs hun2) hun2
  rw [Q1,On] at hpart hat
  have hnew:InV (Jc (w.setCells ad.block (ad.off + i * e.size) news) bl G X) (.own e (l.take i ++ xs ++ l.drop (i + xs.length))) csx Fx:=by
   unfold InV
   refine ⟨hp,some ad,k,by rw [hlen']; exact hcs,.inr ⟨ad,c1 ++ (news ++ d2),[],rfl,?_,?_,h4,by rw [hlen']; exact h5,by show _<(World.setCells _ _ _ _).heap.size; rw [hsz']; exact h6,fun _=>?_⟩⟩
   ·have r1:=Vi (Vi i4 hrow) j5
    rw [List.drop_drop,List.append_assoc c1] at r1
    exact Wh (w:=w) (by show w.heap.size≤(World.setCells _ _ _ _).heap.size; rw [hsz']; exact Nat.le_refl _) (fun b hb=>by cases hb) r1
   ·refine VU ?_ (VU (by rw [i3]; exact hat) ?_)
    ·exact Tp hpart (fun j v hj=>h3 j v (by rw [List.getElem?_append_left (List.getElem?_eq_some_iff.1 hj).1]; exact hj)) (by rw [i3]; exact Nat.le_refl _)
    ·rw [Ha,i3]
     refine Tq hpart ?_ (Nat.le_refl _)
     have:=Q2 (L:=.mem ad) (w:=w) (c1:=c1 ++ d1) (c:=d2) (c2:=[]) (by rw [List.append_nil,List.append_assoc]; exact h3)
     rw [List.length_append,i3,j3,← hnews] at this
     exact this
   ·exact Yg hpart hun
  have hkeep:Lx.holds (w.setCells ad.block (ad.off + i * e.size) news) csx:=by
   cases hLxe:Lx with
   | reg ds=>rw [hLxe] at m2; exact m2
   | mem a=>
    rw [hLxe] at m2
    exact HP (hLx a hLxe) m2
  have hps:UZ w (w.setCells ad.block (ad.off + i * e.size) news) Lx (vsz (.own e l)):=by
   cases hLxe:Lx with
   | reg ds=>exact True.intro
   | mem a=>
    intro b hb hs
    have hbb:=hLx a hLxe
    rw [← hb] at hbb
    exact ⟨fun _=>Ol hbb,Ye hbb,fun ⟨v,hv⟩=>⟨v,by rw [Ol hbb]; exact hv⟩⟩
  have hhd2:Lx.head (w.setCells ad.block (ad.off + i * e.size) news)=some (.slice (some ad) l.length k):=by
   have:=J2 (by rw [← hcs]; exact hkeep)
   exact this
  obtain ⟨p1,p2⟩:=m5 (w.setCells ad.block (ad.off + i * e.size) news) (.own e (l.take i ++ xs ++ l.drop (i + xs.length))) csx Fx X rfl (fun _ t ht=>by cases t <;> simp [shp] at ht; simpa [shp] using ht) (by rw [hsz']; exact Nat.le_refl _)
   (fun b hb hbF _ hba=>hmem b hb hbF hba) (fun _ _=>.inr (.inr trivial)) hps hkeep (fun _=>rfl) hndX (hlt' _ hsz')
   (by
    intro q x' L' hq
    cases q with
    | nil=>
     simp only [Jj,oj,pj] at hq
     obtain ⟨rfl,rfl⟩:=hq
     exact ⟨_,rfl,fun _=>⟨rfl,by rw [hhd2,hhd]⟩⟩
    | cons j q=>
     simp only [Jj] at hq ⊢
     split at hq
     ·rename_i hj
      rw [hlen'] at hj
      rw [hhd2] at hq
      rw [if_pos hj,hhd]
      simp only at hq ⊢
      have hnew':=hnew
      unfold InV at hnew'
      obtain ⟨_,A3,k3,hcs3,hsl3⟩:=hnew'
      rcases hsl3 with ⟨z1,_⟩ | ⟨ad3,cs3,F3,_,z2,_⟩
      ·rw [z1] at hlen'; simp at hlen'; omega
      ·obtain ⟨_,_,_,_,_,_,_,_,_,f4,_⟩:=Hp (fun d c G hd=>Qy _ hd) z2 (show j<_ by rw [hlen']; exact hj)
       obtain ⟨_,_,_,_,_,_,_,_,_,e4,_⟩:=Hp (fun d c G hd=>Qy _ hd) h2 hj
       obtain ⟨y',r1,r2⟩:=Xf (E:=Jc (w.setCells ad.block (ad.off + i * e.size) news) bl G X) (E':=Jc w bl G X) q (Wb (O3 e _ hp)) (Wb (O3 e _ hp)) (Wc e _ hf) (Wc e _ hf) (Ho e hp f4) (Ho e hp e4) hq
       exact ⟨y',r1,fun ho=>by rw [r2] at ho; cases ho⟩
     ·simp at hq) e1 e2 e3 hmem
   (fun hle=>by
    unfold InV at hnew ⊢
    exact hnew)
   (fun hgo=>by
    unfold InV at hnew ⊢
    exact hnew)
  refine ⟨_,_,?_,?_,fun _=>⟨ad,rfl⟩,h5,p1,⟨_,if_pos rfl⟩,p2⟩
  ·intro hxs
   subst hxs
   have:news=[]:=List.eq_nil_of_length_eq_zero (by rw [hnews]; simp)
   rw [this]; rfl
  ·intro ad' hadd
   cases hadd
   refine ⟨rfl,fun hxs=>⟨hun2,?_⟩⟩
   have hnz:news.length ≠ 0:=by
    rw [hnews]
    exact Nat.mul_ne_zero (fun h0=>hxs (List.eq_nil_of_length_eq_zero h0)) hz
   exact Hs hun (by omega)
end
end Go.Rai
namespace Go.Rai
variable [Inhabited Qk]
section
variable {P:Program} {A:Ann} {w w' w0:World} {F0:List Nat} {sl:List V} {a:Act} {bl b':BL} {G:GT} {o:Oper} {X:List Nat}
theorem Vl {c:Call} {f:Builtin} {xs:List Operand} {R:Result Next} (h:o.op=.call c) (hcal:c.callee=.builtin f) (hargs:c.args.toList=xs)
  (hr:∀ cs,(builtin f c.argTypes o.type cs (xs.map a.eval).toArray).run P w=R):(execOp a.eval o).run P w=R:=by
 have:c.args=xs.toArray:=by apply Array.toList_inj.1; rw [hargs]
 rw [← hr (xs.map fun x=>match x with | .const _=>true | _=>false).toArray]
 simp [execOp,h,resolve,hcal,this,invoke]
 rfl
theorem MK {E E':Env} (hgo:JO E E' (fun _=>False)) {s:Nat} {p:List Nat} {c0:V} {rc:List Value} {F:List Nat} {x0:V} {Lx:Jp} {A A':Option Addr} {n k off len:Nat} {e:Ty}
  (hl:Jd E.bl s=some c0) (hg:E.G s=some (rc,F)) (hloc:Jj E.w c0 (.reg rc) p=some (x0,Lx)) (hhd:Lx.head E.w=some (.slice A n k)) (hle:off + len≤k) (hA:off<k→∃ a,A=some a∧A'=some (a.add (off * e.size))) :
  InV E' (.sub s p off len e) [.slice A' len (k - off)] []:=by
 unfold InV
 refine ⟨rfl,⟨A',k - off,rfl,by omega⟩,fun c rc' F0 k1 k2 x L k3 k4=>?_⟩
 obtain ⟨c1,F1,g1,g2,g3⟩:=hgo.al s id c rc' F0 k1 k2
 rw [hl] at g1; simp only [oj] at g1; subst g1
 rw [hg] at g2; simp only [oj,pj] at g2; obtain ⟨rfl,_⟩:=g2
 obtain ⟨x1,q1,q2⟩:=g3 p x L k3
 rw [hloc] at q1
 simp only [oj,pj] at q1
 obtain ⟨rfl,rfl⟩:=q1
 exact ⟨A,n,k,A',by rw [(q2 k4).2]; exact hhd,hle,rfl,hA⟩
theorem ML (HT:J0 P A.ty) (hc:Qd w bl G w0 F0) (hs:JP (Jc w bl G []) sl a) {c:Call} {s x:Operand} {t tx:TypeId} {e:Ty} {co:List Jt} {v:V} {b:BL} (h:o.op=.call c) (hcal:c.callee=.builtin .append)
  (hargs:c.args.toList=[s,x]) (hts:c.argTypes.toList=[t,tx]) (hty:A.ty t=.slice e) (hit:OR (A.ty tx)=true) (hv:X8 e sl bl o.dst (opd sl s) (opd sl x)=some (co,v,b)) (hk:∀ k ∈ co,k.ok):JH P w0 F0 sl a w o v b:=by
 obtain ⟨kx,hxt⟩:∃ k,A.ty tx=.int k:=by
  cases hq:A.ty tx with
  | int k=>exact ⟨k,rfl⟩
  | _=>rw [hq] at hit; simp [OR] at hit
 obtain ⟨dx,hdx,hdxk⟩:=(HT tx (by rw [hxt]; simp)).desc
 rw [hxt] at hdxk
 have hdx':=Ot hdxk
 subst hdx'
 obtain ⟨d,hd,hdk⟩:=(HT t (by rw [hty]; simp)).desc
 rw [hty] at hdk
 obtain ⟨te,rfl,hte,hne⟩:=Us hdk
 have hT:=HT te (by rw [hte]; exact hne)
 have hats:c.argTypes=#[t,tx]:=by apply Array.toList_inj.1; rw [hts]
 have hrun:∀ vv w2,(Builtin.append_ #[t,tx] o.type #[a.eval s,a.eval x]).run P w=.ok vv w2→(execOp a.eval o).run P w=.ok (.value vv) w2:=by
  intro vv w2 hr
  refine Vl h hcal hargs (fun cs=>?_)
  rw [hats]
  simp [builtin,hr]
 have hsv:=J1 hs s
 have hxv:=J1 hs x
 unfold X8 at hv
 split at hv
 ·rename_i hse
  rw [hse] at hsv
  obtain ⟨hes,_⟩:=Ow.1 hsv
  split at hv
  ·rename_i k n hxe
   rw [hxe] at hxv
   obtain ⟨hex,_⟩:=Qq.1 hxv
   split at hv
   ·rename_i hkq
    have hk64:=UX hkq
    subst hk64
    obtain ⟨hpz,hv⟩:=Ux hv
    rw [Jg] at hpz
    obtain ⟨hp,hz'⟩:=hpz
    have hz:e.size ≠ 0:=by
     intro h0; rw [h0] at hz'; simp [J3] at hz'
    obtain ⟨rfl,hfr⟩:=HX hv
    obtain ⟨m1,_,m3⟩:0≤n∧n≤n∧n≤4294967296:=hk (.mk n n) (by simp)
    obtain ⟨m,rfl⟩:∃ m:Nat,n=(m:Int):=⟨n.toNat,by omega⟩
    simp only [Int.toNat_natCast] at hfr
    obtain ⟨r0,r1⟩:=MH (w:=w) (ty:=o.type) hp hz hte hT hd hdx (n:=m) (by omega)
    by_cases hm0:m=0
    ·subst hm0
     have hin:InV (Jc w bl G ([] ++ [])) (.own e (List.replicate 0 (QZ e))) [.slice none 0 0] []:=by
      unfold InV
      exact ⟨hp,none,0,rfl,.inl ⟨rfl,rfl,rfl⟩⟩
     obtain ⟨G',g1,g2,g3⟩:=V3 (F:=[]) (X:=[]) hc.x hs (v:=.slice none 0 0) hin (by unfold Qo; rfl) hfr
     exact ⟨_,w,G',.inl (hrun _ _ (by rw [hes,hex]; exact r0 rfl)),g1.c,g2,g3⟩
    ·have hr:=r1 (by omega)
     have hge:=grownCap_ge w m 0 te
     generalize hN:grownCap w m 0 te=N at hr hge
     obtain ⟨i,z,hi,hiz,hisz,hby,hzc,hzl⟩:=Vj (P:=P) hp hte hT
     have hcells:(J9 m (JT e)).toArray ++ Builtin.zeroCells (JT e).toArray (N - m)=((J9 m (JT e)) ++ (Builtin.zeroCells (JT e).toArray (N - m)).toList).toArray:=by
      apply Array.ext'; simp
     rw [hcells] at hr
     obtain ⟨d1,d2⟩:=hc.x.drew
     obtain ⟨k1,k2⟩:=d1.alloc (.cells ((J9 m (JT e)) ++ (Builtin.zeroCells (JT e).toArray (N - m)).toList).toArray te)
     have hzl2:(Builtin.zeroCells (JT e).toArray (N - m)).toList.length=(N - m) * e.size:=by rw [Array.length_toList,size_zeroCells,List.size_toArray,hzl]
     have hin:=YE (te:=te) (E:=Jc (w.drew.alloc (.cells ((J9 m (JT e)) ++ (Builtin.zeroCells (JT e).toArray (N - m)).toList).toArray te)) bl G ([w.drew.heap.size] ++ [])) (w1:=w.drew) (c:=N) (l:=List.replicate m (QZ e)) (F:=[]) hp rfl (Ox (Cj e hp) m) (by simp; exact hge) (by
      rw [hzl2,Vg,hzl,← Nat.add_mul]
      congr 1
      omega)
     rw [List.length_replicate] at hin
     obtain ⟨G',g1,g2,g3⟩:=V3 (F:=[w.drew.heap.size]) (X:=[]) k1 (hs.go0 (d2.trans k2)) (v:=.slice (some ⟨w.heap.size,0,none⟩) m N) hin (by unfold Qo; rfl) hfr
     exact ⟨_,_,G',.inl (hrun _ _ (by rw [hes,hex]; exact hr)),g1.c,g2,g3⟩
   ·cases hv
  ·cases hv
 ·rename_i t2 p e2 hse
  split at hv
  ·rename_i k n hxe
   rw [hxe] at hxv
   obtain ⟨hex,_⟩:=Qq.1 hxv
   split at hv
   ·rename_i hkq
    have hk64:=UX hkq
    subst hk64
    obtain ⟨hpz,hv⟩:=Ux hv
    rw [Jg,Jg] at hpz
    obtain ⟨hb1,hp,hz'⟩:=hpz
    have hz:e.size ≠ 0:=by
     intro h0; rw [h0] at hz'; simp [J3] at hz'
    split at hv
    ·rename_i e3 l b2 ht
     obtain ⟨hb2,hv2⟩:=Ux hv
     have hee:=Ty.beq_eq _ _ hb2
     subst hee
     obtain ⟨rfl,hfr⟩:=HX hv2
     obtain ⟨m1,_,m3⟩:0≤n∧n≤n∧n≤4294967296:=hk (.mk n n) (by simp)
     obtain ⟨m,rfl⟩:∃ m:Nat,n=(m:Int):=⟨n.toNat,by omega⟩
     have hsz:l.length + ((m:Int)).toNat≤4294967296:=hk (.sz l.length ((m:Int)).toNat) (by simp)
     simp only [Int.toNat_natCast] at hfr hsz
     rw [hse] at hsv
     obtain ⟨c0,rc,Fz,Lv,csv,Fv,G2,k1,k2,k3,k4,k5,k6,k7,k8⟩:=CW hc.x ht
     have hh:=CA hsv k1 k2 k3 rfl
     have hh2:Lv.head w=some (a.eval s):=hh
     unfold InV at k6
     obtain ⟨_,Ad,cap,hcs',hsl⟩:=k6
     rw [hcs'] at k4
     have hhd:=J2 k4
     rw [hhd] at hh2
     simp only [oj] at hh2
     have hrow:Row (DIn true w e) (List.replicate m (QZ e)) (J9 m (JT e)) []:=Ox (Cj e hp) m
     have hone:∀ u ∈ J9 m (JT e),u.oneCell'=true:=CB (fun d c F=>HW e) hrow
     obtain ⟨v',w',F',r1,r2,r3,r4⟩:=Sl (P:=P) (A:=A) (w:=w) (ty:=o.type) (t:=t) (tx:=tx) (vx:=.int .i64 (m:Int)) (Fs:=[]) (X:=[]) (xs:=List.replicate m (QZ e)) (by simpa using k7) hp hz hte hT hsl hrow (fun i z hi hiz hisz hby hzc hzl=>by
      rw [List.length_replicate]
      exact App.ofInt hz hd hdx hi hiz hisz hby hzc hzl (by omega) hone) (by rw [List.length_replicate]; exact hsz)
     rw [← hex,hh2] at r1
     obtain ⟨G',g1,g2,g3⟩:=V3 (F:=F') (X:=[]) r2 (hs.go0 (k8.trans r4)) (v:=v') r3 (by unfold Qo; rfl) hfr
     exact ⟨v',w',G',.inl (hrun _ _ r1),g1.c,g2,g3⟩
    ·cases hv
   ·cases hv
  ·cases hv
 ·cases hv
theorem MM (HT:J0 P A.ty) (hc:Qd w bl G w0 F0) (hs:JP (Jc w bl G []) sl a) {c:Call} {co:List Jt} {v:V} {b:BL} (h:o.op=.call c) (hcal:c.callee=.builtin .append)
  (hv:Qj A sl bl o.dst .append c.argTypes.toList (Jy sl c.args.toList)=some (co,v,b)) (hk:∀ k ∈ co,k.ok):JH P w0 F0 sl a w o v b:=by
 match hargs:c.args.toList with
 | []=>rw [hargs] at hv; simp [Jy,Qj] at hv
 | [x]=>rw [hargs] at hv; simp [Jy,Qj] at hv
 | x :: y :: z :: r=>rw [hargs] at hv; simp [Jy,Qj] at hv
 | [s,x]=>
  rw [hargs] at hv
  simp only [Jy,Qj] at hv
  split at hv
  ·rename_i t tx hts
   split at hv
   ·rename_i e hty
    split at hv
    ·rename_i hit
     exact ML HT hc hs h hcal hargs hts hty hit hv hk
    rename_i hnit
    obtain ⟨htx,hv⟩:=Ux hv
    obtain ⟨e',hd'⟩:=V1 HT htx
    obtain ⟨d,hd,hdk⟩:=(HT t (by rw [hty]; simp)).desc
    rw [hty] at hdk
    obtain ⟨te,rfl,hte,hne⟩:=Us hdk
    have hT:=HT te (by rw [hte]; exact hne)
    have hats:c.argTypes=#[t,tx]:=by apply Array.toList_inj.1; rw [hts]
    have hrun:∀ vv w2,(Builtin.append_ #[t,tx] o.type #[a.eval s,a.eval x]).run P w=.ok vv w2→(execOp a.eval o).run P w=.ok (.value vv) w2:=by
     intro vv w2 hr
     refine Vl h hcal hargs (fun cs=>?_)
     rw [hats]
     simp [builtin,hr]
    unfold H9 at hv
    split at hv
    ·rename_i c1 xs b1 hsrc
     obtain ⟨hpz,hsrc⟩:=Ux hsrc
     rw [Jg] at hpz
     obtain ⟨hp,hz'⟩:=hpz
     have hz:e.size ≠ 0:=by
      intro h0; rw [h0] at hz'; simp [J3] at hz'
     have fin:∀ (Fl Fs:List Nat) (Ad:Option Addr) (cap:Nat) (l:List D) (G1:GT) (b2:BL) (news:List Value),JZ w b2 G1 (Fl ++ (Fs ++ [])) w0 F0→JO (Jc w bl G []) (Jc w b2 G1 (Fl ++ (Fs ++ []))) (fun _=>False) →
       UM true w (DIn true w e) e.size Ad cap l Fl→Row (DIn true w e) xs news Fs→Fed w (a.eval x) xs.length news→l.length + xs.length≤4294967296→a.eval s=.slice Ad l.length cap→fresh sl b2 o.dst (.own e (l ++ xs))=some (v,b)→JH P w0 F0 sl a w o v b:=by
      intro Fl Fs Ad cap l G1 b2 news hcx hgo hsl hrow hfed hsz hes hfr
      obtain ⟨v',w',F',r1,r2,r3,r4⟩:=MI (P:=P) (A:=A) (ty:=o.type) hcx hp hz hte hT hd hd' hsl hrow hfed hsz
      rw [← hes] at r1
      obtain ⟨G',g1,g2,g3⟩:=V3 (F:=F') (X:=[]) r2 (hs.go0 (hgo.trans r4)) (v:=v') r3 (by unfold Qo; rfl) hfr
      exact ⟨v',w',G',.inl (hrun _ _ r1),g1.c,g2,g3⟩
     have hsv:=J1 hs s
     split at hv
     ·rename_i hse
      obtain ⟨rfl,hfr⟩:=HX hv
      obtain ⟨hk1,hk2⟩:=Q4 hk
      obtain ⟨Fs,G1,q1,⟨news,q2,q3⟩,q4⟩:=Vk hc (J1 hs x) hp hsrc hk1
      rw [hse] at hsv
      obtain ⟨hes,_⟩:=Ow.1 hsv
      have hsz:0 + xs.length≤4294967296:=hk2 (.sz 0 xs.length) (by simp)
      exact fin [] Fs none 0 [] G1 b1 news q1 q4 (.inl ⟨rfl,rfl,rfl⟩) q2 q3 hsz hes hfr
     ·rename_i e2 hse
      split at hv
      ·obtain ⟨rfl,hfr⟩:=HX hv
       obtain ⟨hk1,hk2⟩:=Q4 hk
       obtain ⟨Fs,G1,q1,⟨news,q2,q3⟩,q4⟩:=Vk hc (J1 hs x) hp hsrc hk1
       rw [hse] at hsv
       have hx':=(JY rfl (by simp) (by simp)).1 hsv
       unfold InV at hx'
       obtain ⟨⟨Ad,hx'⟩,_⟩:=hx'
       simp only [List.cons.injEq,and_true] at hx'
       have hsz:0 + xs.length≤4294967296:=hk2 (.sz 0 xs.length) (by simp)
       exact fin [] Fs Ad 0 [] G1 b1 news q1 q4 (.inl ⟨rfl,rfl,rfl⟩) q2 q3 hsz hx' hfr
      ·simp at hv
     ·rename_i t2 p e2 hse
      split at hv
      ·rename_i hb1
       split at hv
       ·rename_i e3 l b2 ht
        obtain ⟨hb2,hv2⟩:=Ux hv
        have hee:=Ty.beq_eq _ _ hb2
        subst hee
        obtain ⟨rfl,hfr⟩:=HX hv2
        obtain ⟨hk1,hk2⟩:=Q4 hk
        obtain ⟨Fs,G1,q1,⟨news,q2,q3⟩,q4⟩:=Vk hc (J1 hs x) hp hsrc hk1
        have hsv1:=J1 (hs.go0 q4) s
        rw [hse] at hsv1
        obtain ⟨c0,rc,Fz,Lv,csv,Fv,G2,k1,k2,k3,k4,k5,k6,k7,k8⟩:=CW q1 ht
        have hh:=CA hsv1 k1 k2 k3 rfl
        have hh2:Lv.head w=some (a.eval s):=hh
        unfold InV at k6
        obtain ⟨_,Ad,cap,hcs',hsl⟩:=k6
        rw [hcs'] at k4
        have hhd:=J2 k4
        rw [hhd] at hh2
        simp only [oj] at hh2
        have hsz:l.length + xs.length≤4294967296:=hk2 (.sz l.length xs.length) (by simp)
        exact fin Fv Fs Ad cap l G2 b2 news k7 (q4.trans k8) hsl q2 q3 hsz hh2.symm hfr
       ·simp at hv
      ·simp at hv
     ·rename_i t2 p off len e2 hse
      split at hv
      ·rename_i hb1
       rw [Jg] at hb1
       obtain ⟨hbe,hf⟩:=hb1
       have hee0:=Ty.beq_eq _ _ hbe
       subst hee0
       split at hv
       ·rename_i c2 e3 l hga
        split at hv
        ·rename_i cx b2 hset
         obtain ⟨hb2,hv2⟩:=Ux hv
         have hee:=Ty.beq_eq _ _ hb2
         subst hee
         simp only [oj,pj] at hv2
         obtain ⟨rfl,rfl,rfl⟩:=hv2
         obtain ⟨hk12,hk3⟩:=Q4 hk
         obtain ⟨hk1,hk2⟩:=Q4 hk12
         obtain ⟨Fs,G1,q1,⟨news,q2,q3⟩,q4⟩:=Vk hc (J1 hs x) hp hsrc hk1
         have hFs:Fs=[]:=Hd (fun d c G hd=>He e hf hd) q2
         subst hFs
         have hroom:off + len + xs.length≤l.length:=hk3 (.le (off + len + xs.length) l.length) (by simp)
         have hc1:Qd w b1 G1 w0 F0:=q1.c
         have hs1:JP (Jc w b1 G1 []) sl a:=hs.go0 q4
         have hsv1:=J1 hs1 s
         rw [hse] at hsv1
         obtain ⟨c0,rc,F,i1,i2,i3,Lx,csx,Fx,i4,i5,i6,i7,i8,i9⟩:=Uw hc1 hga hk2
         obtain ⟨A0,n0,k0,A1,j1,j2,j3,j4⟩:=VY hsv1 i1 i2 i4 rfl
         have j1':Lx.head w=some (.slice A0 n0 k0):=j1
         obtain ⟨w',G',z1,z2,z3,z4,z5,⟨F2,z6⟩,z7⟩:=YK (X:=[]) hc1.x (i:=off + len) (xs:=xs) (news:=news) i1 i2 i4 j1' hf hz hroom q2
         have hb':b2=JM b1 t2 (c0.set p (.own e (l.take (off + len) ++ xs ++ l.drop (off + len + xs.length)))):=by
          unfold U7 at hset
          rw [i1] at hset
          simp only [i3,oj,pj] at hset
          exact hset.2.symm
         subst hb'
         have hal:=MK z7 (len:=len + xs.length) (off:=off) (e:=e) (A':=A1) i1 i2 i4 j1 (by omega) j4
         obtain ⟨i,z,hi,hiz,hisz,hby,hzc,hzl⟩:=Vj (P:=P) hp hte hT
         have hnl:news.length=xs.length * e.size:=HD (fun d c G hd=>Qy e hd) q2
         have hone:∀ u ∈ news,u.oneCell'=true:=CB (fun d c F=>HW e) q2
         have hsr:Src P i.size tx (a.eval x) xs.length news w:=q3.src hd' (by rw [hisz]; exact hnl) hone
         have hex:a.eval s=.slice A1 len (k0 - off):=j3
         have hgoal:(Builtin.append_ #[t,tx] o.type #[.slice A1 len (k0 - off),a.eval x]).run P w=.ok (.slice A1 (len + xs.length) (k0 - off)) w':=by
          by_cases hx0:xs=[]
          ·have hw:=z1 hx0
           subst hw
           subst hx0
           have hn0:news=[]:=List.eq_nil_of_length_eq_zero (by simpa using hnl)
           subst hn0
           have e1:=hsr.len w'
           have e2:=hsr.cells
           simp only [List.length_nil] at e1 e2
           have hr0:len≤k0 - off:=by omega
           cases A1 with
           | none=>simp [Builtin.append_,run_underlying hd,run_underlying hd',sizeOf,typeInfo,hi,e1,e2,hr0]
           | some ad1=>simp [Builtin.append_,run_underlying hd,run_underlying hd',sizeOf,typeInfo,hi,e1,e2,hr0,storeCells]
          ·obtain ⟨ad,rfl⟩:=z3 hx0
           obtain ⟨hw,hu⟩:=z2 ad rfl
           obtain ⟨hun,hsp⟩:=hu hx0
           subst hw
           have hpos:0<xs.length:=List.length_pos_iff.2 hx0
           obtain ⟨ad',r1,r2⟩:=j4 (by omega)
           simp only [oj] at r1
           subst r1
           rw [CV hsp] at r2
           subst r2
           have hsp2:(ad.add ((off + len) * e.size)).spot=none:=To _ _ hsp
           have hr:=run_append_room_src (P:=P) w t tx o.type te i hd hi ad.block (ad.off + off * e.size) len (k0 - off) (a.eval x) xs.length news hsr (by omega)
            (fun j hj=>by
             obtain ⟨⟨u,hu⟩,_⟩:=hun j hj
             rw [Ha,CV hsp] at hu
             rw [hisz,show ad.off + off * e.size + len * e.size + j=ad.off + ((off + len) * e.size + j) by rw [Nat.add_mul]; omega,hu]; rfl)
            (fun j hj=>by
             obtain ⟨_,hu⟩:=hun j hj
             rw [Ha,CV hsp] at hu
             rw [hisz,show ad.off + off * e.size + len * e.size + j=ad.off + ((off + len) * e.size + j) by rw [Nat.add_mul]; omega,hu])
           rw [hisz,show ad.off + off * e.size + len * e.size=ad.off + (off + len) * e.size by rw [Nat.add_mul]; omega] at hr
           exact hr
         rw [← hex] at hgoal
         refine ⟨_,w',G',.inl (hrun _ _ hgoal),z5.c,hs1.go0 z7,?_⟩
         rw [JY rfl (by simp) (by simp)]
         exact hal
        ·simp at hv
       ·simp at hv
      ·simp at hv
     ·simp at hv
    ·simp at hv
   ·simp at hv
  ·simp at hv
theorem So {o:Bool} {w:World}:∀ {l:List D} {cs:List Value} {F:List Nat},Row (DIn o w (.int .u8)) l cs F→cs=(l.map D.toInt).map (Value.int .u8)
 | [],cs,F,h=>by obtain ⟨rfl,_⟩:=h; rfl
 | d :: l,cs,F,⟨c1,c2,F1,F2,e1,e2,h1,h2⟩=>by
  unfold DIn at h1
  rw [e1,h1.1,So h2]; rfl
theorem MN (HT:J0 P A.ty) (hc:Qd w bl G w0 F0) (hs:JP (Jc w bl G []) sl a) {s t:TypeId} {x:Operand} {e:Ty} {c:List Jt} {v:V} {b:BL} (h:o.op=.convert s t x) (hts:A.ty s=.slice e) (htt:A.ty t=.str)
  (hv:WU e bl (opd sl x)=some (c,v,b)) (hk:∀ k ∈ c,k.ok):JH P w0 F0 sl a w o v b:=by
 unfold WU at hv
 split at hv
 ·rename_i he8
  have he:=Ty.beq_eq _ _ he8
  subst he
  split at hv
  ·rename_i c1 e1 l hel
   split at hv
   ·rename_i hbe
    have hee:=Ty.beq_eq _ _ hbe
    subst hee
    simp only [oj,pj] at hv
    obtain ⟨rfl,rfl,rfl⟩:=hv
    obtain ⟨d,hd,hdk⟩:=(HT s (by rw [hts]; simp)).desc
    rw [hts] at hdk
    obtain ⟨te,rfl,hte,hne⟩:=Us hdk
    obtain ⟨d2,hd2,hk2⟩:=(HT te (by rw [hte]; simp)).desc
    rw [hte] at hk2
    have e2:=Ot hk2
    subst e2
    obtain ⟨d3,hd3,hk3⟩:=(HT t (by rw [htt]; simp)).desc
    rw [htt] at hk3
    have e3:=Cy hk3
    subst e3
    obtain ⟨Ad,cap,F,h1,h2,h3,h4⟩:=VZ hc (J1 hs x) hel hk
    have hrun:(convert s t (.slice Ad l.length cap)).run P w=.ok (.string (VM l)) w:=by
     rw [run_convert_bytes_string w s t te Ad l.length cap hd hd2 hd3]
     rcases h2 with ⟨g1,g2,g3⟩ | ⟨ad,cs,F',g1,g2,g3,_⟩
     ·subst g1
      cases Ad with
      | none=>simp [Conv.bytesToString,VM]
      | some ad=>
       have:=run_bytesToString (P:=P) w ad 0 cap [] (by simpa using run_loadCells_list (P:=P) w ad [] (by simp))
       simpa [VM] using this
     ·subst g1
      have hcs:=So g2
      subst hcs
      have:=run_loadCells_list (P:=P) w ad _ g3
      rw [List.length_map,List.length_map] at this
      exact run_bytesToString w ad l.length cap (l.map D.toInt) this
    refine JH.pure hc hs (vv:=.string (VM l)) ?_ (Hq.2 ⟨rfl,rfl⟩)
    simp [execOp,h,h1,hrun]
   ·simp at hv
  ·simp at hv
 ·simp at hv
theorem MO {t tx ty te:TypeId} {i:TypeInfo} {e':TypeId} (hd:P.underlying t=some (.slice te)) (hd':P.underlying tx=some (.slice e')) (hi:P.info? te=some i) {A1 Ad:Option Addr} {len cp n cap m:Nat} {news:List Value} (hm:m=Nat.min n len)
  (hfed:m ≠ 0→∃ ad,Ad=some ad∧QR w ad news) (hnl:news.length=m * i.size) (hone:∀ u ∈ news,u.oneCell'=true)
  (hw:(m=0∧w'=w) ∨ ∃ ad1,A1=some ad1∧ad1.spot=none∧QS w ad1 news.length∧w'=w.setCells ad1.block ad1.off news) :
  (Builtin.copy_ #[t,tx] ty #[.slice A1 len cp,.slice Ad n cap]).run P w=.ok (.int .i64 m) w':=by
 have hsr:Src P i.size tx (.slice Ad m cap) m news w:=Fed.src ⟨Ad,cap,rfl,hfed⟩ hd' hnl hone
 have hcells:(Builtin.firstCells i.size m (.slice Ad n cap)).run P w=.ok news.toArray w:=by
  have h1:=hsr.cells
  cases Ad <;> exact h1
 rcases hw with ⟨h0,rfl⟩ | ⟨ad1,rfl,hsp,hun,rfl⟩
 ·have hn0:news=[]:=List.eq_nil_of_length_eq_zero (by rw [hnl,h0]; simp)
  subst hn0
  cases A1 with
  | none=>simp [Builtin.copy_,run_underlying hd,sizeOf,typeInfo,hi,Builtin.lenOf,← hm,hcells,goInt]
  | some ad=>simp [Builtin.copy_,run_underlying hd,sizeOf,typeInfo,hi,Builtin.lenOf,← hm,hcells,goInt,storeCells]
 ·obtain ⟨b,of,sp⟩:=ad1
  simp only at hsp
  subst hsp
  have hst:=run_storeCells_cells (P:=P) b of news 0 w (fun j hj=>by
   obtain ⟨⟨u,hu⟩,_⟩:=hun j hj
   rw [Addr.add_lit] at hu
   rw [Nat.add_zero,hu]; rfl) (fun j hj=>by
   obtain ⟨_,hu⟩:=hun j hj
   rw [Addr.add_lit] at hu
   rw [Nat.add_zero]; exact hu) hone
  simp only [Nat.add_zero] at hst
  simp [Builtin.copy_,run_underlying hd,sizeOf,typeInfo,hi,Builtin.lenOf,← hm,hcells,goInt,hst]
theorem MP (HT:J0 P A.ty) (hc:Qd w bl G w0 F0) (hs:JP (Jc w bl G []) sl a) {c:Call} {co:List Jt} {v:V} {b:BL} (h:o.op=.call c) (hcal:c.callee=.builtin .copy)
  (hv:Qj A sl bl o.dst .copy c.argTypes.toList (Jy sl c.args.toList)=some (co,v,b)) (hk:∀ k ∈ co,k.ok):JH P w0 F0 sl a w o v b:=by
 match hargs:c.args.toList with
 | []=>rw [hargs] at hv; simp [Jy,Qj] at hv
 | [x]=>rw [hargs] at hv; simp [Jy,Qj] at hv
 | x :: y :: z :: r=>rw [hargs] at hv; simp [Jy,Qj] at hv
 | [s,x]=>
  rw [hargs] at hv
  simp only [Jy,Qj] at hv
  split at hv
  ·rename_i t tx hts
   split at hv
   ·rename_i e hty
    obtain ⟨htx,hv⟩:=Ux hv
    obtain ⟨e',hd'⟩:=V1 HT htx
    obtain ⟨d,hd,hdk⟩:=(HT t (by rw [hty]; simp)).desc
    rw [hty] at hdk
    obtain ⟨te,rfl,hte,hne⟩:=Us hdk
    have hT:=HT te (by rw [hte]; exact hne)
    have hats:c.argTypes=#[t,tx]:=by apply Array.toList_inj.1; rw [hts]
    have hrun:∀ vv w2,(Builtin.copy_ #[t,tx] o.type #[a.eval s,a.eval x]).run P w=.ok vv w2→(execOp a.eval o).run P w=.ok (.value vv) w2:=by
     intro vv w2 hr
     refine Vl h hcal hargs (fun cs=>?_)
     rw [hats]
     simp [builtin,hr]
    unfold OS at hv
    split at hv
    ·rename_i c1 xs b1 hsrc
     obtain ⟨hpz,hsrc⟩:=Ux hsrc
     rw [Jg] at hpz
     obtain ⟨hp,hz0⟩:=hpz
     have hz:e.size ≠ 0:=by
      intro h0
      rw [h0] at hz0
      simp [J3] at hz0
     split at hv
     ·rename_i hf
      obtain ⟨i,z,hi,hiz,hisz,hby,hzc,hzl⟩:=Vj (P:=P) hp hte hT
      have fin:∀ {t2:Nat} {p:List Nat} {off len:Nat} {l:List D} {c0:V} {rc:List Value} {F:List Nat} {G1:GT} {Lx:Jp} {A0 A1:Option Addr} {n0 k0 cp:Nat} {news:List Value},JZ w b1 G1 [] w0 F0→JP (Jc w b1 G1 []) sl a →
        Row (DIn true w e) xs news []→Fed w (a.eval x) xs.length news→Jd b1 t2=some c0→G1 t2=some (rc,F)→Jj w c0 (.reg rc) p=some (.own e l,Lx)→Lx.head w=some (.slice A0 n0 k0) →
        off + len≤l.length→a.eval s=.slice A1 len cp→((xs.take len) ≠ []→∀ ad,A0=some ad→ad.spot=none→A1=some (ad.add (off * e.size))) →
        JH P w0 F0 sl a w o (.int .i64 (xs.take len).length) (JM b1 t2 (c0.set p (.own e (l.take off ++ xs.take len ++ l.drop (off + (xs.take len).length))))):=by
       intro t2 p off len l c0 rc F G1 Lx A0 A1 n0 k0 cp news hc1 hs1 q2 q3 i1 i2 i4 j1 hroom hex hA
       obtain ⟨Ad,cap,hvx,hfed⟩:=q3
       obtain ⟨d1,d2,K1,K2,y1,y2,y3,y4,y5⟩:=Va (fun d c G hd=>Qy e hd) (n:=(xs.take len).length) q2 (by simp; omega)
       have hK1:K1=[]:=by
        have:K1 ++ K2=[]:=y2.symm
        simpa using (List.append_eq_nil_iff.1 this).1
       subst hK1
       have htk:xs.take (xs.take len).length=xs.take len:=by
        rw [List.length_take]
        rcases Nat.le_total len xs.length with hl | hl
        ·rw [Nat.min_eq_left hl]
        ·rw [Nat.min_eq_right hl,List.take_of_length_le (Nat.le_refl _),List.take_of_length_le hl]
       rw [htk] at y4
       have hone:∀ u ∈ d1,u.oneCell'=true:=CB (fun d c F=>HW e) y4
       obtain ⟨w',G',z1,z2,z3,z4,z5,⟨F2,z6⟩,z7⟩:=YK (X:=[]) hc1 (i:=off) (xs:=xs.take len) (news:=d1) i1 i2 i4 j1 hf hz (by simp; omega) y4
       have hm:(xs.take len).length=Nat.min xs.length len:=by rw [List.length_take]; exact Nat.min_comm _ _
       have hgoal:(Builtin.copy_ #[t,tx] o.type #[.slice A1 len cp,.slice Ad xs.length cap]).run P w=.ok (.int .i64 ((xs.take len).length:Nat)) w':=by
        refine MO (w':=w') hd hd' hi hm (news:=d1) (fun hm0=>?_) (by rw [y3,hisz]) hone ?_
        ·obtain ⟨ad,e1,e2⟩:=hfed (by intro h0; apply hm0; rw [hm,h0]; simp)
         refine ⟨ad,e1,fun j u hj=>e2 j u ?_⟩
         rw [y1,List.getElem?_append_left (List.getElem?_eq_some_iff.1 hj).1]; exact hj
        ·by_cases hx0:xs.take len=[]
         ·exact .inl ⟨by rw [hx0]; rfl,z1 hx0⟩
         ·obtain ⟨ad,rfl⟩:=z3 hx0
          obtain ⟨hw,hu⟩:=z2 ad rfl
          obtain ⟨hun,hsp⟩:=hu hx0
          refine .inr ⟨ad.add (off * e.size),hA hx0 ad rfl hsp,To _ _ hsp,hun,?_⟩
          rw [hw,Q1,On]
       rw [← hex,← hvx] at hgoal
       exact ⟨_,w',G',.inl (hrun _ _ hgoal),z5.c,hs1.go0 z7,Qq.2 ⟨rfl,rfl⟩⟩
      split at hv
      ·rename_i t2 p e2 hse
       split at hv
       ·rename_i hb1
        have hee0:=Ty.beq_eq _ _ hb1
        subst hee0
        split at hv
        ·rename_i c2 e3 l hga
         split at hv
         ·rename_i cx b2 hset
          obtain ⟨hb2,hv2⟩:=Ux hv
          have hee:=Ty.beq_eq _ _ hb2
          subst hee
          simp only [oj,pj] at hv2
          obtain ⟨rfl,rfl,rfl⟩:=hv2
          obtain ⟨hk1,hk2⟩:=Q4 hk
          obtain ⟨Fs,G1,q1,⟨news,q2,q3⟩,q4⟩:=Vk hc (J1 hs x) hp hsrc hk1
          have hFs:Fs=[]:=Hd (fun d c G hd=>He e hf hd) q2
          subst hFs
          have hc1:Qd w b1 G1 w0 F0:=q1.c
          have hs1:JP (Jc w b1 G1 []) sl a:=hs.go0 q4
          have hsv1:=J1 hs1 s
          rw [hse] at hsv1
          obtain ⟨c0,rc,F,i1,i2,i3,Lx,csx,Fx,i4,i5,i6,i7,i8,i9⟩:=Uw hc1 hga hk2
          have hh:=CA hsv1 i1 i2 i4 rfl
          have hh2:Lx.head w=some (a.eval s):=hh
          have i5':=i5
          unfold InV at i5'
          obtain ⟨_,Ad,cap,hcs',hsl⟩:=i5'
          rw [hcs'] at i6
          have hhd:Lx.head w=some (.slice Ad l.length cap):=J2 i6
          rw [hhd] at hh2
          simp only [oj] at hh2
          have hb':b2=JM b1 t2 (c0.set p (.own e (l.take 0 ++ xs.take l.length ++ l.drop (0 + (xs.take l.length).length)))):=by
           unfold U7 at hset
           rw [i1] at hset
           simp only [i3,oj,pj] at hset
           exact hset.2.symm
          subst hb'
          exact fin (off:=0) (len:=l.length) hc1.x hs1 q2 q3 i1 i2 i4 hhd (by omega) hh2.symm (fun _ ad ha hsp=>by rw [ha]; simp [Addr.add])
         ·simp at hv
        ·simp at hv
       ·simp at hv
      ·rename_i t2 p off len e2 hse
       split at hv
       ·rename_i hb1
        have hee0:=Ty.beq_eq _ _ hb1
        subst hee0
        split at hv
        ·rename_i c2 e3 l hga
         split at hv
         ·rename_i cx b2 hset
          obtain ⟨hb2,hv2⟩:=Ux hv
          have hee:=Ty.beq_eq _ _ hb2
          subst hee
          simp only [oj,pj] at hv2
          obtain ⟨rfl,rfl,rfl⟩:=hv2
          obtain ⟨hk12,hk3⟩:=Q4 hk
          obtain ⟨hk1,hk2⟩:=Q4 hk12
          obtain ⟨Fs,G1,q1,⟨news,q2,q3⟩,q4⟩:=Vk hc (J1 hs x) hp hsrc hk1
          have hFs:Fs=[]:=Hd (fun d c G hd=>He e hf hd) q2
          subst hFs
          have hroom:off + len≤l.length:=hk3 (.le (off + len) l.length) (by simp)
          have hc1:Qd w b1 G1 w0 F0:=q1.c
          have hs1:JP (Jc w b1 G1 []) sl a:=hs.go0 q4
          have hsv1:=J1 hs1 s
          rw [hse] at hsv1
          obtain ⟨c0,rc,F,i1,i2,i3,Lx,csx,Fx,i4,i5,i6,i7,i8,i9⟩:=Uw hc1 hga hk2
          obtain ⟨A0,n0,k0,A1,j1,j2,j3,j4⟩:=VY hsv1 i1 i2 i4 rfl
          have j1':Lx.head w=some (.slice A0 n0 k0):=j1
          have hex:a.eval s=.slice A1 len (k0 - off):=j3
          have hb':b2=JM b1 t2 (c0.set p (.own e (l.take off ++ xs.take len ++ l.drop (off + (xs.take len).length)))):=by
           unfold U7 at hset
           rw [i1] at hset
           simp only [i3,oj,pj] at hset
           exact hset.2.symm
          subst hb'
          refine fin (off:=off) (len:=len) hc1.x hs1 q2 q3 i1 i2 i4 j1' hroom hex (fun hx0 ad ha hsp=>?_)
          have hpos:0<(xs.take len).length:=List.length_pos_iff.2 hx0
          have hlen:0<len:=by rw [List.length_take] at hpos; omega
          obtain ⟨ad',r1,r2⟩:=j4 (by omega)
          rw [ha] at r1
          simp only [oj] at r1
          rw [r2,r1]
         ·simp at hv
        ·simp at hv
       ·simp at hv
      ·simp at hv
     ·simp at hv
    ·simp at hv
   ·simp at hv
  ·simp at hv
theorem MQ {cs:List Value} {n s:Nat} (h:cs.length=s):Builtin.zeroCells cs.toArray n=(J9 n cs).toArray:=by
 have h1:=V8 (n:=n) h
 rw [← h1]
 unfold Builtin.zeroCells
 rw [List.size_toArray,h]
theorem MR (HT:J0 P A.ty) (hc:Qd w bl G w0 F0) (hs:JP (Jc w bl G []) sl a) {c:Call} {co:List Jt} {v:V} {b:BL} (h:o.op=.call c) (hcal:c.callee=.builtin .clear)
  (hv:Qj A sl bl o.dst .clear c.argTypes.toList (Jy sl c.args.toList)=some (co,v,b)) (hk:∀ k ∈ co,k.ok):JH P w0 F0 sl a w o v b:=by
 match hargs:c.args.toList with
 | []=>rw [hargs] at hv; simp [Jy,Qj] at hv
 | x :: z :: r=>rw [hargs] at hv; simp [Jy,Qj] at hv
 | [s]=>
  rw [hargs] at hv
  simp only [Jy,Qj] at hv
  split at hv
  ·rename_i t hts
   split at hv
   ·rename_i e hty
    obtain ⟨d,hd,hdk⟩:=(HT t (by rw [hty]; simp)).desc
    rw [hty] at hdk
    obtain ⟨te,rfl,hte,hne⟩:=Us hdk
    have hT:=HT te (by rw [hte]; exact hne)
    have hats:c.argTypes=#[t]:=by apply Array.toList_inj.1; rw [hts]
    have hrun:∀ w2,(Builtin.clear_ #[t] o.type #[a.eval s]).run P w=.ok (.tuple #[]) w2→(execOp a.eval o).run P w=.ok (.value (.tuple #[])) w2:=by
     intro w2 hr
     refine Vl h hcal hargs (fun cs=>?_)
     rw [hats]
     simp [builtin,hr]
    unfold KV at hv
    split at hv
    ·rename_i t2 p off len e' hse
     split at hv
     ·rename_i hb1
      rw [Jg,Jg] at hb1
      obtain ⟨hf,hbe,hz0⟩:=hb1
      have hee0:=Ty.beq_eq _ _ hbe
      subst hee0
      have hz:e.size ≠ 0:=by
       intro h0
       rw [h0] at hz0
       simp [J3] at hz0
      split at hv
      ·rename_i c2 e3 l hga
       split at hv
       ·rename_i cx b2 hset
        obtain ⟨hb2,hv2⟩:=Ux hv
        have hee:=Ty.beq_eq _ _ hb2
        subst hee
        simp only [oj,pj] at hv2
        obtain ⟨rfl,rfl,rfl⟩:=hv2
        obtain ⟨hk1,hk2⟩:=Q4 hk
        have hroom:off + len≤l.length:=hk2 (.le (off + len) l.length) (by simp)
        have hsv1:=J1 hs s
        rw [hse] at hsv1
        obtain ⟨c0,rc,F,i1,i2,i3,Lx,csx,Fx,i4,i5,i6,i7,i8,i9⟩:=Uw hc hga hk1
        obtain ⟨A0,n0,k0,A1,j1,j2,j3,j4⟩:=VY hsv1 i1 i2 i4 rfl
        have j1':Lx.head w=some (.slice A0 n0 k0):=j1
        have hex:a.eval s=.slice A1 len (k0 - off):=j3
        have hp:e.plain=true:=by
         unfold InV at i5
         exact i5.1
        obtain ⟨i,z,hi,hiz,hisz,hby,hzc,hzl⟩:=Vj (P:=P) hp hte hT
        have hb':b2=JM bl t2 (c0.set p (.own e (l.take off ++ List.replicate len (QZ e) ++ l.drop (off + (List.replicate len (QZ e)).length)))):=by
         unfold U7 at hset
         rw [i1] at hset
         simp only [i3,oj,pj] at hset
         exact hset.2.symm
        subst hb'
        have hrow:Row (DIn true w e) (List.replicate len (QZ e)) (J9 len (JT e)) []:=Ox (Cj e hp) len
        obtain ⟨w',G',z1,z2,z3,z4,z5,⟨F2,z6⟩,z7⟩:=YK (X:=[]) hc.x (i:=off) (xs:=List.replicate len (QZ e)) (news:=J9 len (JT e)) i1 i2 i4 j1' hf hz (by simpa using hroom) hrow
        have hone:∀ u ∈ J9 len (JT e),u.oneCell'=true:=CB (fun d c F=>HW e) hrow
        have hgoal:(Builtin.clear_ #[t] o.type #[.slice A1 len (k0 - off)]).run P w=.ok (.tuple #[]) w':=by
         by_cases hl0:len=0
         ·subst hl0
          have hw:=z1 rfl
          subst hw
          cases A1 <;> simp [Builtin.clear_,run_underlying hd]
         ·have hx0:List.replicate len (QZ e) ≠ []:=by
           intro h0
           have:=congrArg List.length h0
           simp at this; exact hl0 this
          obtain ⟨ad,rfl⟩:=z3 hx0
          obtain ⟨hw,hu⟩:=z2 ad rfl
          obtain ⟨hun,hsp⟩:=hu hx0
          subst hw
          obtain ⟨ad',r1,r2⟩:=j4 (by omega)
          simp only [oj] at r1
          subst r1
          rw [CV hsp] at r2 hun
          subst r2
          have hst:=run_storeCells_cells (P:=P) ad.block (ad.off + off * e.size) (J9 len (JT e)) 0 w (fun j hj=>by
           obtain ⟨⟨u,hu⟩,_⟩:=hun j hj
           rw [Addr.add_lit] at hu
           rw [Nat.add_zero,hu]; rfl) (fun j hj=>by
           obtain ⟨_,hu⟩:=hun j hj
           rw [Addr.add_lit] at hu
           rw [Nat.add_zero]; exact hu) hone
          simp only [Nat.add_zero] at hst
          obtain ⟨ln,rfl⟩:∃ m,len=m + 1:=⟨len - 1,by omega⟩
          have hzr:Builtin.zeroCells z.cells (ln + 1)=(J9 (ln + 1) (JT e)).toArray:=by rw [hzc]; exact MQ hzl
          simp [Builtin.clear_,run_underlying hd,zeroValue,typeInfo,hi,hiz,hzr,hst]
        rw [← hex] at hgoal
        exact ⟨_,w',G',.inl (hrun _ hgoal),z5.c,hs.go0 z7,⟨#[],rfl,rfl,rfl⟩⟩
       ·simp at hv
      ·simp at hv
     ·simp at hv
    ·simp at hv
   ·simp at hv
  ·simp at hv
end
end Go.Rai
namespace Go.Rai
variable [Inhabited Qk]
section
variable {P:Program} {A:Ann} {w w' w0:World} {F0:List Nat} {sl:List V} {a:Act} {bl b':BL} {G:GT} {o:Oper} {X:List Nat}
theorem YL {E:Env} (hs:JP E sl a) {f:Int→Int→Int} {g:Value→Value→Sem Value} (hg:∀ k x k' y,(g (.int k x) (.int k' y)).run P w=.ok (.int k (f x y)) w) :
  ∀ (ys:List Operand) {x:V} {vx:Value} {v:V},Val E x vx []→CP f x (Jy sl ys)=some v→(∃ k n,v=.int k n)→∃ vv,((ys.map a.eval).foldlM g vx).run P w=.ok vv w∧Val E v vv []
 | [],x,vx,v,hx,h,hv=>by
  simp only [Jy,CP,oj] at h
  subst h
  exact ⟨vx,by simp,hx⟩
 | y :: ys,x,vx,v,hx,h,hv=>by
  have hy:=J1 hs y
  simp only [Jy] at h
  cases x with
  | int k p=>
   cases hye:opd sl y with
   | int k' q=>
    rw [hye] at h hy
    simp only [CP] at h
    split at h
    ·obtain ⟨rfl,_⟩:=Qq.1 hx
     obtain ⟨hy,_⟩:=Qq.1 hy
     obtain ⟨vv,r1,r2⟩:=YL hs hg ys (x:=.int k (f p q)) (vx:=.int k (f p q)) (Qq.2 ⟨rfl,rfl⟩) h hv
     refine ⟨vv,?_,r2⟩
     simp only [List.map_cons,List.foldlM_cons,Sem.run_bind,hy,hg,Result.andThen_ok]
     exact r1
    ·simp at h
   | _=>rw [hye] at h; simp [CP] at h
  | _=>simp [CP] at h
theorem Sp (hc:Qd w bl G w0 F0) (hs:JP (Jc w bl G []) sl a) {c:Call} {bu:Builtin} (hbu:bu=.max ∨ bu=.min) {co:List Jt} {v:V} {b:BL} (h:o.op=.call c) (hcal:c.callee=.builtin bu)
  (hv:Qj A sl bl o.dst bu c.argTypes.toList (Jy sl c.args.toList)=some (co,v,b)):JH P w0 F0 sl a w o v b:=by
 match hargs:c.args.toList with
 | []=>rw [hargs] at hv; rcases hbu with rfl | rfl <;> simp [Jy,Qj] at hv
 | x :: ys=>
  rw [hargs] at hv
  rcases hbu with rfl | rfl
  ·simp only [Jy,Qj] at hv
   split at hv
   ·rename_i k n hm
    simp only [oj,pj] at hv
    obtain ⟨rfl,rfl,rfl⟩:=hv
    obtain ⟨vv,r1,r2⟩:=YL (P:=P) (w:=w) hs (g:=Builtin.max2) (fun k x k' y=>by simp [Builtin.max2]) ys (J1 hs x) hm ⟨_,_,rfl⟩
    refine JH.pure hc hs (vv:=vv) (Vl h hcal hargs (fun cs=>?_)) r2
    simp [builtin,Builtin.max_,r1]
   ·simp at hv
  ·simp only [Jy,Qj] at hv
   split at hv
   ·rename_i k n hm
    simp only [oj,pj] at hv
    obtain ⟨rfl,rfl,rfl⟩:=hv
    obtain ⟨vv,r1,r2⟩:=YL (P:=P) (w:=w) hs (g:=Builtin.min2) (fun k x k' y=>by simp [Builtin.min2]) ys (J1 hs x) hm ⟨_,_,rfl⟩
    refine JH.pure hc hs (vv:=vv) (Vl h hcal hargs (fun cs=>?_)) r2
    simp [builtin,Builtin.min_,r1]
   ·simp at hv
theorem MS (HT:J0 P A.ty) (hc:Qd w bl G w0 F0) (hs:JP (Jc w bl G []) sl a) {op:Op} (h:o.op=op) {c:List Jt} {v:V} {b:BL} (hv:JS A sl bl o.dst op=some (c,v,b)) (hk:∀ k ∈ c,k.ok) :
  JH P w0 F0 sl a w o v b:=by
 unfold JS at hv
 split at hv
 ·simp only [oj,pj] at hv
  obtain ⟨rfl,rfl,rfl⟩:=hv
  exact JH.pure hc hs (N9 h) (J1 hs _)
 ·simp only [oj,pj] at hv
  obtain ⟨rfl,rfl,rfl⟩:=hv
  exact JH.pure hc hs (Ma h) (J1 hs _)
 ·split at hv
  ·rename_i hp
   simp only [oj,pj] at hv
   obtain ⟨rfl,rfl,rfl⟩:=hv
   exact Mb hc hs h hp
  ·simp at hv
 ·split at hv
  ·rename_i hz
   exact Mz HT hc hs h hz (HX hv).2
  ·simp at hv
 ·split at hv
  ·rename_i hz
   exact MA hc hs h hz (HX hv).2
  ·simp at hv
 ·split at hv
  ·rename_i fs hty
   split at hv
   ·rename_i hz
    split at hv
    ·rename_i vs hf
     simp only [oj,pj] at hv
     obtain ⟨rfl,rfl,rfl⟩:=hv
     exact MB HT hc hs h hty hz hf
    ·simp at hv
   ·simp at hv
  ·simp at hv
 ·split at hv
  ·rename_i e hty
   split at hv
   ·rename_i hz
    rw [Jg] at hz
    split at hv
    ·rename_i vs hf
     exact MC HT hc hs h hty hz.1 (Nat.le_of_ble_eq_true hz.2) hf hv
    ·simp at hv
   ·simp at hv
  ·simp at hv
 ·exact Mk HT hc hs h hv hk
 ·split at hv
  ·simp at hv
  ·rename_i hz
   exact MF HT hc hs h (fun h0=>by rw [h0] at hz; simp at hz) hv hk
 ·split at hv
  ·rename_i hx
   simp only [oj,pj] at hv
   obtain ⟨rfl,rfl,rfl⟩:=hv
   exact Ys hc hs h hx (.inl ⟨_,_,rfl⟩)
  ·rename_i hx
   simp only [oj,pj] at hv
   obtain ⟨rfl,rfl,rfl⟩:=hv
   exact Ys hc hs h hx (.inr (.inl ⟨_,rfl⟩))
  ·rename_i hx
   simp only [oj,pj] at hv
   obtain ⟨rfl,rfl,rfl⟩:=hv
   exact Ys hc hs h hx (.inr (.inr ⟨_,_,rfl⟩))
  ·simp at hv
 ·split at hv
  ·rename_i hb
   simp only [oj,pj] at hv
   obtain ⟨rfl,rfl,rfl⟩:=hv
   exact Mw HT hc hs h hb hk
  ·simp at hv
 ·split at hv
  ·rename_i hb
   simp only [oj,pj] at hv
   obtain ⟨rfl,rfl,rfl⟩:=hv
   exact Mc hc hs h hb
  ·simp at hv
 ·split at hv
  ·rename_i hsl
   split at hv
   ·rename_i e hts htt
    exact MN HT hc hs h hts htt hv hk
   ·simp at hv
  ·exact Md HT hc hs h hv
 ·split at hv
  ·rename_i f hfi
   split at hv
   ·rename_i hcap
    simp only [oj,pj] at hv
    obtain ⟨rfl,rfl,rfl⟩:=hv
    exact Mg hc hs h hfi hcap
   ·simp at hv
  ·simp at hv
 ·split at hv
  ·rename_i e hty
   split at hv
   ·rename_i hp
    split at hv
    ·rename_i ln cn h1 h2
     obtain ⟨rfl,hfr⟩:=HX hv
     exact MD HT hc hs h hty hp h1 h2 (hk _ (by simp)) hfr
    ·simp at hv
   ·simp at hv
  ·simp at hv
 ·exact Ms HT hc hs h hv hk
 ·exact Mm HT hc hs h hv hk
 ·split at hv
  ·rename_i hf
   simp only [oj,pj] at hv
   obtain ⟨rfl,rfl,rfl⟩:=hv
   exact Mn HT hc hs h hf
  ·simp at hv
 ·exact Mp HT hc hs h hv hk
 ·split at hv
  ·rename_i hty
   exact Mf HT hc hs h hty hv hk
  ·simp at hv
 ·split at hv
  ·rename_i vs hx
   split at hv
   ·rename_i hn
    simp only [oj,pj] at hv
    obtain ⟨rfl,rfl,rfl⟩:=hv
    exact Me hc hs h hx hn
   ·simp at hv
  ·simp at hv
 ·rename_i cl
  split at hv
  ·rename_i f hcal
   cases f with
   | len=>exact Mi (xs:=[]) HT hc hs h hcal hv hk
   | cap=>exact Mj HT hc hs h hcal hv
   | append=>exact MM HT hc hs h hcal hv hk
   | copy=>exact MP HT hc hs h hcal hv hk
   | clear=>exact MR HT hc hs h hcal hv hk
   | max=>exact Sp hc hs (.inl rfl) h hcal hv
   | min=>exact Sp hc hs (.inr rfl) h hcal hv
   | _=>simp [Qj] at hv
  ·simp at hv
 ·simp at hv
end
end Go.Rai
namespace Go.Rai
variable [Inhabited Qk]
mutual
theorem CF {R:Type}:∀ (v:V) (κ:V→Option R),QH v κ=κ v
 | .agg vs,κ=>by unfold QH; rw [U3 vs]
 | .lst e vs,κ=>by unfold QH; rw [U3 vs]
 | .tup vs,κ=>by unfold QH; rw [U3 vs]
 | .fn f vs,κ=>by unfold QH; rw [U3 vs]
 | .obox v,κ=>by unfold QH; rw [CF v]
 | .rp v,κ=>by unfold QH; rw [CF v]
 | .full s p e,κ=>by unfold QH; rw [Oz p]
 | .sub s p o l e,κ=>by unfold QH; rw [Oz p]
 | .ptr s p,κ=>by unfold QH; rw [Oz p]
 | .undef,κ=>by unfold QH; rfl
 | .void,κ=>by unfold QH; rfl
 | .int k n,κ=>by unfold QH; rfl
 | .bool b,κ=>by unfold QH; rfl
 | .str s,κ=>by unfold QH; rfl
 | .arr n e l,κ=>by unfold QH; rfl
 | .own e l,κ=>by unfold QH; rfl
 | .rd e l,κ=>by unfold QH; rfl
 | .nilsl,κ=>by unfold QH; rfl
 | .emp e,κ=>by unfold QH; rfl
 | .nilfn,κ=>by unfold QH; rfl
 | .nilptr,κ=>by unfold QH; rfl
theorem U3 {R:Type}:∀ (vs:List V) (κ:List V→Option R),Uz vs κ=κ vs
 | [],κ=>by unfold Uz; rfl
 | v :: vs,κ=>by unfold Uz; rw [CF v,U3 vs]
theorem Oz {R:Type}:∀ (p:List Nat) (κ:List Nat→Option R),UA p κ=κ p
 | [],κ=>by unfold UA; rfl
 | n :: p,κ=>by unfold UA; rw [Oz p]
end
theorem HZ {R:Type}:∀ (b:BL) (κ:BL→Option R),Hk b κ=κ b
 | [],κ=>rfl
 | (k,v) :: r,κ=>by unfold Hk; rw [CF,HZ r]
theorem HE {R:Type}:∀ (l:List V) (n:Nat) (x:V) (κ:List V→Option R),U8 l n x κ=κ (JR l n x)
 | [],_,_,_=>rfl
 | _ :: _,0,_,_=>rfl
 | a :: l,n + 1,x,κ=>by unfold U8 JR; rw [HE l]
def QC (sl:List V):Option Nat→V→List V
 | some t,v=>JR sl t v
 | none,_=>sl
theorem UN {R:Type} (σ:St) (d:Option Nat) (v:V) (b:BL) (κ:St→Option R):QW σ d v b κ=κ ⟨QC σ.sl d v,b⟩:=by
 unfold QW QC
 cases d with
 | none=>simp [HZ]
 | some t=>simp [CF,HE,HZ]
theorem UO {R:Type}:∀ {c:List Jt} {k:Option R} {r:R},QP c k=some r→(∀ x ∈ c,x.ok)∧k=some r
 | [],k,r,h=>⟨fun x hx=>(by cases hx),h⟩
 | x :: c,k,r,h=>by
  have step:∀ (p:Prop) [Decidable p],(p→x.ok)→(if p then QP c k else none)=some r→(∀ y ∈ x :: c,y.ok)∧k=some r:=by
   intro p _ hp hh
   split at hh
   ·rename_i hc
    obtain ⟨h1,h2⟩:=UO hh
    refine ⟨fun y hy=>?_,h2⟩
    rcases List.mem_cons.1 hy with rfl | hy
    ·exact hp hc
    ·exact h1 y hy
   ·cases hh
  cases x <;> exact step _ (fun h=>h) h
theorem OA:∀ (sl:List V) (t u:Nat) (v:V),JN (JR sl t v) u=if u=t∧t<sl.length then v else JN sl u
 | [],t,u,v=>by simp [JR]
 | x :: sl,0,0,v=>by simp [JR,JN]
 | x :: sl,0,u + 1,v=>by simp [JR,JN]
 | x :: sl,t + 1,0,v=>by simp [JR,JN]
 | x :: sl,t + 1,u + 1,v=>by simp [JR,JN,OA sl t u v]
theorem Vm {α:Type}:∀ (l:List α) (n:Nat) (x:α),(JR l n x).length=l.length
 | [],_,_=>rfl
 | _ :: _,0,_=>rfl
 | a :: l,n + 1,x=>by simp [JR,Vm l]
section
variable {P:Program} {A:Ann} {w w' w0:World} {F0:List Nat} {sl:List V} {a:Act} {bl b':BL} {G:GT} {o:Oper} {X:List Nat}
theorem JP.put {E:Env} (hs:JP E sl a) (hl:a.tmps.size=sl.length) {d:Option Nat} {v:V} {vv:Value} (hv:Val E v vv []):JP E (QC sl d v) (a.put d vv):=by
 cases d with
 | none=>exact hs
 | some t=>
  intro u
  simp only [QC,Act.put,OA]
  by_cases hu:u=t∧t<sl.length
  ·obtain ⟨rfl,hlt⟩:=hu
   rw [if_pos ⟨rfl,hlt⟩]
   have:(a.tmps.setIfInBounds u vv).getD u undef=vv:=by
    rw [Array.getD_eq_getD_getElem?,Array.getElem?_setIfInBounds_self_of_lt (by omega)]
    rfl
   rw [this]; exact hv
  ·rw [if_neg hu]
   have:(a.tmps.setIfInBounds t vv).getD u undef=a.tmps.getD u undef:=by
    rw [Array.getD_eq_getD_getElem?,Array.getD_eq_getD_getElem?]
    by_cases hut:t=u
    ·subst hut
     have:¬ t<sl.length:=fun h=>hu ⟨rfl,h⟩
     rw [Array.setIfInBounds_eq_of_size_le (by omega)]
    ·rw [Array.getElem?_setIfInBounds_ne hut]
   rw [this]; exact hs u
theorem MT {Pn:Nat→Option Value} (hp:∀ t v,Pn t=some v→a.tmps.getD t undef=v) {d:Option Nat} (hdst:∀ t,d=some t→Pn t=none) {vv:Value}:∀ t v,Pn t=some v→(a.put d vv).tmps.getD t undef=v:=by
 intro t v h
 cases d with
 | none=>exact hp t v h
 | some u=>
  have hne:u ≠ t:=fun e=>by
   subst e
   rw [hdst u rfl] at h
   cases h
  have:=hp t v h
  rw [Array.getD_eq_getD_getElem?] at this ⊢
  simp only [Act.put]
  rw [Array.getElem?_setIfInBounds_ne hne]
  exact this
theorem Rel.put {Pn:Nat→Option Value} (hc:Qd w bl G w0 F0) (hs:JP (Jc w bl G []) sl a) (hl:a.tmps.size=sl.length) (hd:a.defers=[]) (hp:∀ t v,Pn t=some v→a.tmps.getD t undef=v) {d:Option Nat} (hdst:∀ t,d=some t→Pn t=none) {v:V} {vv:Value} (hv:Val (Jc w bl G []) v vv []) :
  Rel Pn w0 F0 ⟨QC sl d v,bl⟩ (a.put d vv) w:=by
 refine ⟨⟨G,hc,hs.put hl hv⟩,?_,?_,MT hp hdst⟩
 ·cases d with
  | none=>exact hl
  | some t=>simp [Act.put,QC,Vm,hl]
 ·cases d <;> exact hd
end
def Xg (P:Program) (c:Code) (Q:Exit→Act→World→Prop) (a:Act) (w:World):Prop:=
 ∀ (b:Frame) (k:List Item) (cs:List Frame),∃ e a' w',Q e a' w'∧Arrives P (lone (b.at a (.code c :: .inLoop c :: k)) cs w) b k cs e a' w'
theorem MU {P:Program} {c:Code} {Q:Exit→Act→World→Prop} {a:Act} {w:World} (h:Xg P c Q a w):(Code.loop c).wp P Q a w:=by
 intro b k cs
 obtain ⟨e,a',w',hq,harr⟩:=h b k cs
 exact ⟨e,a',w',hq,.of_steps (.one step_loop) harr⟩
theorem MV {P:Program} {c:Code} {Q:Exit→Act→World→Prop} {a:Act} {w:World} (h:c.wp P (Exit.then (Xg P c Q) Q) a w):Xg P c Q a w:=by
 intro b k cs
 obtain ⟨e,a₁,w₁,hq,harr⟩:=h b (.inLoop c :: k) cs
 cases e with
 | normal=>
  obtain ⟨e₂,a₂,w₂,hq₂,harr₂⟩:=hq b k cs
  exact ⟨e₂,a₂,w₂,hq₂,.of_steps (Steps.trans harr (.one step_inLoop)) harr₂⟩
 | exit id=>exact ⟨_,a₁,w₁,hq,.pass (x:=.inLoop c) rfl (fun _ _=>.inl (by simp)) harr⟩
 | goto l=>exact ⟨_,a₁,w₁,hq,.pass (x:=.inLoop c) rfl (fun _ _=>.inl (by simp)) harr⟩
 | ret=>exact ⟨_,a₁,w₁,hq,.pass (x:=.inLoop c) rfl (fun _ _=>.inl (by simp)) harr⟩
 | panic ch=>exact ⟨_,a₁,w₁,hq,.pass (x:=.inLoop c) rfl (fun _ _=>.inl (by simp)) harr⟩
 | outgrown=>exact ⟨_,a₁,w₁,hq,.pass (x:=.inLoop c) rfl (fun _ _=>.inl (by simp)) harr⟩
end Go.Rai
namespace Go.Rai
variable [Inhabited Qk]
section
variable {P:Program} {A:Ann} {w w' w0:World} {F0:List Nat} {sl:List V} {a:Act} {bl b':BL} {G:GT} {o:Oper} {X:List Nat}
theorem Xh (ho:Ok w bl G X) {s:Nat} {p:List Nat} {c:List Jt} {x:V} (hg:Qc bl s p=some (c,x)) (hk:∀ k ∈ c,k.ok) :
  ∃ c0 rc F,Jd bl s=some c0∧G s=some (rc,F)∧∃ Lx csx Fx,Jj w c0 (.reg rc) p=some (x,Lx)∧InV (Jc w bl G X) x csx Fx∧Lx.holds w csx∧(∀ b ∈ Fx,b<w.heap.size∧b ∉ X)∧∀ ad,Lx=.mem ad→ad.block<w.heap.size∧ad.block ∉ X:=by
 unfold Qc at hg
 split at hg
 ·rename_i c0 hl
  obtain ⟨rc,F,F1,h1,h2,h3,h4,h5⟩:=ho.root s c0 hl
  obtain ⟨Lx,h6⟩:=HQ (Jc w bl G X) p c0 rc F1 (.reg rc) c x h2 ⟨[],by simp⟩ hg hk
  obtain ⟨csx,Fx,Fr,i1,i2,i3,i4,_⟩:=ho.modify hl h1 h6
  exact ⟨c0,rc,F,hl,h1,Lx,csx,Fx,h6,i1,i2,fun b hb=>h5 b ((i3.mem_iff).2 (by simp [hb])),fun ad had=>by
   rcases i4 with ⟨a',ha',hin⟩ | ⟨ds,hds⟩
   ·rw [had] at ha'; cases ha'
    exact h5 _ ((i3.mem_iff).2 (by simp [hin]))
   ·rw [had] at hds; cases hds⟩
 ·simp at hg
theorem Sr {E:Env} {e:Ty} (hp:e.plain=true):∀ {n:Nat} {vs:List V} {cs:List Value},JU (rep n e) vs=true→OP vs=true→Jo E vs cs []→∃ F,Row (DIn false E.w e) (Uj vs) cs F∧∀ b ∈ F,E.Sb e b
 | 0,vs,cs,h,_,hi=>by
  cases vs <;> simp [rep,JU] at h
  unfold Jo at hi
  obtain ⟨rfl,_⟩:=hi
  exact ⟨[],⟨rfl,rfl⟩,fun b hb=>by cases hb⟩
 | n + 1,vs,cs,h,ho,hi=>by
  cases vs with
  | nil=>simp [rep,JU] at h
  | cons v vs=>
   simp only [rep,JU,Jg] at h
   cases v <;> simp [OP] at ho
   rename_i e1 l
   unfold Jo at hi
   obtain ⟨c1,c2,F1,F2,e1',e2',h1,h2⟩:=hi
   obtain ⟨rfl,rfl⟩:=List.append_eq_nil_iff.1 e2'.symm
   obtain ⟨F,g1,g2⟩:=Sr hp h.2 ho h2
   unfold InV at h1
   obtain ⟨_,_,Ad,cap,F',q1,q2,q3⟩:=h1
   have he:e=.slice e1:=by
    have:=h.1
    cases e <;> simp [JI] at this
    rw [Ty.beq_eq _ _ this]
   subst he
   refine ⟨F' ++ F,⟨c1,c2,F',F,e1',rfl,?_,g1⟩,fun b hb=>?_⟩
   ·unfold DIn
    exact ⟨Ad,cap,q1,q2⟩
   ·rcases List.mem_append.1 hb with q | q
    ·exact q3 b q
    ·exact g2 b q
theorem Ss {e:Ty} (he:H6 e=false):∀ {n:Nat} {vs:List V},JU (rep n e) vs=true→OP vs=true→Cr vs=true
 | 0,vs,h,_=>by cases vs <;> simp [rep,JU] at h; rfl
 | n + 1,vs,h,ho=>by
  cases vs with
  | nil=>rfl
  | cons v vs=>
   simp only [rep,JU,Jg] at h
   cases v <;> simp [OP] at ho
   rename_i e1 l
   have he1:e=.slice e1:=by
    have:=h.1
    cases e <;> simp [JI] at this
    rw [Ty.beq_eq _ _ this]
   subst he1
   have:H6 e1=false:=he
   unfold Cr noB
   rw [this,Ss he h.2 ho]
   rfl
theorem YM:∀ (n:Nat) {b:BL} {vs ws:List V} {c:List Jt},UC b n vs=some (c,ws)→ws.length=vs.length
 | 0,b,vs,ws,c,h=>by simp [UC] at h
 | n + 1,b,[],ws,c,h=>by simp [UC] at h; rw [h.2]
 | n + 1,b,v :: vs,ws,c,h=>by
  simp only [UC] at h
  split at h
  ·split at h
   ·rename_i h2
    simp only [oj,pj] at h
    obtain ⟨_,rfl⟩:=h
    simp [YM n h2]
   ·simp at h
  ·simp at h
def CX (w:World) (X:List Nat) (Ec:Env) (q:Bool):Prop:=q=true ∨ ∀ b,b<w.heap.size→b ∉ X→Ec.K b
theorem Su (ho:Ok w bl G X) {Ec:Env} (hw:Ec.w=w) (hbl:Ec.bl=[]) (hS:∀ b,b<w.heap.size→b ∉ X→Ec.S b) (hle:Le (Jc w bl G X) Ec):∀ n,
  (∀ {v y:V} {c:List Jt} {cs:List Value} {F:List Nat},InV (Jc w bl G X) v cs F→(∀ b ∈ F,b<w.heap.size∧b ∉ X)→lend bl n v=some (c,y)→(∀ k ∈ c,k.ok)→CX w X Ec (noB y)→InV Ec y cs []) ∧
  (∀ {vs ys:List V} {c:List Jt} {cs:List Value} {F:List Nat},Jo (Jc w bl G X) vs cs F→(∀ b ∈ F,b<w.heap.size∧b ∉ X)→UC bl n vs=some (c,ys)→(∀ k ∈ c,k.ok)→CX w X Ec (Cr ys)→Jo Ec ys cs [])
 | 0=>⟨fun _ _ h=>by simp [lend] at h,fun _ _ h=>by simp [UC] at h⟩
 | n + 1=>by
  obtain ⟨ih1,ih2⟩:=Su ho hw hbl hS hle n
  have keep:∀ {v:V} {cs:List Value},InV (Jc w bl G X) v cs []→InV Ec v cs []:=fun h=>Hb hle _ (fun s _ c' rc' F' hlk=>by rw [hbl] at hlk; simp [Jd] at hlk) (fun b hb=>by cases hb) h
  have rd:∀ {e:Ty} {l:List D} {Ad:Option Addr} {cap:Nat} {F:List Nat},e.plain=true→UM true w (DIn true w e) e.size Ad cap l F→(∀ b ∈ F,b<w.heap.size∧b ∉ X)→CX w X Ec (noB (.rd e l))→InV Ec (.rd e l) [.slice Ad l.length cap] []:=by
   intro e l Ad cap F hp hs hF hq
   unfold InV
   refine ⟨rfl,hp,Ad,cap,F,rfl,?_,fun b hb=>⟨hS b (hF b hb).1 (hF b hb).2,fun he=>?_⟩⟩
   ·rw [hw]
    exact WY (fun d c G hd=>Om _ hd) hs
   ·rcases hq with hq | hq
    ·unfold noB at hq; rw [he] at hq; cases hq
    ·exact hq b (hF b hb).1 (hF b hb).2
  constructor
  ·intro v y c cs F hv hF h hk hq
   unfold lend at h
   split at h
   ·rename_i s p e
    unfold InV at hv
    obtain ⟨rfl,_,hal⟩:=hv
    split at h
    ·rename_i c1 e1 l hg
     simp only [oj,pj] at h
     obtain ⟨rfl,rfl⟩:=h
     obtain ⟨c0,rc,Fs,k1,k2,Lx,csx,Fx,k3,k4,k5,k6,k7⟩:=Xh ho hg hk
     obtain ⟨u,g1,g2⟩:=hal c0 rc Fs k1 k2 _ _ k3 rfl
     unfold InV at k4
     obtain ⟨hp,Ad,cap,hcs,hsl⟩:=k4
     rw [hcs] at k5
     have hh:=J2 k5
     rw [show (Jc w bl G X).w=w from rfl,hh] at g1
     simp only [oj] at g1
     rw [g2,← g1]
     exact rd hp hsl k6 hq
    ·rename_i c1 e1 vs hg
     split at h
     ·rename_i c2 ws hin
      split at h
      ·rename_i hall
       simp only [oj,pj] at h
       obtain ⟨rfl,rfl⟩:=h
       rw [Jg] at hall
       rw [Jg] at hall
       obtain ⟨hp,hrd,hfit⟩:=hall
       obtain ⟨hk1,hk2⟩:=Q4 hk
       obtain ⟨c0,rc,Fs,k1,k2,Lx,csx,Fx,k3,k4,k5,k6,k7⟩:=Xh ho hg hk1
       obtain ⟨u,g1,g2⟩:=hal c0 rc Fs k1 k2 _ _ k3 rfl
       unfold InV at k4
       obtain ⟨ad,cc,cs',F',hcs',hlc,hes,hin',hca,hFx,hb,hun⟩:=k4
       rw [hcs'] at k5
       have hh:=J2 k5
       rw [show (Jc w bl G X).w=w from rfl,hh] at g1
       simp only [oj] at g1
       subst hFx
       have hws:=ih2 hin' (fun b hb=>k6 b (by simp [hb])) hin hk2 (by
        rcases hq with hq | hq
        ·unfold noB at hq
         cases hbe:H6 e1 with
         | true=>rw [hbe] at hq; cases hq
         | false=>exact .inl (Ss hbe hfit hrd)
        ·exact .inr hq)
       obtain ⟨Fr,r1,r2⟩:=Sr hp hfit hrd hws
       have hlen:(Uj ws).length=vs.length:=by
        rw [V9]
        exact YM n hin
       rw [g2,← g1]
       unfold InV
       refine ⟨rfl,hp,some ad,cc,ad.block :: Fr,by rw [hlen],.inr ⟨ad,cs',Fr,rfl,r1,by rw [hw]; exact hca,rfl,by rw [hlen]; exact hlc,by rw [hw]; exact hb,fun h=>by cases h⟩,fun b hb=>?_⟩
       rcases List.mem_cons.1 hb with rfl | hb
       ·refine ⟨hS _ (k6 _ (by simp)).1 (k6 _ (by simp)).2,fun he=>?_⟩
        rcases hq with hq | hq
        ·unfold noB at hq; rw [he] at hq; cases hq
        ·exact hq _ (k6 _ (by simp)).1 (k6 _ (by simp)).2
       ·exact r2 b hb
      ·simp at h
     ·simp at h
    ·simp at h
   ·rename_i s p off len e
    unfold InV at hv
    obtain ⟨rfl,_,hal⟩:=hv
    split at h
    ·rename_i c1 e1 l hg
     split at h
     ·rename_i hbe
      have hee:=Ty.beq_eq _ _ hbe
      subst hee
      simp only [oj,pj] at h
      obtain ⟨rfl,rfl⟩:=h
      obtain ⟨hk1,hk2⟩:=Q4 hk
      have hb:off + len≤l.length:=hk2 (.le (off + len) l.length) (by simp)
      obtain ⟨c0,rc,Fs,k1,k2,Lx,csx,Fx,k3,k4,k5,k6,k7⟩:=Xh ho hg hk1
      obtain ⟨A0,n0,k0,A',g1,g2,g3,g4⟩:=hal c0 rc Fs k1 k2 _ _ k3 rfl
      unfold InV at k4
      obtain ⟨hp,Ad,cap,hcs,hsl⟩:=k4
      rw [hcs] at k5
      have hh:=J2 k5
      rw [show (Jc w bl G X).w=w from rfl,hh] at g1
      simp only [oj,Value.slice.injEq] at g1
      obtain ⟨rfl,rfl,rfl⟩:=g1
      obtain ⟨F'',r1,r2,_⟩:=Xa (off:=off) (len:=len) (fun d c G hd=>Qy _ hd) hsl hb g4
      rw [g3]
      have:=rd hp r1 (fun b hb=>k6 b (r2 b hb)) hq
      rwa [show ((l.drop off).take len).length=len by simp; omega] at this
     ·simp at h
    ·simp at h
   ·rename_i s p
    unfold InV at hv
    obtain ⟨rfl,_,hal⟩:=hv
    split at h
    ·rename_i c1 x hg
     split at h
     ·rename_i c2 y' hin
      simp only [oj,pj] at h
      obtain ⟨rfl,rfl⟩:=h
      obtain ⟨hk1,hk2⟩:=Q4 hk
      obtain ⟨c0,rc,Fs,k1,k2,Lx,csx,Fx,k3,k4,k5,k6,k7⟩:=Xh ho hg hk1
      obtain ⟨ad,g1,g2⟩:=hal c0 rc Fs k1 k2 _ _ k3
      subst g1
      have hy:=ih1 k4 k6 hin hk2 hq
      rw [g2]
      unfold InV
      exact ⟨rfl,ad,csx,rfl,hy,by rw [hw]; exact k5,hS _ (k7 ad rfl).1 (k7 ad rfl).2⟩
     ·simp at h
    ·simp at h
   ·rename_i e l
    simp only [oj,pj] at h
    obtain ⟨rfl,rfl⟩:=h
    unfold InV at hv
    obtain ⟨hp,Ad,cap,rfl,hsl⟩:=hv
    exact rd hp hsl hF hq
   ·rename_i x
    split at h
    ·rename_i c2 y' hin
     simp only [oj,pj] at h
     obtain ⟨rfl,rfl⟩:=h
     unfold InV at hv
     obtain ⟨ad,cs',F',rfl,hin',hca,hFx,hb,hun⟩:=hv
     subst hFx
     have hy:=ih1 hin' (fun b hb=>hF b (by simp [hb])) hin hk hq
     unfold InV
     exact ⟨rfl,ad,cs',rfl,hy,by rw [hw]; exact hca,hS _ (hF _ (by simp)).1 (hF _ (by simp)).2⟩
    ·simp at h
   ·rename_i vs
    split at h
    ·rename_i c2 ws hin
     simp only [oj,pj] at h
     obtain ⟨rfl,rfl⟩:=h
     unfold InV at hv ⊢
     exact ih2 hv hF hin hk hq
    ·simp at h
   ·rename_i f caps
    split at h
    ·rename_i c2 ws hin
     simp only [oj,pj] at h
     obtain ⟨rfl,rfl⟩:=h
     unfold InV at hv ⊢
     obtain ⟨vals,hcs,hvs,hvz⟩:=hv
     have hws:=ih2 hvs hF hin hk hq
     refine ⟨vals,hcs,hws,?_⟩
     rw [← Cw _ hws,Cw _ hvs,hvz,YM n hin]
    ·simp at h
   ·simp at h
   ·simp at h
   ·simp at h
   ·simp at h
   ·simp only [oj,pj] at h
    obtain ⟨rfl,rfl⟩:=h
    have hnil:F=[]:=by
     have hv':=hv
     unfold InV at hv'
     split at hv' <;> first | exact hv'.2 | exact hv'.1 | (exact Hd (fun d c G hd=>He _ hv'.2.1 hd) hv'.2.2) | simp_all
    subst hnil
    exact keep hv
  ·intro vs ys c cs F hv hF h hk hq
   cases vs with
   | nil=>
    simp only [UC,oj,pj] at h
    obtain ⟨rfl,rfl⟩:=h
    unfold Jo at hv ⊢
    exact ⟨hv.1,rfl⟩
   | cons v vs=>
    simp only [UC] at h
    split at h
    ·rename_i c1 w1 h1
     split at h
     ·rename_i c2 ws h2
      simp only [oj,pj] at h
      obtain ⟨rfl,rfl⟩:=h
      obtain ⟨hk1,hk2⟩:=Q4 hk
      unfold Jo at hv ⊢
      obtain ⟨d1,d2,F1,F2,rfl,rfl,i1,i2⟩:=hv
      have hq1:CX w X Ec (noB w1):=by
       rcases hq with hq | hq
       ·unfold Cr at hq; rw [Jg] at hq; exact .inl hq.1
       ·exact .inr hq
      have hq2:CX w X Ec (Cr ws):=by
       rcases hq with hq | hq
       ·unfold Cr at hq; rw [Jg] at hq; exact .inl hq.2
       ·exact .inr hq
      exact ⟨d1,d2,[],[],rfl,rfl,ih1 i1 (fun b hb=>hF b (by simp [hb])) h1 hk1 hq1,ih2 i2 (fun b hb=>hF b (by simp [hb])) h2 hk2 hq2⟩
     ·simp at h
    ·simp at h
end
end Go.Rai
namespace Go.Rai
variable [Inhabited Qk]
def QY (K:Nat→Prop) (w:World) (F:List Nat):Env:=⟨w,fun b=>b<w.heap.size∧b ∉ F,K,[],fun _=>none⟩
def CG (E:Env) (io:Nat→Bool):Nat→List V→List Value→List Nat→Prop
 | _,[],vs,F=>vs=[]∧F=[]
 | i,x :: xs,vs,F=>∃ v r F1 F2,vs=v :: r∧F=F1 ++ F2∧(io i=true→One E x v F1)∧(io i=false→F1=[])∧CG E io (i + 1) xs r F2
def UG (E:Env) (io:Nat→Bool):Nat→List V→List Value→List Nat→Prop
 | _,[],vs,F=>vs=[]∧F=[]
 | i,x :: xs,vs,F=>∃ v r F1 F2,vs=v :: r∧F=F1 ++ F2∧One E x v F1∧(io i=false→F1=[])∧UG E io (i + 1) xs r F2
def Qf:X6→Bool
 | .io=>true
 | _=>false
def Hg:X6→Bool
 | .io=>true
 | .take=>true
 | _=>false
def MW (P : Program) (f : FuncId) : Prop := ∃ fn, P.funcs[f]? = some fn ∧ (fn.name == "runtime.NumGoroutine") = false ∧ fn.body.isNone = false
def HF (P:Program) (io:Nat→Bool) (f:FuncId) (args:List V) (res:V) (outs:List V):Prop:=
 MW P f∧∀ (K:Nat→Prop) (w:World) (vals:List Value) (F:List Nat),Tup (QY K w F) args vals F→F.Nodup→(∀ b ∈ F,b<w.heap.size) →
  Calls P f vals.toArray w fun e w'=>∃ v Fr Fo,e=.returned v∧Val (QY K w' (Fr ++ Fo)) res v Fr∧CG (QY K w' (Fr ++ Fo)) io 0 outs vals Fo ∧
   (Fr ++ Fo).Nodup∧(∀ b ∈ Fr ++ Fo,b<w'.heap.size∧(b ∈ F ∨ w.heap.size≤b)) ∧
   (∀ b,b<w.heap.size→b ∉ F→w'.heap[b]?=w.heap[b]?)∧w.heap.size≤w'.heap.size∧w'.os=w.os∧w'.tape=w.tape∧w'.output=w.output
def HG (P:Program) (A:Ann) {R:Type} (oc:OC R):Prop:=
 ∀ f args κ r,oc f args κ=some r→∃ res outs,κ res outs=some r∧HF P (fun i=>Qf (A.mode f i)) f args res outs
section
variable {P:Program} {A:Ann} {w w' w0:World} {F0:List Nat} {sl:List V} {a:Act} {bl b':BL} {G:GT} {o:Oper} {X:List Nat}
theorem MX {E:Env}:∀ (t:Ty) {v:V} {cs:List Value},InV E v cs []→InV E (X4 t v) cs []:=by
 intro t v cs h
 cases t with
 | slice e=>
  cases v with
  | nilsl=>
   show InV E (match e.plain with | true=>.rd e [] | false=>.nilsl) cs []
   cases hp:e.plain with
   | false=>exact h
   | true=>
    show InV E (.rd e []) cs []
    unfold InV at h ⊢
    exact ⟨rfl,hp,none,0,[],h.1,.inl ⟨rfl,rfl,rfl⟩,fun b hb=>by cases hb⟩
  | emp e'=>
   show InV E (match e.plain with | true=>.rd e [] | false=>.emp e') cs []
   cases hp:e.plain with
   | false=>exact h
   | true=>
    show InV E (.rd e []) cs []
    unfold InV at h ⊢
    obtain ⟨⟨A,rfl⟩,_⟩:=h
    exact ⟨rfl,hp,A,0,[],rfl,.inl ⟨rfl,rfl,rfl⟩,fun b hb=>by cases hb⟩
  | _=>exact h
 | _=>cases v <;> exact h
theorem MY (t:Ty) (v:V):isA (X4 t v)=isA v:=by
 cases t with
 | slice e=>
  cases v with
  | nilsl=>show isA (match e.plain with | true=>.rd e [] | false=>.nilsl)=false; cases e.plain <;> rfl
  | emp e'=>show isA (match e.plain with | true=>.rd e [] | false=>.emp e')=false; cases e.plain <;> rfl
  | _=>rfl
 | _=>cases v <;> rfl
theorem Xi {E E':Env} (h:JO E E' (fun _=>False)):∀ {xs:List V} {vs:List Value} {F:List Nat},QN E.w E'.w F→Tup E xs vs F→Tup E' xs vs F
 | [],vs,F,_,hh=>hh
 | x :: xs,vs,F,hF,⟨v,r,F1,F2,e1,e2,⟨cs,h1,h2⟩,h3⟩=>by
  subst e2
  exact ⟨v,r,F1,F2,e1,rfl,⟨cs,h.inV (fun _ _=>id) (fun b hb=>hF b (by simp [hb])) h1,h2⟩,Xi h (fun b hb=>hF b (by simp [hb])) h3⟩
theorem Sv {E E':Env} {io:Nat→Bool} (h:JO E E' (fun _=>False)):∀ {i:Nat} {xs:List V} {vs:List Value} {F:List Nat},QN E.w E'.w F→UG E io i xs vs F→UG E' io i xs vs F
 | i,[],vs,F,_,hh=>hh
 | i,x :: xs,vs,F,hF,⟨v,r,F1,F2,e1,e2,⟨cs,h1,h2⟩,h4,h3⟩=>by
  subst e2
  exact ⟨v,r,F1,F2,e1,rfl,⟨cs,h.inV (fun _ _=>id) (fun b hb=>hF b (by simp [hb])) h1,h2⟩,h4,Sv h (fun b hb=>hF b (by simp [hb])) h3⟩
theorem YN {n:Nat} {b b':BL} {v v':V} {c:List Jt} (h:inl n b v=some (c,v',b')):isA v'=isA v:=by
 cases n with
 | zero=>simp [inl] at h
 | succ n=>
  unfold inl at h
  split at h
  ·split at h
   ·simp only [oj,pj] at h; rw [← h.2.1]; rfl
   ·split at h
    ·split at h
     ·simp only [oj,pj] at h; rw [← h.2.1]; rfl
     ·simp at h
    ·simp at h
   ·simp at h
  ·split at h
   ·split at h
    ·simp only [oj,pj] at h; rw [← h.2.1]; rfl
    ·simp at h
   ·simp at h
  ·split at h
   ·split at h
    ·split at h
     ·simp only [oj,pj] at h; rw [← h.2.1]; rfl
     ·simp at h
    ·simp at h
   ·simp at h
  ·split at h
   ·simp only [oj,pj] at h; rw [← h.2.1]; rfl
   ·simp at h
  ·split at h
   ·simp only [oj,pj] at h; rw [← h.2.1]; rfl
   ·simp at h
  ·split at h
   ·simp only [oj,pj] at h; rw [← h.2.1]; rfl
   ·simp at h
  ·split at h
   ·simp only [oj,pj] at h; rw [← h.2.1]; rfl
   ·simp at h
  ·simp at h
  ·simp at h
  ·simp at h
  ·simp only [oj,pj] at h; rw [← h.2.1]
theorem Sw {f:FuncId}:∀ {vs:List V} {i:Nat} {bl b':BL} {G:GT} {X:List Nat} {vals:List Value} {ws:List V} {c:List Jt},JZ w bl G X w0 F0→Tup (Jc w bl G X) vs vals []→Hl A f i bl vs=some (c,ws,b')→(∀ k ∈ c,k.ok) →
  CE w (Jc w bl G X) w0 F0 X b' (fun E F'=>UG E (fun j=>Hg (A.mode f j)) i ws vals F')
 | [],i,bl,b',G,X,vals,ws,c,hc,hv,h,hk=>by
  simp only [Hl,oj,pj] at h
  obtain ⟨rfl,rfl,rfl⟩:=h
  exact ⟨[],G,hc,hv,JO.refl_ _ _⟩
 | v :: vs,i,bl,b',G,X,vals,ws,c,hc,hv,h,hk=>by
  obtain ⟨u,r,F1,F2,rfl,e2,⟨cs,i1,i2⟩,i3⟩:=hv
  obtain ⟨rfl,rfl⟩:=List.append_eq_nil_iff.1 e2.symm
  simp only [Hl] at h
  split at h
  ·rename_i c1 w1 b1 h1
   split at h
   ·rename_i c2 ws2 b2 h2
    simp only [oj,pj] at h
    obtain ⟨rfl,rfl,rfl⟩:=h
    obtain ⟨hk1,hk2⟩:=Q4 hk
    have first:CE w (Jc w bl G X) w0 F0 X b1 (fun E F'=>One E w1 u F'∧(Hg (A.mode f i)=false→F'=[])):=by
     split at h1
     ·obtain ⟨F',G',q1,q2,q3⟩:=(Oy 9).1 (F:=[]) hc i1 h1 hk1
      rename_i hmode
      refine ⟨F',G',q1,⟨⟨cs,q2,?_⟩,fun hf=>by rw [hmode] at hf; cases hf⟩,q3⟩
      unfold Qo at i2 ⊢
      rw [YN h1]
      exact i2
     ·obtain ⟨F',G',q1,q2,q3⟩:=(Oy 9).1 (F:=[]) hc i1 h1 hk1
      rename_i hmode
      refine ⟨F',G',q1,⟨⟨cs,q2,?_⟩,fun hf=>by rw [hmode] at hf; cases hf⟩,q3⟩
      unfold Qo at i2 ⊢
      rw [YN h1]
      exact i2
     ·simp only [oj,pj] at h1
      obtain ⟨rfl,rfl,rfl⟩:=h1
      exact ⟨[],G,hc,⟨⟨cs,i1,i2⟩,fun _=>rfl⟩,JO.refl_ _ _⟩
    obtain ⟨F',G',q1,⟨q2,q4⟩,q3⟩:=first
    obtain ⟨F2',G2,s1,s2,s3⟩:=Sw (X:=F' ++ X) q1 (Xi q3 (fun b hb=>by cases hb) i3) h2 hk2
    obtain ⟨t1,t2⟩:=s1.perm (show (F2' ++ (F' ++ X)).Perm ((F' ++ F2') ++ X) by
     rw [← List.append_assoc]
     exact List.Perm.append_right X List.perm_append_comm)
    obtain ⟨cs',j1,j2⟩:=q2
    exact ⟨F' ++ F2',G2,t1,⟨u,r,F',F2',rfl,rfl,⟨cs',(s3.trans t2).inV (fun _ _=>id) (fun _ _=>rfl) j1,j2⟩,q4,Sv t2 (fun _ _=>rfl) s2⟩,(q3.trans s3).trans t2⟩
   ·simp at h
  ·simp at h
theorem MZ {n:Nat} {b:BL} {v v':V} {c:List Jt} (h:lend b n v=some (c,v')):isA v'=isA v:=by
 cases n with
 | zero=>simp [lend] at h
 | succ n=>
  unfold lend at h
  split at h
  ·split at h
   ·simp only [oj,pj] at h; rw [← h.2]; rfl
   ·split at h
    ·split at h
     ·simp only [oj,pj] at h; rw [← h.2]; rfl
     ·simp at h
    ·simp at h
   ·simp at h
  ·split at h
   ·split at h
    ·simp only [oj,pj] at h; rw [← h.2]; rfl
    ·simp at h
   ·simp at h
  ·split at h
   ·split at h
    ·simp only [oj,pj] at h; rw [← h.2]; rfl
    ·simp at h
   ·simp at h
  ·simp only [oj,pj] at h; rw [← h.2]; rfl
  ·split at h
   ·simp only [oj,pj] at h; rw [← h.2]; rfl
   ·simp at h
  ·split at h
   ·simp only [oj,pj] at h; rw [← h.2]; rfl
   ·simp at h
  ·split at h
   ·simp only [oj,pj] at h; rw [← h.2]; rfl
   ·simp at h
  ·simp at h
  ·simp at h
  ·simp at h
  ·simp at h
  ·simp only [oj,pj] at h; rw [← h.2]
mutual
theorem Xj:∀ {v:V},Qs v=true→Jh v=[]
 | .int _ _,_=>rfl
 | .bool _,_=>rfl
 | .str _,_=>rfl
 | .own _ _,_=>rfl
 | .arr _ _ _,_=>rfl
 | .rd _ _,_=>rfl
 | .agg vs,h=>by unfold Qs at h; unfold Jh; exact YO h
 | .obox v,h=>by unfold Qs at h; unfold Jh; exact Xj h
 | .tup vs,h=>by unfold Qs at h; unfold Jh; exact YO h
 | .undef,ho=>by simp [Qs] at ho
 | .void,ho=>by simp [Qs] at ho
 | .lst _ _,ho=>by simp [Qs] at ho
 | .nilsl,ho=>by simp [Qs] at ho
 | .emp _,ho=>by simp [Qs] at ho
 | .rp _,ho=>by simp [Qs] at ho
 | .full _ _ _,ho=>by simp [Qs] at ho
 | .sub _ _ _ _ _,ho=>by simp [Qs] at ho
 | .ptr _ _,ho=>by simp [Qs] at ho
 | .fn _ _,ho=>by simp [Qs] at ho
 | .nilfn,ho=>by simp [Qs] at ho
 | .nilptr,_=>rfl
theorem YO:∀ {vs:List V},Hy vs=true→Ju vs=[]
 | [],_=>rfl
 | v :: vs,h=>by
  unfold Hy at h; rw [Jg] at h
  unfold Ju; rw [Xj h.1,YO h.2]; rfl
end
def Kle (E E':Env):Prop:=∀ b,E.S b→E.K b→E'.S b∧E'.K b
theorem Le.kle {E E':Env} (h:Le E E'):Kle E E':=fun b h1 h2=>⟨(h.stab b h1).1,h.kept b h1 h2⟩
mutual
theorem Xk {E E':Env} (hle:Kle E E') (hw:E'.w=E.w):∀ {v:V} {cs:List Value} {F:List Nat},Qs v=true→InV E v cs F→InV E' v cs F
 | .int _ _,_,_,_,h=>h
 | .bool _,_,_,_,h=>h
 | .str _,_,_,_,h=>h
 | .own e l,cs,F,hv,h=>by unfold InV at h ⊢; rw [hw]; exact h
 | .arr n e l,cs,F,hv,h=>by unfold InV at h ⊢; rw [hw]; exact h
 | .rd e l,cs,F,hv,h=>by
  unfold Qs at hv
  unfold InV at h ⊢
  rw [hw]
  obtain ⟨h0,hp,A,c,F',h1,h2,h3⟩:=h
  exact ⟨h0,hp,A,c,F',h1,h2,fun b hb=>⟨(hle b (h3 b hb).1 ((h3 b hb).2 hv)).1,fun _=>(hle b (h3 b hb).1 ((h3 b hb).2 hv)).2⟩⟩
 | .agg vs,cs,F,hv,h=>by
  unfold Qs at hv
  unfold InV at h ⊢
  exact Sx hle hw hv h
 | .obox v,cs,F,hv,h=>by
  unfold Qs at hv
  unfold InV at h ⊢
  rw [hw]
  obtain ⟨a,cs',F',h1,h2,h3⟩:=h
  exact ⟨a,cs',F',h1,Xk hle hw hv h2,h3⟩
 | .tup vs,_,_,_,h=>by unfold InV at h; exact h.elim
 | .undef,_,_,ho,_=>by simp [Qs] at ho
 | .void,_,_,ho,_=>by simp [Qs] at ho
 | .lst _ _,_,_,ho,_=>by simp [Qs] at ho
 | .nilsl,_,_,ho,_=>by simp [Qs] at ho
 | .emp _,_,_,ho,_=>by simp [Qs] at ho
 | .rp _,_,_,ho,_=>by simp [Qs] at ho
 | .full _ _ _,_,_,ho,_=>by simp [Qs] at ho
 | .sub _ _ _ _ _,_,_,ho,_=>by simp [Qs] at ho
 | .ptr _ _,_,_,ho,_=>by simp [Qs] at ho
 | .fn _ _,_,_,ho,_=>by simp [Qs] at ho
 | .nilfn,_,_,ho,_=>by simp [Qs] at ho
 | .nilptr,_,_,_,h=>h
theorem Sx {E E':Env} (hle:Kle E E') (hw:E'.w=E.w):∀ {vs:List V} {cs:List Value} {F:List Nat},Hy vs=true→Jo E vs cs F→Jo E' vs cs F
 | [],_,_,_,h=>h
 | v :: vs,cs,F,hv,h=>by
  unfold Hy at hv; rw [Jg] at hv
  unfold Jo at h ⊢
  obtain ⟨c1,c2,F1,F2,e1,e2,h1,h2⟩:=h
  exact ⟨c1,c2,F1,F2,e1,e2,Xk hle hw hv.1 h1,Sx hle hw hv.2 h2⟩
end
mutual
theorem YP:∀ {v:V},JW v=true→Qs v=true
 | .int _ _,_=>rfl
 | .bool _,_=>rfl
 | .str _,_=>rfl
 | .own _ _,_=>rfl
 | .arr _ _ _,_=>rfl
 | .agg vs,h=>by unfold JW at h; unfold Qs; exact YQ h
 | .obox v,h=>by unfold JW at h; unfold Qs; exact YP h
 | .tup vs,h=>by unfold JW at h; unfold Qs; exact YQ h
 | .undef,ho=>by simp [JW] at ho
 | .void,ho=>by simp [JW] at ho
 | .lst _ _,ho=>by simp [JW] at ho
 | .nilsl,ho=>by simp [JW] at ho
 | .emp _,ho=>by simp [JW] at ho
 | .rp _,ho=>by simp [JW] at ho
 | .full _ _ _,ho=>by simp [JW] at ho
 | .sub _ _ _ _ _,ho=>by simp [JW] at ho
 | .ptr _ _,ho=>by simp [JW] at ho
 | .fn _ _,ho=>by simp [JW] at ho
 | .nilfn,ho=>by simp [JW] at ho
 | .nilptr,_=>rfl
 | .rd _ _,ho=>by simp [JW] at ho
theorem YQ:∀ {vs:List V},U6 vs=true→Hy vs=true
 | [],_=>rfl
 | v :: vs,h=>by
  unfold U6 at h; rw [Jg] at h
  unfold Hy; rw [YP h.1,YQ h.2]; rfl
end
theorem YR {f:FuncId} (ho:Ok w bl G X) {Ec:Env} (hw:Ec.w=w) (hbl:Ec.bl=[]) (hS:∀ b,b<w.heap.size→b ∉ X→Ec.S b) (hle:Le (Jc w bl G X) Ec):∀ {vs:List V} {i:Nat} {ts:List Ty} {vals:List Value} {us:List V} {c:List Jt} {F:List Nat},
  UG (Jc w bl G X) (fun j=>Hg (A.mode f j)) i vs vals F→Q6 A f bl i ts vs=some (c,us)→(∀ k ∈ c,k.ok)→CX w X Ec (UL A f i us)→Tup Ec us vals F
 | [],i,ts,vals,us,c,F,hv,h,hk,hsc=>by
  simp only [Q6,oj,pj] at h
  obtain ⟨rfl,rfl⟩:=h
  exact hv
 | v :: vs,i,ts,vals,us,c,F,hv,h,hk,hsc=>by
  have keep:∀ {v:V} {cs:List Value} {F:List Nat},InV (Jc w bl G X) v cs F→InV Ec v cs F:=fun h=>Hb hle _ (fun s _ c' rc' F' hlk=>by rw [hbl] at hlk; simp [Jd] at hlk) (fun b hb=>by rw [hw]; rfl) h
  obtain ⟨u,r,F1,F2,rfl,rfl,⟨cs,i1,i2⟩,i4,i3⟩:=hv
  simp only [Q6] at h
  split at h
  ·rename_i c1 w1 h1
   split at h
   ·rename_i c2 ws2 h2
    simp only [oj,pj] at h
    obtain ⟨rfl,rfl⟩:=h
    obtain ⟨hk1,hk2⟩:=Q4 hk
    have hsc2:CX w X Ec (UL A f (i + 1) ws2):=by
     rcases hsc with hsc | hsc
     ·simp only [UL] at hsc
      split at hsc
      ·split at hsc
       ·exact .inl hsc
       ·cases hsc
      ·exact .inl hsc
     ·exact .inr hsc
    have hrest:=YR ho hw hbl hS hle i3 h2 hk2 hsc2
    have first:One Ec w1 u F1:=by
     split at h1
     ·rename_i hm
      have hF1:=i4 (by show Hg (A.mode f i)=false; rw [hm]; rfl)
      subst hF1
      have hsw:CX w X Ec (noB w1):=by
       rcases hsc with hsc | hsc
       ·simp only [UL,hm] at hsc
        split at hsc
        ·rename_i hq; exact .inl hq
        ·cases hsc
       ·exact .inr hsc
      refine ⟨cs,(Su ho hw hbl hS hle 9).1 (MX _ i1) (fun b hb=>by cases hb) h1 hk1 hsw,?_⟩
      unfold Qo at i2 ⊢
      rw [MZ h1,MY]
      exact i2
     ·simp only [oj,pj] at h1
      obtain ⟨rfl,rfl⟩:=h1
      exact ⟨cs,keep i1,i2⟩
     ·simp only [oj,pj] at h1
      obtain ⟨rfl,rfl⟩:=h1
      exact ⟨cs,keep i1,i2⟩
     ·split at h1
      ·simp at h1
      ·simp only [oj,pj] at h1
       obtain ⟨rfl,rfl⟩:=h1
       exact ⟨cs,keep i1,i2⟩
    exact ⟨u,r,F1,F2,rfl,rfl,first,hrest⟩
   ·simp at h
  ·simp at h
def Xl (w:World) (bl:BL) (G:GT) (F:List Nat):Nat→Prop:=fun b=>(Jc w bl G F).S b∧Kept.K b
theorem YS {f:FuncId} (ho:Ok w bl G X) {vs:List V} {ts:List Ty} {vals:List Value} {us:List V} {c:List Jt} {F Y:List Nat} (hY:∀ b ∈ Y,b ∈ X)
  (hv:UG (Jc w bl G X) (fun j=>Hg (A.mode f j)) 0 vs vals F) (h:Q6 A f bl 0 ts vs=some (c,us)) (hk:∀ k ∈ c,k.ok) :
  Tup (QY (fun _=>True) w Y) us vals F∧(UL A f 0 us=true→Tup (QY (Xl w bl G X) w Y) us vals F):=
 ⟨YR (Ec:=QY (fun _=>True) w Y) ho rfl rfl (fun b hb hx=>(⟨hb,fun hm=>hx (hY b hm)⟩:b<w.heap.size∧b ∉ Y)) ⟨fun b hb=>⟨⟨hb.1,fun hx=>hb.2 (.inl (hY b hx))⟩,rfl⟩,Nat.le_refl _,fun _ _ _=>trivial⟩ hv h hk (.inr fun _ _ _=>trivial),
  fun hs=>YR (Ec:=QY (Xl w bl G X) w Y) ho rfl rfl (fun b hb hx=>(⟨hb,fun hm=>hx (hY b hm)⟩:b<w.heap.size∧b ∉ Y)) ⟨fun b hb=>⟨⟨hb.1,fun hx=>hb.2 (.inl (hY b hx))⟩,rfl⟩,Nat.le_refl _,fun b h1 h2=>⟨h1,h2⟩⟩ hv h hk (.inl hs)⟩
theorem M3 {f:FuncId} {vs:List V} {ts:List Ty} {vals:List Value} {us:List V} {c:List Jt} (hc:Qd w bl G w0 F0) (hv:Tup (Jc w bl G []) vs vals []) (h:OW A f bl ts vs=some (c,us,b')) (hk:∀ k ∈ c,k.ok) :
  ∃ F G',JZ w b' G' F w0 F0∧Tup (QY (fun _=>True) w F) us vals F∧JO (Jc w bl G []) (Jc w b' G' F) (fun _=>False)∧(UL A f 0 us=true→Tup (QY (Xl w b' G' F) w F) us vals F):=by
 unfold OW at h
 split at h
 ·rename_i c1 ws b1 h1
  split at h
  ·rename_i c2 us2 h2
   simp only [oj,pj] at h
   obtain ⟨rfl,rfl,rfl⟩:=h
   obtain ⟨hk1,hk2⟩:=Q4 hk
   obtain ⟨F,G',q1,q2,q3⟩:=Sw (A:=A) hc.x hv h1 hk1
   rw [List.append_nil] at q1 q2 q3
   obtain ⟨r1,r2⟩:=YS q1.ok (fun b hb=>hb) q2 h2 hk2
   exact ⟨F,G',q1,r1,q3,r2⟩
  ·simp at h
 ·simp at h
end
end Go.Rai
namespace Go.Rai
variable [Inhabited Qk]
mutual
theorem OB {E E':Env} (hw:E'.w=E.w):∀ (v:V) {cs:List Value} {F:List Nat},JW v=true→InV E v cs F→InV E' v cs F
 | .int _ _,_,_,_,h=>by unfold InV at h ⊢; exact h
 | .bool _,_,_,_,h=>by unfold InV at h ⊢; exact h
 | .str _,_,_,_,h=>by unfold InV at h ⊢; exact h
 | .own e l,_,_,_,h=>by unfold InV at h ⊢; rw [hw]; exact h
 | .arr n e l,_,_,_,h=>by unfold InV at h ⊢; rw [hw]; exact h
 | .agg vs,cs,F,ho,h=>by unfold JW at ho; unfold InV at h ⊢; exact Sy hw vs ho h
 | .obox v,cs,F,ho,h=>by
  unfold JW at ho
  unfold InV at h ⊢
  obtain ⟨a,cs',F',h1,h2,h3⟩:=h
  exact ⟨a,cs',F',h1,OB hw v ho h2,by rw [hw]; exact h3⟩
 | .tup vs,_,_,_,h=>by unfold InV at h; exact h.elim
 | .undef,_,_,ho,_=>by simp [JW] at ho
 | .void,_,_,ho,_=>by simp [JW] at ho
 | .rd _ _,_,_,ho,_=>by simp [JW] at ho
 | .lst _ _,_,_,ho,_=>by simp [JW] at ho
 | .nilsl,_,_,ho,_=>by simp [JW] at ho
 | .emp _,_,_,ho,_=>by simp [JW] at ho
 | .rp _,_,_,ho,_=>by simp [JW] at ho
 | .full _ _ _,_,_,ho,_=>by simp [JW] at ho
 | .sub _ _ _ _ _,_,_,ho,_=>by simp [JW] at ho
 | .ptr _ _,_,_,ho,_=>by simp [JW] at ho
 | .fn _ _,_,_,ho,_=>by simp [JW] at ho
 | .nilfn,_,_,ho,_=>by simp [JW] at ho
 | .nilptr,_,_,_,h=>by unfold InV at h ⊢; exact h
theorem Sy {E E':Env} (hw:E'.w=E.w):∀ (vs:List V) {cs:List Value} {F:List Nat},U6 vs=true→Jo E vs cs F→Jo E' vs cs F
 | [],_,_,_,h=>by unfold Jo at h ⊢; exact h
 | v :: vs,cs,F,ho,h=>by
  unfold U6 at ho; rw [Jg] at ho
  unfold Jo at h ⊢
  obtain ⟨c1,c2,F1,F2,e1,e2,h1,h2⟩:=h
  exact ⟨c1,c2,F1,F2,e1,e2,OB hw v ho.1 h1,Sy hw vs ho.2 h2⟩
end
mutual
theorem Wi {E E':Env} (hw:E'.w=E.w):∀ (v:V) {cs:List Value} {F:List Nat},Qg v=true→InV E v cs F→InV E' v cs F
 | .int _ _,_,_,_,h=>by unfold InV at h ⊢; exact h
 | .bool _,_,_,_,h=>by unfold InV at h ⊢; exact h
 | .str _,_,_,_,h=>by unfold InV at h ⊢; exact h
 | .own e l,_,_,_,h=>by unfold InV at h ⊢; rw [hw]; exact h
 | .arr n e l,_,_,_,h=>by unfold InV at h ⊢; rw [hw]; exact h
 | .agg vs,cs,F,ho,h=>by unfold Qg at ho; unfold InV at h ⊢; exact Sz hw vs ho h
 | .obox v,cs,F,ho,h=>by
  unfold Qg at ho
  unfold InV at h ⊢
  obtain ⟨a,cs',F',h1,h2,h3⟩:=h
  exact ⟨a,cs',F',h1,Wi hw v ho h2,by rw [hw]; exact h3⟩
 | .tup vs,_,_,_,h=>by unfold InV at h; exact h.elim
 | .undef,_,_,ho,_=>by simp [Qg] at ho
 | .void,_,_,ho,_=>by simp [Qg] at ho
 | .rd _ _,_,_,ho,_=>by simp [Qg] at ho
 | .lst _ _,_,_,ho,_=>by simp [Qg] at ho
 | .nilsl,_,_,_,h=>by unfold InV at h ⊢; exact h
 | .emp _,_,_,ho,_=>by simp [Qg] at ho
 | .rp _,_,_,ho,_=>by simp [Qg] at ho
 | .full _ _ _,_,_,ho,_=>by simp [Qg] at ho
 | .sub _ _ _ _ _,_,_,ho,_=>by simp [Qg] at ho
 | .ptr _ _,_,_,ho,_=>by simp [Qg] at ho
 | .fn _ _,_,_,ho,_=>by simp [Qg] at ho
 | .nilfn,_,_,ho,_=>by simp [Qg] at ho
 | .nilptr,_,_,_,h=>by unfold InV at h ⊢; exact h
theorem Sz {E E':Env} (hw:E'.w=E.w):∀ (vs:List V) {cs:List Value} {F:List Nat},Ut vs=true→Jo E vs cs F→Jo E' vs cs F
 | [],_,_,_,h=>by unfold Jo at h ⊢; exact h
 | v :: vs,cs,F,ho,h=>by
  unfold Ut at ho; rw [Jg] at ho
  unfold Jo at h ⊢
  obtain ⟨c1,c2,F1,F2,e1,e2,h1,h2⟩:=h
  exact ⟨c1,c2,F1,F2,e1,e2,Wi hw v ho.1 h1,Sz hw vs ho.2 h2⟩
end
end Go.Rai
namespace Go.Rai
variable [Inhabited Qk]
theorem OD {a b:Bool}:bor a b=false ↔ a=false∧b=false:=by cases a <;> cases b <;> simp [bor]
mutual
theorem SA {E:Env}:∀ (v:V) {cs:List Value} {F:List Nat},Qg v=true→Q0 v=false→InV E v cs F→F=[]
 | .int _ _,_,_,_,_,h=>by unfold InV at h; exact h.2
 | .bool _,_,_,_,_,h=>by unfold InV at h; exact h.2
 | .str _,_,_,_,_,h=>by unfold InV at h; exact h.2
 | .own e l,_,_,_,hn,h=>by simp [Q0] at hn
 | .arr n e l,_,_,_,_,h=>by unfold InV at h; exact Hd (fun d c G hd=>He e h.2.1 hd) h.2.2
 | .agg vs,cs,F,ho,hn,h=>by unfold Qg at ho; unfold Q0 at hn; unfold InV at h; exact SB vs ho hn h
 | .obox v,cs,F,ho,hn,h=>by simp [Q0] at hn
 | .tup vs,_,_,_,_,h=>by unfold InV at h; exact h.elim
 | .undef,_,_,ho,_,_=>by simp [Qg] at ho
 | .void,_,_,ho,_,_=>by simp [Qg] at ho
 | .rd _ _,_,_,ho,_,_=>by simp [Qg] at ho
 | .lst _ _,_,_,ho,_,_=>by simp [Qg] at ho
 | .nilsl,_,_,_,_,h=>by unfold InV at h; exact h.2
 | .emp _,_,_,ho,_,_=>by simp [Qg] at ho
 | .rp _,_,_,ho,_,_=>by simp [Qg] at ho
 | .full _ _ _,_,_,ho,_,_=>by simp [Qg] at ho
 | .sub _ _ _ _ _,_,_,ho,_,_=>by simp [Qg] at ho
 | .ptr _ _,_,_,ho,_,_=>by simp [Qg] at ho
 | .fn _ _,_,_,ho,_,_=>by simp [Qg] at ho
 | .nilfn,_,_,ho,_,_=>by simp [Qg] at ho
 | .nilptr,_,_,_,_,h=>by unfold InV at h; exact h.2
theorem SB {E:Env}:∀ (vs:List V) {cs:List Value} {F:List Nat},Ut vs=true→H8 vs=false→Jo E vs cs F→F=[]
 | [],_,_,_,_,h=>by unfold Jo at h; exact h.2
 | v :: vs,cs,F,ho,hn,h=>by
  unfold Ut at ho; rw [Jg] at ho
  unfold H8 at hn; rw [OD] at hn
  unfold Jo at h
  obtain ⟨c1,c2,F1,F2,e1,e2,h1,h2⟩:=h
  rw [e2,SA v ho.1 hn.1 h1,SB vs ho.2 hn.2 h2]
  rfl
end
section
variable {P:Program} {A:Ann} {w w' w0:World} {F0:List Nat} {sl:List V} {a:Act} {bl b':BL} {G:GT} {o:Oper} {X:List Nat}
theorem SC {F:List Nat} (h:JZ w bl G (F ++ X) w0 F0) {s:Nat} {x x':V} {cs:List Value} {v:Value} (hx:InV (Jc w bl G (F ++ X)) x cs F) (hu:Qo x cs v) (ho:Qg x=true)
  (hf:place sl bl s x=some (x',b')):∃ G',JZ w b' G' X w0 F0∧One (Jc w b' G' X) x' v []∧JO (Jc w bl G (F ++ X)) (Jc w b' G' X) (fun t=>t ∉ Ju sl):=by
 unfold place at hf
 split at hf
 ·split at hf
  ·rename_i hun
   simp only [oj,pj] at hf
   obtain ⟨rfl,rfl⟩:=hf
   obtain ⟨u1,u2,u3,u4⟩:=CU hun
   obtain ⟨g1,g2⟩:=h.add u1 u3 hx u4
   refine ⟨_,g1,?_,⟨g2.le,fun t ht=>g2.al t (fun e=>ht (by rw [e]; exact u2))⟩⟩
   have hb:Jd (JM bl s x) s=some x:=by rw [JX]; simp
   have hin:=Yt (Fv:=F) (E:=Jc w (JM bl s x) (fun q=>if q=s then some (cs,F) else G q) X) (s:=s) (c0:=x) (rc:=cs) (F:=F) hb (by simp [Jc]) x (p:=[]) (L:=.reg cs) (by simp [Jj]) ⟨[],by simp⟩ (g2.inV (fun s' hs' hst=>u4 (hst ▸ hs')) (fun b _=>rfl) hx)
   refine ⟨cs,hin,?_⟩
   unfold Qo at hu ⊢
   rw [TI]
   exact hu
  ·simp at hf
 ·rename_i hno
  simp only [oj,pj] at hf
  obtain ⟨rfl,rfl⟩:=hf
  have hF:=SA x ho hno hx
  subst hF
  exact ⟨G,h,⟨cs,hx,hu⟩,⟨(JO.refl_ _ (fun _=>False)).le,fun t _=>(JO.refl_ _ (fun _=>False)).al t id⟩⟩
theorem JO.mono {E E':Env} {N N':Nat→Prop} (h:JO E E' N) (hn:∀ s,N s→N' s):JO E E' N':=⟨h.le,fun s hs=>h.al s (fun hN=>hs (hn s hN))⟩
theorem Xm {E E':Env} (hw:E'.w=E.w):∀ {xs:List V} {vs:List Value} {F:List Nat},Ut xs=true→Tup E xs vs F→Tup E' xs vs F
 | [],vs,F,_,h=>h
 | x :: xs,vs,F,ho,⟨v,r,F1,F2,e1,e2,⟨cs,h1,h2⟩,h3⟩=>by
  unfold Ut at ho; rw [Jg] at ho
  exact ⟨v,r,F1,F2,e1,e2,⟨cs,Wi hw x ho.1 h1,h2⟩,Xm hw ho.2 h3⟩
theorem SD {s:Nat}:∀ {vs:List V} {j:Nat} {sl:List V} {bl b':BL} {G:GT} {X F:List Nat} {xs:List V} {vals:List Value},JZ w bl G (F ++ X) w0 F0→Tup (Jc w bl G (F ++ X)) vs vals F→Ut vs=true →
  UB s sl bl j vs=some (xs,b')→∃ G',JZ w b' G' X w0 F0∧Tup (Jc w b' G' X) xs vals []∧JO (Jc w bl G (F ++ X)) (Jc w b' G' X) (fun t=>t ∉ Ju sl)
 | [],j,sl,bl,b',G,X,F,xs,vals,hc,hv,ho,h=>by
  simp only [UB,oj,pj] at h
  obtain ⟨rfl,rfl⟩:=h
  obtain ⟨rfl,rfl⟩:=hv
  exact ⟨G,hc,⟨rfl,rfl⟩,(JO.refl_ _ (fun _=>False)).mono (fun _ h=>h.elim)⟩
 | v :: vs,j,sl,bl,b',G,X,F,xs,vals,hc,hv,ho,h=>by
  unfold Ut at ho; rw [Jg] at ho
  obtain ⟨u,r,F1,F2,rfl,rfl,⟨cs,i1,i2⟩,i3⟩:=hv
  simp only [UB] at h
  split at h
  ·rename_i x b1 h1
   split at h
   ·rename_i ys b2 h2
    simp only [oj,pj] at h
    obtain ⟨rfl,rfl⟩:=h
    obtain ⟨p1,p2⟩:=hc.perm (show ((F1 ++ F2) ++ X).Perm (F1 ++ (F2 ++ X)) by rw [List.append_assoc])
    obtain ⟨G1,q1,⟨cs',q3,q5⟩,q4⟩:=SC (sl:=sl) (X:=F2 ++ X) p1 (Wi (E:=Jc w bl G ((F1 ++ F2) ++ X)) (E':=Jc w bl G (F1 ++ (F2 ++ X))) rfl v ho.1 i1) i2 ho.1 h1
    obtain ⟨G2,r1,r2,r3⟩:=SD (sl:=x :: sl) q1 (Xm (E:=Jc w bl G ((F1 ++ F2) ++ X)) (E':=Jc w b1 G1 (F2 ++ X)) rfl ho.2 i3) ho.2 h2
    have hg:JO (Jc w bl G ((F1 ++ F2) ++ X)) (Jc w b1 G1 (F2 ++ X)) (fun t=>t ∉ Ju sl):=(p2.mono (fun _ h=>h.elim)).trans q4
    have hg2:JO (Jc w b1 G1 (F2 ++ X)) (Jc w b2 G2 X) (fun t=>t ∉ Ju sl):=r3.mono (fun t ht hm=>ht (by simp [Ju,JL,hm]))
    have hx:One (Jc w b2 G2 X) x u []:=⟨cs',r3.inV (fun t ht hn=>hn (by simp [Ju,JL,ht])) (fun _ hb=>by cases hb) q3,q5⟩
    exact ⟨G2,r1,⟨u,r,[],[],rfl,rfl,hx,r2⟩,hg.trans hg2⟩
   ·simp at h
  ·simp at h
theorem YT {F:List Nat} (h:JZ w bl G F w0 F0) (hs:JP (Jc w bl G F) sl a) {d:Option Nat} {x x':V} {v:Value} {E:Env} (hE:E.w=w) (hx:Val E x v F) (ho:Qg x=true)
  (hf:Q9 sl bl d x=some (x',b')):∃ G',Qd w b' G' w0 F0∧JP (Jc w b' G' []) sl a∧Val (Jc w b' G' []) x' v []:=by
 unfold Q9 at hf
 have hF0:F ++ []=F:=List.append_nil F
 split at hf
 ·rename_i s
  split at hf
  ·rename_i vs
   split at hf
   ·rename_i xs b1 hp
    simp only [oj,pj] at hf
    obtain ⟨rfl,rfl⟩:=hf
    obtain ⟨vals,rfl,ht⟩:=hx
    unfold Qg at ho
    obtain ⟨G',g1,g2,g3⟩:=SD (X:=[]) (F:=F) (by rw [hF0]; exact h) (Xm (E:=E) (E':=Jc w bl G (F ++ [])) (by rw [hE]; rfl) ho ht) ho hp
    rw [hF0] at g3
    exact ⟨G',g1.c,hs.goes g3 (fun t ht hn=>hn ht),⟨vals,rfl,g2⟩⟩
   ·simp at hf
  ·rename_i hnt
   have hone:One E x v F:=by
    cases x <;> first | exact hx | (simp [Qg] at ho; done) | exact absurd rfl (hnt _)
   obtain ⟨cs,h1,h2⟩:=hone
   obtain ⟨G',g1,g2,g3⟩:=SC (sl:=sl) (X:=[]) (F:=F) (by rw [hF0]; exact h) (Wi (E:=E) (E':=Jc w bl G (F ++ [])) (by rw [hE]; rfl) x ho h1) h2 ho hf
   rw [hF0] at g3
   exact ⟨G',g1.c,hs.goes g3 (fun t ht hn=>hn ht),W9 g2⟩
 ·simp only [oj,pj] at hf
  obtain ⟨rfl,rfl⟩:=hf
  obtain ⟨p1,p2⟩:=h.sub (X':=[]) (by simp) (fun b hb=>by cases hb)
  exact ⟨G,p1.c,hs.go0 p2,Ch⟩
end
end Go.Rai
namespace Go.Rai
variable [Inhabited Qk]
section
variable {P:Program} {A:Ann} {w w' w0:World} {F0:List Nat} {sl:List V} {a:Act} {bl b':BL} {G:GT} {o:Oper} {X:List Nat}
theorem Wj {E:Env} {x:V} {v:Value} (hx:∀ xs,x ≠ .tup xs) (h:Val E x v []):One E x v []:=by
 cases x with
 | tup xs=>exact absurd rfl (hx xs)
 | undef=>exact ⟨[v],by unfold InV; exact ⟨⟨v,rfl⟩,rfl⟩,by unfold Qo; rfl⟩
 | _=>exact h
theorem Xn {E:Env} (hs:JP E sl a) {io:Nat→Bool}:∀ {xs:List Operand} {i:Nat},QX (Jy sl xs)=true→UG E io i (Jy sl xs) (xs.map a.eval) []
 | [],i,_=>⟨rfl,rfl⟩
 | x :: xs,i,h=>by
  simp only [Jy] at h
  have hx:(∀ ys,opd sl x ≠ .tup ys)∧QX (Jy sl xs)=true:=by
   cases hq:opd sl x <;> rw [hq] at h <;> simp [QX] at h <;> exact ⟨(by intro ys hh; cases hh),h⟩
  exact ⟨a.eval x,xs.map a.eval,[],[],rfl,rfl,Wj hx.1 (J1 hs x),fun _=>rfl,Xn hs hx.2⟩
theorem Xo {E:Env} {io:Nat→Bool}:∀ {caps:List V} {i:Nat} {vals:List Value},Hz caps=true→Jo E caps vals []→UG E io i caps vals []
 | [],i,vals,_,h=>by unfold Jo at h; exact h
 | x :: caps,i,vals,h,hi=>by
  unfold Jo at hi
  obtain ⟨c1,c2,F1,F2,e1,e2,h1,h2⟩:=hi
  obtain ⟨rfl,rfl⟩:=List.append_eq_nil_iff.1 e2.symm
  have hx:isA x=false∧vsz x=1∧Hz caps=true:=by
   cases x <;> simp [Hz] at h <;> exact ⟨rfl,rfl,h⟩
  have hl:=Qu _ h1
  rw [hx.2.1] at hl
  match c1,hl with
  | [u],_=>exact ⟨u,c2,[],[],e1,rfl,⟨[u],h1,by unfold Qo; rw [hx.1]⟩,fun _=>rfl,Xo hx.2.2 h2⟩
theorem Xp {E:Env} {io:Nat→Bool}:∀ {xs ys:List V} {i:Nat} {vs us:List Value} {F F':List Nat},UG E io i xs vs F→UG E io (i + xs.length) ys us F'→UG E io i (xs ++ ys) (vs ++ us) (F ++ F')
 | [],ys,i,vs,us,F,F',h,h'=>by obtain ⟨rfl,rfl⟩:=h; exact h'
 | x :: xs,ys,i,vs,us,F,F',⟨v,r,F1,F2,e1,e2,h1,h2,h3⟩,h'=>by
  subst e1; subst e2
  exact ⟨v,r ++ us,F1,F2 ++ F',by simp,by simp,h1,h2,Xp h3 (by rw [show i + 1 + xs.length=i + (x :: xs).length by simp; omega]; exact h')⟩
theorem SE {E:Env} {io:Nat→Bool}:∀ {xs:List V} {i:Nat} {vs:List Value} {F:List Nat},UG E io i xs vs F→vs.length=xs.length
 | [],i,vs,F,h=>by rw [h.1]; rfl
 | x :: xs,i,vs,F,⟨v,r,F1,F2,e1,e2,h1,h2,h3⟩=>by subst e1; simp [SE h3]
theorem SF {E:Env} {f:FuncId}:∀ {vs outs:List V} {i:Nat} {vals:List Value} {Fo:List Nat},UE A f i vs=false→vals.length=vs.length→CG E (fun j=>Qf (A.mode f j)) i outs vals Fo→Fo=[]
 | vs,[],i,vals,Fo,_,_,h=>h.2
 | [],x :: outs,i,vals,Fo,_,hl,⟨v,r,F1,F2,e1,_⟩=>by subst e1; simp at hl
 | _ :: vs,x :: outs,i,vals,Fo,hio,hl,⟨v,r,F1,F2,e1,e2,h1,h2,h3⟩=>by
  subst e1; subst e2
  simp only [UE] at hio
  split at hio
  ·cases hio
  ·cases hio
  ·rename_i hm hm2
   have hf:Qf (A.mode f i)=false:=by
    cases hq:A.mode f i with
    | io=>exact absurd hq hm
    | take=>rfl
    | lend=>rfl
    | keep=>rfl
   rw [h2 hf,SF hio (by simpa using hl) h3]
   rfl
theorem YU {f : FuncId} {args : Array Value} {fn : Func} (j1 : P.funcs[f]? = some fn) (j2 : (fn.name == "runtime.NumGoroutine") = false) (j3 : fn.body.isNone = false) : (callFunc f args).run P w = .ok (.enter f args) w := by
 unfold callFunc
 simp only [Sem.run_bind,run_program,Result.andThen_ok,j1,j2,j3,Bool.false_eq_true,if_false,Sem.run_pure]
end
end Go.Rai
namespace Go.Rai
variable [Inhabited Qk]
theorem M4 (b:Bool):undef ≠ Value.bool b:=by intro h; cases h
section
variable {P:Program} {A:Ann} {w w' w0:World} {F0:List Nat} {sl:List V} {a:Act} {bl b':BL} {G:GT} {o:Oper} {X:List Nat}
theorem YV:∀ (l:List Oper) (j:Nat),Hm l j=(l[j]?).bind (·.dst)
 | [],j=>by simp [Hm]
 | o :: l,0=>by simp [Hm]
 | o :: l,j + 1=>by simp [Hm,YV l j]
theorem Wk:∀ {sl:List V} {t:Nat} {v:V},JN sl t=v→v ≠ .undef→JR sl t v=sl
 | [],t,v,h,hn=>by simp [JN] at h; exact absurd h.symm hn
 | x :: sl,0,v,h,hn=>by simp [JN] at h; simp [JR,h]
 | x :: sl,t + 1,v,h,hn=>by simp [JN] at h; simp [JR,Wk h hn]
theorem SG {ops:Array Oper} {E:Env} (hs:JP E sl a) {j t:Nat} (hd:Hm ops.toList j=some t) {b:Bool} (hb:JN sl t=.bool b):yielded ops a.tmps j=some b:=by
 rw [YV] at hd
 have hv:=hs t
 rw [hb] at hv
 obtain ⟨hv,_⟩:=QL.1 hv
 have:a.tmps[t]?=some (.bool b):=by
  rw [Array.getD_eq_getD_getElem?] at hv
  cases hq:a.tmps[t]? with
  | none=>rw [hq] at hv; exact absurd hv (M4 b)
  | some u=>rw [hq] at hv; simp at hv; rw [hv]
 unfold yielded
 rw [show ops[j]?=ops.toList[j]? by simp,hd]
 simp [this]
theorem M5 {ops:Array Oper} {E:Env} (hs:JP E sl a) {j t:Nat} (hd:Hm ops.toList j=some t) (hb:JN sl t=.void):yielded ops a.tmps j=none:=by
 rw [YV] at hd
 have hv:=hs t
 rw [hb] at hv
 obtain ⟨hv,_⟩:=VW.1 hv
 unfold yielded
 rw [show ops[j]?=ops.toList[j]? by simp,hd]
 simp only [Option.bind_some]
 rw [Array.getD_eq_getD_getElem?] at hv
 cases hq:a.tmps[t]? with
 | none=>simp
 | some u=>rw [hq] at hv; simp at hv; subst hv; rfl
end
end Go.Rai
namespace Go.Rai
variable [Inhabited Qk]
theorem SH (f:Nat→Nat):∀ (v:V),vsz (ren f v)=vsz v
 | .agg vs=>by
  unfold ren vsz
  exact go vs
 | .arr _ _ _=>rfl
 | .int _ _=>rfl
 | .bool _=>rfl
 | .str _=>rfl
 | .own _ _=>rfl
 | .rd _ _=>rfl
 | .lst _ _=>rfl
 | .nilsl=>rfl
 | .emp _=>rfl
 | .obox _=>rfl
 | .rp _=>rfl
 | .full _ _ _=>rfl
 | .sub _ _ _ _ _=>rfl
 | .ptr _ _=>rfl
 | .fn _ _=>rfl
 | .nilfn=>rfl
 | .nilptr=>rfl
 | .undef=>rfl
 | .void=>rfl
 | .tup _=>rfl
 where go:∀ (vs:List V),JJ (QE f vs)=JJ vs
 | []=>rfl
 | v :: vs=>by unfold QE JJ; rw [SH f v,go vs]
theorem Wl (f:Nat→Nat) (vs:List V):JJ (QE f vs)=JJ vs:=by
 induction vs with
 | nil=>rfl
 | cons v vs ih=>unfold QE JJ; rw [SH,ih]
theorem Xq (f:Nat→Nat):∀ (vs:List V),(QE f vs).length=vs.length
 | []=>rfl
 | v :: vs=>by unfold QE; simp [Xq f vs]
theorem Xr (f:Nat→Nat):∀ (vs:List V) (j:Nat),nth (QE f vs) j=(nth vs j).map (ren f)
 | [],j=>by simp [QE,nth]
 | v :: vs,0=>by simp [QE,nth]
 | v :: vs,j + 1=>by simp [QE,nth,Xr f vs j]
theorem Xs (f:Nat→Nat):∀ (vs:List V) (j:Nat),(QE f vs).take j=QE f (vs.take j)
 | [],j=>by simp [QE]
 | v :: vs,0=>by simp [QE]
 | v :: vs,j + 1=>by simp [QE,Xs f vs j]
theorem SI (f:Nat→Nat) (v:V):QI (ren f v)=QI v:=by cases v <;> rfl
theorem M6 (f:Nat→Nat) (v:V):isA (ren f v)=isA v:=by cases v <;> rfl
mutual
theorem Wm (f:Nat→Nat):∀ (v:V),Jh v=[]→ren f v=v
 | .agg vs,h=>by unfold ren; unfold Jh at h; rw [Wn f vs h]
 | .lst e vs,h=>by unfold ren; unfold Jh at h; rw [Wn f vs h]
 | .tup vs,h=>by unfold ren; unfold Jh at h; rw [Wn f vs h]
 | .fn g vs,h=>by unfold ren; unfold Jh at h; rw [Wn f vs h]
 | .obox v,h=>by unfold ren; unfold Jh at h; rw [Wm f v h]
 | .rp v,h=>by unfold ren; unfold Jh at h; rw [Wm f v h]
 | .full _ _ _,h=>by simp [Jh] at h
 | .sub _ _ _ _ _,h=>by simp [Jh] at h
 | .ptr _ _,h=>by simp [Jh] at h
 | .arr _ _ _,_=>rfl
 | .int _ _,_=>rfl
 | .bool _,_=>rfl
 | .str _,_=>rfl
 | .own _ _,_=>rfl
 | .rd _ _,_=>rfl
 | .nilsl,_=>rfl
 | .emp _,_=>rfl
 | .nilfn,_=>rfl
 | .nilptr,_=>rfl
 | .undef,_=>rfl
 | .void,_=>rfl
theorem Wn (f:Nat→Nat):∀ (vs:List V),Ju vs=[]→QE f vs=vs
 | [],_=>rfl
 | v :: vs,h=>by
  unfold Ju at h
  rw [Qi,List.append_eq_nil_iff] at h
  unfold QE
  rw [Wm f v h.1,Wn f vs h.2]
end
theorem CH (f:Nat→Nat) {w:World}:∀ (p:List Nat) (v:V) (L:Jp) (x':V) (L':Jp),Jj w (ren f v) L p=some (x',L')→∃ x,Jj w v L p=some (x,L')∧x'=ren f x
 | [],v,L,x',L',h=>by
  simp only [Jj,oj,pj] at h
  exact ⟨v,by simp [Jj,h.2],h.1.symm⟩
 | j :: p,v,L,x',L',h=>by
  cases v with
  | agg vs=>
   simp only [ren,Jj,Xr,Xs,Wl] at h
   cases hj:nth vs j with
   | none=>rw [hj] at h; simp at h
   | some xj=>
    rw [hj] at h
    simp only [Option.map_some] at h
    obtain ⟨x,h1,h2⟩:=CH f p xj _ x' L' h
    exact ⟨x,by simp only [Jj,hj]; exact h1,h2⟩
  | lst e vs=>
   simp only [ren,Jj,Xr,Xs,Wl] at h
   cases hj:nth vs j with
   | none=>rw [hj] at h; simp at h
   | some xj=>
    rw [hj] at h
    simp only [Option.map_some] at h
    split at h
    ·rename_i a _ _ hh
     obtain ⟨x,h1,h2⟩:=CH f p xj _ x' L' h
     exact ⟨x,by simp only [Jj,hj,hh]; exact h1,h2⟩
    ·simp at h
  | fn g vs=>
   simp only [ren,Jj,Xr,Xs,Wl] at h
   cases hj:nth vs j with
   | none=>rw [hj] at h; simp at h
   | some xj=>
    rw [hj] at h
    simp only [Option.map_some] at h
    split at h
    ·rename_i a _ _ hh
     obtain ⟨x,h1,h2⟩:=CH f p xj _ x' L' h
     exact ⟨x,by simp only [Jj,hj,hh]; exact h1,h2⟩
    ·simp at h
  | obox y=>
   simp only [ren,Jj] at h
   split at h
   ·rename_i a hh
    obtain ⟨x,h1,h2⟩:=CH f p y _ x' L' h
    exact ⟨x,by simp only [Jj,hh]; exact h1,h2⟩
   ·simp at h
  | own e l=>
   simp only [ren,Jj] at h
   split at h
   ·rename_i hj
    split at h
    ·rename_i a _ _ hh
     rw [← Wm f (dec true e (l.getD j (.int 0))) (VT true e _)] at h
     obtain ⟨x,h1,h2⟩:=CH f p _ _ x' L' h
     exact ⟨x,by simp only [Jj,if_pos hj,hh]; exact h1,h2⟩
    ·simp at h
   ·simp at h
  | arr n e l=>
   simp only [ren,Jj] at h
   split at h
   ·rename_i hj
    rw [← Wm f (dec true e (l.getD j (.int 0))) (VT true e _)] at h
    obtain ⟨x,h1,h2⟩:=CH f p _ _ x' L' h
    exact ⟨x,by simp only [Jj,if_pos hj]; exact h1,h2⟩
   ·simp at h
  | _=>simp [ren,Jj] at h
structure Ren (f:Nat→Nat) (L:List Nat) (E E':Env):Prop where
 w:E'.w=E.w
 S:∀ b,E.S b→E'.S b
 K:∀ b,E.K b→E'.K b
 al:∀ s,s ∈ L→∀ c' rc F',Jd E'.bl (f s)=some c'→E'.G (f s)=some (rc,F')→∃ c,Jd E.bl s=some c∧c'=ren f c∧E.G s=some (rc,F')
mutual
theorem Ren.inV {f:Nat→Nat} {L:List Nat} {E E':Env} (h:Ren f L E E'):∀ (v:V) {cs:List Value} {F:List Nat},(∀ s ∈ Jh v,s ∈ L)→InV E v cs F→InV E' (ren f v) cs F
 | .undef,_,_,_,hv=>by unfold ren InV at *; exact hv
 | .void,_,_,_,hv=>by unfold ren InV at *; exact hv
 | .int _ _,_,_,_,hv=>by unfold ren InV at *; exact hv
 | .bool _,_,_,_,hv=>by unfold ren InV at *; exact hv
 | .str _,_,_,_,hv=>by unfold ren InV at *; exact hv
 | .agg vs,_,_,hs,hv=>by unfold ren InV at *; exact h.inVs vs (by simpa [Jh] using hs) hv
 | .arr _ _ _,_,_,_,hv=>by unfold ren InV at *; rw [h.w]; exact hv
 | .own _ _,_,_,_,hv=>by unfold ren InV at *; rw [h.w]; exact hv
 | .rd _ _,_,_,_,hv=>by
  unfold ren InV at *
  rw [h.w]
  obtain ⟨h1,h2,A,c,F',h3,h4,h5⟩:=hv
  exact ⟨h1,h2,A,c,F',h3,h4,fun b hb=>⟨h.S b (h5 b hb).1,fun he=>h.K b ((h5 b hb).2 he)⟩⟩
 | .lst e vs,_,_,hs,hv=>by
  unfold ren InV at *
  rw [h.w,Xq,Wl]
  obtain ⟨a,c,cs',F',h1,h2,h3,h4,h5⟩:=hv
  exact ⟨a,c,cs',F',h1,h2,h3,h.inVs vs (by simpa [Jh] using hs) h4,h5⟩
 | .nilsl,_,_,_,hv=>by unfold ren InV at *; exact hv
 | .emp _,_,_,_,hv=>by unfold ren InV at *; exact hv
 | .obox v,_,_,hs,hv=>by
  unfold ren InV at *
  rw [h.w]
  obtain ⟨a,cs',F',h1,h2,h3⟩:=hv
  exact ⟨a,cs',F',h1,h.inV v (by simpa [Jh] using hs) h2,h3⟩
 | .rp v,_,_,hs,hv=>by
  unfold ren InV at *
  rw [h.w]
  obtain ⟨h0,a,cs',h1,h2,h3,h4⟩:=hv
  exact ⟨h0,a,cs',h1,h.inV v (by simpa [Jh] using hs) h2,h3,h.S _ h4⟩
 | .full s p e,_,_,hs,hv=>by
  unfold ren InV at *
  obtain ⟨h0,h1,h2⟩:=hv
  refine ⟨h0,h1,fun c' rc F0 hl hg x' Lx hx ho=>?_⟩
  obtain ⟨c,k1,rfl,k3⟩:=h.al s (hs s (by simp [Jh])) c' rc F0 hl hg
  rw [h.w] at hx ⊢
  obtain ⟨x,e1,rfl⟩:=CH f p c (.reg rc) x' Lx hx
  exact h2 c rc F0 k1 k3 x Lx e1 (by rw [SI] at ho; exact ho)
 | .sub s p off len e,_,_,hs,hv=>by
  unfold ren InV at *
  obtain ⟨h0,h1,h2⟩:=hv
  refine ⟨h0,h1,fun c' rc F0 hl hg x' Lx hx ho=>?_⟩
  obtain ⟨c,k1,rfl,k3⟩:=h.al s (hs s (by simp [Jh])) c' rc F0 hl hg
  rw [h.w] at hx ⊢
  obtain ⟨x,e1,rfl⟩:=CH f p c (.reg rc) x' Lx hx
  exact h2 c rc F0 k1 k3 x Lx e1 (by rw [SI] at ho; exact ho)
 | .ptr s p,_,_,hs,hv=>by
  unfold ren InV at *
  obtain ⟨h0,h1,h2⟩:=hv
  refine ⟨h0,h1,fun c' rc F0 hl hg x' Lx hx=>?_⟩
  obtain ⟨c,k1,rfl,k3⟩:=h.al s (hs s (by simp [Jh])) c' rc F0 hl hg
  rw [h.w] at hx
  obtain ⟨x,e1,rfl⟩:=CH f p c (.reg rc) x' Lx hx
  exact h2 c rc F0 k1 k3 x Lx e1
 | .fn g caps,_,_,hs,hv=>by
  unfold ren InV at *
  rw [Wl,Xq]
  obtain ⟨vals,h1,h2,h3⟩:=hv
  exact ⟨vals,h1,h.inVs caps (by simpa [Jh] using hs) h2,h3⟩
 | .nilfn,_,_,_,hv=>by unfold ren InV at *; exact hv
 | .nilptr,_,_,_,hv=>by unfold ren InV at *; exact hv
 | .tup _,_,_,_,hv=>by unfold InV at hv; exact hv.elim
theorem Ren.inVs {f:Nat→Nat} {L:List Nat} {E E':Env} (h:Ren f L E E'):∀ (vs:List V) {cs:List Value} {F:List Nat},(∀ s ∈ Ju vs,s ∈ L)→Jo E vs cs F→Jo E' (QE f vs) cs F
 | [],_,_,_,hv=>by unfold QE Jo at *; exact hv
 | v :: vs,_,_,hs,hv=>by
  unfold QE Jo at *
  obtain ⟨c1,c2,F1,F2,e1,e2,h1,h2⟩:=hv
  exact ⟨c1,c2,F1,F2,e1,e2,h.inV v (fun s hs'=>hs s (by simp [Ju,JL,hs'])) h1,h.inVs vs (fun s hs'=>hs s (by simp [Ju,JL,hs'])) h2⟩
end
theorem Ren.one {f:Nat→Nat} {L:List Nat} {E E':Env} (h:Ren f L E E') {x:V} {v:Value} {F:List Nat} (hs:∀ s ∈ Jh x,s ∈ L) (hv:One E x v F):One E' (ren f x) v F:=by
 obtain ⟨cs,h1,h2⟩:=hv
 refine ⟨cs,h.inV x hs h1,?_⟩
 unfold Qo at h2 ⊢
 rw [M6]
 exact h2
theorem Ren.tup {f:Nat→Nat} {L:List Nat} {E E':Env} (h:Ren f L E E'):∀ {xs:List V} {vs:List Value} {F:List Nat},(∀ s ∈ Ju xs,s ∈ L)→Tup E xs vs F→Tup E' (QE f xs) vs F
 | [],_,_,_,hv=>hv
 | x :: xs,_,_,hs,⟨v,r,F1,F2,e1,e2,h1,h2⟩=>
  ⟨v,r,F1,F2,e1,e2,h.one (fun s hs'=>hs s (by simp [Ju,JL,hs'])) h1,h.tup (fun s hs'=>hs s (by simp [Ju,JL,hs'])) h2⟩
theorem Ren.val {f:Nat→Nat} {L:List Nat} {E E':Env} (h:Ren f L E E') {x:V} {v:Value} {F:List Nat} (hs:∀ s ∈ Jh x,s ∈ L) (hv:Val E x v F):Val E' (ren f x) v F:=by
 cases x with
 | tup xs=>
  obtain ⟨vs,h1,h2⟩:=hv
  exact ⟨vs,h1,h.tup (by simpa [Jh] using hs) h2⟩
 | undef=>exact hv
 | _=>exact h.one hs hv
theorem YW {f:Nat→Nat} {b:BL}:∀ {L:List Nat} {t:Nat} {c':V},Jd (Ce f b L) t=some c'→∃ s ∈ L,f s=t∧∃ c,Jd b s=some c∧c'=ren f c
 | [],t,c',h=>by simp [Ce,Jd] at h
 | s :: L,t,c',h=>by
  unfold Ce at h
  split at h
  ·rename_i c hc
   simp only [Jd] at h
   split at h
   ·rename_i hb
    simp only [oj] at h
    exact ⟨s,by simp,Nat.eq_of_beq_eq_true hb,c,hc,h.symm⟩
   ·obtain ⟨s',h1,h2⟩:=YW h
    exact ⟨s',by simp [h1],h2⟩
  ·obtain ⟨s',h1,h2⟩:=YW h
   exact ⟨s',by simp [h1],h2⟩
theorem YX:∀ (L:List Nat) (k s:Nat),k≤HO L k s
 | [],k,s=>Nat.le_refl _
 | a :: L,k,s=>by
  unfold HO
  split
  ·exact Nat.le_refl _
  ·exact Nat.le_trans (Nat.le_succ k) (YX L (k + 1) s)
theorem SJ:∀ (L:List Nat) (k:Nat) {s t:Nat},s ∈ L→t ∈ L→HO L k s=HO L k t→s=t
 | [],k,s,t,hs,_,_=>by cases hs
 | a :: L,k,s,t,hs,ht,h=>by
  unfold HO at h
  split at h
  ·rename_i h1
   have:=Nat.eq_of_beq_eq_true h1
   subst this
   split at h
   ·rename_i h2
    exact Nat.eq_of_beq_eq_true h2
   ·have:=YX L (k + 1) t
    omega
  ·rename_i h1
   split at h
   ·have:=YX L (k + 1) s
    omega
   ·rename_i h2
    have n1:s ≠ a:=fun e=>by subst e; rw [Nat.beq_refl] at h1; cases h1
    have n2:t ≠ a:=fun e=>by subst e; rw [Nat.beq_refl] at h2; cases h2
    exact SJ L (k + 1) ((List.mem_cons.1 hs).resolve_left n1) ((List.mem_cons.1 ht).resolve_left n2) h
theorem YY {L:List Nat}:∀ {r:List Nat},OZ L r=true→∀ s ∈ r,s ∈ L
 | [],_,s,hs=>by cases hs
 | a :: r,h,s,hs=>by
  unfold OZ at h
  rw [Jg] at h
  rcases List.mem_cons.1 hs with rfl | hs
  ·exact UF.1 h.1
  ·exact YY h.2 s hs
theorem YZ {b:BL} {L:List Nat}:∀ {r:List Nat},O0 b L r=true→∀ s ∈ r,∀ c,Jd b s=some c→∀ t ∈ Jh c,t ∈ L
 | [],_,s,hs=>by cases hs
 | a :: r,h,s,hs=>by
  unfold O0 at h
  intro c hc
  split at h
  ·rename_i c0 h0
   rw [Jg] at h
   rcases List.mem_cons.1 hs with rfl | hs
   ·rw [h0] at hc
    simp only [oj] at hc
    subst hc
    exact YY h.1
   ·exact YZ h.2 s hs c hc
  ·rename_i h0
   rcases List.mem_cons.1 hs with rfl | hs
   ·rw [h0] at hc
    cases hc
   ·exact YZ h s hs c hc
theorem SK (ks:List Nat):∀ (sl:List V) (t u:Nat),JN (Cu ks t sl) u=JN sl u ∨ JN (Cu ks t sl) u=.undef
 | [],t,u=>.inl rfl
 | v :: sl,t,0=>by
  simp only [Cu,JN]
  split
  ·exact .inl rfl
  ·exact .inr rfl
 | v :: sl,t,u + 1=>by simpa only [Cu,JN] using SK ks sl (t + 1) u
theorem SL (ks:List Nat):∀ (sl:List V) (t:Nat),(Cu ks t sl).length=sl.length
 | [],_=>rfl
 | v :: sl,t=>by simp [Cu,SL ks sl]
theorem SM (f:Nat→Nat):∀ (sl:List V) (t:Nat),JN (QE f sl) t=ren f (JN sl t)
 | [],t=>by simp [QE,JN,ren]
 | v :: sl,0=>by simp [QE,JN]
 | v :: sl,t + 1=>by simp [QE,JN,SM f sl t]
section
variable {Pn:Nat→Option Value} {P:Program} {A:Ann} {w w' w0:World} {F0:List Nat} {sl:List V} {a:Act} {bl b':BL} {G:GT} {o:Oper} {X:List Nat}
theorem JP.mask {E:Env} (h:JP E sl a) (ks:List Nat):JP E (Cu ks 0 sl) a:=by
 intro t
 rcases SK ks sl 0 t with h1 | h1
 ·rw [h1]; exact h t
 ·rw [h1]; exact Ch
theorem M7 {m:List V} {L:List Nat} (hr:Rel Pn w0 F0 ⟨m,bl⟩ a w) (h1:OZ L (Ju m)=true) (h2:O0 bl L L=true) :
  Rel Pn w0 F0 ⟨QE (HO L 1000) m,Ce (HO L 1000) bl L⟩ a w:=by
 obtain ⟨⟨G,hc,hs⟩,hl,hd,hpin⟩:=hr
 let f:=HO L 1000
 let G':GT:=fun t=>(L.find? (fun s=>f s == t)).bind G
 have inj:∀ {s t:Nat},s ∈ L→t ∈ L→f s=f t→s=t:=fun hs ht h=>SJ L 1000 hs ht h
 have hG:∀ s ∈ L,G' (f s)=G s:=by
  intro s hs
  show (L.find? (fun s'=>f s' == f s)).bind G=G s
  cases hq:L.find? (fun s'=>f s' == f s) with
  | none=>
   have:=List.find?_eq_none.1 hq s hs
   simp at this
  | some s'=>
   have e1:=List.find?_some hq
   have e2:=List.mem_of_find?_eq_some hq
   have:s'=s:=inj e2 hs (by simpa using e1)
   subst this
   rfl
 have look:∀ {t:Nat} {c':V},Jd (Ce f bl L) t=some c'→∃ s ∈ L,f s=t∧∃ c,Jd bl s=some c∧c'=ren f c:=fun h=>YW h
 have owned:∀ b,Ug (Ce f bl L) G' [] b→Ug bl G [] b:=by
  rintro b (hb | ⟨t,c',rc,F,k1,k2,k3⟩)
  ·cases hb
  ·obtain ⟨s,hs,rfl,c,e1,rfl⟩:=look k1
   rw [hG s hs] at k2
   exact .inr ⟨s,c,rc,F,e1,k2,k3⟩
 have hren:Ren f L (Jc w bl G []) (Jc w (Ce f bl L) G' []):=by
  refine ⟨rfl,fun b hb=>⟨hb.1,fun ho=>hb.2 (owned b ho)⟩,fun b hb=>hb,?_⟩
  intro s hs c' rc F' k1 k2
  obtain ⟨s',hs',e0,c,e1,rfl⟩:=look k1
  have:=inj hs' hs e0
  subst this
  have k2':G' (f s')=some (rc,F'):=k2
  rw [hG s' hs'] at k2'
  exact ⟨c,e1,rfl,k2'⟩
 refine ⟨⟨G',⟨?_,hc.frame,fun b hb=>hc.own b (owned b hb),hc.size,hc.os,hc.tape,hc.output⟩,?_⟩,by rw [Xq]; exact hl,hd,hpin⟩
 ·refine ⟨?_,?_,List.nodup_nil,fun b hb=>by cases hb⟩
  ·intro t c' k1
   obtain ⟨s,hs',rfl,c,e1,rfl⟩:=look k1
   obtain ⟨rc,F,Fc,g1,g2,g3,g4,g5⟩:=hc.ok.root s c e1
   exact ⟨rc,F,Fc,by rw [hG s hs']; exact g1,hren.inV c (YZ h2 s hs' c e1) g2,g3,g4,g5⟩
  ·intro t t' c c' rc rc' F F' hne k1 k2 k3 k4
   obtain ⟨s,hs1,rfl,c1,e1,rfl⟩:=look k1
   obtain ⟨s',hs2,rfl,c2,e2,rfl⟩:=look k2
   rw [hG s hs1] at k3
   rw [hG s' hs2] at k4
   exact hc.ok.apart s s' c1 c2 rc rc' F F' (fun e=>hne (by rw [e])) e1 e2 k3 k4
 ·intro t
  show Val _ (JN (QE f m) t) _ []
  rw [SM]
  exact hren.val (fun s hs'=>YY h1 s (Yn hs')) (hs t)
theorem Xt {R:Type} {ks:List Nat} {σ:St} {κ:St→Option R} {r:R} (hr:Rel Pn w0 F0 σ a w) (h:O1 ks σ κ=some r):∃ σ',κ σ'=some r∧Rel Pn w0 F0 σ' a w:=by
 unfold O1 at h
 rw [U3,Oz] at h
 split at h
 ·rename_i hb
  rw [Jg] at hb
  rw [U3,HZ] at h
  obtain ⟨⟨G,hc,hs⟩,hl,hd,hpin⟩:=hr
  exact ⟨_,h,M7 ⟨⟨G,hc,hs.mask ks⟩,by rw [SL]; exact hl,hd,hpin⟩ hb.1 hb.2⟩
 ·cases h
end
end Go.Rai
namespace Go.Rai
structure Rec where
 v:V
 rd:List Nat
 dst:Option Nat
 bar:Bool
 T:List Nat
 W:List Nat
 N:List Nat
 nm:List Nat
 L:List Nat
 sm:Bool
 bn:List Nat
 qf:List Nat
 qp:List Nat
 deriving Inhabited
inductive Cls where
 | read
 | fresh
 | store
 | call
 | app
 | bar
def cls:Op→Cls
 | .move _=>.read
 | .assign _=>.read
 | .pick _ _ _=>.read
 | .build _ _=>.read
 | .load _ _=>.read
 | .nilCheck _=>.read
 | .binOp _ _ _ _ _=>.read
 | .unOp _ _ _=>.read
 | .convert _ _ _=>.read
 | .makeFunc _ _ _=>.read
 | .slice _ _ _ _ _=>.read
 | .fieldAddr _ _ _=>.read
 | .field _ _ _=>.read
 | .indexAddr _ _ _=>.read
 | .index _ _ _=>.read
 | .extract _ _=>.read
 | .alloc _=>.fresh
 | .box _ _=>.fresh
 | .makeSlice _ _ _=>.fresh
 | .buildSlice _ _ _=>.fresh
 | .store _ _ _=>.store
 | .call c=>match c.callee with
  | .builtin .len=>.read
  | .builtin .max=>.read
  | .builtin .min=>.read
  | .builtin .append=>.app
  | .builtin .copy=>.app
  | .value _=>.call
  | _=>.bar
 | _=>.bar
def Wo:Option Operand→List Operand
 | some x=>[x]
 | none=>[]
def JG:Op→List Operand
 | .move x=>[x]
 | .assign x=>[x]
 | .pick c x y=>[c,x,y]
 | .build _ ps=>ps.toList.map (·.2)
 | .load _ a=>[a]
 | .nilCheck x=>[x]
 | .binOp _ _ x y _=>[x,y]
 | .unOp _ _ x=>[x]
 | .convert _ _ x=>[x]
 | .makeFunc _ _ caps=>caps.toList
 | .slice _ x lo hi mx=>x :: cat (Wo lo) (cat (Wo hi) (Wo mx))
 | .fieldAddr _ x _=>[x]
 | .field _ x _=>[x]
 | .indexAddr _ x i=>[x,i]
 | .index _ x i=>[x,i]
 | .extract x _=>[x]
 | .box _ x=>[x]
 | .makeSlice _ l c=>[l,c]
 | .buildSlice _ _ ps=>ps.toList.map (·.2)
 | .store _ a x=>[a,x]
 | .call c=>match c.callee with
  | .value f=>f :: c.args.toList
  | _=>c.args.toList
 | _=>[]
def Uh:List Operand→List Nat
 | []=>[]
 | .tmp t :: r=>t :: Uh r
 | _ :: r=>Uh r
def H0 (all:List Oper) (o:Oper):List Nat:=
 match o.guard with
 | some (j,_)=>match Hm all j with
  | some t=>[t]
  | none=>[]
 | none=>[]
def Vn (b:BL):List Nat→List Nat
 | []=>[]
 | s :: r=>match Jd b s with
  | some c=>cat (Jh c) (Vn b r)
  | none=>Vn b r
def CY (b:BL):List Nat→BL
 | []=>[]
 | s :: r=>match Jd b s with
  | some c=>(s,c) :: CY b r
  | none=>CY b r
def QG:BL→List Nat
 | []=>[]
 | (k,_) :: r=>k :: QG r
def UP (s:Nat):Nat→List V→List Nat
 | _,[]=>[]
 | j,_ :: vs=>(10000 + 16 * s + j) :: UP s (j + 1) vs
def Ui (d:Option Nat) (v:V):List Nat:=
 match d with
 | some s=>match v with
  | .tup vs=>UP s 0 vs
  | _=>[s]
 | none=>[]
def SN {R:Type} (oc:OC R) (A:Ann) (σ:St) (d:Option Nat) (f:FuncId) (ts:List Ty) (args caps:List V) (κ:V→BL→List Nat→List Nat→Option R):Option R:=
 match Jm (QX args) (Hz caps) with
 | true=>Hk (CY σ.bl (Oj σ.bl 60 [] (Ju (cat args caps)))) (fun bR=>match Q6 A f bR 0 ts (cat args caps) with
  | some (c,ws)=>QP c (Uz ws (fun ws=>oc f ws (fun res _=>
    match Qg res with
    | true=>match Q9 σ.sl σ.bl d res with
     | some (v,b'')=>κ v b'' (QG bR) (Ui d res)
     | none=>none
    | false=>none)))
  | none=>none)
 | false=>none
def Wp:BL→List Nat→BL
 | b,[]=>b
 | b,s :: r=>Wp (Qt b s) r
def H1 (b:BL) (K:List Nat) (b':BL):BL:=cat (Wp b K) b'
def Xu (A:Ann) (f:FuncId):Nat→List V→List V
 | _,[]=>[]
 | i,v :: vs=>match A.mode f i with
  | .io=>v :: Xu A f (i + 1) vs
  | .take=>v :: Xu A f (i + 1) vs
  | _=>Xu A f (i + 1) vs
def SO {R:Type} (oc:OC R) (A:Ann) (σ:St) (d:Option Nat) (f:FuncId) (ts:List Ty) (args caps:List V) (κ:V→BL→List Nat→List Nat→List Nat→Option R):Option R:=
 match Jm (QX args) (Hz caps) with
 | true=>Hk (CY σ.bl (Oj σ.bl 60 [] (Ju (Xu A f 0 (cat args caps))))) (fun bW=>
   Hk (CY σ.bl (Oj σ.bl 60 [] (Ju (cat args caps)))) (fun bR=>
   match U9 A f bW 0 (cat args caps) with
   | true=>match Hl A f 0 bW (cat args caps) with
    | some (c,ws,b1)=>match Q6 A f (H1 bR (QG bW) b1) 0 ts ws with
     | some (c',us)=>QP (cat c c') (Uz us (fun us=>Hk b1 (fun b1=>oc f us (fun res outs=>
       match Qg res with
       | true=>match Q7 A (UL A f 0 us) f 0 b1 (cat args caps) outs with
        | some b2=>match Q9 σ.sl (H1 σ.bl (QG bW) b2) d res with
         | some (v,b3)=>κ v b3 (cat (QG bR) (QG bW)) (QG bW) (Ui d res)
         | none=>none
        | none=>none
       | false=>none))))
     | none=>none
    | none=>none
   | false=>none))
 | false=>none
def H2 (bar:Bool) (v:V) (b:BL) (W:List Nat):List Nat:=
 match bar with
 | true=>cat (Jh v) (JK b)
 | false=>cat (Jh v) (Vn b W)
def Wq (bar:Bool) (b:BL) (W:List Nat):List Nat:=
 match bar with
 | true=>JK b
 | false=>Vn b W
def CZ (d:Option Nat) (sl:List V):V:=
 match d with
 | some t=>JN sl t
 | none=>.undef
def Ht {R:Type} (all:List Oper) (σ:St) (o:Oper) (bar:Bool) (v:V) (b:BL) (T W N L:List Nat) (sm:Bool) (κ:Rec→St→Option R):Option R:=
 QH v (fun v=>QW σ o.dst v b (fun σ'=>UA T (fun T=>UA (H2 bar v σ'.bl W) (fun nm=>UA L (fun L=>UA (Wq bar σ'.bl W) (fun bn=>
  match sm with
  | true=>κ ⟨v,cat (H0 all o) (Uh (JG o.op)),o.dst,bar,T,W,N,nm,L,true,bn,[],[]⟩ σ'
  | false=>κ ⟨v,cat (H0 all o) (Uh (JG o.op)),o.dst,bar,T,W,N,nm,L,false,bn,[],[]⟩ σ'))))))
def Y0 {R:Type} (all:List Oper) (σ:St) (o:Oper) (v:V) (b:BL) (T W N qf qp:List Nat) (κ:Rec→St→Option R):Option R:=
 QH v (fun v=>QW σ o.dst v b (fun σ'=>UA T (fun T=>UA W (fun W=>UA (H2 false v σ'.bl W) (fun nm=>UA (Wq false σ'.bl W) (fun bn=>UA qf (fun qf=>UA qp (fun qp=>
  κ ⟨v,cat (H0 all o) (Uh (JG o.op)),o.dst,false,T,W,N,nm,[],false,bn,qf,qp⟩ σ'))))))))
def Vo (b:BL):V→Option Nat
 | .full s p _=>match Jd b s with
  | some c=>match c.outer p with
   | true=>some s
   | false=>none
  | none=>none
 | .sub s p _ _ _=>match Jd b s with
  | some c=>match c.outer p with
   | true=>some s
   | false=>none
  | none=>none
 | _=>none
def Vp (σ:St) (op:Op):List Nat:=
 match op with
 | .move _=>[]
 | .assign _=>[]
 | .pick _ _ _=>[]
 | .unOp _ _ _=>[]
 | .field _ _ _=>[]
 | .extract _ _=>[]
 | .indexAddr _ x i=>match Vo σ.bl (opd σ.sl x) with
  | some _=>[]
  | none=>Ju (Jy σ.sl (JG (.indexAddr 0 x i)))
 | op=>Ju (Jy σ.sl (JG op))
def Wr (σ:St) (op:Op):List Nat:=
 match op with
 | .indexAddr _ x _=>match Vo σ.bl (opd σ.sl x) with
  | some s=>[s]
  | none=>[]
 | _=>[]
def Y1 (σ:St) (op:Op):Bool:=
 match op with
 | .store _ a _=>match opd σ.sl a with
  | .ptr s p=>match Jd σ.bl s with
   | some c=>J3 (c.outer p)
   | none=>false
  | _=>false
 | _=>false
def Ql:Option Nat→List Nat
 | some t=>[t]
 | none=>[]
def Vq {R:Type} (A:Ann) (all:List Oper) (σ:St) (o:Oper) (bar:Bool) (T W N L:List Nat) (sm:Bool) (κ:Rec→St→Option R):Option R:=
 match JS A σ.sl σ.bl o.dst o.op with
 | some (c,v,b)=>QP c (Ht all σ o bar v b T W N L sm κ)
 | none=>none
def C0 (σ:St):Op→List Nat
 | .store _ a _=>Jh (opd σ.sl a)
 | _=>[]
def SP:V→Bool
 | .nilsl=>true
 | .emp _=>true
 | .full _ _ _=>true
 | _=>false
def SQ:V→Bool
 | .sub _ _ _ _ _=>true
 | _=>false
def Xv (b:BL):V→Bool
 | .full s p _=>match Qc b s p with
  | some (_,.own _ _)=>true
  | _=>false
 | _=>true
def SR:V→Bool
 | .full _ _ _=>true
 | .sub _ _ _ _ _=>true
 | _=>false
def Xw (A:Ann) (σ:St) (op:Op):Bool:=
 match op with
 | .call c=>match c.argTypes.toList with
  | t :: ts=>match A.ty t with
   | .slice e=>match Jm e.flat (J3 (OR (A.ty (ts.headD 0)))) with
    | true=>match Jy σ.sl c.args.toList with
     | [s,x]=>match c.callee with
      | .builtin .append=>Jm (bor (SP s) (SQ s)) (Xv σ.bl x)
      | .builtin .copy=>Jm (SR s) (Xv σ.bl x)
      | _=>false
     | _=>false
    | false=>false
   | _=>false
  | []=>false
 | _=>false
def Ck (d:Option Nat) (op:Op):List Nat:=
 match op with
 | .call c=>match c.callee with
  | .builtin .copy=>[]
  | _=>Ql d
 | _=>Ql d
def C1 (σ:St) (d:Option Nat) (op:Op):List Nat:=
 match op with
 | .call c=>match Jy σ.sl c.args.toList with
  | s :: _=>cat (Jh s) (Ck d op)
  | []=>Ck d op
 | _=>Ck d op
def OE (σ:St) (d:Option Nat) (op:Op):List Nat:=cat (Ju (Jy σ.sl (JG op))) (Ck d op)
def Ws {R:Type} (oc:OC R) (A:Ann) (all:List Oper) (σ:St) (o:Oper) (κ:Rec→St→Option R):Option R:=
 match cls o.op with
 | .read=>Vq A all σ o false (Vp σ o.op) [] [] (Wr σ o.op) false κ
 | .fresh=>Vq A all σ o false (Ql o.dst) (Ql o.dst) (Ql o.dst) [] false κ
 | .store=>match JS A σ.sl σ.bl o.dst o.op with
  | some _=>Vq A all σ o false (C0 σ o.op) (C0 σ o.op) [] [] (Y1 σ o.op) κ
  | none=>Ct oc A σ o (fun σ'=>Ht all σ o true (CZ o.dst σ'.sl) σ'.bl [] [] [] [] false κ)
 | .call=>match o.op with
  | .call c=>match c.callee with
   | .value f=>match opd σ.sl f with
    | .fn g caps=>match UE A g 0 (cat (Jy σ.sl c.args.toList) caps) with
     | false=>SN oc A σ o.dst g (VP A c.argTypes.toList) (Jy σ.sl c.args.toList) caps (fun v b T N=>Ht all σ o false v b (cat T N) N N [] false κ)
     | true=>match Ya A g σ.bl (cat (Jy σ.sl c.args.toList) caps) with
      | some _=>Ct oc A σ o (fun σ'=>Ht all σ o true (CZ o.dst σ'.sl) σ'.bl [] [] [] [] false κ)
      | none=>SO oc A σ o.dst g (VP A c.argTypes.toList) (Jy σ.sl c.args.toList) caps (fun v b T W N=>Y0 all σ o v b (cat T N) (cat W N) N (ioF A g 0 (cat (Jy σ.sl c.args.toList) caps)) (ioP A g 0 (cat (Jy σ.sl c.args.toList) caps)) κ)
    | _=>none
   | _=>none
  | _=>none
 | .app=>match Xw A σ o.op with
  | true=>Vq A all σ o false (OE σ o.dst o.op) (C1 σ o.dst o.op) (Ck o.dst o.op) [] false κ
  | false=>Ct oc A σ o (fun σ'=>Ht all σ o true (CZ o.dst σ'.sl) σ'.bl [] [] [] [] false κ)
 | .bar=>Ct oc A σ o (fun σ'=>Ht all σ o true (CZ o.dst σ'.sl) σ'.bl [] [] [] [] false κ)
def Cl {R:Type} (oc:OC R) (A:Ann) (all:List Oper):List Oper→St→(List Rec→St→Option R)→Option R
 | [],σ,κ=>κ [] σ
 | o :: rest,σ,κ=>
  match o.guard with
  | none=>Ws oc A all σ o (fun r σ'=>Cl oc A all rest σ' (fun rs=>κ (r :: rs)))
  | some (j,want)=>match Hm all j with
   | some t=>match JN σ.sl t with
    | .void=>Ht all σ o false .void σ.bl [] [] [] [] false (fun r σ'=>Cl oc A all rest σ' (fun rs=>κ (r :: rs)))
    | .bool b=>bif b
     then U8 σ.sl t (.bool true) (fun sl=>match want with
      | true=>Ws oc A all ⟨sl,σ.bl⟩ o (fun r σ'=>Cl oc A all rest σ' (fun rs=>κ (r :: rs)))
      | false=>Ht all ⟨sl,σ.bl⟩ o false .void σ.bl [] [] [] [] false (fun r σ'=>Cl oc A all rest σ' (fun rs=>κ (r :: rs))))
     else U8 σ.sl t (.bool false) (fun sl=>match want with
      | true=>Ht all ⟨sl,σ.bl⟩ o false .void σ.bl [] [] [] [] false (fun r σ'=>Cl oc A all rest σ' (fun rs=>κ (r :: rs)))
      | false=>Ws oc A all ⟨sl,σ.bl⟩ o (fun r σ'=>Cl oc A all rest σ' (fun rs=>κ (r :: rs))))
    | _=>none
   | none=>none
def Y2 (e:Edge):Bool:=
 match e.ground with
 | .textOnly _=>false
 | .gcOnly _=>false
 | _=>true
def Wt:List Nat→List Nat→List Nat
 | [],acc=>acc
 | i :: l,acc=>match J4 acc i with
  | true=>Wt l acc
  | false=>Wt l (i :: acc)
def Vr (acc:List (List Nat)):List Edge→List Nat→Option (List Nat)
 | [],l=>some l
 | e :: r,l=>match Y2 e with
  | true=>match nth acc e.on with
   | some p=>Vr acc r (Wt (e.on :: p) l)
   | none=>none
  | false=>Vr acc r l
def HH:List (List Nat)→List Oper→Option (List (List Nat))
 | acc,[]=>some acc
 | acc,o :: r=>match Vr acc o.after.toList [] with
  | some l=>HH (cat acc [l]) r
  | none=>none
def SS:Option Nat→Option Nat→Bool
 | some t,some u=>Nat.beq t u
 | _,_=>false
def Xx (ri rj:Rec):Bool:=Jm (ioV rj.qf rj.qp ri.v) (Jm (Ue rj.qf ri.bn) (Ue rj.qp ri.bn))
def Y3 (i:Nat) (ri:Rec) (bj:List Nat) (rj:Rec):Bool:=
 Jm (Jm (J3 (SS ri.dst rj.dst)) (Xx ri rj)) (match J4 bj i with
  | true=>Ue rj.N ri.nm
  | false=>Jm (Xx rj ri) <| Jm (Jm (J3 ri.bar) (J3 rj.bar)) (Jm (Jm (Ue (Ql ri.dst) rj.rd) (Ue (Ql rj.dst) ri.rd))
    (Jm (Jm (Ue ri.W rj.T) (Ue rj.W ri.T)) (Jm (Jm (bor ri.sm (Ue ri.W rj.L)) (bor rj.sm (Ue rj.W ri.L))) (Jm (Ue rj.N ri.nm) (Ue ri.N rj.nm))))))
def Xy:Nat→List Rec→List Nat→Rec→Bool
 | _,[],_,_=>true
 | i,ri :: r,bj,rj=>Jm (Y3 i ri bj rj) (Xy (i + 1) r bj rj)
def Xz (σ:St):List Nat→Bool
 | []=>true
 | s :: r=>Jm (Uk σ.sl σ.bl .undef s) (Xz σ r)
def ST (σ:St) (r:Rec):Bool:=Jm (Q8 r.qf r.qp σ.sl) (Jm (Ue r.qf (JK σ.bl)) (Ue r.qp (JK σ.bl)))
def Wu (σ:St):List Rec→List (List Nat)→List Rec→Bool
 | _,_,[]=>true
 | pre,bj :: bs,rj :: rs=>Jm (Jm (Jm (Xz σ rj.N) (ST σ rj)) (Xy 0 pre bj rj)) (Wu σ (cat pre [rj]) bs rs)
 | _,_,_=>false
def UH:Nat→List Nat→Bool
 | 0,_=>true
 | n + 1,l=>Jm (J4 l n) (UH n l)
def Cm:List Oper→List (List Nat)→Option (List Oper × List (List Nat) × Oper)
 | [],_=>none
 | [o],[b]=>match o.guard with
  | none=>some ([],[],o)
  | some _=>none
 | o :: os,b :: bs=>match Cm os bs with
  | some (pre,bpre,l)=>some (o :: pre,b :: bpre,l)
  | none=>none
 | _,_=>none
def Wv (n:Nat):List Oper→Bool
 | []=>true
 | o :: os=>match o.guard with
  | none=>Wv n os
  | some (j,_)=>Jm (Nat.ble (Nat.succ j) n) (Wv n os)
def Ww:List (List Nat)→List Nat
 | []=>[]
 | [b]=>b
 | _ :: bs=>Ww bs
def SU (ops:List Oper) (bs:List (List Nat)):Option (List Oper × List (List Nat) × Oper):=
 match Cm ops bs with
 | some (pre,bpre,o)=>match Jm (UH (Uo pre) (Ww bs)) (Wv (Uo pre) pre) with
  | true=>some (pre,bpre,o)
  | false=>none
 | none=>none
def Wx {R:Type} (oc:OC R) (A:Ann) (ops:List Oper) (σ:St) (bs:List (List Nat)) (κ:St→Option R):Option R:=
 Cl oc A ops ops σ (fun rs σ'=>match Wu σ [] bs rs with
  | true=>κ σ'
  | false=>none)
def Y4 {R:Type} (oc:OC R) (A:Ann) (ops:List Oper) (σ:St) (κ:St→Option R):Option R:=
 match HH [] ops with
 | some bs=>match SU ops bs with
  | some (pre,bpre,o)=>Wx oc A pre σ bpre (fun σ'=>HB oc A σ' o κ)
  | none=>Wx oc A ops σ bs κ
 | none=>none
open Classical in
noncomputable def Vs {R:Type} (x y:Option R):Option R:=if x=y then x else none
def Y5 (A:Ann) (σ:St) (o:Oper):Option (List Jt × List D × Bool):=
 match o.guard with
 | some _=>none
 | none=>match o.op with
  | .binOp op t x y _=>match UD (A.ty t) with
   | true=>match opd σ.sl y with
    | .nilsl=>match opd σ.sl x with
     | .nilsl=>none
     | v=>match UT σ.bl v with
      | some (c,_,l)=>match op with
       | .eql=>some (c,l,false)
       | .neq=>some (c,l,true)
       | _=>none
      | none=>none
    | _=>none
   | false=>none
  | _=>none
noncomputable def UI {R:Type} (oc:OC R) (A:Ann) (all:List Oper):List Oper→St→(St→Option R)→Option R
 | [],σ,κ=>κ σ
 | o :: rest,σ,κ=>
  match Y5 A σ o with
  | some (c,l,ng)=>QP c (if 1≤l.length then QW σ o.dst (.bool ng) σ.bl (fun σ'=>UI oc A all rest σ' κ)
    else Vs (QW σ o.dst (.bool ng) σ.bl (fun σ'=>UI oc A all rest σ' κ)) (QW σ o.dst (.bool (J3 ng)) σ.bl (fun σ'=>UI oc A all rest σ' κ)))
  | none=>
  match o.guard with
  | none=>HB oc A σ o (fun σ'=>UI oc A all rest σ' κ)
  | some (j,want)=>match Hm all j with
   | some t=>match JN σ.sl t with
    | .void=>QW σ o.dst .void σ.bl (fun σ'=>UI oc A all rest σ' κ)
    | .bool b=>bif b
     then U8 σ.sl t (.bool true) (fun sl=>match want with
      | true=>HB oc A ⟨sl,σ.bl⟩ o (fun σ'=>UI oc A all rest σ' κ)
      | false=>QW ⟨sl,σ.bl⟩ o.dst .void σ.bl (fun σ'=>UI oc A all rest σ' κ))
     else U8 σ.sl t (.bool false) (fun sl=>match want with
      | true=>QW ⟨sl,σ.bl⟩ o.dst .void σ.bl (fun σ'=>UI oc A all rest σ' κ)
      | false=>HB oc A ⟨sl,σ.bl⟩ o (fun σ'=>UI oc A all rest σ' κ))
    | _=>none
   | none=>none
def XA {R:Type}:List Nat→List V→(List V→Option R)→Option R
 | [],sl,κ=>κ sl
 | t :: r,sl,κ=>U8 sl t .undef (fun sl'=>XA r sl' κ)
noncomputable def Ub {R:Type} (oc:OC R) (ol:OL R) (A:Ann) (fid:FuncId):Code→St→(Ex→St→Option R)→Option R
 | .skip,σ,κ=>κ .normal σ
 | .region id ops draw,σ,κ=>XA (A.dead fid id) σ.sl (fun sl=>match draw with
  | false=>match A.both fid with
   | true=>UI oc A ops.toList ops.toList ⟨sl,σ.bl⟩ (κ .normal)
   | false=>Hn oc A ops.toList ops.toList ⟨sl,σ.bl⟩ (κ .normal)
  | true=>Y4 oc A ops.toList ⟨sl,σ.bl⟩ (κ .normal))
 | .seq a b,σ,κ=>Ub oc ol A fid a σ (fun e σ'=>match e with
   | .normal=>Ub oc ol A fid b σ' κ
   | .exit i=>κ (.exit i) σ'
   | .ret=>κ .ret σ')
 | .cond c a b,σ,κ=>match c with
  | .tmp t=>match JN σ.sl t with
   | .bool x=>bif x
    then U8 σ.sl t (.bool true) (fun sl=>Ub oc ol A fid a ⟨sl,σ.bl⟩ κ)
    else U8 σ.sl t (.bool false) (fun sl=>Ub oc ol A fid b ⟨sl,σ.bl⟩ κ)
   | _=>none
  | .const v=>match WS v with
   | .bool x=>bif x then Ub oc ol A fid a σ κ else Ub oc ol A fid b σ κ
   | _=>none
  | _=>none
 | .block id b,σ,κ=>Ub oc ol A fid b σ (fun e σ'=>match e with
   | .normal=>κ .normal σ'
   | .exit i=>match Nat.beq i id with
    | true=>κ .normal σ'
    | false=>κ (.exit i) σ'
   | .ret=>κ .ret σ')
 | .loop b,σ,κ=>O1 (A.keep fid (Qx b)) σ (fun σ'=>ol (Qx b) b σ' κ)
 | .exit id,σ,κ=>κ (.exit id) σ
 | .ret,σ,κ=>κ .ret σ
 | _,_,_=>none
def Qb:Code→List Code
 | .seq a b=>Qb a ++ Qb b
 | .cond _ a b=>Qb a ++ Qb b
 | .block _ b=>Qb b
 | .loop b=>b :: Qb b
 | _=>[]
def QU (id:Nat):Code→Option Code
 | .seq a b=>match QU id a with
  | some c=>some c
  | none=>QU id b
 | .cond _ a b=>match QU id a with
  | some c=>some c
  | none=>QU id b
 | .block _ b=>QU id b
 | .loop b=>match Nat.beq (Qx b) id with
  | true=>some b
  | false=>QU id b
 | _=>none
noncomputable def J6 {R:Type} (oc:OC R) (ol:OL R) (A:Ann) (fid:FuncId) (b:Code) (σ:St) (κ:Ex→St→Option R):Option R:=
 Ub oc ol A fid b σ (fun e σ'=>match e with
  | .normal=>O1 (A.keep fid (Qx b)) σ' (fun σ''=>ol (Qx b) b σ'' κ)
  | .exit i=>O1 (A.out fid (Qx b)) σ' (κ (.exit i))
  | .ret=>O1 (A.out fid (Qx b)) σ' (κ .ret))
def Cn:Nat→List V→List V
 | _,[]=>[]
 | i,v :: vs=>Qn i [] v :: Cn ((i + 1)) vs
def Hh:Nat→List V→BL
 | _,[]=>[]
 | i,v :: vs=>match Q0 v with
  | true=>(i,v) :: Hh ((i + 1)) vs
  | false=>Hh ((i + 1)) vs
def Hi:Nat→List V→List V
 | 0,l=>l
 | n + 1,[]=>.undef :: Hi n []
 | n + 1,v :: l=>v :: Hi n l
def Y6 (n:Nat) (args:List V):St:=
 { sl:=Hi n (Cn 0 args),bl:=Hh 0 args }
def Vt (q:Bool) (ty:Ty) (v:V):V:=
 match q with
 | true=>match v with
  | .nilsl=>.nilsl
  | v=>UK ty v
 | false=>UK ty v
def Y7 (A:Ann) (q:Bool) (σ:St) (ty:Ty):ResultVar→Option V
 | .tmp t=>some (Vt q ty (JN σ.sl t))
 | .cell a t=>match Cb (A.ty t) σ.bl (JN σ.sl a) with
  | some ([],v,_)=>some (Vt q ty v)
  | _=>none
def Wy (A:Ann) (q:Bool) (σ:St):List Ty→List ResultVar→Option (List V)
 | _,[]=>some []
 | ts,r :: rs=>match Y7 A q σ (ts.headD .other) r with
  | some v=>match Wy A q σ ts.tail rs with
   | some vs=>some (v :: vs)
   | none=>none
  | none=>none
def HI (A:Ann) (f:FuncId) (sl:List V):Nat→List V→List V
 | _,[]=>[]
 | i,_ :: vs=>match A.mode f i with
  | .io=>JN sl i :: HI A f sl (i + 1) vs
  | _=>HI A f sl (i + 1) vs
def HJ (A:Ann) (f:FuncId):Nat→List V→List V→List V
 | _,[],_=>[]
 | i,_ :: vs,ws=>match A.mode f i with
  | .io=>match ws with
   | w :: ws=>w :: HJ A f (i + 1) vs ws
   | []=>.undef :: HJ A f (i + 1) vs []
  | _=>.undef :: HJ A f (i + 1) vs ws
def Vu:List V→List V→List V
 | [],_=>[]
 | _ :: vs,w :: ws=>w :: Vu vs ws
 | _ :: _,[]=>[]
def Vv:List V→List V→List V
 | [],ws=>ws
 | _ :: vs,_ :: ws=>Vv vs ws
 | _ :: _,[]=>[]
def XB (A:Ann) (f:FuncId):List Oper→Bool
 | []=>true
 | o :: os=>match (match o.dst with
   | some t=>match A.mode f t with
    | .io=>false
    | _=>true
   | none=>true) with
  | true=>XB A f os
  | false=>false
def HK (A:Ann) (f:FuncId):Code→Bool
 | .region _ ops _=>XB A f ops.toList
 | .seq a b=>Jm (HK A f a) (HK A f b)
 | .cond _ a b=>Jm (HK A f a) (HK A f b)
 | .block _ b=>HK A f b
 | .loop b=>HK A f b
 | _=>true
def Y8:List V→V
 | [w]=>w
 | ws=>.tup ws
def XC {R:Type} (A:Ann) (fid:FuncId) (fn:Func) (args:List V) (σ:St) (κ:V→List V→Option R):Option R:=
 match Wy A (A.nils fid) σ (VP A fn.resultTypes.toList) fn.results.toList with
 | some vs=>match QX (cat vs (HI A fid σ.sl 0 args)) with
  | true=>match Q5 30 σ.bl (cat vs (HI A fid σ.sl 0 args)) with
   | some (c,ws,b)=>match Jm (Ut (Vu vs ws)) (Hy (Vv vs ws)) with
    | true=>QP c (QH (Y8 (Vu vs ws)) (fun r=>Uz (HJ A fid 0 args (Vv vs ws)) (fun os=>κ r os)))
    | false=>none
   | none=>none
  | false=>none
 | none=>none
def Y9:List Nat→Bool
 | []=>true
 | _=>false
noncomputable def J5 {R:Type} (oc:OC R) (ol:OL R) (A:Ann) (fid:FuncId) (fn:Func) (args:List V) (κ:V→List V→Option R):Option R:=
 match fn.body with
 | some c=>match Jm (QX args) (Jm (Y9 (Ju args)) (bor (J3 (UE A fid 0 args)) (HK A fid c))) with
  | true=>Uz (Y6 fn.ntmps args).sl (fun sl=>Hk (Y6 fn.ntmps args).bl (fun b=>
   Ub oc ol A fid c ⟨sl,b⟩ (fun e σ=>match e with
   | .normal=>XC A fid fn args σ κ
   | .ret=>XC A fid fn args σ κ
   | .exit _=>none)))
  | false=>none
 | none=>none
end Go.Rai
namespace Go.Rai
variable [Inhabited Qk]
def Qr (sl sl':List V) (xs:List Operand):Prop:=∀ x ∈ xs,opd sl' x=opd sl x
theorem Hu {sl sl':List V}:∀ {xs:List Operand},(∀ t ∈ Uh xs,JN sl' t=JN sl t)→Qr sl sl' xs
 | [],_=>fun x hx=>by cases hx
 | y :: ys,h=>by
  intro x hx
  have hr:Qr sl sl' ys:=Hu (fun t ht=>h t (by cases y <;> simp [Uh,ht]))
  rcases List.mem_cons.1 hx with rfl | hx
  ·cases x with
   | tmp t=>exact h t (by simp [Uh])
   | _=>rfl
  ·exact hr x hx
theorem Qr.map {sl sl':List V}:∀ {xs:List Operand},Qr sl sl' xs→Jy sl' xs=Jy sl xs
 | [],_=>rfl
 | x :: xs,h=>by
  simp only [Jy]
  rw [h x (by simp),Qr.map (xs:=xs) (fun y hy=>h y (by simp [hy]))]
theorem Qr.opds {sl sl':List V}:∀ {ps:List (Nat × Operand)},Qr sl sl' (ps.map (·.2))→HN sl' ps=HN sl ps
 | [],_=>rfl
 | (i,x) :: ps,h=>by
  simp only [HN]
  rw [h x (by simp),Qr.opds (ps:=ps) (fun y hy=>h y (by simp at hy ⊢; exact .inr hy))]
theorem Qr.opt {sl sl':List V} {x:Option Operand} (h:Qr sl sl' (Wo x)):QQ sl' x=QQ sl x:=by
 cases x with
 | none=>rfl
 | some x=>simp only [QQ]; rw [h x (by simp [Wo])]
def QV (b b':BL) (T:List Nat):Prop:=∀ s ∈ T,Jd b' s=Jd b s
theorem QV.sub {b b':BL} {T T':List Nat} (h:QV b b' T) (hs:∀ s ∈ T',s ∈ T):QV b b' T':=fun s hs'=>h s (hs s hs')
theorem H3 {b b':BL} {s:Nat} {p:List Nat} (h:Jd b' s=Jd b s):Qc b' s p=Qc b s p:=by
 unfold Qc; rw [h]
theorem XD {b b':BL} {x:V} (h:QV b b' (Jh x)):UT b' x=UT b x:=by
 cases x with
 | full s p e=>simp only [UT,H3 (h s (by simp [Jh]))]
 | sub s p o l e=>simp only [UT,H3 (h s (by simp [Jh]))]
 | _=>rfl
theorem SV {b b':BL} {x:V} (h:QV b b' (Jh x)):Od b' x=Od b x:=by
 have:=XD h
 cases x <;> simp only [Od,this]
theorem M8 {t:Ty} {b b':BL} {op:BinOp} {x y:V} (hx:QV b b' (Jh x)) (hy:QV b b' (Jh y)):OQ t b' op x y=OQ t b op x y:=by
 have h1:=SV hx
 have h2:=SV hy
 unfold OQ
 split <;> first | rfl | (simp only [h1]) | (simp only [h2])
def H4 (b b':BL) (r r':G Out):Prop:=∀ c v b1,r=some (c,v,b1)→b1=b∧r'=some (c,v,b')
theorem Qp {b b':BL} {c:List Jt} {v:V}:H4 b b' (some (c,v,b)) (some (c,v,b')):=by
 intro c1 v1 b1 h
 simp only [oj,pj] at h
 obtain ⟨rfl,rfl,rfl⟩:=h
 exact ⟨rfl,rfl⟩
theorem JQ {b b':BL} {r:G Out}:H4 b b' none r:=by intro c1 v1 b1 h; cases h
theorem M9 {t:Ty} {b b':BL} {a:V} (h:QV b b' (Jh a)):H4 b b' (Cb t b a) (Cb t b' a):=by
 cases a with
 | ptr s p=>
  simp only [Cb,H3 (h s (by simp [Jh]))]
  split
  ·split
   ·exact Qp
   ·exact JQ
  ·exact JQ
 | rp x=>
  simp only [Cb]
  split
  ·exact Qp
  ·exact JQ
 | _=>exact JQ
theorem ja {t:Ty} {b b':BL} {f:Nat} {a:V} (h:QV b b' (Jh a)):H4 b b' (Of t b f a) (Of t b' f a):=by
 cases t with
 | struct fs=>
  cases a with
  | ptr s p=>
   simp only [Of,H3 (h s (by simp [Jh]))]
   split
   ·split
    ·split
     ·exact Qp
     ·exact JQ
    ·exact JQ
   ·exact JQ
  | rp x=>
   cases x with
   | agg vs=>
    simp only [Of]
    split
    ·split
     ·exact Qp
     ·exact JQ
    ·exact JQ
   | _=>exact JQ
  | _=>exact JQ
 | _=>exact JQ
theorem jb {t:Ty} {b b':BL} {x i:V} (h:QV b b' (Jh x)):H4 b b' (Cq t b x i) (Cq t b' x i):=by
 unfold Cq
 split
 ·split
  ·split
   ·split
    ·exact Qp
    ·exact JQ
   ·rw [H3 (h _ (by simp [Jh]))]
    split
    ·split
     ·exact Qp
     ·exact JQ
    ·exact JQ
   ·rw [H3 (h _ (by simp [Jh]))]
    split
    ·split
     ·exact Qp
     ·exact JQ
    ·exact JQ
   ·exact JQ
  ·split
   ·rw [H3 (h _ (by simp [Jh]))]
    split
    ·split
     ·exact Qp
     ·exact JQ
    ·exact JQ
   ·split
    ·exact Qp
    ·exact JQ
   ·exact JQ
  ·exact JQ
 ·exact JQ
theorem jc {b b':BL} {x i:V}:H4 b b' (OU x i b) (OU x i b'):=by
 unfold OU
 split
 ·exact Qp
 ·exact JQ
theorem jd {t:Ty} {b b':BL} {x:V} {lo hi mx:Option V} (h:QV b b' (Jh x)):H4 b b' (OT t b x lo hi mx) (OT t b' x lo hi mx):=by
 unfold OT
 split
 ·split
  ·split
   ·split
    ·exact Qp
    ·exact JQ
   ·exact JQ
  ·split
   ·split
    ·split
     ·split
      ·split
       ·rw [H3 (h _ (by simp [Jh]))]
        split
        ·split
         ·exact Qp
         ·exact JQ
        ·exact JQ
       ·exact JQ
      ·exact JQ
     ·exact JQ
    ·exact JQ
   ·exact JQ
  ·exact JQ
 ·split
  ·split
   ·split
    ·exact Qp
    ·exact JQ
   ·exact JQ
  ·split
   ·split
    ·exact Qp
    ·exact JQ
   ·exact JQ
  ·split
   ·split
    ·exact Qp
    ·exact JQ
   ·exact JQ
  ·rw [H3 (h _ (by simp [Jh]))]
   split
   ·split
    ·split
     ·exact Qp
     ·exact JQ
    ·exact JQ
   ·exact JQ
  ·split
   ·split
    ·split
     ·exact Qp
     ·exact JQ
    ·rw [H3 (h _ (by simp [Jh]))]
     split
     ·split
      ·split
       ·exact Qp
       ·exact JQ
      ·exact JQ
     ·exact JQ
   ·exact JQ
  ·exact JQ
theorem je {A:Ann} {sl sl':List V} {b b':BL} {d:Option Nat} {ts:List TypeId} {xs:List V} (h:QV b b' (Ju xs)):H4 b b' (Qj A sl b d .len ts xs) (Qj A sl' b' d .len ts xs):=by
 cases xs with
 | nil=>exact JQ
 | cons x r=>
  cases r with
  | cons y r=>exact JQ
  | nil=>
   have hx:QV b b' (Jh x):=h.sub (fun s hs=>by simp [Ju,JL,hs])
   simp only [Qj]
   split
   ·split
    ·split
     ·exact Qp
     ·exact JQ
    ·split
     ·exact Qp
     ·exact Qp
     ·exact Qp
     ·rw [XD hx]
      split
      ·exact Qp
      ·exact JQ
    ·exact JQ
   ·exact JQ
theorem SW {A:Ann} {sl sl':List V} {b b':BL} {d:Option Nat} {ts:List TypeId} {xs:List V} {f:Builtin} (hf:f=.max ∨ f=.min):H4 b b' (Qj A sl b d f ts xs) (Qj A sl' b' d f ts xs):=by
 unfold Qj
 rcases hf with rfl | rfl <;> cases xs with
 | nil=>exact JQ
 | cons x r=>
  simp only
  split
  ·exact Qp
  ·exact JQ
section
variable {A:Ann} {sl sl':List V} {b b':BL} {d:Option Nat} {op:Op}
theorem Ka (hcl:(match cls op with | .read=>true | _=>false)=true) (ho:Qr sl sl' (JG op)) (hb:QV b b' (Ju (Jy sl (JG op)))):H4 b b' (JS A sl b d op) (JS A sl' b' d op):=by
 cases op with
 | move x=>simp only [JS]; rw [ho x (by simp [JG])]; exact Qp
 | assign x=>simp only [JS]; rw [ho x (by simp [JG])]; exact Qp
 | pick c x y=>
  simp only [JS]; rw [ho c (by simp [JG]),ho x (by simp [JG]),ho y (by simp [JG])]
  split
  ·exact Qp
  ·exact JQ
 | build t ps=>
  simp only [JS]
  rw [Qr.opds (sl:=sl) (sl':=sl') (ps:=ps.toList) (by simpa [JG] using ho)]
  split
  ·split
   ·split
    ·exact Qp
    ·exact JQ
   ·exact JQ
  ·exact JQ
 | load t a=>
  simp only [JS]; rw [ho a (by simp [JG])]
  exact M9 (hb.sub (fun s hs=>by simp [JG,Jy,Ju,JL,hs]))
 | nilCheck x=>
  simp only [JS]; rw [ho x (by simp [JG])]
  split <;> first | exact Qp | exact JQ
 | binOp o t x y t2=>
  simp only [JS]; rw [ho x (by simp [JG]),ho y (by simp [JG]),M8 (b:=b) (b':=b') (hb.sub (fun s hs=>by simp [JG,Jy,Ju,JL,hs])) (hb.sub (fun s hs=>by simp [JG,Jy,Ju,JL,hs]))]
  split
  ·exact Qp
  ·exact JQ
 | unOp o t x=>
  simp only [JS]; rw [ho x (by simp [JG])]
  split
  ·exact Qp
  ·exact JQ
 | convert s t x=>
  simp only [JS]; rw [ho x (by simp [JG])]
  split
  ·split
   ·unfold WU
    split
    ·rw [XD (hb.sub (fun s hs=>by simp [JG,Jy,Ju,JL,hs]))]
     split
     ·split
      ·exact Qp
      ·exact JQ
     ·exact JQ
    ·exact JQ
   ·exact JQ
  ·split <;> first | exact Qp | exact JQ
 | makeFunc fn first caps=>
  simp only [JS]
  rw [Qr.map (sl:=sl) (sl':=sl') (xs:=caps.toList) (by simpa [JG] using ho)]
  split
  ·split
   ·exact Qp
   ·exact JQ
  ·exact JQ
 | slice t x lo hi mx=>
  simp only [JS]
  rw [ho x (by simp [JG]),Qr.opt (sl:=sl) (sl':=sl') (x:=lo) (fun y hy=>ho y (by simp [JG,Qi,hy])),Qr.opt (sl:=sl) (sl':=sl') (x:=hi) (fun y hy=>ho y (by simp [JG,Qi,hy])),Qr.opt (sl:=sl) (sl':=sl') (x:=mx) (fun y hy=>ho y (by simp [JG,Qi,hy]))]
  exact jd (hb.sub (fun s hs=>by simp [JG,Jy,Ju,JL,hs]))
 | fieldAddr t x f=>
  simp only [JS]; rw [ho x (by simp [JG])]
  exact ja (hb.sub (fun s hs=>by simp [JG,Jy,Ju,JL,hs]))
 | field t x f=>
  simp only [JS]; rw [ho x (by simp [JG])]
  split
  ·exact Qp
  ·exact JQ
 | indexAddr t x i=>
  simp only [JS]; rw [ho x (by simp [JG]),ho i (by simp [JG])]
  exact jb (hb.sub (fun s hs=>by simp [JG,Jy,Ju,JL,hs]))
 | index t x i=>
  simp only [JS]; rw [ho x (by simp [JG]),ho i (by simp [JG])]
  split
  ·exact jc
  ·exact JQ
 | extract x i=>
  simp only [JS]; rw [ho x (by simp [JG])]
  split
  ·split
   ·exact Qp
   ·exact JQ
  ·exact JQ
 | call c=>
  simp only [JS]
  cases hc:c.callee with
  | builtin f=>
   have hops:JG (.call c)=c.args.toList:=by simp [JG,hc]
   rw [hops] at ho hb
   simp only
   rw [Qr.map ho]
   cases f with
   | len=>exact je hb
   | max=>exact SW (.inl rfl)
   | min=>exact SW (.inr rfl)
   | _=>simp [cls,hc] at hcl
  | _=>simp [cls,hc] at hcl
 | _=>simp [cls] at hcl
end
end Go.Rai
