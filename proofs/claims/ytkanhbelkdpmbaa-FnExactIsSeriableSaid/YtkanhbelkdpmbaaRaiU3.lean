/- An evaluator of the model's programs over plain values, proved sound, part 3 of 5. It is used by the claim's law; it has no condition of its own. -/
import Derived.Test.YtkanhbelkdpmbaaRaiU2
import Derived.Laws.BytesString
import Derived.Tactics
set_option linter.unusedVariables false
set_option linter.unusedSectionVars false
set_option linter.unusedSimpArgs false
namespace Go.Rai
variable [Inhabited Qe]
section
variable {P:Program} {A:Ann} {w w' w0:World} {F0:List Nat} {sl:List V} {a:Act} {bl b':BL} {G:GT} {o:Oper} {X:List Nat}
theorem MJ {e:Ty} (hp:e.plain=true) {F:List Nat} {v:V} {cs:List Value} {d:D} {c:List Jm} (hc:JW w bl G (F ++ X) w0 F0) (hv:InV (Ja w bl G (F ++ X)) v cs F) (h:X3 e bl v=some (c,d,b')) (hk:∀ k ∈ c,k.ok) :
  CB w (Ja w bl G (F ++ X)) w0 F0 X b' (fun E F'=>DIn true w e d cs F'):=by
 unfold X3 at h
 split at h
 ·rename_i c2 x b2 hin
  split at h
  ·rename_i hb
   simp only [oj,pj] at h
   obtain ⟨rfl,rfl,rfl⟩:=h
   rw [Je] at hb
   obtain ⟨F',G',q1,q2,q3⟩:=(Ot 9).1 hc (V0 e hv) hin hk
   exact ⟨F',G',q1,VL e (V8 hp hb.2 hb.1) q2,q3⟩
  ·simp at h
 ·simp at h
theorem Sk {e:Ty} (hp:e.plain=true):∀ {vs:List V} {bl b':BL} {G:GT} {X F:List Nat} {cs:List Value} {ds:List D} {c:List Jm},JW w bl G (F ++ X) w0 F0→Ji (Ja w bl G (F ++ X)) vs cs F→CL e bl vs=some (c,ds,b')→(∀ k ∈ c,k.ok) →
  CB w (Ja w bl G (F ++ X)) w0 F0 X b' (fun E F'=>Row (DIn true w e) ds cs F')
 | [],bl,b',G,X,F,cs,ds,c,hc,hv,h,hk=>by
  simp only [CL,oj,pj] at h
  obtain ⟨rfl,rfl,rfl⟩:=h
  unfold Ji at hv
  exact ⟨F,G,hc,hv,Jz.refl_ _ _⟩
 | v :: vs,bl,b',G,X,F,cs,ds,c,hc,hv,h,hk=>by
  simp only [CL] at h
  split at h
  ·rename_i c1 d1 b1 h1
   split at h
   ·rename_i c2 ds2 b2 h2
    simp only [oj,pj] at h
    obtain ⟨rfl,rfl,rfl⟩:=h
    obtain ⟨hk1,hk2⟩:=Q2 hk
    unfold Ji at hv
    obtain ⟨cs1,cs2,F1,F2,rfl,rfl,i1,i2⟩:=hv
    obtain ⟨p1,p2⟩:=hc.perm (show ((F1 ++ F2) ++ X).Perm (F1 ++ (F2 ++ X)) by rw [List.append_assoc])
    obtain ⟨F1',G1,q1,q2,q3⟩:=MJ hp p1 (p2.inV (fun _ _=>id) (fun _ _=>rfl) i1) h1 hk1
    obtain ⟨r1,r2⟩:=q1.perm (show (F1' ++ (F2 ++ X)).Perm (F2 ++ (F1' ++ X)) by
     rw [← List.append_assoc,← List.append_assoc]
     exact List.Perm.append_right X List.perm_append_comm)
    have g1:=(p2.trans q3).trans r2
    obtain ⟨F2',G2,s1,s2,s3⟩:=Sk hp r1 (HB g1.le vs (fun s _=>g1.al s id) (fun b _=>rfl) i2) h2 hk2
    obtain ⟨t1,t2⟩:=s1.perm (show (F2' ++ (F1' ++ X)).Perm ((F1' ++ F2') ++ X) by
     rw [← List.append_assoc]
     exact List.Perm.append_right X List.perm_append_comm)
    exact ⟨F1' ++ F2',G2,t1,⟨cs1,cs2,F1',F2',rfl,rfl,q2,s2⟩,(g1.trans s3).trans t2⟩
   ·simp at h
  ·simp at h
theorem Sl {e:Ty}:∀ {b b':BL} {vs:List V} {ws:List D} {c:List Jm},CL e b vs=some (c,ws,b')→ws.length=vs.length
 | b,b',[],ws,c,h=>by simp [CL] at h; rw [h.2.1]; rfl
 | b,b',v :: vs,ws,c,h=>by
  simp only [CL] at h
  split at h
  ·split at h
   ·rename_i h2
    simp only [oj,pj] at h
    obtain ⟨_,rfl,_⟩:=h
    simp [Sl h2]
   ·simp at h
  ·simp at h
theorem Vf (hc:J7 w bl G w0 F0) {e:Ty} {x:V} {vx:Value} (hx:Val (Ja w bl G []) x vx []) {c:List Jm} {xs:List D} (hp:e.plain=true) (h:Uj e bl x=some (c,xs,b')) (hk:∀ k ∈ c,k.ok) :
  CB w (Ja w bl G []) w0 F0 [] b' (fun E F'=>∃ news,Row (DIn true w e) xs news F'∧Fed w vx xs.length news):=by
 have flatE:∀ {c:List Jm} {l:List D},e.flat=true→UP bl x=some (c,e,l)→(∀ k ∈ c,k.ok)→CB w (Ja w bl G []) w0 F0 [] bl (fun E F'=>∃ news,Row (DIn true w e) l news F'∧Fed w vx l.length news):=by
  intro c l hf he hk
  obtain ⟨Ad,cap,F,h1,h2,h3,h4⟩:=VS hc hx he hk
  rcases h2 with ⟨g1,g2,g3⟩ | ⟨ad,cs,F',g1,g2,g3,g4,g5,g6,_⟩
  ·subst g1
   exact ⟨[],G,hc.x,⟨[],⟨rfl,rfl⟩,Ad,cap,h1,fun hn=>absurd rfl hn⟩,Jz.refl_ _ _⟩
  ·have hrow:Row (DIn true w e) l cs F':=Cs (fun d _ c G' _ hd=>WV e hf hd) g2
   have hF:F'=[]:=Ha (fun d c G' hd=>Hb e hf hd) g2
   subst hF
   exact ⟨[],G,hc.x,⟨cs,hrow,Ad,cap,h1,fun _=>⟨ad,g1,g3⟩⟩,Jz.refl_ _ _⟩
 unfold Uj at h
 split at h
 ·simp only [oj,pj] at h
  obtain ⟨rfl,rfl,rfl⟩:=h
  obtain ⟨rfl,_⟩:=Oq.1 hx
  exact ⟨[],G,hc.x,⟨[],⟨rfl,rfl⟩,none,0,rfl,fun hn=>absurd rfl hn⟩,Jz.refl_ _ _⟩
 ·rename_i e1
  simp only [oj,pj] at h
  obtain ⟨rfl,rfl,rfl⟩:=h
  have hx':=(JV rfl (by simp) (by simp)).1 hx
  unfold InV at hx'
  obtain ⟨⟨Ad,hx'⟩,_⟩:=hx'
  simp only [List.cons.injEq,and_true] at hx'
  exact ⟨[],G,hc.x,⟨[],⟨rfl,rfl⟩,Ad,0,hx',fun hn=>absurd rfl hn⟩,Jz.refl_ _ _⟩
 ·rename_i s p e1
  split at h
  ·rename_i c1 e2 vs hg
   split at h
   ·split at h
    ·rename_i c2 ds b2 hin
     simp only [oj,pj] at h
     obtain ⟨rfl,rfl,rfl⟩:=h
     obtain ⟨hk1,hk2⟩:=Q2 hk
     obtain ⟨c0,rc,F,i1,i2,i3,_⟩:=Ut hc hg hk1
     have hc0:c0=.lst e2 vs:=by
      simp only [V.get,oj,pj] at i3
      exact i3.2
     subst hc0
     have ht:QT bl s []=some (.lst e2 vs,Qb bl s):=by unfold QT; rw [i1]
     obtain ⟨c0',rc',Fs,Lv,csv,Fv,G',k1,k2,k3,k4,k5,k6,k7,k8⟩:=CU hc.x ht
     have hh:=Cx hx k1 k2 k3 rfl
     unfold InV at k6
     obtain ⟨ad,cc,cs',F',hcs',hlc,hes,hin',hca,hF,hbl,hun⟩:=k6
     rw [hcs'] at k4
     have hhd:=J0 k4
     rw [show (Ja w bl G []).w=w from rfl,hhd] at hh
     simp only [oj] at hh
     subst hF
     have hnd:=k7.ok.xnd
     obtain ⟨p1,p2⟩:=k7.sub (X':=F' ++ []) (by simpa using (List.nodup_cons.1 (by simpa using hnd)).2) (fun b hb=>by simp at hb ⊢; exact .inr hb)
     obtain ⟨F2,G2,q1,q2,q3⟩:=Sk hp (X:=[]) (F:=F') p1 (HB p2.le vs (fun s _=>p2.al s id) (fun b _=>rfl) hin') hin hk2
     have hlen:ds.length=vs.length:=by
      exact Sl hin
     exact ⟨F2,G2,q1,⟨cs',q2,some ad,cc,by rw [hlen]; exact hh.symm,fun _=>⟨ad,rfl,hca⟩⟩,(k8.trans p2).trans q3⟩
    ·simp at h
   ·simp at h
  ·rename_i c1 e2 l hg
   split at h
   ·rename_i hbeq
    have hee:=Ty.beq_eq _ _ hbeq
    subst hee
    split at h
    ·rename_i hf
     simp only [oj,pj] at h
     obtain ⟨rfl,rfl,rfl⟩:=h
     exact flatE hf (by simp [UP,hg]) hk
    ·split at h
     ·rename_i v2 b2 ht
      simp only [oj,pj] at h
      obtain ⟨rfl,rfl,rfl⟩:=h
      obtain ⟨c0,rc,F,i1,i2,i3,Lx,csx,Fx,i4,_⟩:=Ut hc hg hk
      obtain ⟨c0',rc',Fs,Lv,csv,Fv,G',k1,k2,k3,k4,k5,k6,k7,k8⟩:=CU hc.x ht
      rw [i1] at k1; simp only [oj] at k1; subst k1
      rw [i2] at k2; simp only [oj,pj] at k2; obtain ⟨rfl,rfl⟩:=k2
      rw [i4] at k3; simp only [oj,pj] at k3; obtain ⟨rfl,rfl⟩:=k3
      have hh:=Cx hx i1 i2 i4 rfl
      unfold InV at k6
      obtain ⟨_,Ad,cap,hcs',hsl⟩:=k6
      rw [hcs'] at k4
      have hhd:=J0 k4
      rw [show (Ja w bl G []).w=w from rfl,hhd] at hh
      simp only [oj] at hh
      rcases hsl with ⟨g1,g2,g3⟩ | ⟨ad,cs,F',g1,g2,g3,g4,g5,g6,_⟩
      ·subst g1; subst g3
       exact ⟨[],G',k7,⟨[],⟨rfl,rfl⟩,Ad,cap,hh.symm,fun hn=>absurd rfl hn⟩,k8⟩
      ·subst g4
       have hnd:=k7.ok.xnd
       obtain ⟨p1,p2⟩:=k7.sub (X':=F' ++ []) (by simpa using (List.nodup_cons.1 (by simpa using hnd)).2) (fun b hb=>by simp at hb ⊢; exact .inr hb)
       exact ⟨F',G',p1,⟨cs,g2,Ad,cap,hh.symm,fun _=>⟨ad,g1,g3⟩⟩,k8.trans p2⟩
     ·simp at h
   ·simp at h
  ·simp at h
 ·split at h
  ·rename_i hf
   split at h
   ·rename_i c1 e2 l he
    split at h
    ·rename_i hbeq
     have hee:=Ty.beq_eq _ _ hbeq
     subst hee
     simp only [oj,pj] at h
     obtain ⟨rfl,rfl,rfl⟩:=h
     exact flatE hf he hk
    ·simp at h
   ·simp at h
  ·simp at h
theorem YG (hc:JW w bl G X w0 F0) {s:Nat} {p:List Nat} {c0:V} {rc:List Value} {F:List Nat} {e:Ty} {l xs:List D} {Lx:Jj} {Ad:Option Addr} {n k i:Nat} {news:List Value}
  (hl:Jb bl s=some c0) (hg:G s=some (rc,F)) (hloc:Jg w c0 (.reg rc) p=some (.own e l,Lx)) (hhd:Lx.head w=some (.slice Ad n k)) (hf:e.flat=true) (hz:e.size ≠ 0)
  (hi:i + xs.length≤l.length) (hrow:Row (DIn true w e) xs news []) :
  ∃ w' G',(xs=[]→w'=w)∧(∀ ad,Ad=some ad→w'=w.setCells ad.block (ad.off + i * e.size) news∧(xs ≠ []→QP w (ad.add (i * e.size)) news.length∧ad.spot=none))∧(xs ≠ []→∃ ad,Ad=some ad)∧l.length≤k ∧
   JW w' (Jx bl s (c0.set p (.own e (l.take i ++ xs ++ l.drop (i + xs.length))))) G' X w0 F0∧(∃ F2,G' s=some (rc,F2)) ∧
   Jz (Ja w bl G X) (Ja w' (Jx bl s (c0.set p (.own e (l.take i ++ xs ++ l.drop (i + xs.length))))) G' X) (fun _=>False):=by
 obtain ⟨csx,Fx,Fr,m1,m2,m3,m4,m5⟩:=hc.modify hl hg hloc
 obtain ⟨rc',F',F1,g1,g2,g3,g4,g5⟩:=hc.ok.root s c0 hl
 rw [hg] at g1; simp only [oj,pj] at g1; obtain ⟨rfl,rfl⟩:=g1
 have hnd:=(m3.nodup_iff).1 g4
 have m1':=m1
 unfold InV at m1'
 obtain ⟨hp,Ad',k',hcs,hsl⟩:=m1'
 have hnews:news.length=xs.length * e.size:=HC (fun d c G hd=>Qt e hd) hrow
 have hhd':Lx.head w=some (.slice Ad' l.length k'):=J0 (by rw [← hcs]; exact m2)
 rw [hhd] at hhd'
 simp only [oj,Value.slice.injEq] at hhd'
 obtain ⟨rfl,rfl,rfl⟩:=hhd'
 have hlen':(l.take i ++ xs ++ l.drop (i + xs.length)).length=l.length:=by simp; omega
 have hndX:(Fx ++ X).Nodup:=List.nodup_append.2 ⟨(List.nodup_append.1 hnd).2.1,hc.ok.xnd,fun a ha b hb hab=>by subst hab; exact (g5 a ((m3.mem_iff).2 (by simp [ha]))).2 hb⟩
 have hlt':∀ (w':World),w'.heap.size=w.heap.size→∀ b ∈ Fx ++ X,b<w'.heap.size∧(b ∈ Fx ∨ b ∈ X ∨ w.heap.size≤b):=by
  intro w' hw b hb
  rw [hw]
  rcases List.mem_append.1 hb with q | q
  ·exact ⟨(g5 b ((m3.mem_iff).2 (by simp [q]))).1,.inl q⟩
  ·exact ⟨hc.ok.xlt b q,.inr (.inl q)⟩
 rcases hsl with ⟨h1,h2,h3⟩ | ⟨ad,cs,F',h1,h2,h3,h4,h5,h6,h7⟩
 ·-- nothing there
  subst h1; subst h3
  obtain ⟨hi0,hxs⟩:i=0∧xs=[]:=by simpa using hi
  subst hxs
  subst hi0
  obtain ⟨rfl,_⟩:=hrow
  obtain ⟨p1,p2⟩:=m5 w (.own e ([].take 0 ++ [] ++ [].drop (0 + 0))) csx [] X rfl (fun _ t ht=>by cases t <;> simp [shp] at ht; simpa [shp] using ht) (Nat.le_refl _) (fun _ _ _ _ _=>rfl) (fun _ _=>.inr (.inr trivial))
   (by cases Lx with
     | reg _=>exact True.intro
     | mem a=>exact fun b _ _=>⟨fun _=>rfl,rfl,fun h=>h⟩) m2 (fun _=>rfl) (by simpa using hc.ok.xnd) (by intro b hb; exact ⟨hc.ok.xlt b (by simpa using hb),.inr (.inl (by simpa using hb))⟩)
   Uc.refl rfl rfl rfl (fun _ _ _ _=>rfl) (fun hle=>U8 hle _ (fun s _ c' rc' F' hlk=>by simp [Jb] at hlk) (fun b hb=>rfl) m1) (fun hgo=>hgo.inV (fun _ _=>id) (fun _ _=>rfl) m1)
  refine ⟨w,_,fun _=>rfl,fun ad _=>⟨rfl,fun h=>absurd rfl h⟩,fun h=>absurd rfl h,Nat.zero_le _,p1,?_,p2⟩
  exact ⟨_,if_pos rfl⟩
 ·subst h1
  have hF':F'=[]:=Ha (fun d c G hd=>Hb e hf hd) h2
  subst hF'
  have hcl:cs.length=l.length * e.size:=HC (fun d c G hd=>Qt e hd) h2
  have hbl:ad.block ∈ Fx:=by rw [h4]; simp
  have hun:=h7 rfl
  obtain ⟨c1,c2,G1,G2,i1,i2,i3,i4,i5⟩:=O5 (fun d c G hd=>Qt e hd) (n:=i) h2 (by omega)
  obtain ⟨d1,d2,K1,K2,j1,j2,j3,j4,j5⟩:=O5 (fun d c G hd=>Qt e hd) (n:=xs.length) i5 (by simp; omega)
  subst i1; subst j1
  have hG1:G1=[]:=Ha (fun d c G hd=>Hb e hf hd) i4
  have hK2:K2=[]:=Ha (fun d c G hd=>Hb e hf hd) j5
  subst hG1; subst hK2
  have hfit:i * e.size + news.length≤k * e.size:=by rw [hnews,← Nat.add_mul]; exact Nat.mul_le_mul_right _ (by omega)
  have hun2:QP w (ad.add (i * e.size)) news.length:=On hun hfit
  have hsz':(w.setCells ad.block (ad.off + i * e.size) news).heap.size=w.heap.size:=Cz _ _ _ _
  obtain ⟨e1,e2,e3⟩:=Vc ad.block news (ad.off + i * e.size) w
  have hmem:∀ b,b<w.heap.size→b ∉ Fx→(∀ a,Lx=.mem a→b ≠ a.block)→(w.setCells ad.block (ad.off + i * e.size) news).heap[b]?=w.heap[b]?:=
   fun b hb hbF _=>HX _ _ (fun e=>hbF (by rw [e]; exact hbl)) _ _ _
  have hLx:∀ a,Lx=.mem a→(w.setCells ad.block (ad.off + i * e.size) news).heap[a.block]?=w.heap[a.block]?:=by
   intro a ha
   refine HX _ _ (fun e=>?_) _ _ _
   rcases m4 with ⟨a',ha',hin⟩ | ⟨ds,hds⟩
   ·rw [ha] at ha'; cases ha'
    exact (List.nodup_append.1 hnd).2.2 _ hin _ hbl e
   ·rw [ha] at hds; cases hds
  have hpart:=V6 (w:=w) (ad:=ad.add (i * e.size)) (n:=news.length) (cs:=news) (Hq hun2) hun2 rfl
  have hat:=V7 (w:=w) (ad:=ad.add (i * e.size)) (cs:=news) (Hq hun2) hun2
  rw [QZ,Oi] at hpart hat
  have hnew:InV (Ja (w.setCells ad.block (ad.off + i * e.size) news) bl G X) (.own e (l.take i ++ xs ++ l.drop (i + xs.length))) csx Fx:=by
   unfold InV
   refine ⟨hp,some ad,k,by rw [hlen']; exact hcs,.inr ⟨ad,c1 ++ (news ++ d2),[],rfl,?_,?_,h4,by rw [hlen']; exact h5,by show _<(World.setCells _ _ _ _).heap.size; rw [hsz']; exact h6,fun _=>?_⟩⟩
   ·have r1:=Vd (Vd i4 hrow) j5
    rw [List.drop_drop,List.append_assoc c1] at r1
    exact V9 (w:=w) (by show w.heap.size≤(World.setCells _ _ _ _).heap.size; rw [hsz']; exact Nat.le_refl _) (fun b hb=>by cases hb) r1
   ·refine VN ?_ (VN (by rw [i3]; exact hat) ?_)
    ·exact Tn hpart (fun j v hj=>h3 j v (by rw [List.getElem?_append_left (List.getElem?_eq_some_iff.1 hj).1]; exact hj)) (by rw [i3]; exact Nat.le_refl _)
    ·rw [U7,i3]
     refine To hpart ?_ (Nat.le_refl _)
     have:=Q0 (L:=.mem ad) (w:=w) (c1:=c1 ++ d1) (c:=d2) (c2:=[]) (by rw [List.append_nil,List.append_assoc]; exact h3)
     rw [List.length_append,i3,j3,← hnews] at this
     exact this
   ·exact Yc hpart hun
  have hkeep:Lx.holds (w.setCells ad.block (ad.off + i * e.size) news) csx:=by
   cases hLxe:Lx with
   | reg ds=>rw [hLxe] at m2; exact m2
   | mem a=>
    rw [hLxe] at m2
    exact HP (hLx a hLxe) m2
  have hps:UV w (w.setCells ad.block (ad.off + i * e.size) news) Lx (vsz (.own e l)):=by
   cases hLxe:Lx with
   | reg ds=>exact True.intro
   | mem a=>
    intro b hb hs
    have hbb:=hLx a hLxe
    rw [← hb] at hbb
    exact ⟨fun _=>Og hbb,Ya hbb,fun ⟨v,hv⟩=>⟨v,by rw [Og hbb]; exact hv⟩⟩
  have hhd2:Lx.head (w.setCells ad.block (ad.off + i * e.size) news)=some (.slice (some ad) l.length k):=by
   have:=J0 (by rw [← hcs]; exact hkeep)
   exact this
  obtain ⟨p1,p2⟩:=m5 (w.setCells ad.block (ad.off + i * e.size) news) (.own e (l.take i ++ xs ++ l.drop (i + xs.length))) csx Fx X rfl (fun _ t ht=>by cases t <;> simp [shp] at ht; simpa [shp] using ht) (by rw [hsz']; exact Nat.le_refl _)
   (fun b hb hbF _ hba=>hmem b hb hbF hba) (fun _ _=>.inr (.inr trivial)) hps hkeep (fun _=>rfl) hndX (hlt' _ hsz')
   (by
    intro q x' L' hq
    cases q with
    | nil=>
     simp only [Jg,oj,pj] at hq
     obtain ⟨rfl,rfl⟩:=hq
     exact ⟨_,rfl,fun _=>⟨rfl,by rw [hhd2,hhd]⟩⟩
    | cons j q=>
     simp only [Jg] at hq ⊢
     split at hq
     ·rename_i hj
      rw [hlen'] at hj
      rw [hhd2] at hq
      rw [if_pos hj,hhd]
      simp only at hq ⊢
      have hnew':=hnew
      unfold InV at hnew'
      obtain ⟨_,A3,k3,hcs3,hsl3⟩:=hnew'
      rcases hsl3 with ⟨z1,_⟩ | ⟨ad3,cs3,F3,_,z2,_⟩
      ·rw [z1] at hlen'; simp at hlen'; omega
      ·obtain ⟨_,_,_,_,_,_,_,_,_,f4,_⟩:=Hn (fun d c G hd=>Qt _ hd) z2 (show j<_ by rw [hlen']; exact hj)
       obtain ⟨_,_,_,_,_,_,_,_,_,e4,_⟩:=Hn (fun d c G hd=>Qt _ hd) h2 hj
       obtain ⟨y',r1,r2⟩:=Xa (E:=Ja (w.setCells ad.block (ad.off + i * e.size) news) bl G X) (E':=Ja w bl G X) q (V4 (OY e _ hp)) (V4 (OY e _ hp)) (V5 e _ hf) (V5 e _ hf) (Hm e hp f4) (Hm e hp e4) hq
       exact ⟨y',r1,fun ho=>by rw [r2] at ho; cases ho⟩
     ·simp at hq) e1 e2 e3 hmem
   (fun hle=>by
    unfold InV at hnew ⊢
    exact hnew)
   (fun hgo=>by
    unfold InV at hnew ⊢
    exact hnew)
  refine ⟨_,_,?_,?_,fun _=>⟨ad,rfl⟩,h5,p1,⟨_,if_pos rfl⟩,p2⟩
  ·intro hxs
   subst hxs
   have:news=[]:=List.eq_nil_of_length_eq_zero (by rw [hnews]; simp)
   rw [this]; rfl
  ·intro ad' hadd
   cases hadd
   refine ⟨rfl,fun hxs=>⟨hun2,?_⟩⟩
   have hnz:news.length ≠ 0:=by
    rw [hnews]
    exact Nat.mul_ne_zero (fun h0=>hxs (List.eq_nil_of_length_eq_zero h0)) hz
   exact Hq hun (by omega)
end
end Go.Rai
namespace Go.Rai
variable [Inhabited Qe]
section
variable {P:Program} {A:Ann} {w w' w0:World} {F0:List Nat} {sl:List V} {a:Act} {bl b':BL} {G:GT} {o:Oper} {X:List Nat}
theorem Vg {c:Call} {f:Builtin} {xs:List Operand} {R:Result Next} (h:o.op=.call c) (hcal:c.callee=.builtin f) (hargs:c.args.toList=xs)
  (hr:∀ cs,(builtin f c.argTypes o.type cs (xs.map a.eval).toArray).run P w=R):(execOp a.eval o).run P w=R:=by
 have:c.args=xs.toArray:=by apply Array.toList_inj.1; rw [hargs]
 rw [← hr (xs.map fun x=>match x with | .const _=>true | _=>false).toArray]
 simp [execOp,h,resolve,hcal,this,invoke]
 rfl
theorem MK {E E':Env} (hgo:Jz E E' (fun _=>False)) {s:Nat} {p:List Nat} {c0:V} {rc:List Value} {F:List Nat} {x0:V} {Lx:Jj} {A A':Option Addr} {n k off len:Nat} {e:Ty}
  (hl:Jb E.bl s=some c0) (hg:E.G s=some (rc,F)) (hloc:Jg E.w c0 (.reg rc) p=some (x0,Lx)) (hhd:Lx.head E.w=some (.slice A n k)) (hle:off + len≤k) (hA:off<k→∃ a,A=some a∧A'=some (a.add (off * e.size))) :
  InV E' (.sub s p off len e) [.slice A' len (k - off)] []:=by
 unfold InV
 refine ⟨rfl,⟨A',k - off,rfl,by omega⟩,fun c rc' F0 k1 k2 x L k3 k4=>?_⟩
 obtain ⟨c1,F1,g1,g2,g3⟩:=hgo.al s id c rc' F0 k1 k2
 rw [hl] at g1; simp only [oj] at g1; subst g1
 rw [hg] at g2; simp only [oj,pj] at g2; obtain ⟨rfl,_⟩:=g2
 obtain ⟨x1,q1,q2⟩:=g3 p x L k3
 rw [hloc] at q1
 simp only [oj,pj] at q1
 obtain ⟨rfl,rfl⟩:=q1
 exact ⟨A,n,k,A',by rw [(q2 k4).2]; exact hhd,hle,rfl,hA⟩
theorem ML (HT:JY P A.ty) (hc:J7 w bl G w0 F0) (hs:JA (Ja w bl G []) sl a) {c:Call} {s x:Operand} {t tx:TypeId} {e:Ty} {co:List Jm} {v:V} {b:BL} (h:o.op=.call c) (hcal:c.callee=.builtin .append)
  (hargs:c.args.toList=[s,x]) (hts:c.argTypes.toList=[t,tx]) (hty:A.ty t=.slice e) (hit:OM (A.ty tx)=true) (hv:X4 e sl bl o.dst (opd sl s) (opd sl x)=some (co,v,b)) (hk:∀ k ∈ co,k.ok):Jr P w0 F0 sl a w o v b:=by
 obtain ⟨kx,hxt⟩:∃ k,A.ty tx=.int k:=by
  cases hq:A.ty tx with
  | int k=>exact ⟨k,rfl⟩
  | _=>rw [hq] at hit; simp [OM] at hit
 obtain ⟨dx,hdx,hdxk⟩:=(HT tx (by rw [hxt]; simp)).desc
 rw [hxt] at hdxk
 have hdx':=Om hdxk
 subst hdx'
 obtain ⟨d,hd,hdk⟩:=(HT t (by rw [hty]; simp)).desc
 rw [hty] at hdk
 obtain ⟨te,rfl,hte,hne⟩:=Up hdk
 have hT:=HT te (by rw [hte]; exact hne)
 have hats:c.argTypes=#[t,tx]:=by apply Array.toList_inj.1; rw [hts]
 have hrun:∀ vv w2,(Builtin.append_ #[t,tx] o.type #[a.eval s,a.eval x]).run P w=.ok vv w2→(execOp a.eval o).run P w=.ok (.value vv) w2:=by
  intro vv w2 hr
  refine Vg h hcal hargs (fun cs=>?_)
  rw [hats]
  simp [builtin,hr]
 have hsv:=JZ hs s
 have hxv:=JZ hs x
 unfold X4 at hv
 split at hv
 ·rename_i hse
  rw [hse] at hsv
  obtain ⟨hes,_⟩:=Oq.1 hsv
  split at hv
  ·rename_i k n hxe
   rw [hxe] at hxv
   obtain ⟨hex,_⟩:=Qk.1 hxv
   split at hv
   ·rename_i hkq
    have hk64:=UT hkq
    subst hk64
    obtain ⟨hpz,hv⟩:=Uu hv
    rw [Je] at hpz
    obtain ⟨hp,hz'⟩:=hpz
    have hz:e.size ≠ 0:=by
     intro h0; rw [h0] at hz'; simp [J2] at hz'
    obtain ⟨rfl,hfr⟩:=HW hv
    obtain ⟨m1,_,m3⟩:0≤n∧n≤n∧n≤4294967296:=hk (.mk n n) (by simp)
    obtain ⟨m,rfl⟩:∃ m:Nat,n=(m:Int):=⟨n.toNat,by omega⟩
    simp only [Int.toNat_natCast] at hfr
    obtain ⟨r0,r1⟩:=MH (w:=w) (ty:=o.type) hp hz hte hT hd hdx (n:=m) (by omega)
    by_cases hm0:m=0
    ·subst hm0
     have hin:InV (Ja w bl G ([] ++ [])) (.own e (List.replicate 0 (QX e))) [.slice none 0 0] []:=by
      unfold InV
      exact ⟨hp,none,0,rfl,.inl ⟨rfl,rfl,rfl⟩⟩
     obtain ⟨G',g1,g2,g3⟩:=VW (F:=[]) (X:=[]) hc.x hs (v:=.slice none 0 0) hin (by unfold Qi; rfl) hfr
     exact ⟨_,w,G',.inl (hrun _ _ (by rw [hes,hex]; exact r0 rfl)),g1.c,g2,g3⟩
    ·have hr:=r1 (by omega)
     have hge:=grownCap_ge w m 0 te
     generalize hN:grownCap w m 0 te=N at hr hge
     obtain ⟨i,z,hi,hiz,hisz,hby,hzc,hzl⟩:=Ve (P:=P) hp hte hT
     have hcells:(J5 m (JJ e)).toArray ++ Builtin.zeroCells (JJ e).toArray (N - m)=((J5 m (JJ e)) ++ (Builtin.zeroCells (JJ e).toArray (N - m)).toList).toArray:=by
      apply Array.ext'; simp
     rw [hcells] at hr
     obtain ⟨d1,d2⟩:=hc.x.drew
     obtain ⟨k1,k2⟩:=d1.alloc (.cells ((J5 m (JJ e)) ++ (Builtin.zeroCells (JJ e).toArray (N - m)).toList).toArray te)
     have hzl2:(Builtin.zeroCells (JJ e).toArray (N - m)).toList.length=(N - m) * e.size:=by rw [Array.length_toList,size_zeroCells,List.size_toArray,hzl]
     have hin:=YA (te:=te) (E:=Ja (w.drew.alloc (.cells ((J5 m (JJ e)) ++ (Builtin.zeroCells (JJ e).toArray (N - m)).toList).toArray te)) bl G ([w.drew.heap.size] ++ [])) (w1:=w.drew) (c:=N) (l:=List.replicate m (QX e)) (F:=[]) hp rfl (Or (Cg e hp) m) (by simp; exact hge) (by
      rw [hzl2,Vb,hzl,← Nat.add_mul]
      congr 1
      omega)
     rw [List.length_replicate] at hin
     obtain ⟨G',g1,g2,g3⟩:=VW (F:=[w.drew.heap.size]) (X:=[]) k1 (hs.go0 (d2.trans k2)) (v:=.slice (some ⟨w.heap.size,0,none⟩) m N) hin (by unfold Qi; rfl) hfr
     exact ⟨_,_,G',.inl (hrun _ _ (by rw [hes,hex]; exact hr)),g1.c,g2,g3⟩
   ·cases hv
  ·cases hv
 ·rename_i t2 p e2 hse
  split at hv
  ·rename_i k n hxe
   rw [hxe] at hxv
   obtain ⟨hex,_⟩:=Qk.1 hxv
   split at hv
   ·rename_i hkq
    have hk64:=UT hkq
    subst hk64
    obtain ⟨hpz,hv⟩:=Uu hv
    rw [Je,Je] at hpz
    obtain ⟨hb1,hp,hz'⟩:=hpz
    have hz:e.size ≠ 0:=by
     intro h0; rw [h0] at hz'; simp [J2] at hz'
    split at hv
    ·rename_i e3 l b2 ht
     obtain ⟨hb2,hv2⟩:=Uu hv
     have hee:=Ty.beq_eq _ _ hb2
     subst hee
     obtain ⟨rfl,hfr⟩:=HW hv2
     obtain ⟨m1,_,m3⟩:0≤n∧n≤n∧n≤4294967296:=hk (.mk n n) (by simp)
     obtain ⟨m,rfl⟩:∃ m:Nat,n=(m:Int):=⟨n.toNat,by omega⟩
     have hsz:l.length + ((m:Int)).toNat≤4294967296:=hk (.sz l.length ((m:Int)).toNat) (by simp)
     simp only [Int.toNat_natCast] at hfr hsz
     rw [hse] at hsv
     obtain ⟨c0,rc,Fz,Lv,csv,Fv,G2,k1,k2,k3,k4,k5,k6,k7,k8⟩:=CU hc.x ht
     have hh:=Cx hsv k1 k2 k3 rfl
     have hh2:Lv.head w=some (a.eval s):=hh
     unfold InV at k6
     obtain ⟨_,Ad,cap,hcs',hsl⟩:=k6
     rw [hcs'] at k4
     have hhd:=J0 k4
     rw [hhd] at hh2
     simp only [oj] at hh2
     have hrow:Row (DIn true w e) (List.replicate m (QX e)) (J5 m (JJ e)) []:=Or (Cg e hp) m
     have hone:∀ u ∈ J5 m (JJ e),u.oneCell'=true:=Cy (fun d c F=>HV e) hrow
     obtain ⟨v',w',F',r1,r2,r3,r4⟩:=Sj (P:=P) (A:=A) (w:=w) (ty:=o.type) (t:=t) (tx:=tx) (vx:=.int .i64 (m:Int)) (Fs:=[]) (X:=[]) (xs:=List.replicate m (QX e)) (by simpa using k7) hp hz hte hT hsl hrow (fun i z hi hiz hisz hby hzc hzl=>by
      rw [List.length_replicate]
      exact App.ofInt hz hd hdx hi hiz hisz hby hzc hzl (by omega) hone) (by rw [List.length_replicate]; exact hsz)
     rw [← hex,hh2] at r1
     obtain ⟨G',g1,g2,g3⟩:=VW (F:=F') (X:=[]) r2 (hs.go0 (k8.trans r4)) (v:=v') r3 (by unfold Qi; rfl) hfr
     exact ⟨v',w',G',.inl (hrun _ _ r1),g1.c,g2,g3⟩
    ·cases hv
   ·cases hv
  ·cases hv
 ·cases hv
theorem MM (HT:JY P A.ty) (hc:J7 w bl G w0 F0) (hs:JA (Ja w bl G []) sl a) {c:Call} {co:List Jm} {v:V} {b:BL} (h:o.op=.call c) (hcal:c.callee=.builtin .append)
  (hv:Qd A sl bl o.dst .append c.argTypes.toList (Jo sl c.args.toList)=some (co,v,b)) (hk:∀ k ∈ co,k.ok):Jr P w0 F0 sl a w o v b:=by
 match hargs:c.args.toList with
 | []=>rw [hargs] at hv; simp [Jo,Qd] at hv
 | [x]=>rw [hargs] at hv; simp [Jo,Qd] at hv
 | x :: y :: z :: r=>rw [hargs] at hv; simp [Jo,Qd] at hv
 | [s,x]=>
  rw [hargs] at hv
  simp only [Jo,Qd] at hv
  split at hv
  ·rename_i t tx hts
   split at hv
   ·rename_i e hty
    split at hv
    ·rename_i hit
     exact ML HT hc hs h hcal hargs hts hty hit hv hk
    rename_i hnit
    obtain ⟨htx,hv⟩:=Uu hv
    obtain ⟨e',hd'⟩:=VU HT htx
    obtain ⟨d,hd,hdk⟩:=(HT t (by rw [hty]; simp)).desc
    rw [hty] at hdk
    obtain ⟨te,rfl,hte,hne⟩:=Up hdk
    have hT:=HT te (by rw [hte]; exact hne)
    have hats:c.argTypes=#[t,tx]:=by apply Array.toList_inj.1; rw [hts]
    have hrun:∀ vv w2,(Builtin.append_ #[t,tx] o.type #[a.eval s,a.eval x]).run P w=.ok vv w2→(execOp a.eval o).run P w=.ok (.value vv) w2:=by
     intro vv w2 hr
     refine Vg h hcal hargs (fun cs=>?_)
     rw [hats]
     simp [builtin,hr]
    unfold H6 at hv
    split at hv
    ·rename_i c1 xs b1 hsrc
     obtain ⟨hpz,hsrc⟩:=Uu hsrc
     rw [Je] at hpz
     obtain ⟨hp,hz'⟩:=hpz
     have hz:e.size ≠ 0:=by
      intro h0; rw [h0] at hz'; simp [J2] at hz'
     have fin:∀ (Fl Fs:List Nat) (Ad:Option Addr) (cap:Nat) (l:List D) (G1:GT) (b2:BL) (news:List Value),JW w b2 G1 (Fl ++ (Fs ++ [])) w0 F0→Jz (Ja w bl G []) (Ja w b2 G1 (Fl ++ (Fs ++ []))) (fun _=>False) →
       UI true w (DIn true w e) e.size Ad cap l Fl→Row (DIn true w e) xs news Fs→Fed w (a.eval x) xs.length news→l.length + xs.length≤4294967296→a.eval s=.slice Ad l.length cap→fresh sl b2 o.dst (.own e (l ++ xs))=some (v,b)→Jr P w0 F0 sl a w o v b:=by
      intro Fl Fs Ad cap l G1 b2 news hcx hgo hsl hrow hfed hsz hes hfr
      obtain ⟨v',w',F',r1,r2,r3,r4⟩:=MI (P:=P) (A:=A) (ty:=o.type) hcx hp hz hte hT hd hd' hsl hrow hfed hsz
      rw [← hes] at r1
      obtain ⟨G',g1,g2,g3⟩:=VW (F:=F') (X:=[]) r2 (hs.go0 (hgo.trans r4)) (v:=v') r3 (by unfold Qi; rfl) hfr
      exact ⟨v',w',G',.inl (hrun _ _ r1),g1.c,g2,g3⟩
     have hsv:=JZ hs s
     split at hv
     ·rename_i hse
      obtain ⟨rfl,hfr⟩:=HW hv
      obtain ⟨hk1,hk2⟩:=Q2 hk
      obtain ⟨Fs,G1,q1,⟨news,q2,q3⟩,q4⟩:=Vf hc (JZ hs x) hp hsrc hk1
      rw [hse] at hsv
      obtain ⟨hes,_⟩:=Oq.1 hsv
      have hsz:0 + xs.length≤4294967296:=hk2 (.sz 0 xs.length) (by simp)
      exact fin [] Fs none 0 [] G1 b1 news q1 q4 (.inl ⟨rfl,rfl,rfl⟩) q2 q3 hsz hes hfr
     ·rename_i e2 hse
      split at hv
      ·obtain ⟨rfl,hfr⟩:=HW hv
       obtain ⟨hk1,hk2⟩:=Q2 hk
       obtain ⟨Fs,G1,q1,⟨news,q2,q3⟩,q4⟩:=Vf hc (JZ hs x) hp hsrc hk1
       rw [hse] at hsv
       have hx':=(JV rfl (by simp) (by simp)).1 hsv
       unfold InV at hx'
       obtain ⟨⟨Ad,hx'⟩,_⟩:=hx'
       simp only [List.cons.injEq,and_true] at hx'
       have hsz:0 + xs.length≤4294967296:=hk2 (.sz 0 xs.length) (by simp)
       exact fin [] Fs Ad 0 [] G1 b1 news q1 q4 (.inl ⟨rfl,rfl,rfl⟩) q2 q3 hsz hx' hfr
      ·simp at hv
     ·rename_i t2 p e2 hse
      split at hv
      ·rename_i hb1
       split at hv
       ·rename_i e3 l b2 ht
        obtain ⟨hb2,hv2⟩:=Uu hv
        have hee:=Ty.beq_eq _ _ hb2
        subst hee
        obtain ⟨rfl,hfr⟩:=HW hv2
        obtain ⟨hk1,hk2⟩:=Q2 hk
        obtain ⟨Fs,G1,q1,⟨news,q2,q3⟩,q4⟩:=Vf hc (JZ hs x) hp hsrc hk1
        have hsv1:=JZ (hs.go0 q4) s
        rw [hse] at hsv1
        obtain ⟨c0,rc,Fz,Lv,csv,Fv,G2,k1,k2,k3,k4,k5,k6,k7,k8⟩:=CU q1 ht
        have hh:=Cx hsv1 k1 k2 k3 rfl
        have hh2:Lv.head w=some (a.eval s):=hh
        unfold InV at k6
        obtain ⟨_,Ad,cap,hcs',hsl⟩:=k6
        rw [hcs'] at k4
        have hhd:=J0 k4
        rw [hhd] at hh2
        simp only [oj] at hh2
        have hsz:l.length + xs.length≤4294967296:=hk2 (.sz l.length xs.length) (by simp)
        exact fin Fv Fs Ad cap l G2 b2 news k7 (q4.trans k8) hsl q2 q3 hsz hh2.symm hfr
       ·simp at hv
      ·simp at hv
     ·rename_i t2 p off len e2 hse
      split at hv
      ·rename_i hb1
       rw [Je] at hb1
       obtain ⟨hbe,hf⟩:=hb1
       have hee0:=Ty.beq_eq _ _ hbe
       subst hee0
       split at hv
       ·rename_i c2 e3 l hga
        split at hv
        ·rename_i cx b2 hset
         obtain ⟨hb2,hv2⟩:=Uu hv
         have hee:=Ty.beq_eq _ _ hb2
         subst hee
         simp only [oj,pj] at hv2
         obtain ⟨rfl,rfl,rfl⟩:=hv2
         obtain ⟨hk12,hk3⟩:=Q2 hk
         obtain ⟨hk1,hk2⟩:=Q2 hk12
         obtain ⟨Fs,G1,q1,⟨news,q2,q3⟩,q4⟩:=Vf hc (JZ hs x) hp hsrc hk1
         have hFs:Fs=[]:=Ha (fun d c G hd=>Hb e hf hd) q2
         subst hFs
         have hroom:off + len + xs.length≤l.length:=hk3 (.le (off + len + xs.length) l.length) (by simp)
         have hc1:J7 w b1 G1 w0 F0:=q1.c
         have hs1:JA (Ja w b1 G1 []) sl a:=hs.go0 q4
         have hsv1:=JZ hs1 s
         rw [hse] at hsv1
         obtain ⟨c0,rc,F,i1,i2,i3,Lx,csx,Fx,i4,i5,i6,i7,i8,i9⟩:=Ut hc1 hga hk2
         obtain ⟨A0,n0,k0,A1,j1,j2,j3,j4⟩:=VR hsv1 i1 i2 i4 rfl
         have j1':Lx.head w=some (.slice A0 n0 k0):=j1
         obtain ⟨w',G',z1,z2,z3,z4,z5,⟨F2,z6⟩,z7⟩:=YG (X:=[]) hc1.x (i:=off + len) (xs:=xs) (news:=news) i1 i2 i4 j1' hf hz hroom q2
         have hb':b2=Jx b1 t2 (c0.set p (.own e (l.take (off + len) ++ xs ++ l.drop (off + len + xs.length)))):=by
          unfold U4 at hset
          rw [i1] at hset
          simp only [i3,oj,pj] at hset
          exact hset.2.symm
         subst hb'
         have hal:=MK z7 (len:=len + xs.length) (off:=off) (e:=e) (A':=A1) i1 i2 i4 j1 (by omega) j4
         obtain ⟨i,z,hi,hiz,hisz,hby,hzc,hzl⟩:=Ve (P:=P) hp hte hT
         have hnl:news.length=xs.length * e.size:=HC (fun d c G hd=>Qt e hd) q2
         have hone:∀ u ∈ news,u.oneCell'=true:=Cy (fun d c F=>HV e) q2
         have hsr:Src P i.size tx (a.eval x) xs.length news w:=q3.src hd' (by rw [hisz]; exact hnl) hone
         have hex:a.eval s=.slice A1 len (k0 - off):=j3
         have hgoal:(Builtin.append_ #[t,tx] o.type #[.slice A1 len (k0 - off),a.eval x]).run P w=.ok (.slice A1 (len + xs.length) (k0 - off)) w':=by
          by_cases hx0:xs=[]
          ·have hw:=z1 hx0
           subst hw
           subst hx0
           have hn0:news=[]:=List.eq_nil_of_length_eq_zero (by simpa using hnl)
           subst hn0
           have e1:=hsr.len w'
           have e2:=hsr.cells
           simp only [List.length_nil] at e1 e2
           have hr0:len≤k0 - off:=by omega
           cases A1 with
           | none=>simp [Builtin.append_,run_underlying hd,run_underlying hd',sizeOf,typeInfo,hi,e1,e2,hr0]
           | some ad1=>simp [Builtin.append_,run_underlying hd,run_underlying hd',sizeOf,typeInfo,hi,e1,e2,hr0,storeCells]
          ·obtain ⟨ad,rfl⟩:=z3 hx0
           obtain ⟨hw,hu⟩:=z2 ad rfl
           obtain ⟨hun,hsp⟩:=hu hx0
           subst hw
           have hpos:0<xs.length:=List.length_pos_iff.2 hx0
           obtain ⟨ad',r1,r2⟩:=j4 (by omega)
           simp only [oj] at r1
           subst r1
           rw [CT hsp] at r2
           subst r2
           have hsp2:(ad.add ((off + len) * e.size)).spot=none:=Tm _ _ hsp
           have hr:=run_append_room_src (P:=P) w t tx o.type te i hd hi ad.block (ad.off + off * e.size) len (k0 - off) (a.eval x) xs.length news hsr (by omega)
            (fun j hj=>by
             obtain ⟨⟨u,hu⟩,_⟩:=hun j hj
             rw [U7,CT hsp] at hu
             rw [hisz,show ad.off + off * e.size + len * e.size + j=ad.off + ((off + len) * e.size + j) by rw [Nat.add_mul]; omega,hu]; rfl)
            (fun j hj=>by
             obtain ⟨_,hu⟩:=hun j hj
             rw [U7,CT hsp] at hu
             rw [hisz,show ad.off + off * e.size + len * e.size + j=ad.off + ((off + len) * e.size + j) by rw [Nat.add_mul]; omega,hu])
           rw [hisz,show ad.off + off * e.size + len * e.size=ad.off + (off + len) * e.size by rw [Nat.add_mul]; omega] at hr
           exact hr
         rw [← hex] at hgoal
         refine ⟨_,w',G',.inl (hrun _ _ hgoal),z5.c,hs1.go0 z7,?_⟩
         rw [JV rfl (by simp) (by simp)]
         exact hal
        ·simp at hv
       ·simp at hv
      ·simp at hv
     ·simp at hv
    ·simp at hv
   ·simp at hv
  ·simp at hv
theorem Sm {o:Bool} {w:World}:∀ {l:List D} {cs:List Value} {F:List Nat},Row (DIn o w (.int .u8)) l cs F→cs=(l.map D.toInt).map (Value.int .u8)
 | [],cs,F,h=>by obtain ⟨rfl,_⟩:=h; rfl
 | d :: l,cs,F,⟨c1,c2,F1,F2,e1,e2,h1,h2⟩=>by
  unfold DIn at h1
  rw [e1,h1.1,Sm h2]; rfl
theorem MN (HT:JY P A.ty) (hc:J7 w bl G w0 F0) (hs:JA (Ja w bl G []) sl a) {s t:TypeId} {x:Operand} {e:Ty} {c:List Jm} {v:V} {b:BL} (h:o.op=.convert s t x) (hts:A.ty s=.slice e) (htt:A.ty t=.str)
  (hv:WP e bl (opd sl x)=some (c,v,b)) (hk:∀ k ∈ c,k.ok):Jr P w0 F0 sl a w o v b:=by
 unfold WP at hv
 split at hv
 ·rename_i he8
  have he:=Ty.beq_eq _ _ he8
  subst he
  split at hv
  ·rename_i c1 e1 l hel
   split at hv
   ·rename_i hbe
    have hee:=Ty.beq_eq _ _ hbe
    subst hee
    simp only [oj,pj] at hv
    obtain ⟨rfl,rfl,rfl⟩:=hv
    obtain ⟨d,hd,hdk⟩:=(HT s (by rw [hts]; simp)).desc
    rw [hts] at hdk
    obtain ⟨te,rfl,hte,hne⟩:=Up hdk
    obtain ⟨d2,hd2,hk2⟩:=(HT te (by rw [hte]; simp)).desc
    rw [hte] at hk2
    have e2:=Om hk2
    subst e2
    obtain ⟨d3,hd3,hk3⟩:=(HT t (by rw [htt]; simp)).desc
    rw [htt] at hk3
    have e3:=Cv hk3
    subst e3
    obtain ⟨Ad,cap,F,h1,h2,h3,h4⟩:=VS hc (JZ hs x) hel hk
    have hrun:(convert s t (.slice Ad l.length cap)).run P w=.ok (.string (VF l)) w:=by
     rw [run_convert_bytes_string w s t te Ad l.length cap hd hd2 hd3]
     rcases h2 with ⟨g1,g2,g3⟩ | ⟨ad,cs,F',g1,g2,g3,_⟩
     ·subst g1
      cases Ad with
      | none=>simp [Conv.bytesToString,VF]
      | some ad=>
       have:=run_bytesToString (P:=P) w ad 0 cap [] (by simpa using run_loadCells_list (P:=P) w ad [] (by simp))
       simpa [VF] using this
     ·subst g1
      have hcs:=Sm g2
      subst hcs
      have:=run_loadCells_list (P:=P) w ad _ g3
      rw [List.length_map,List.length_map] at this
      exact run_bytesToString w ad l.length cap (l.map D.toInt) this
    refine Jr.pure hc hs (vv:=.string (VF l)) ?_ (Ho.2 ⟨rfl,rfl⟩)
    simp [execOp,h,h1,hrun]
   ·simp at hv
  ·simp at hv
 ·simp at hv
theorem MO {t tx ty te:TypeId} {i:TypeInfo} {e':TypeId} (hd:P.underlying t=some (.slice te)) (hd':P.underlying tx=some (.slice e')) (hi:P.info? te=some i) {A1 Ad:Option Addr} {len cp n cap m:Nat} {news:List Value} (hm:m=Nat.min n len)
  (hfed:m ≠ 0→∃ ad,Ad=some ad∧QO w ad news) (hnl:news.length=m * i.size) (hone:∀ u ∈ news,u.oneCell'=true)
  (hw:(m=0∧w'=w) ∨ ∃ ad1,A1=some ad1∧ad1.spot=none∧QP w ad1 news.length∧w'=w.setCells ad1.block ad1.off news) :
  (Builtin.copy_ #[t,tx] ty #[.slice A1 len cp,.slice Ad n cap]).run P w=.ok (.int .i64 m) w':=by
 have hsr:Src P i.size tx (.slice Ad m cap) m news w:=Fed.src ⟨Ad,cap,rfl,hfed⟩ hd' hnl hone
 have hcells:(Builtin.firstCells i.size m (.slice Ad n cap)).run P w=.ok news.toArray w:=by
  have h1:=hsr.cells
  cases Ad <;> exact h1
 rcases hw with ⟨h0,rfl⟩ | ⟨ad1,rfl,hsp,hun,rfl⟩
 ·have hn0:news=[]:=List.eq_nil_of_length_eq_zero (by rw [hnl,h0]; simp)
  subst hn0
  cases A1 with
  | none=>simp [Builtin.copy_,run_underlying hd,sizeOf,typeInfo,hi,Builtin.lenOf,← hm,hcells,goInt]
  | some ad=>simp [Builtin.copy_,run_underlying hd,sizeOf,typeInfo,hi,Builtin.lenOf,← hm,hcells,goInt,storeCells]
 ·obtain ⟨b,of,sp⟩:=ad1
  simp only at hsp
  subst hsp
  have hst:=run_storeCells_cells (P:=P) b of news 0 w (fun j hj=>by
   obtain ⟨⟨u,hu⟩,_⟩:=hun j hj
   rw [Addr.add_lit] at hu
   rw [Nat.add_zero,hu]; rfl) (fun j hj=>by
   obtain ⟨_,hu⟩:=hun j hj
   rw [Addr.add_lit] at hu
   rw [Nat.add_zero]; exact hu) hone
  simp only [Nat.add_zero] at hst
  simp [Builtin.copy_,run_underlying hd,sizeOf,typeInfo,hi,Builtin.lenOf,← hm,hcells,goInt,hst]
theorem MP (HT:JY P A.ty) (hc:J7 w bl G w0 F0) (hs:JA (Ja w bl G []) sl a) {c:Call} {co:List Jm} {v:V} {b:BL} (h:o.op=.call c) (hcal:c.callee=.builtin .copy)
  (hv:Qd A sl bl o.dst .copy c.argTypes.toList (Jo sl c.args.toList)=some (co,v,b)) (hk:∀ k ∈ co,k.ok):Jr P w0 F0 sl a w o v b:=by
 match hargs:c.args.toList with
 | []=>rw [hargs] at hv; simp [Jo,Qd] at hv
 | [x]=>rw [hargs] at hv; simp [Jo,Qd] at hv
 | x :: y :: z :: r=>rw [hargs] at hv; simp [Jo,Qd] at hv
 | [s,x]=>
  rw [hargs] at hv
  simp only [Jo,Qd] at hv
  split at hv
  ·rename_i t tx hts
   split at hv
   ·rename_i e hty
    obtain ⟨htx,hv⟩:=Uu hv
    obtain ⟨e',hd'⟩:=VU HT htx
    obtain ⟨d,hd,hdk⟩:=(HT t (by rw [hty]; simp)).desc
    rw [hty] at hdk
    obtain ⟨te,rfl,hte,hne⟩:=Up hdk
    have hT:=HT te (by rw [hte]; exact hne)
    have hats:c.argTypes=#[t,tx]:=by apply Array.toList_inj.1; rw [hts]
    have hrun:∀ vv w2,(Builtin.copy_ #[t,tx] o.type #[a.eval s,a.eval x]).run P w=.ok vv w2→(execOp a.eval o).run P w=.ok (.value vv) w2:=by
     intro vv w2 hr
     refine Vg h hcal hargs (fun cs=>?_)
     rw [hats]
     simp [builtin,hr]
    unfold ON at hv
    split at hv
    ·rename_i c1 xs b1 hsrc
     obtain ⟨hpz,hsrc⟩:=Uu hsrc
     rw [Je] at hpz
     obtain ⟨hp,hz0⟩:=hpz
     have hz:e.size ≠ 0:=by
      intro h0
      rw [h0] at hz0
      simp [J2] at hz0
     split at hv
     ·rename_i hf
      obtain ⟨i,z,hi,hiz,hisz,hby,hzc,hzl⟩:=Ve (P:=P) hp hte hT
      have fin:∀ {t2:Nat} {p:List Nat} {off len:Nat} {l:List D} {c0:V} {rc:List Value} {F:List Nat} {G1:GT} {Lx:Jj} {A0 A1:Option Addr} {n0 k0 cp:Nat} {news:List Value},JW w b1 G1 [] w0 F0→JA (Ja w b1 G1 []) sl a →
        Row (DIn true w e) xs news []→Fed w (a.eval x) xs.length news→Jb b1 t2=some c0→G1 t2=some (rc,F)→Jg w c0 (.reg rc) p=some (.own e l,Lx)→Lx.head w=some (.slice A0 n0 k0) →
        off + len≤l.length→a.eval s=.slice A1 len cp→((xs.take len) ≠ []→∀ ad,A0=some ad→ad.spot=none→A1=some (ad.add (off * e.size))) →
        Jr P w0 F0 sl a w o (.int .i64 (xs.take len).length) (Jx b1 t2 (c0.set p (.own e (l.take off ++ xs.take len ++ l.drop (off + (xs.take len).length))))):=by
       intro t2 p off len l c0 rc F G1 Lx A0 A1 n0 k0 cp news hc1 hs1 q2 q3 i1 i2 i4 j1 hroom hex hA
       obtain ⟨Ad,cap,hvx,hfed⟩:=q3
       obtain ⟨d1,d2,K1,K2,y1,y2,y3,y4,y5⟩:=O5 (fun d c G hd=>Qt e hd) (n:=(xs.take len).length) q2 (by simp; omega)
       have hK1:K1=[]:=by
        have:K1 ++ K2=[]:=y2.symm
        simpa using (List.append_eq_nil_iff.1 this).1
       subst hK1
       have htk:xs.take (xs.take len).length=xs.take len:=by
        rw [List.length_take]
        rcases Nat.le_total len xs.length with hl | hl
        ·rw [Nat.min_eq_left hl]
        ·rw [Nat.min_eq_right hl,List.take_of_length_le (Nat.le_refl _),List.take_of_length_le hl]
       rw [htk] at y4
       have hone:∀ u ∈ d1,u.oneCell'=true:=Cy (fun d c F=>HV e) y4
       obtain ⟨w',G',z1,z2,z3,z4,z5,⟨F2,z6⟩,z7⟩:=YG (X:=[]) hc1 (i:=off) (xs:=xs.take len) (news:=d1) i1 i2 i4 j1 hf hz (by simp; omega) y4
       have hm:(xs.take len).length=Nat.min xs.length len:=by rw [List.length_take]; exact Nat.min_comm _ _
       have hgoal:(Builtin.copy_ #[t,tx] o.type #[.slice A1 len cp,.slice Ad xs.length cap]).run P w=.ok (.int .i64 ((xs.take len).length:Nat)) w':=by
        refine MO (w':=w') hd hd' hi hm (news:=d1) (fun hm0=>?_) (by rw [y3,hisz]) hone ?_
        ·obtain ⟨ad,e1,e2⟩:=hfed (by intro h0; apply hm0; rw [hm,h0]; simp)
         refine ⟨ad,e1,fun j u hj=>e2 j u ?_⟩
         rw [y1,List.getElem?_append_left (List.getElem?_eq_some_iff.1 hj).1]; exact hj
        ·by_cases hx0:xs.take len=[]
         ·exact .inl ⟨by rw [hx0]; rfl,z1 hx0⟩
         ·obtain ⟨ad,rfl⟩:=z3 hx0
          obtain ⟨hw,hu⟩:=z2 ad rfl
          obtain ⟨hun,hsp⟩:=hu hx0
          refine .inr ⟨ad.add (off * e.size),hA hx0 ad rfl hsp,Tm _ _ hsp,hun,?_⟩
          rw [hw,QZ,Oi]
       rw [← hex,← hvx] at hgoal
       exact ⟨_,w',G',.inl (hrun _ _ hgoal),z5.c,hs1.go0 z7,Qk.2 ⟨rfl,rfl⟩⟩
      split at hv
      ·rename_i t2 p e2 hse
       split at hv
       ·rename_i hb1
        have hee0:=Ty.beq_eq _ _ hb1
        subst hee0
        split at hv
        ·rename_i c2 e3 l hga
         split at hv
         ·rename_i cx b2 hset
          obtain ⟨hb2,hv2⟩:=Uu hv
          have hee:=Ty.beq_eq _ _ hb2
          subst hee
          simp only [oj,pj] at hv2
          obtain ⟨rfl,rfl,rfl⟩:=hv2
          obtain ⟨hk1,hk2⟩:=Q2 hk
          obtain ⟨Fs,G1,q1,⟨news,q2,q3⟩,q4⟩:=Vf hc (JZ hs x) hp hsrc hk1
          have hFs:Fs=[]:=Ha (fun d c G hd=>Hb e hf hd) q2
          subst hFs
          have hc1:J7 w b1 G1 w0 F0:=q1.c
          have hs1:JA (Ja w b1 G1 []) sl a:=hs.go0 q4
          have hsv1:=JZ hs1 s
          rw [hse] at hsv1
          obtain ⟨c0,rc,F,i1,i2,i3,Lx,csx,Fx,i4,i5,i6,i7,i8,i9⟩:=Ut hc1 hga hk2
          have hh:=Cx hsv1 i1 i2 i4 rfl
          have hh2:Lx.head w=some (a.eval s):=hh
          have i5':=i5
          unfold InV at i5'
          obtain ⟨_,Ad,cap,hcs',hsl⟩:=i5'
          rw [hcs'] at i6
          have hhd:Lx.head w=some (.slice Ad l.length cap):=J0 i6
          rw [hhd] at hh2
          simp only [oj] at hh2
          have hb':b2=Jx b1 t2 (c0.set p (.own e (l.take 0 ++ xs.take l.length ++ l.drop (0 + (xs.take l.length).length)))):=by
           unfold U4 at hset
           rw [i1] at hset
           simp only [i3,oj,pj] at hset
           exact hset.2.symm
          subst hb'
          exact fin (off:=0) (len:=l.length) hc1.x hs1 q2 q3 i1 i2 i4 hhd (by omega) hh2.symm (fun _ ad ha hsp=>by rw [ha]; simp [Addr.add])
         ·simp at hv
        ·simp at hv
       ·simp at hv
      ·rename_i t2 p off len e2 hse
       split at hv
       ·rename_i hb1
        have hee0:=Ty.beq_eq _ _ hb1
        subst hee0
        split at hv
        ·rename_i c2 e3 l hga
         split at hv
         ·rename_i cx b2 hset
          obtain ⟨hb2,hv2⟩:=Uu hv
          have hee:=Ty.beq_eq _ _ hb2
          subst hee
          simp only [oj,pj] at hv2
          obtain ⟨rfl,rfl,rfl⟩:=hv2
          obtain ⟨hk12,hk3⟩:=Q2 hk
          obtain ⟨hk1,hk2⟩:=Q2 hk12
          obtain ⟨Fs,G1,q1,⟨news,q2,q3⟩,q4⟩:=Vf hc (JZ hs x) hp hsrc hk1
          have hFs:Fs=[]:=Ha (fun d c G hd=>Hb e hf hd) q2
          subst hFs
          have hroom:off + len≤l.length:=hk3 (.le (off + len) l.length) (by simp)
          have hc1:J7 w b1 G1 w0 F0:=q1.c
          have hs1:JA (Ja w b1 G1 []) sl a:=hs.go0 q4
          have hsv1:=JZ hs1 s
          rw [hse] at hsv1
          obtain ⟨c0,rc,F,i1,i2,i3,Lx,csx,Fx,i4,i5,i6,i7,i8,i9⟩:=Ut hc1 hga hk2
          obtain ⟨A0,n0,k0,A1,j1,j2,j3,j4⟩:=VR hsv1 i1 i2 i4 rfl
          have j1':Lx.head w=some (.slice A0 n0 k0):=j1
          have hex:a.eval s=.slice A1 len (k0 - off):=j3
          have hb':b2=Jx b1 t2 (c0.set p (.own e (l.take off ++ xs.take len ++ l.drop (off + (xs.take len).length)))):=by
           unfold U4 at hset
           rw [i1] at hset
           simp only [i3,oj,pj] at hset
           exact hset.2.symm
          subst hb'
          refine fin (off:=off) (len:=len) hc1.x hs1 q2 q3 i1 i2 i4 j1' hroom hex (fun hx0 ad ha hsp=>?_)
          have hpos:0<(xs.take len).length:=List.length_pos_iff.2 hx0
          have hlen:0<len:=by rw [List.length_take] at hpos; omega
          obtain ⟨ad',r1,r2⟩:=j4 (by omega)
          rw [ha] at r1
          simp only [oj] at r1
          rw [r2,r1]
         ·simp at hv
        ·simp at hv
       ·simp at hv
      ·simp at hv
     ·simp at hv
    ·simp at hv
   ·simp at hv
  ·simp at hv
theorem MQ {cs:List Value} {n s:Nat} (h:cs.length=s):Builtin.zeroCells cs.toArray n=(J5 n cs).toArray:=by
 have h1:=V1 (n:=n) h
 rw [← h1]
 unfold Builtin.zeroCells
 rw [List.size_toArray,h]
theorem MR (HT:JY P A.ty) (hc:J7 w bl G w0 F0) (hs:JA (Ja w bl G []) sl a) {c:Call} {co:List Jm} {v:V} {b:BL} (h:o.op=.call c) (hcal:c.callee=.builtin .clear)
  (hv:Qd A sl bl o.dst .clear c.argTypes.toList (Jo sl c.args.toList)=some (co,v,b)) (hk:∀ k ∈ co,k.ok):Jr P w0 F0 sl a w o v b:=by
 match hargs:c.args.toList with
 | []=>rw [hargs] at hv; simp [Jo,Qd] at hv
 | x :: z :: r=>rw [hargs] at hv; simp [Jo,Qd] at hv
 | [s]=>
  rw [hargs] at hv
  simp only [Jo,Qd] at hv
  split at hv
  ·rename_i t hts
   split at hv
   ·rename_i e hty
    obtain ⟨d,hd,hdk⟩:=(HT t (by rw [hty]; simp)).desc
    rw [hty] at hdk
    obtain ⟨te,rfl,hte,hne⟩:=Up hdk
    have hT:=HT te (by rw [hte]; exact hne)
    have hats:c.argTypes=#[t]:=by apply Array.toList_inj.1; rw [hts]
    have hrun:∀ w2,(Builtin.clear_ #[t] o.type #[a.eval s]).run P w=.ok (.tuple #[]) w2→(execOp a.eval o).run P w=.ok (.value (.tuple #[])) w2:=by
     intro w2 hr
     refine Vg h hcal hargs (fun cs=>?_)
     rw [hats]
     simp [builtin,hr]
    unfold KT at hv
    split at hv
    ·rename_i t2 p off len e' hse
     split at hv
     ·rename_i hb1
      rw [Je,Je] at hb1
      obtain ⟨hf,hbe,hz0⟩:=hb1
      have hee0:=Ty.beq_eq _ _ hbe
      subst hee0
      have hz:e.size ≠ 0:=by
       intro h0
       rw [h0] at hz0
       simp [J2] at hz0
      split at hv
      ·rename_i c2 e3 l hga
       split at hv
       ·rename_i cx b2 hset
        obtain ⟨hb2,hv2⟩:=Uu hv
        have hee:=Ty.beq_eq _ _ hb2
        subst hee
        simp only [oj,pj] at hv2
        obtain ⟨rfl,rfl,rfl⟩:=hv2
        obtain ⟨hk1,hk2⟩:=Q2 hk
        have hroom:off + len≤l.length:=hk2 (.le (off + len) l.length) (by simp)
        have hsv1:=JZ hs s
        rw [hse] at hsv1
        obtain ⟨c0,rc,F,i1,i2,i3,Lx,csx,Fx,i4,i5,i6,i7,i8,i9⟩:=Ut hc hga hk1
        obtain ⟨A0,n0,k0,A1,j1,j2,j3,j4⟩:=VR hsv1 i1 i2 i4 rfl
        have j1':Lx.head w=some (.slice A0 n0 k0):=j1
        have hex:a.eval s=.slice A1 len (k0 - off):=j3
        have hp:e.plain=true:=by
         unfold InV at i5
         exact i5.1
        obtain ⟨i,z,hi,hiz,hisz,hby,hzc,hzl⟩:=Ve (P:=P) hp hte hT
        have hb':b2=Jx bl t2 (c0.set p (.own e (l.take off ++ List.replicate len (QX e) ++ l.drop (off + (List.replicate len (QX e)).length)))):=by
         unfold U4 at hset
         rw [i1] at hset
         simp only [i3,oj,pj] at hset
         exact hset.2.symm
        subst hb'
        have hrow:Row (DIn true w e) (List.replicate len (QX e)) (J5 len (JJ e)) []:=Or (Cg e hp) len
        obtain ⟨w',G',z1,z2,z3,z4,z5,⟨F2,z6⟩,z7⟩:=YG (X:=[]) hc.x (i:=off) (xs:=List.replicate len (QX e)) (news:=J5 len (JJ e)) i1 i2 i4 j1' hf hz (by simpa using hroom) hrow
        have hone:∀ u ∈ J5 len (JJ e),u.oneCell'=true:=Cy (fun d c F=>HV e) hrow
        have hgoal:(Builtin.clear_ #[t] o.type #[.slice A1 len (k0 - off)]).run P w=.ok (.tuple #[]) w':=by
         by_cases hl0:len=0
         ·subst hl0
          have hw:=z1 rfl
          subst hw
          cases A1 <;> simp [Builtin.clear_,run_underlying hd]
         ·have hx0:List.replicate len (QX e) ≠ []:=by
           intro h0
           have:=congrArg List.length h0
           simp at this; exact hl0 this
          obtain ⟨ad,rfl⟩:=z3 hx0
          obtain ⟨hw,hu⟩:=z2 ad rfl
          obtain ⟨hun,hsp⟩:=hu hx0
          subst hw
          obtain ⟨ad',r1,r2⟩:=j4 (by omega)
          simp only [oj] at r1
          subst r1
          rw [CT hsp] at r2 hun
          subst r2
          have hst:=run_storeCells_cells (P:=P) ad.block (ad.off + off * e.size) (J5 len (JJ e)) 0 w (fun j hj=>by
           obtain ⟨⟨u,hu⟩,_⟩:=hun j hj
           rw [Addr.add_lit] at hu
           rw [Nat.add_zero,hu]; rfl) (fun j hj=>by
           obtain ⟨_,hu⟩:=hun j hj
           rw [Addr.add_lit] at hu
           rw [Nat.add_zero]; exact hu) hone
          simp only [Nat.add_zero] at hst
          obtain ⟨ln,rfl⟩:∃ m,len=m + 1:=⟨len - 1,by omega⟩
          have hzr:Builtin.zeroCells z.cells (ln + 1)=(J5 (ln + 1) (JJ e)).toArray:=by rw [hzc]; exact MQ hzl
          simp [Builtin.clear_,run_underlying hd,zeroValue,typeInfo,hi,hiz,hzr,hst]
        rw [← hex] at hgoal
        exact ⟨_,w',G',.inl (hrun _ hgoal),z5.c,hs.go0 z7,⟨#[],rfl,rfl,rfl⟩⟩
       ·simp at hv
      ·simp at hv
     ·simp at hv
    ·simp at hv
   ·simp at hv
  ·simp at hv
end
end Go.Rai
namespace Go.Rai
variable [Inhabited Qe]
section
variable {P:Program} {A:Ann} {w w' w0:World} {F0:List Nat} {sl:List V} {a:Act} {bl b':BL} {G:GT} {o:Oper} {X:List Nat}
theorem YH {E:Env} (hs:JA E sl a) {f:Int→Int→Int} {g:Value→Value→Sem Value} (hg:∀ k x k' y,(g (.int k x) (.int k' y)).run P w=.ok (.int k (f x y)) w) :
  ∀ (ys:List Operand) {x:V} {vx:Value} {v:V},Val E x vx []→CN f x (Jo sl ys)=some v→(∃ k n,v=.int k n)→∃ vv,((ys.map a.eval).foldlM g vx).run P w=.ok vv w∧Val E v vv []
 | [],x,vx,v,hx,h,hv=>by
  simp only [Jo,CN,oj] at h
  subst h
  exact ⟨vx,by simp,hx⟩
 | y :: ys,x,vx,v,hx,h,hv=>by
  have hy:=JZ hs y
  simp only [Jo] at h
  cases x with
  | int k p=>
   cases hye:opd sl y with
   | int k' q=>
    rw [hye] at h hy
    simp only [CN] at h
    split at h
    ·obtain ⟨rfl,_⟩:=Qk.1 hx
     obtain ⟨hy,_⟩:=Qk.1 hy
     obtain ⟨vv,r1,r2⟩:=YH hs hg ys (x:=.int k (f p q)) (vx:=.int k (f p q)) (Qk.2 ⟨rfl,rfl⟩) h hv
     refine ⟨vv,?_,r2⟩
     simp only [List.map_cons,List.foldlM_cons,Sem.run_bind,hy,hg,Result.andThen_ok]
     exact r1
    ·simp at h
   | _=>rw [hye] at h; simp [CN] at h
  | _=>simp [CN] at h
theorem Sn (hc:J7 w bl G w0 F0) (hs:JA (Ja w bl G []) sl a) {c:Call} {bu:Builtin} (hbu:bu=.max ∨ bu=.min) {co:List Jm} {v:V} {b:BL} (h:o.op=.call c) (hcal:c.callee=.builtin bu)
  (hv:Qd A sl bl o.dst bu c.argTypes.toList (Jo sl c.args.toList)=some (co,v,b)):Jr P w0 F0 sl a w o v b:=by
 match hargs:c.args.toList with
 | []=>rw [hargs] at hv; rcases hbu with rfl | rfl <;> simp [Jo,Qd] at hv
 | x :: ys=>
  rw [hargs] at hv
  rcases hbu with rfl | rfl
  ·simp only [Jo,Qd] at hv
   split at hv
   ·rename_i k n hm
    simp only [oj,pj] at hv
    obtain ⟨rfl,rfl,rfl⟩:=hv
    obtain ⟨vv,r1,r2⟩:=YH (P:=P) (w:=w) hs (g:=Builtin.max2) (fun k x k' y=>by simp [Builtin.max2]) ys (JZ hs x) hm ⟨_,_,rfl⟩
    refine Jr.pure hc hs (vv:=vv) (Vg h hcal hargs (fun cs=>?_)) r2
    simp [builtin,Builtin.max_,r1]
   ·simp at hv
  ·simp only [Jo,Qd] at hv
   split at hv
   ·rename_i k n hm
    simp only [oj,pj] at hv
    obtain ⟨rfl,rfl,rfl⟩:=hv
    obtain ⟨vv,r1,r2⟩:=YH (P:=P) (w:=w) hs (g:=Builtin.min2) (fun k x k' y=>by simp [Builtin.min2]) ys (JZ hs x) hm ⟨_,_,rfl⟩
    refine Jr.pure hc hs (vv:=vv) (Vg h hcal hargs (fun cs=>?_)) r2
    simp [builtin,Builtin.min_,r1]
   ·simp at hv
theorem MS (HT:JY P A.ty) (hc:J7 w bl G w0 F0) (hs:JA (Ja w bl G []) sl a) {op:Op} (h:o.op=op) {c:List Jm} {v:V} {b:BL} (hv:JI A sl bl o.dst op=some (c,v,b)) (hk:∀ k ∈ c,k.ok) :
  Jr P w0 F0 sl a w o v b:=by
 unfold JI at hv
 split at hv
 ·simp only [oj,pj] at hv
  obtain ⟨rfl,rfl,rfl⟩:=hv
  exact Jr.pure hc hs (N8 h) (JZ hs _)
 ·simp only [oj,pj] at hv
  obtain ⟨rfl,rfl,rfl⟩:=hv
  exact Jr.pure hc hs (N9 h) (JZ hs _)
 ·split at hv
  ·rename_i hp
   simp only [oj,pj] at hv
   obtain ⟨rfl,rfl,rfl⟩:=hv
   exact Ma hc hs h hp
  ·simp at hv
 ·split at hv
  ·rename_i hz
   exact My HT hc hs h hz (HW hv).2
  ·simp at hv
 ·split at hv
  ·rename_i hz
   exact Mz hc hs h hz (HW hv).2
  ·simp at hv
 ·split at hv
  ·rename_i fs hty
   split at hv
   ·rename_i hz
    split at hv
    ·rename_i vs hf
     simp only [oj,pj] at hv
     obtain ⟨rfl,rfl,rfl⟩:=hv
     exact MA HT hc hs h hty hz hf
    ·simp at hv
   ·simp at hv
  ·simp at hv
 ·split at hv
  ·rename_i e hty
   split at hv
   ·rename_i hz
    rw [Je] at hz
    split at hv
    ·rename_i vs hf
     exact MB HT hc hs h hty hz.1 (Nat.le_of_ble_eq_true hz.2) hf hv
    ·simp at hv
   ·simp at hv
  ·simp at hv
 ·exact Mj HT hc hs h hv hk
 ·split at hv
  ·simp at hv
  ·rename_i hz
   exact ME HT hc hs h (fun h0=>by rw [h0] at hz; simp at hz) hv hk
 ·split at hv
  ·rename_i hx
   simp only [oj,pj] at hv
   obtain ⟨rfl,rfl,rfl⟩:=hv
   exact Yo hc hs h hx (.inl ⟨_,_,rfl⟩)
  ·rename_i hx
   simp only [oj,pj] at hv
   obtain ⟨rfl,rfl,rfl⟩:=hv
   exact Yo hc hs h hx (.inr (.inl ⟨_,rfl⟩))
  ·rename_i hx
   simp only [oj,pj] at hv
   obtain ⟨rfl,rfl,rfl⟩:=hv
   exact Yo hc hs h hx (.inr (.inr ⟨_,_,rfl⟩))
  ·simp at hv
 ·split at hv
  ·rename_i hb
   simp only [oj,pj] at hv
   obtain ⟨rfl,rfl,rfl⟩:=hv
   exact Mv HT hc hs h hb hk
  ·simp at hv
 ·split at hv
  ·rename_i hb
   simp only [oj,pj] at hv
   obtain ⟨rfl,rfl,rfl⟩:=hv
   exact Mb hc hs h hb
  ·simp at hv
 ·split at hv
  ·rename_i hsl
   split at hv
   ·rename_i e hts htt
    exact MN HT hc hs h hts htt hv hk
   ·simp at hv
  ·exact Mc HT hc hs h hv
 ·split at hv
  ·rename_i f hfi
   split at hv
   ·rename_i hcap
    simp only [oj,pj] at hv
    obtain ⟨rfl,rfl,rfl⟩:=hv
    exact Mf hc hs h hfi hcap
   ·simp at hv
  ·simp at hv
 ·split at hv
  ·rename_i e hty
   split at hv
   ·rename_i hp
    split at hv
    ·rename_i ln cn h1 h2
     obtain ⟨rfl,hfr⟩:=HW hv
     exact MC HT hc hs h hty hp h1 h2 (hk _ (by simp)) hfr
    ·simp at hv
   ·simp at hv
  ·simp at hv
 ·exact Mr HT hc hs h hv hk
 ·exact Ml HT hc hs h hv hk
 ·split at hv
  ·rename_i hf
   simp only [oj,pj] at hv
   obtain ⟨rfl,rfl,rfl⟩:=hv
   exact Mm HT hc hs h hf
  ·simp at hv
 ·exact Mo HT hc hs h hv hk
 ·split at hv
  ·rename_i hty
   exact Me HT hc hs h hty hv hk
  ·simp at hv
 ·split at hv
  ·rename_i vs hx
   split at hv
   ·rename_i hn
    simp only [oj,pj] at hv
    obtain ⟨rfl,rfl,rfl⟩:=hv
    exact Md hc hs h hx hn
   ·simp at hv
  ·simp at hv
 ·rename_i cl
  split at hv
  ·rename_i f hcal
   cases f with
   | len=>exact Mh (xs:=[]) HT hc hs h hcal hv hk
   | cap=>exact Mi HT hc hs h hcal hv
   | append=>exact MM HT hc hs h hcal hv hk
   | copy=>exact MP HT hc hs h hcal hv hk
   | clear=>exact MR HT hc hs h hcal hv hk
   | max=>exact Sn hc hs (.inl rfl) h hcal hv
   | min=>exact Sn hc hs (.inr rfl) h hcal hv
   | _=>simp [Qd] at hv
  ·simp at hv
 ·simp at hv
end
end Go.Rai
namespace Go.Rai
variable [Inhabited Qe]
mutual
theorem CC {R:Type}:∀ (v:V) (κ:V→Option R),QD v κ=κ v
 | .agg vs,κ=>by unfold QD; rw [UZ vs]
 | .lst e vs,κ=>by unfold QD; rw [UZ vs]
 | .tup vs,κ=>by unfold QD; rw [UZ vs]
 | .fn f vs,κ=>by unfold QD; rw [UZ vs]
 | .obox v,κ=>by unfold QD; rw [CC v]
 | .rp v,κ=>by unfold QD; rw [CC v]
 | .full s p e,κ=>by unfold QD; rw [Ou p]
 | .sub s p o l e,κ=>by unfold QD; rw [Ou p]
 | .ptr s p,κ=>by unfold QD; rw [Ou p]
 | .undef,κ=>by unfold QD; rfl
 | .void,κ=>by unfold QD; rfl
 | .int k n,κ=>by unfold QD; rfl
 | .bool b,κ=>by unfold QD; rfl
 | .str s,κ=>by unfold QD; rfl
 | .arr n e l,κ=>by unfold QD; rfl
 | .own e l,κ=>by unfold QD; rfl
 | .rd e l,κ=>by unfold QD; rfl
 | .nilsl,κ=>by unfold QD; rfl
 | .emp e,κ=>by unfold QD; rfl
 | .nilfn,κ=>by unfold QD; rfl
 | .nilptr,κ=>by unfold QD; rfl
theorem UZ {R:Type}:∀ (vs:List V) (κ:List V→Option R),Uw vs κ=κ vs
 | [],κ=>by unfold Uw; rfl
 | v :: vs,κ=>by unfold Uw; rw [CC v,UZ vs]
theorem Ou {R:Type}:∀ (p:List Nat) (κ:List Nat→Option R),Ux p κ=κ p
 | [],κ=>by unfold Ux; rfl
 | n :: p,κ=>by unfold Ux; rw [Ou p]
end
theorem HY {R:Type}:∀ (b:BL) (κ:BL→Option R),Hh b κ=κ b
 | [],κ=>rfl
 | (k,v) :: r,κ=>by unfold Hh; rw [CC,HY r]
theorem HE {R:Type}:∀ (l:List V) (n:Nat) (x:V) (κ:List V→Option R),U5 l n x κ=κ (JF l n x)
 | [],_,_,_=>rfl
 | _ :: _,0,_,_=>rfl
 | a :: l,n + 1,x,κ=>by unfold U5 JF; rw [HE l]
def Qx (sl:List V):Option Nat→V→List V
 | some t,v=>JF sl t v
 | none,_=>sl
theorem UJ {R:Type} (σ:St) (d:Option Nat) (v:V) (b:BL) (κ:St→Option R):QU σ d v b κ=κ ⟨Qx σ.sl d v,b⟩:=by
 unfold QU Qx
 cases d with
 | none=>simp [HY]
 | some t=>simp [CC,HE,HY]
theorem UK {R:Type}:∀ {c:List Jm} {k:Option R} {r:R},QM c k=some r→(∀ x ∈ c,x.ok)∧k=some r
 | [],k,r,h=>⟨fun x hx=>(by cases hx),h⟩
 | x :: c,k,r,h=>by
  have step:∀ (p:Prop) [Decidable p],(p→x.ok)→(if p then QM c k else none)=some r→(∀ y ∈ x :: c,y.ok)∧k=some r:=by
   intro p _ hp hh
   split at hh
   ·rename_i hc
    obtain ⟨h1,h2⟩:=UK hh
    refine ⟨fun y hy=>?_,h2⟩
    rcases List.mem_cons.1 hy with rfl | hy
    ·exact hp hc
    ·exact h1 y hy
   ·cases hh
  cases x <;> exact step _ (fun h=>h) h
theorem Ov:∀ (sl:List V) (t u:Nat) (v:V),Jy (JF sl t v) u=if u=t∧t<sl.length then v else Jy sl u
 | [],t,u,v=>by simp [JF]
 | x :: sl,0,0,v=>by simp [JF,Jy]
 | x :: sl,0,u + 1,v=>by simp [JF,Jy]
 | x :: sl,t + 1,0,v=>by simp [JF,Jy]
 | x :: sl,t + 1,u + 1,v=>by simp [JF,Jy,Ov sl t u v]
theorem Vh {α:Type}:∀ (l:List α) (n:Nat) (x:α),(JF l n x).length=l.length
 | [],_,_=>rfl
 | _ :: _,0,_=>rfl
 | a :: l,n + 1,x=>by simp [JF,Vh l]
section
variable {P:Program} {A:Ann} {w w' w0:World} {F0:List Nat} {sl:List V} {a:Act} {bl b':BL} {G:GT} {o:Oper} {X:List Nat}
theorem JA.put {E:Env} (hs:JA E sl a) (hl:a.tmps.size=sl.length) {d:Option Nat} {v:V} {vv:Value} (hv:Val E v vv []):JA E (Qx sl d v) (a.put d vv):=by
 cases d with
 | none=>exact hs
 | some t=>
  intro u
  simp only [Qx,Act.put,Ov]
  by_cases hu:u=t∧t<sl.length
  ·obtain ⟨rfl,hlt⟩:=hu
   rw [if_pos ⟨rfl,hlt⟩]
   have:(a.tmps.setIfInBounds u vv).getD u undef=vv:=by
    rw [Array.getD_eq_getD_getElem?,Array.getElem?_setIfInBounds_self_of_lt (by omega)]
    rfl
   rw [this]; exact hv
  ·rw [if_neg hu]
   have:(a.tmps.setIfInBounds t vv).getD u undef=a.tmps.getD u undef:=by
    rw [Array.getD_eq_getD_getElem?,Array.getD_eq_getD_getElem?]
    by_cases hut:t=u
    ·subst hut
     have:¬ t<sl.length:=fun h=>hu ⟨rfl,h⟩
     rw [Array.setIfInBounds_eq_of_size_le (by omega)]
    ·rw [Array.getElem?_setIfInBounds_ne hut]
   rw [this]; exact hs u
theorem MT {Pn:Nat→Option Value} (hp:∀ t v,Pn t=some v→a.tmps.getD t undef=v) {d:Option Nat} (hdst:∀ t,d=some t→Pn t=none) {vv:Value}:∀ t v,Pn t=some v→(a.put d vv).tmps.getD t undef=v:=by
 intro t v h
 cases d with
 | none=>exact hp t v h
 | some u=>
  have hne:u ≠ t:=fun e=>by
   subst e
   rw [hdst u rfl] at h
   cases h
  have:=hp t v h
  rw [Array.getD_eq_getD_getElem?] at this ⊢
  simp only [Act.put]
  rw [Array.getElem?_setIfInBounds_ne hne]
  exact this
theorem Rel.put {Pn:Nat→Option Value} (hc:J7 w bl G w0 F0) (hs:JA (Ja w bl G []) sl a) (hl:a.tmps.size=sl.length) (hd:a.defers=[]) (hp:∀ t v,Pn t=some v→a.tmps.getD t undef=v) {d:Option Nat} (hdst:∀ t,d=some t→Pn t=none) {v:V} {vv:Value} (hv:Val (Ja w bl G []) v vv []) :
  Rel Pn w0 F0 ⟨Qx sl d v,bl⟩ (a.put d vv) w:=by
 refine ⟨⟨G,hc,hs.put hl hv⟩,?_,?_,MT hp hdst⟩
 ·cases d with
  | none=>exact hl
  | some t=>simp [Act.put,Qx,Vh,hl]
 ·cases d <;> exact hd
end
def Xb (P:Program) (c:Code) (Q:Exit→Act→World→Prop) (a:Act) (w:World):Prop:=
 ∀ (b:Frame) (k:List Item) (cs:List Frame),∃ e a' w',Q e a' w'∧Arrives P (lone (b.at a (.code c :: .inLoop c :: k)) cs w) b k cs e a' w'
theorem MU {P:Program} {c:Code} {Q:Exit→Act→World→Prop} {a:Act} {w:World} (h:Xb P c Q a w):(Code.loop c).wp P Q a w:=by
 intro b k cs
 obtain ⟨e,a',w',hq,harr⟩:=h b k cs
 exact ⟨e,a',w',hq,.of_steps (.one step_loop) harr⟩
theorem MV {P:Program} {c:Code} {Q:Exit→Act→World→Prop} {a:Act} {w:World} (h:c.wp P (Exit.then (Xb P c Q) Q) a w):Xb P c Q a w:=by
 intro b k cs
 obtain ⟨e,a₁,w₁,hq,harr⟩:=h b (.inLoop c :: k) cs
 cases e with
 | normal=>
  obtain ⟨e₂,a₂,w₂,hq₂,harr₂⟩:=hq b k cs
  exact ⟨e₂,a₂,w₂,hq₂,.of_steps (Steps.trans harr (.one step_inLoop)) harr₂⟩
 | exit id=>exact ⟨_,a₁,w₁,hq,.pass (x:=.inLoop c) rfl (fun _ _=>.inl (by simp)) harr⟩
 | goto l=>exact ⟨_,a₁,w₁,hq,.pass (x:=.inLoop c) rfl (fun _ _=>.inl (by simp)) harr⟩
 | ret=>exact ⟨_,a₁,w₁,hq,.pass (x:=.inLoop c) rfl (fun _ _=>.inl (by simp)) harr⟩
 | panic ch=>exact ⟨_,a₁,w₁,hq,.pass (x:=.inLoop c) rfl (fun _ _=>.inl (by simp)) harr⟩
 | outgrown=>exact ⟨_,a₁,w₁,hq,.pass (x:=.inLoop c) rfl (fun _ _=>.inl (by simp)) harr⟩
end Go.Rai
namespace Go.Rai
variable [Inhabited Qe]
section
variable {P:Program} {A:Ann} {w w' w0:World} {F0:List Nat} {sl:List V} {a:Act} {bl b':BL} {G:GT} {o:Oper} {X:List Nat}
theorem Xc (ho:Ok w bl G X) {s:Nat} {p:List Nat} {c:List Jm} {x:V} (hg:J1 bl s p=some (c,x)) (hk:∀ k ∈ c,k.ok) :
  ∃ c0 rc F,Jb bl s=some c0∧G s=some (rc,F)∧∃ Lx csx Fx,Jg w c0 (.reg rc) p=some (x,Lx)∧InV (Ja w bl G X) x csx Fx∧Lx.holds w csx∧(∀ b ∈ Fx,b<w.heap.size∧b ∉ X)∧∀ ad,Lx=.mem ad→ad.block<w.heap.size∧ad.block ∉ X:=by
 unfold J1 at hg
 split at hg
 ·rename_i c0 hl
  obtain ⟨rc,F,F1,h1,h2,h3,h4,h5⟩:=ho.root s c0 hl
  obtain ⟨Lx,h6⟩:=HD (Ja w bl G X) p c0 rc F1 (.reg rc) c x h2 ⟨[],by simp⟩ hg hk
  obtain ⟨csx,Fx,Fr,i1,i2,i3,i4,_⟩:=ho.modify hl h1 h6
  exact ⟨c0,rc,F,hl,h1,Lx,csx,Fx,h6,i1,i2,fun b hb=>h5 b ((i3.mem_iff).2 (by simp [hb])),fun ad had=>by
   rcases i4 with ⟨a',ha',hin⟩ | ⟨ds,hds⟩
   ·rw [had] at ha'; cases ha'
    exact h5 _ ((i3.mem_iff).2 (by simp [hin]))
   ·rw [had] at hds; cases hds⟩
 ·simp at hg
theorem So {E:Env} {e:Ty} (hp:e.plain=true):∀ {n:Nat} {vs:List V} {cs:List Value},JK (rep n e) vs=true→OJ vs=true→Ji E vs cs []→∃ F,Row (DIn false E.w e) (Ug vs) cs F∧∀ b ∈ F,E.Sb e b
 | 0,vs,cs,h,_,hi=>by
  cases vs <;> simp [rep,JK] at h
  unfold Ji at hi
  obtain ⟨rfl,_⟩:=hi
  exact ⟨[],⟨rfl,rfl⟩,fun b hb=>by cases hb⟩
 | n + 1,vs,cs,h,ho,hi=>by
  cases vs with
  | nil=>simp [rep,JK] at h
  | cons v vs=>
   simp only [rep,JK,Je] at h
   cases v <;> simp [OJ] at ho
   rename_i e1 l
   unfold Ji at hi
   obtain ⟨c1,c2,F1,F2,e1',e2',h1,h2⟩:=hi
   obtain ⟨rfl,rfl⟩:=List.append_eq_nil_iff.1 e2'.symm
   obtain ⟨F,g1,g2⟩:=So hp h.2 ho h2
   unfold InV at h1
   obtain ⟨_,_,Ad,cap,F',q1,q2,q3⟩:=h1
   have he:e=.slice e1:=by
    have:=h.1
    cases e <;> simp [Js] at this
    rw [Ty.beq_eq _ _ this]
   subst he
   refine ⟨F' ++ F,⟨c1,c2,F',F,e1',rfl,?_,g1⟩,fun b hb=>?_⟩
   ·unfold DIn
    exact ⟨Ad,cap,q1,q2⟩
   ·rcases List.mem_append.1 hb with q | q
    ·exact q3 b q
    ·exact g2 b q
theorem Sp {e:Ty} (he:H3 e=false):∀ {n:Nat} {vs:List V},JK (rep n e) vs=true→OJ vs=true→Co vs=true
 | 0,vs,h,_=>by cases vs <;> simp [rep,JK] at h; rfl
 | n + 1,vs,h,ho=>by
  cases vs with
  | nil=>rfl
  | cons v vs=>
   simp only [rep,JK,Je] at h
   cases v <;> simp [OJ] at ho
   rename_i e1 l
   have he1:e=.slice e1:=by
    have:=h.1
    cases e <;> simp [Js] at this
    rw [Ty.beq_eq _ _ this]
   subst he1
   have:H3 e1=false:=he
   unfold Co noB
   rw [this,Sp he h.2 ho]
   rfl
theorem YI:∀ (n:Nat) {b:BL} {vs ws:List V} {c:List Jm},Uy b n vs=some (c,ws)→ws.length=vs.length
 | 0,b,vs,ws,c,h=>by simp [Uy] at h
 | n + 1,b,[],ws,c,h=>by simp [Uy] at h; rw [h.2]
 | n + 1,b,v :: vs,ws,c,h=>by
  simp only [Uy] at h
  split at h
  ·split at h
   ·rename_i h2
    simp only [oj,pj] at h
    obtain ⟨_,rfl⟩:=h
    simp [YI n h2]
   ·simp at h
  ·simp at h
def CV (w:World) (X:List Nat) (Ec:Env) (q:Bool):Prop:=q=true ∨ ∀ b,b<w.heap.size→b ∉ X→Ec.K b
theorem Sq (ho:Ok w bl G X) {Ec:Env} (hw:Ec.w=w) (hbl:Ec.bl=[]) (hS:∀ b,b<w.heap.size→b ∉ X→Ec.S b) (hle:Le (Ja w bl G X) Ec):∀ n,
  (∀ {v y:V} {c:List Jm} {cs:List Value} {F:List Nat},InV (Ja w bl G X) v cs F→(∀ b ∈ F,b<w.heap.size∧b ∉ X)→lend bl n v=some (c,y)→(∀ k ∈ c,k.ok)→CV w X Ec (noB y)→InV Ec y cs []) ∧
  (∀ {vs ys:List V} {c:List Jm} {cs:List Value} {F:List Nat},Ji (Ja w bl G X) vs cs F→(∀ b ∈ F,b<w.heap.size∧b ∉ X)→Uy bl n vs=some (c,ys)→(∀ k ∈ c,k.ok)→CV w X Ec (Co ys)→Ji Ec ys cs [])
 | 0=>⟨fun _ _ h=>by simp [lend] at h,fun _ _ h=>by simp [Uy] at h⟩
 | n + 1=>by
  obtain ⟨ih1,ih2⟩:=Sq ho hw hbl hS hle n
  have keep:∀ {v:V} {cs:List Value},InV (Ja w bl G X) v cs []→InV Ec v cs []:=fun h=>U8 hle _ (fun s _ c' rc' F' hlk=>by rw [hbl] at hlk; simp [Jb] at hlk) (fun b hb=>by cases hb) h
  have rd:∀ {e:Ty} {l:List D} {Ad:Option Addr} {cap:Nat} {F:List Nat},e.plain=true→UI true w (DIn true w e) e.size Ad cap l F→(∀ b ∈ F,b<w.heap.size∧b ∉ X)→CV w X Ec (noB (.rd e l))→InV Ec (.rd e l) [.slice Ad l.length cap] []:=by
   intro e l Ad cap F hp hs hF hq
   unfold InV
   refine ⟨rfl,hp,Ad,cap,F,rfl,?_,fun b hb=>⟨hS b (hF b hb).1 (hF b hb).2,fun he=>?_⟩⟩
   ·rw [hw]
    exact WT (fun d c G hd=>Oh _ hd) hs
   ·rcases hq with hq | hq
    ·unfold noB at hq; rw [he] at hq; cases hq
    ·exact hq b (hF b hb).1 (hF b hb).2
  constructor
  ·intro v y c cs F hv hF h hk hq
   unfold lend at h
   split at h
   ·rename_i s p e
    unfold InV at hv
    obtain ⟨rfl,_,hal⟩:=hv
    split at h
    ·rename_i c1 e1 l hg
     simp only [oj,pj] at h
     obtain ⟨rfl,rfl⟩:=h
     obtain ⟨c0,rc,Fs,k1,k2,Lx,csx,Fx,k3,k4,k5,k6,k7⟩:=Xc ho hg hk
     obtain ⟨u,g1,g2⟩:=hal c0 rc Fs k1 k2 _ _ k3 rfl
     unfold InV at k4
     obtain ⟨hp,Ad,cap,hcs,hsl⟩:=k4
     rw [hcs] at k5
     have hh:=J0 k5
     rw [show (Ja w bl G X).w=w from rfl,hh] at g1
     simp only [oj] at g1
     rw [g2,← g1]
     exact rd hp hsl k6 hq
    ·rename_i c1 e1 vs hg
     split at h
     ·rename_i c2 ws hin
      split at h
      ·rename_i hall
       simp only [oj,pj] at h
       obtain ⟨rfl,rfl⟩:=h
       rw [Je] at hall
       rw [Je] at hall
       obtain ⟨hp,hrd,hfit⟩:=hall
       obtain ⟨hk1,hk2⟩:=Q2 hk
       obtain ⟨c0,rc,Fs,k1,k2,Lx,csx,Fx,k3,k4,k5,k6,k7⟩:=Xc ho hg hk1
       obtain ⟨u,g1,g2⟩:=hal c0 rc Fs k1 k2 _ _ k3 rfl
       unfold InV at k4
       obtain ⟨ad,cc,cs',F',hcs',hlc,hes,hin',hca,hFx,hb,hun⟩:=k4
       rw [hcs'] at k5
       have hh:=J0 k5
       rw [show (Ja w bl G X).w=w from rfl,hh] at g1
       simp only [oj] at g1
       subst hFx
       have hws:=ih2 hin' (fun b hb=>k6 b (by simp [hb])) hin hk2 (by
        rcases hq with hq | hq
        ·unfold noB at hq
         cases hbe:H3 e1 with
         | true=>rw [hbe] at hq; cases hq
         | false=>exact .inl (Sp hbe hfit hrd)
        ·exact .inr hq)
       obtain ⟨Fr,r1,r2⟩:=So hp hfit hrd hws
       have hlen:(Ug ws).length=vs.length:=by
        rw [V2]
        exact YI n hin
       rw [g2,← g1]
       unfold InV
       refine ⟨rfl,hp,some ad,cc,ad.block :: Fr,by rw [hlen],.inr ⟨ad,cs',Fr,rfl,r1,by rw [hw]; exact hca,rfl,by rw [hlen]; exact hlc,by rw [hw]; exact hb,fun h=>by cases h⟩,fun b hb=>?_⟩
       rcases List.mem_cons.1 hb with rfl | hb
       ·refine ⟨hS _ (k6 _ (by simp)).1 (k6 _ (by simp)).2,fun he=>?_⟩
        rcases hq with hq | hq
        ·unfold noB at hq; rw [he] at hq; cases hq
        ·exact hq _ (k6 _ (by simp)).1 (k6 _ (by simp)).2
       ·exact r2 b hb
      ·simp at h
     ·simp at h
    ·simp at h
   ·rename_i s p off len e
    unfold InV at hv
    obtain ⟨rfl,_,hal⟩:=hv
    split at h
    ·rename_i c1 e1 l hg
     split at h
     ·rename_i hbe
      have hee:=Ty.beq_eq _ _ hbe
      subst hee
      simp only [oj,pj] at h
      obtain ⟨rfl,rfl⟩:=h
      obtain ⟨hk1,hk2⟩:=Q2 hk
      have hb:off + len≤l.length:=hk2 (.le (off + len) l.length) (by simp)
      obtain ⟨c0,rc,Fs,k1,k2,Lx,csx,Fx,k3,k4,k5,k6,k7⟩:=Xc ho hg hk1
      obtain ⟨A0,n0,k0,A',g1,g2,g3,g4⟩:=hal c0 rc Fs k1 k2 _ _ k3 rfl
      unfold InV at k4
      obtain ⟨hp,Ad,cap,hcs,hsl⟩:=k4
      rw [hcs] at k5
      have hh:=J0 k5
      rw [show (Ja w bl G X).w=w from rfl,hh] at g1
      simp only [oj,Value.slice.injEq] at g1
      obtain ⟨rfl,rfl,rfl⟩:=g1
      obtain ⟨F'',r1,r2,_⟩:=W5 (off:=off) (len:=len) (fun d c G hd=>Qt _ hd) hsl hb g4
      rw [g3]
      have:=rd hp r1 (fun b hb=>k6 b (r2 b hb)) hq
      rwa [show ((l.drop off).take len).length=len by simp; omega] at this
     ·simp at h
    ·simp at h
   ·rename_i s p
    unfold InV at hv
    obtain ⟨rfl,_,hal⟩:=hv
    split at h
    ·rename_i c1 x hg
     split at h
     ·rename_i c2 y' hin
      simp only [oj,pj] at h
      obtain ⟨rfl,rfl⟩:=h
      obtain ⟨hk1,hk2⟩:=Q2 hk
      obtain ⟨c0,rc,Fs,k1,k2,Lx,csx,Fx,k3,k4,k5,k6,k7⟩:=Xc ho hg hk1
      obtain ⟨ad,g1,g2⟩:=hal c0 rc Fs k1 k2 _ _ k3
      subst g1
      have hy:=ih1 k4 k6 hin hk2 hq
      rw [g2]
      unfold InV
      exact ⟨rfl,ad,csx,rfl,hy,by rw [hw]; exact k5,hS _ (k7 ad rfl).1 (k7 ad rfl).2⟩
     ·simp at h
    ·simp at h
   ·rename_i e l
    simp only [oj,pj] at h
    obtain ⟨rfl,rfl⟩:=h
    unfold InV at hv
    obtain ⟨hp,Ad,cap,rfl,hsl⟩:=hv
    exact rd hp hsl hF hq
   ·rename_i x
    split at h
    ·rename_i c2 y' hin
     simp only [oj,pj] at h
     obtain ⟨rfl,rfl⟩:=h
     unfold InV at hv
     obtain ⟨ad,cs',F',rfl,hin',hca,hFx,hb,hun⟩:=hv
     subst hFx
     have hy:=ih1 hin' (fun b hb=>hF b (by simp [hb])) hin hk hq
     unfold InV
     exact ⟨rfl,ad,cs',rfl,hy,by rw [hw]; exact hca,hS _ (hF _ (by simp)).1 (hF _ (by simp)).2⟩
    ·simp at h
   ·rename_i vs
    split at h
    ·rename_i c2 ws hin
     simp only [oj,pj] at h
     obtain ⟨rfl,rfl⟩:=h
     unfold InV at hv ⊢
     exact ih2 hv hF hin hk hq
    ·simp at h
   ·rename_i f caps
    split at h
    ·rename_i c2 ws hin
     simp only [oj,pj] at h
     obtain ⟨rfl,rfl⟩:=h
     unfold InV at hv ⊢
     obtain ⟨vals,hcs,hvs,hvz⟩:=hv
     have hws:=ih2 hvs hF hin hk hq
     refine ⟨vals,hcs,hws,?_⟩
     rw [← Ct _ hws,Ct _ hvs,hvz,YI n hin]
    ·simp at h
   ·simp at h
   ·simp at h
   ·simp at h
   ·simp at h
   ·simp only [oj,pj] at h
    obtain ⟨rfl,rfl⟩:=h
    have hnil:F=[]:=by
     have hv':=hv
     unfold InV at hv'
     split at hv' <;> first | exact hv'.2 | exact hv'.1 | (exact Ha (fun d c G hd=>Hb _ hv'.2.1 hd) hv'.2.2) | simp_all
    subst hnil
    exact keep hv
  ·intro vs ys c cs F hv hF h hk hq
   cases vs with
   | nil=>
    simp only [Uy,oj,pj] at h
    obtain ⟨rfl,rfl⟩:=h
    unfold Ji at hv ⊢
    exact ⟨hv.1,rfl⟩
   | cons v vs=>
    simp only [Uy] at h
    split at h
    ·rename_i c1 w1 h1
     split at h
     ·rename_i c2 ws h2
      simp only [oj,pj] at h
      obtain ⟨rfl,rfl⟩:=h
      obtain ⟨hk1,hk2⟩:=Q2 hk
      unfold Ji at hv ⊢
      obtain ⟨d1,d2,F1,F2,rfl,rfl,i1,i2⟩:=hv
      have hq1:CV w X Ec (noB w1):=by
       rcases hq with hq | hq
       ·unfold Co at hq; rw [Je] at hq; exact .inl hq.1
       ·exact .inr hq
      have hq2:CV w X Ec (Co ws):=by
       rcases hq with hq | hq
       ·unfold Co at hq; rw [Je] at hq; exact .inl hq.2
       ·exact .inr hq
      exact ⟨d1,d2,[],[],rfl,rfl,ih1 i1 (fun b hb=>hF b (by simp [hb])) h1 hk1 hq1,ih2 i2 (fun b hb=>hF b (by simp [hb])) h2 hk2 hq2⟩
     ·simp at h
    ·simp at h
end
end Go.Rai
namespace Go.Rai
variable [Inhabited Qe]
def QW (K:Nat→Prop) (w:World) (F:List Nat):Env:=⟨w,fun b=>b<w.heap.size∧b ∉ F,K,[],fun _=>none⟩
def CD (E:Env) (io:Nat→Bool):Nat→List V→List Value→List Nat→Prop
 | _,[],vs,F=>vs=[]∧F=[]
 | i,x :: xs,vs,F=>∃ v r F1 F2,vs=v :: r∧F=F1 ++ F2∧(io i=true→One E x v F1)∧(io i=false→F1=[])∧CD E io (i + 1) xs r F2
def UC (E:Env) (io:Nat→Bool):Nat→List V→List Value→List Nat→Prop
 | _,[],vs,F=>vs=[]∧F=[]
 | i,x :: xs,vs,F=>∃ v r F1 F2,vs=v :: r∧F=F1 ++ F2∧One E x v F1∧(io i=false→F1=[])∧UC E io (i + 1) xs r F2
def J9:X2→Bool
 | .io=>true
 | _=>false
def Hd:X2→Bool
 | .io=>true
 | .take=>true
 | _=>false
def MW (P : Program) (f : FuncId) : Prop := ∃ fn, P.funcs[f]? = some fn ∧ (fn.name == "runtime.NumGoroutine") = false ∧ fn.body.isNone = false
def HF (P:Program) (io:Nat→Bool) (f:FuncId) (args:List V) (res:V) (outs:List V):Prop:=
 MW P f∧∀ (K:Nat→Prop) (w:World) (vals:List Value) (F:List Nat),Tup (QW K w F) args vals F→F.Nodup→(∀ b ∈ F,b<w.heap.size) →
  Calls P f vals.toArray w fun e w'=>∃ v Fr Fo,e=.returned v∧Val (QW K w' (Fr ++ Fo)) res v Fr∧CD (QW K w' (Fr ++ Fo)) io 0 outs vals Fo ∧
   (Fr ++ Fo).Nodup∧(∀ b ∈ Fr ++ Fo,b<w'.heap.size∧(b ∈ F ∨ w.heap.size≤b)) ∧
   (∀ b,b<w.heap.size→b ∉ F→w'.heap[b]?=w.heap[b]?)∧w.heap.size≤w'.heap.size∧w'.os=w.os∧w'.tape=w.tape∧w'.output=w.output
def HG (P:Program) (A:Ann) {R:Type} (oc:OC R):Prop:=
 ∀ f args κ r,oc f args κ=some r→∃ res outs,κ res outs=some r∧HF P (fun i=>J9 (A.mode f i)) f args res outs
section
variable {P:Program} {A:Ann} {w w' w0:World} {F0:List Nat} {sl:List V} {a:Act} {bl b':BL} {G:GT} {o:Oper} {X:List Nat}
theorem MX {E:Env}:∀ (t:Ty) {v:V} {cs:List Value},InV E v cs []→InV E (X0 t v) cs []:=by
 intro t v cs h
 cases t with
 | slice e=>
  cases v with
  | nilsl=>
   show InV E (match e.plain with | true=>.rd e [] | false=>.nilsl) cs []
   cases hp:e.plain with
   | false=>exact h
   | true=>
    show InV E (.rd e []) cs []
    unfold InV at h ⊢
    exact ⟨rfl,hp,none,0,[],h.1,.inl ⟨rfl,rfl,rfl⟩,fun b hb=>by cases hb⟩
  | emp e'=>
   show InV E (match e.plain with | true=>.rd e [] | false=>.emp e') cs []
   cases hp:e.plain with
   | false=>exact h
   | true=>
    show InV E (.rd e []) cs []
    unfold InV at h ⊢
    obtain ⟨⟨A,rfl⟩,_⟩:=h
    exact ⟨rfl,hp,A,0,[],rfl,.inl ⟨rfl,rfl,rfl⟩,fun b hb=>by cases hb⟩
  | _=>exact h
 | _=>cases v <;> exact h
theorem MY (t:Ty) (v:V):isA (X0 t v)=isA v:=by
 cases t with
 | slice e=>
  cases v with
  | nilsl=>show isA (match e.plain with | true=>.rd e [] | false=>.nilsl)=false; cases e.plain <;> rfl
  | emp e'=>show isA (match e.plain with | true=>.rd e [] | false=>.emp e')=false; cases e.plain <;> rfl
  | _=>rfl
 | _=>cases v <;> rfl
theorem Xd {E E':Env} (h:Jz E E' (fun _=>False)):∀ {xs:List V} {vs:List Value} {F:List Nat},QL E.w E'.w F→Tup E xs vs F→Tup E' xs vs F
 | [],vs,F,_,hh=>hh
 | x :: xs,vs,F,hF,⟨v,r,F1,F2,e1,e2,⟨cs,h1,h2⟩,h3⟩=>by
  subst e2
  exact ⟨v,r,F1,F2,e1,rfl,⟨cs,h.inV (fun _ _=>id) (fun b hb=>hF b (by simp [hb])) h1,h2⟩,Xd h (fun b hb=>hF b (by simp [hb])) h3⟩
theorem Sr {E E':Env} {io:Nat→Bool} (h:Jz E E' (fun _=>False)):∀ {i:Nat} {xs:List V} {vs:List Value} {F:List Nat},QL E.w E'.w F→UC E io i xs vs F→UC E' io i xs vs F
 | i,[],vs,F,_,hh=>hh
 | i,x :: xs,vs,F,hF,⟨v,r,F1,F2,e1,e2,⟨cs,h1,h2⟩,h4,h3⟩=>by
  subst e2
  exact ⟨v,r,F1,F2,e1,rfl,⟨cs,h.inV (fun _ _=>id) (fun b hb=>hF b (by simp [hb])) h1,h2⟩,h4,Sr h (fun b hb=>hF b (by simp [hb])) h3⟩
theorem YJ {n:Nat} {b b':BL} {v v':V} {c:List Jm} (h:inl n b v=some (c,v',b')):isA v'=isA v:=by
 cases n with
 | zero=>simp [inl] at h
 | succ n=>
  unfold inl at h
  split at h
  ·split at h
   ·simp only [oj,pj] at h; rw [← h.2.1]; rfl
   ·split at h
    ·split at h
     ·simp only [oj,pj] at h; rw [← h.2.1]; rfl
     ·simp at h
    ·simp at h
   ·simp at h
   ·split at h
    ·simp only [oj,pj] at h; rw [← h.2.1]; rfl
    ·simp at h
  ·split at h
   ·split at h
    ·simp only [oj,pj] at h; rw [← h.2.1]; rfl
    ·simp at h
   ·simp at h
  ·split at h
   ·split at h
    ·split at h
     ·simp only [oj,pj] at h; rw [← h.2.1]; rfl
     ·simp at h
    ·simp at h
   ·simp at h
  ·split at h
   ·simp only [oj,pj] at h; rw [← h.2.1]; rfl
   ·simp at h
  ·split at h
   ·simp only [oj,pj] at h; rw [← h.2.1]; rfl
   ·simp at h
  ·split at h
   ·simp only [oj,pj] at h; rw [← h.2.1]; rfl
   ·simp at h
  ·split at h
   ·simp only [oj,pj] at h; rw [← h.2.1]; rfl
   ·simp at h
  ·simp at h
  ·simp at h
  ·simp at h
  ·simp only [oj,pj] at h; rw [← h.2.1]
theorem Ss {f:FuncId}:∀ {vs:List V} {i:Nat} {bl b':BL} {G:GT} {X:List Nat} {vals:List Value} {ws:List V} {c:List Jm},JW w bl G X w0 F0→Tup (Ja w bl G X) vs vals []→Hi A f i bl vs=some (c,ws,b')→(∀ k ∈ c,k.ok) →
  CB w (Ja w bl G X) w0 F0 X b' (fun E F'=>UC E (fun j=>Hd (A.mode f j)) i ws vals F')
 | [],i,bl,b',G,X,vals,ws,c,hc,hv,h,hk=>by
  simp only [Hi,oj,pj] at h
  obtain ⟨rfl,rfl,rfl⟩:=h
  exact ⟨[],G,hc,hv,Jz.refl_ _ _⟩
 | v :: vs,i,bl,b',G,X,vals,ws,c,hc,hv,h,hk=>by
  obtain ⟨u,r,F1,F2,rfl,e2,⟨cs,i1,i2⟩,i3⟩:=hv
  obtain ⟨rfl,rfl⟩:=List.append_eq_nil_iff.1 e2.symm
  simp only [Hi] at h
  split at h
  ·rename_i c1 w1 b1 h1
   split at h
   ·rename_i c2 ws2 b2 h2
    simp only [oj,pj] at h
    obtain ⟨rfl,rfl,rfl⟩:=h
    obtain ⟨hk1,hk2⟩:=Q2 hk
    have first:CB w (Ja w bl G X) w0 F0 X b1 (fun E F'=>One E w1 u F'∧(Hd (A.mode f i)=false→F'=[])):=by
     split at h1
     ·obtain ⟨F',G',q1,q2,q3⟩:=(Ot 9).1 (F:=[]) hc i1 h1 hk1
      rename_i hmode
      refine ⟨F',G',q1,⟨⟨cs,q2,?_⟩,fun hf=>by rw [hmode] at hf; cases hf⟩,q3⟩
      unfold Qi at i2 ⊢
      rw [YJ h1]
      exact i2
     ·obtain ⟨F',G',q1,q2,q3⟩:=(Ot 9).1 (F:=[]) hc i1 h1 hk1
      rename_i hmode
      refine ⟨F',G',q1,⟨⟨cs,q2,?_⟩,fun hf=>by rw [hmode] at hf; cases hf⟩,q3⟩
      unfold Qi at i2 ⊢
      rw [YJ h1]
      exact i2
     ·simp only [oj,pj] at h1
      obtain ⟨rfl,rfl,rfl⟩:=h1
      exact ⟨[],G,hc,⟨⟨cs,i1,i2⟩,fun _=>rfl⟩,Jz.refl_ _ _⟩
    obtain ⟨F',G',q1,⟨q2,q4⟩,q3⟩:=first
    obtain ⟨F2',G2,s1,s2,s3⟩:=Ss (X:=F' ++ X) q1 (Xd q3 (fun b hb=>by cases hb) i3) h2 hk2
    obtain ⟨t1,t2⟩:=s1.perm (show (F2' ++ (F' ++ X)).Perm ((F' ++ F2') ++ X) by
     rw [← List.append_assoc]
     exact List.Perm.append_right X List.perm_append_comm)
    obtain ⟨cs',j1,j2⟩:=q2
    exact ⟨F' ++ F2',G2,t1,⟨u,r,F',F2',rfl,rfl,⟨cs',(s3.trans t2).inV (fun _ _=>id) (fun _ _=>rfl) j1,j2⟩,q4,Sr t2 (fun _ _=>rfl) s2⟩,(q3.trans s3).trans t2⟩
   ·simp at h
  ·simp at h
theorem MZ {n:Nat} {b:BL} {v v':V} {c:List Jm} (h:lend b n v=some (c,v')):isA v'=isA v:=by
 cases n with
 | zero=>simp [lend] at h
 | succ n=>
  unfold lend at h
  split at h
  ·split at h
   ·simp only [oj,pj] at h; rw [← h.2]; rfl
   ·split at h
    ·split at h
     ·simp only [oj,pj] at h; rw [← h.2]; rfl
     ·simp at h
    ·simp at h
   ·simp at h
  ·split at h
   ·split at h
    ·simp only [oj,pj] at h; rw [← h.2]; rfl
    ·simp at h
   ·simp at h
  ·split at h
   ·split at h
    ·simp only [oj,pj] at h; rw [← h.2]; rfl
    ·simp at h
   ·simp at h
  ·simp only [oj,pj] at h; rw [← h.2]; rfl
  ·split at h
   ·simp only [oj,pj] at h; rw [← h.2]; rfl
   ·simp at h
  ·split at h
   ·simp only [oj,pj] at h; rw [← h.2]; rfl
   ·simp at h
  ·split at h
   ·simp only [oj,pj] at h; rw [← h.2]; rfl
   ·simp at h
  ·simp at h
  ·simp at h
  ·simp at h
  ·simp at h
  ·simp only [oj,pj] at h; rw [← h.2]
mutual
theorem Xe:∀ {v:V},Qo v=true→Jf v=[]
 | .int _ _,_=>rfl
 | .bool _,_=>rfl
 | .str _,_=>rfl
 | .own _ _,_=>rfl
 | .arr _ _ _,_=>rfl
 | .rd _ _,_=>rfl
 | .agg vs,h=>by unfold Qo at h; unfold Jf; exact YK h
 | .obox v,h=>by unfold Qo at h; unfold Jf; exact Xe h
 | .tup vs,h=>by unfold Qo at h; unfold Jf; exact YK h
 | .undef,ho=>by simp [Qo] at ho
 | .void,ho=>by simp [Qo] at ho
 | .lst _ _,ho=>by simp [Qo] at ho
 | .nilsl,ho=>by simp [Qo] at ho
 | .emp _,ho=>by simp [Qo] at ho
 | .rp _,ho=>by simp [Qo] at ho
 | .full _ _ _,ho=>by simp [Qo] at ho
 | .sub _ _ _ _ _,ho=>by simp [Qo] at ho
 | .ptr _ _,ho=>by simp [Qo] at ho
 | .fn _ _,ho=>by simp [Qo] at ho
 | .nilfn,ho=>by simp [Qo] at ho
 | .nilptr,_=>rfl
theorem YK:∀ {vs:List V},Hx vs=true→Jn vs=[]
 | [],_=>rfl
 | v :: vs,h=>by
  unfold Hx at h; rw [Je] at h
  unfold Jn; rw [Xe h.1,YK h.2]; rfl
end
def Kle (E E':Env):Prop:=∀ b,E.S b→E.K b→E'.S b∧E'.K b
theorem Le.kle {E E':Env} (h:Le E E'):Kle E E':=fun b h1 h2=>⟨(h.stab b h1).1,h.kept b h1 h2⟩
mutual
theorem Xf {E E':Env} (hle:Kle E E') (hw:E'.w=E.w):∀ {v:V} {cs:List Value} {F:List Nat},Qo v=true→InV E v cs F→InV E' v cs F
 | .int _ _,_,_,_,h=>h
 | .bool _,_,_,_,h=>h
 | .str _,_,_,_,h=>h
 | .own e l,cs,F,hv,h=>by unfold InV at h ⊢; rw [hw]; exact h
 | .arr n e l,cs,F,hv,h=>by unfold InV at h ⊢; rw [hw]; exact h
 | .rd e l,cs,F,hv,h=>by
  unfold Qo at hv
  unfold InV at h ⊢
  rw [hw]
  obtain ⟨h0,hp,A,c,F',h1,h2,h3⟩:=h
  exact ⟨h0,hp,A,c,F',h1,h2,fun b hb=>⟨(hle b (h3 b hb).1 ((h3 b hb).2 hv)).1,fun _=>(hle b (h3 b hb).1 ((h3 b hb).2 hv)).2⟩⟩
 | .agg vs,cs,F,hv,h=>by
  unfold Qo at hv
  unfold InV at h ⊢
  exact Su hle hw hv h
 | .obox v,cs,F,hv,h=>by
  unfold Qo at hv
  unfold InV at h ⊢
  rw [hw]
  obtain ⟨a,cs',F',h1,h2,h3⟩:=h
  exact ⟨a,cs',F',h1,Xf hle hw hv h2,h3⟩
 | .tup vs,_,_,_,h=>by unfold InV at h; exact h.elim
 | .undef,_,_,ho,_=>by simp [Qo] at ho
 | .void,_,_,ho,_=>by simp [Qo] at ho
 | .lst _ _,_,_,ho,_=>by simp [Qo] at ho
 | .nilsl,_,_,ho,_=>by simp [Qo] at ho
 | .emp _,_,_,ho,_=>by simp [Qo] at ho
 | .rp _,_,_,ho,_=>by simp [Qo] at ho
 | .full _ _ _,_,_,ho,_=>by simp [Qo] at ho
 | .sub _ _ _ _ _,_,_,ho,_=>by simp [Qo] at ho
 | .ptr _ _,_,_,ho,_=>by simp [Qo] at ho
 | .fn _ _,_,_,ho,_=>by simp [Qo] at ho
 | .nilfn,_,_,ho,_=>by simp [Qo] at ho
 | .nilptr,_,_,_,h=>h
theorem Su {E E':Env} (hle:Kle E E') (hw:E'.w=E.w):∀ {vs:List V} {cs:List Value} {F:List Nat},Hx vs=true→Ji E vs cs F→Ji E' vs cs F
 | [],_,_,_,h=>h
 | v :: vs,cs,F,hv,h=>by
  unfold Hx at hv; rw [Je] at hv
  unfold Ji at h ⊢
  obtain ⟨c1,c2,F1,F2,e1,e2,h1,h2⟩:=h
  exact ⟨c1,c2,F1,F2,e1,e2,Xf hle hw hv.1 h1,Su hle hw hv.2 h2⟩
end
mutual
theorem YL:∀ {v:V},JT v=true→Qo v=true
 | .int _ _,_=>rfl
 | .bool _,_=>rfl
 | .str _,_=>rfl
 | .own _ _,_=>rfl
 | .arr _ _ _,_=>rfl
 | .agg vs,h=>by unfold JT at h; unfold Qo; exact YM h
 | .obox v,h=>by unfold JT at h; unfold Qo; exact YL h
 | .tup vs,h=>by unfold JT at h; unfold Qo; exact YM h
 | .undef,ho=>by simp [JT] at ho
 | .void,ho=>by simp [JT] at ho
 | .lst _ _,ho=>by simp [JT] at ho
 | .nilsl,ho=>by simp [JT] at ho
 | .emp _,ho=>by simp [JT] at ho
 | .rp _,ho=>by simp [JT] at ho
 | .full _ _ _,ho=>by simp [JT] at ho
 | .sub _ _ _ _ _,ho=>by simp [JT] at ho
 | .ptr _ _,ho=>by simp [JT] at ho
 | .fn _ _,ho=>by simp [JT] at ho
 | .nilfn,ho=>by simp [JT] at ho
 | .nilptr,_=>rfl
 | .rd _ _,ho=>by simp [JT] at ho
theorem YM:∀ {vs:List V},U3 vs=true→Hx vs=true
 | [],_=>rfl
 | v :: vs,h=>by
  unfold U3 at h; rw [Je] at h
  unfold Hx; rw [YL h.1,YM h.2]; rfl
end
theorem YN {f:FuncId} (ho:Ok w bl G X) {Ec:Env} (hw:Ec.w=w) (hbl:Ec.bl=[]) (hS:∀ b,b<w.heap.size→b ∉ X→Ec.S b) (hle:Le (Ja w bl G X) Ec):∀ {vs:List V} {i:Nat} {ts:List Ty} {vals:List Value} {us:List V} {c:List Jm} {F:List Nat},
  UC (Ja w bl G X) (fun j=>Hd (A.mode f j)) i vs vals F→Q4 A f bl i ts vs=some (c,us)→(∀ k ∈ c,k.ok)→CV w X Ec (UH A f i us)→Tup Ec us vals F
 | [],i,ts,vals,us,c,F,hv,h,hk,hsc=>by
  simp only [Q4,oj,pj] at h
  obtain ⟨rfl,rfl⟩:=h
  exact hv
 | v :: vs,i,ts,vals,us,c,F,hv,h,hk,hsc=>by
  have keep:∀ {v:V} {cs:List Value} {F:List Nat},InV (Ja w bl G X) v cs F→InV Ec v cs F:=fun h=>U8 hle _ (fun s _ c' rc' F' hlk=>by rw [hbl] at hlk; simp [Jb] at hlk) (fun b hb=>by rw [hw]; rfl) h
  obtain ⟨u,r,F1,F2,rfl,rfl,⟨cs,i1,i2⟩,i4,i3⟩:=hv
  simp only [Q4] at h
  split at h
  ·rename_i c1 w1 h1
   split at h
   ·rename_i c2 ws2 h2
    simp only [oj,pj] at h
    obtain ⟨rfl,rfl⟩:=h
    obtain ⟨hk1,hk2⟩:=Q2 hk
    have hsc2:CV w X Ec (UH A f (i + 1) ws2):=by
     rcases hsc with hsc | hsc
     ·simp only [UH] at hsc
      split at hsc
      ·split at hsc
       ·exact .inl hsc
       ·cases hsc
      ·exact .inl hsc
     ·exact .inr hsc
    have hrest:=YN ho hw hbl hS hle i3 h2 hk2 hsc2
    have first:One Ec w1 u F1:=by
     split at h1
     ·rename_i hm
      have hF1:=i4 (by show Hd (A.mode f i)=false; rw [hm]; rfl)
      subst hF1
      have hsw:CV w X Ec (noB w1):=by
       rcases hsc with hsc | hsc
       ·simp only [UH,hm] at hsc
        split at hsc
        ·rename_i hq; exact .inl hq
        ·cases hsc
       ·exact .inr hsc
      refine ⟨cs,(Sq ho hw hbl hS hle 9).1 (MX _ i1) (fun b hb=>by cases hb) h1 hk1 hsw,?_⟩
      unfold Qi at i2 ⊢
      rw [MZ h1,MY]
      exact i2
     ·simp only [oj,pj] at h1
      obtain ⟨rfl,rfl⟩:=h1
      exact ⟨cs,keep i1,i2⟩
     ·simp only [oj,pj] at h1
      obtain ⟨rfl,rfl⟩:=h1
      exact ⟨cs,keep i1,i2⟩
     ·split at h1
      ·simp at h1
      ·simp only [oj,pj] at h1
       obtain ⟨rfl,rfl⟩:=h1
       exact ⟨cs,keep i1,i2⟩
    exact ⟨u,r,F1,F2,rfl,rfl,first,hrest⟩
   ·simp at h
  ·simp at h
def Xg (w:World) (bl:BL) (G:GT) (F:List Nat):Nat→Prop:=fun b=>(Ja w bl G F).S b∧Kept.K b
theorem YO {f:FuncId} (ho:Ok w bl G X) {vs:List V} {ts:List Ty} {vals:List Value} {us:List V} {c:List Jm} {F Y:List Nat} (hY:∀ b ∈ Y,b ∈ X)
  (hv:UC (Ja w bl G X) (fun j=>Hd (A.mode f j)) 0 vs vals F) (h:Q4 A f bl 0 ts vs=some (c,us)) (hk:∀ k ∈ c,k.ok) :
  Tup (QW (fun _=>True) w Y) us vals F∧(UH A f 0 us=true→Tup (QW (Xg w bl G X) w Y) us vals F):=
 ⟨YN (Ec:=QW (fun _=>True) w Y) ho rfl rfl (fun b hb hx=>(⟨hb,fun hm=>hx (hY b hm)⟩:b<w.heap.size∧b ∉ Y)) ⟨fun b hb=>⟨⟨hb.1,fun hx=>hb.2 (.inl (hY b hx))⟩,rfl⟩,Nat.le_refl _,fun _ _ _=>trivial⟩ hv h hk (.inr fun _ _ _=>trivial),
  fun hs=>YN (Ec:=QW (Xg w bl G X) w Y) ho rfl rfl (fun b hb hx=>(⟨hb,fun hm=>hx (hY b hm)⟩:b<w.heap.size∧b ∉ Y)) ⟨fun b hb=>⟨⟨hb.1,fun hx=>hb.2 (.inl (hY b hx))⟩,rfl⟩,Nat.le_refl _,fun b h1 h2=>⟨h1,h2⟩⟩ hv h hk (.inl hs)⟩
theorem M0 {f:FuncId} {vs:List V} {ts:List Ty} {vals:List Value} {us:List V} {c:List Jm} (hc:J7 w bl G w0 F0) (hv:Tup (Ja w bl G []) vs vals []) (h:OR A f bl ts vs=some (c,us,b')) (hk:∀ k ∈ c,k.ok) :
  ∃ F G',JW w b' G' F w0 F0∧Tup (QW (fun _=>True) w F) us vals F∧Jz (Ja w bl G []) (Ja w b' G' F) (fun _=>False)∧(UH A f 0 us=true→Tup (QW (Xg w b' G' F) w F) us vals F):=by
 unfold OR at h
 split at h
 ·rename_i c1 ws b1 h1
  split at h
  ·rename_i c2 us2 h2
   simp only [oj,pj] at h
   obtain ⟨rfl,rfl,rfl⟩:=h
   obtain ⟨hk1,hk2⟩:=Q2 hk
   obtain ⟨F,G',q1,q2,q3⟩:=Ss (A:=A) hc.x hv h1 hk1
   rw [List.append_nil] at q1 q2 q3
   obtain ⟨r1,r2⟩:=YO q1.ok (fun b hb=>hb) q2 h2 hk2
   exact ⟨F,G',q1,r1,q3,r2⟩
  ·simp at h
 ·simp at h
end
end Go.Rai
namespace Go.Rai
variable [Inhabited Qe]
mutual
theorem Ow {E E':Env} (hw:E'.w=E.w):∀ (v:V) {cs:List Value} {F:List Nat},JT v=true→InV E v cs F→InV E' v cs F
 | .int _ _,_,_,_,h=>by unfold InV at h ⊢; exact h
 | .bool _,_,_,_,h=>by unfold InV at h ⊢; exact h
 | .str _,_,_,_,h=>by unfold InV at h ⊢; exact h
 | .own e l,_,_,_,h=>by unfold InV at h ⊢; rw [hw]; exact h
 | .arr n e l,_,_,_,h=>by unfold InV at h ⊢; rw [hw]; exact h
 | .agg vs,cs,F,ho,h=>by unfold JT at ho; unfold InV at h ⊢; exact Sv hw vs ho h
 | .obox v,cs,F,ho,h=>by
  unfold JT at ho
  unfold InV at h ⊢
  obtain ⟨a,cs',F',h1,h2,h3⟩:=h
  exact ⟨a,cs',F',h1,Ow hw v ho h2,by rw [hw]; exact h3⟩
 | .tup vs,_,_,_,h=>by unfold InV at h; exact h.elim
 | .undef,_,_,ho,_=>by simp [JT] at ho
 | .void,_,_,ho,_=>by simp [JT] at ho
 | .rd _ _,_,_,ho,_=>by simp [JT] at ho
 | .lst _ _,_,_,ho,_=>by simp [JT] at ho
 | .nilsl,_,_,ho,_=>by simp [JT] at ho
 | .emp _,_,_,ho,_=>by simp [JT] at ho
 | .rp _,_,_,ho,_=>by simp [JT] at ho
 | .full _ _ _,_,_,ho,_=>by simp [JT] at ho
 | .sub _ _ _ _ _,_,_,ho,_=>by simp [JT] at ho
 | .ptr _ _,_,_,ho,_=>by simp [JT] at ho
 | .fn _ _,_,_,ho,_=>by simp [JT] at ho
 | .nilfn,_,_,ho,_=>by simp [JT] at ho
 | .nilptr,_,_,_,h=>by unfold InV at h ⊢; exact h
theorem Sv {E E':Env} (hw:E'.w=E.w):∀ (vs:List V) {cs:List Value} {F:List Nat},U3 vs=true→Ji E vs cs F→Ji E' vs cs F
 | [],_,_,_,h=>by unfold Ji at h ⊢; exact h
 | v :: vs,cs,F,ho,h=>by
  unfold U3 at ho; rw [Je] at ho
  unfold Ji at h ⊢
  obtain ⟨c1,c2,F1,F2,e1,e2,h1,h2⟩:=h
  exact ⟨c1,c2,F1,F2,e1,e2,Ow hw v ho.1 h1,Sv hw vs ho.2 h2⟩
end
mutual
theorem Wa {E E':Env} (hw:E'.w=E.w):∀ (v:V) {cs:List Value} {F:List Nat},Qa v=true→InV E v cs F→InV E' v cs F
 | .int _ _,_,_,_,h=>by unfold InV at h ⊢; exact h
 | .bool _,_,_,_,h=>by unfold InV at h ⊢; exact h
 | .str _,_,_,_,h=>by unfold InV at h ⊢; exact h
 | .own e l,_,_,_,h=>by unfold InV at h ⊢; rw [hw]; exact h
 | .arr n e l,_,_,_,h=>by unfold InV at h ⊢; rw [hw]; exact h
 | .agg vs,cs,F,ho,h=>by unfold Qa at ho; unfold InV at h ⊢; exact Sw hw vs ho h
 | .obox v,cs,F,ho,h=>by
  unfold Qa at ho
  unfold InV at h ⊢
  obtain ⟨a,cs',F',h1,h2,h3⟩:=h
  exact ⟨a,cs',F',h1,Wa hw v ho h2,by rw [hw]; exact h3⟩
 | .tup vs,_,_,_,h=>by unfold InV at h; exact h.elim
 | .undef,_,_,ho,_=>by simp [Qa] at ho
 | .void,_,_,ho,_=>by simp [Qa] at ho
 | .rd _ _,_,_,ho,_=>by simp [Qa] at ho
 | .lst _ _,_,_,ho,_=>by simp [Qa] at ho
 | .nilsl,_,_,_,h=>by unfold InV at h ⊢; exact h
 | .emp _,_,_,ho,_=>by simp [Qa] at ho
 | .rp _,_,_,ho,_=>by simp [Qa] at ho
 | .full _ _ _,_,_,ho,_=>by simp [Qa] at ho
 | .sub _ _ _ _ _,_,_,ho,_=>by simp [Qa] at ho
 | .ptr _ _,_,_,ho,_=>by simp [Qa] at ho
 | .fn _ _,_,_,ho,_=>by simp [Qa] at ho
 | .nilfn,_,_,ho,_=>by simp [Qa] at ho
 | .nilptr,_,_,_,h=>by unfold InV at h ⊢; exact h
theorem Sw {E E':Env} (hw:E'.w=E.w):∀ (vs:List V) {cs:List Value} {F:List Nat},Uq vs=true→Ji E vs cs F→Ji E' vs cs F
 | [],_,_,_,h=>by unfold Ji at h ⊢; exact h
 | v :: vs,cs,F,ho,h=>by
  unfold Uq at ho; rw [Je] at ho
  unfold Ji at h ⊢
  obtain ⟨c1,c2,F1,F2,e1,e2,h1,h2⟩:=h
  exact ⟨c1,c2,F1,F2,e1,e2,Wa hw v ho.1 h1,Sw hw vs ho.2 h2⟩
end
end Go.Rai
namespace Go.Rai
variable [Inhabited Qe]
theorem Ox {a b:Bool}:bor a b=false ↔ a=false∧b=false:=by cases a <;> cases b <;> simp [bor]
mutual
theorem Sx {E:Env}:∀ (v:V) {cs:List Value} {F:List Nat},Qa v=true→QY v=false→InV E v cs F→F=[]
 | .int _ _,_,_,_,_,h=>by unfold InV at h; exact h.2
 | .bool _,_,_,_,_,h=>by unfold InV at h; exact h.2
 | .str _,_,_,_,_,h=>by unfold InV at h; exact h.2
 | .own e l,_,_,_,hn,h=>by simp [QY] at hn
 | .arr n e l,_,_,_,_,h=>by unfold InV at h; exact Ha (fun d c G hd=>Hb e h.2.1 hd) h.2.2
 | .agg vs,cs,F,ho,hn,h=>by unfold Qa at ho; unfold QY at hn; unfold InV at h; exact Sy vs ho hn h
 | .obox v,cs,F,ho,hn,h=>by simp [QY] at hn
 | .tup vs,_,_,_,_,h=>by unfold InV at h; exact h.elim
 | .undef,_,_,ho,_,_=>by simp [Qa] at ho
 | .void,_,_,ho,_,_=>by simp [Qa] at ho
 | .rd _ _,_,_,ho,_,_=>by simp [Qa] at ho
 | .lst _ _,_,_,ho,_,_=>by simp [Qa] at ho
 | .nilsl,_,_,_,_,h=>by unfold InV at h; exact h.2
 | .emp _,_,_,ho,_,_=>by simp [Qa] at ho
 | .rp _,_,_,ho,_,_=>by simp [Qa] at ho
 | .full _ _ _,_,_,ho,_,_=>by simp [Qa] at ho
 | .sub _ _ _ _ _,_,_,ho,_,_=>by simp [Qa] at ho
 | .ptr _ _,_,_,ho,_,_=>by simp [Qa] at ho
 | .fn _ _,_,_,ho,_,_=>by simp [Qa] at ho
 | .nilfn,_,_,ho,_,_=>by simp [Qa] at ho
 | .nilptr,_,_,_,_,h=>by unfold InV at h; exact h.2
theorem Sy {E:Env}:∀ (vs:List V) {cs:List Value} {F:List Nat},Uq vs=true→H5 vs=false→Ji E vs cs F→F=[]
 | [],_,_,_,_,h=>by unfold Ji at h; exact h.2
 | v :: vs,cs,F,ho,hn,h=>by
  unfold Uq at ho; rw [Je] at ho
  unfold H5 at hn; rw [Ox] at hn
  unfold Ji at h
  obtain ⟨c1,c2,F1,F2,e1,e2,h1,h2⟩:=h
  rw [e2,Sx v ho.1 hn.1 h1,Sy vs ho.2 hn.2 h2]
  rfl
end
section
variable {P:Program} {A:Ann} {w w' w0:World} {F0:List Nat} {sl:List V} {a:Act} {bl b':BL} {G:GT} {o:Oper} {X:List Nat}
theorem Sz {F:List Nat} (h:JW w bl G (F ++ X) w0 F0) {s:Nat} {x x':V} {cs:List Value} {v:Value} (hx:InV (Ja w bl G (F ++ X)) x cs F) (hu:Qi x cs v) (ho:Qa x=true)
  (hf:place sl bl s x=some (x',b')):∃ G',JW w b' G' X w0 F0∧One (Ja w b' G' X) x' v []∧Jz (Ja w bl G (F ++ X)) (Ja w b' G' X) (fun t=>t ∉ Jn sl):=by
 unfold place at hf
 split at hf
 ·split at hf
  ·rename_i hun
   simp only [oj,pj] at hf
   obtain ⟨rfl,rfl⟩:=hf
   obtain ⟨u1,u2,u3,u4⟩:=CS hun
   obtain ⟨g1,g2⟩:=h.add u1 u3 hx u4
   refine ⟨_,g1,?_,⟨g2.le,fun t ht=>g2.al t (fun e=>ht (by rw [e]; exact u2))⟩⟩
   have hb:Jb (Jx bl s x) s=some x:=by rw [JU]; simp
   have hin:=Yp (Fv:=F) (E:=Ja w (Jx bl s x) (fun q=>if q=s then some (cs,F) else G q) X) (s:=s) (c0:=x) (rc:=cs) (F:=F) hb (by simp [Ja]) x (p:=[]) (L:=.reg cs) (by simp [Jg]) ⟨[],by simp⟩ (g2.inV (fun s' hs' hst=>u4 (hst ▸ hs')) (fun b _=>rfl) hx)
   refine ⟨cs,hin,?_⟩
   unfold Qi at hu ⊢
   rw [TG]
   exact hu
  ·simp at hf
 ·rename_i hno
  simp only [oj,pj] at hf
  obtain ⟨rfl,rfl⟩:=hf
  have hF:=Sx x ho hno hx
  subst hF
  exact ⟨G,h,⟨cs,hx,hu⟩,⟨(Jz.refl_ _ (fun _=>False)).le,fun t _=>(Jz.refl_ _ (fun _=>False)).al t id⟩⟩
theorem Jz.mono {E E':Env} {N N':Nat→Prop} (h:Jz E E' N) (hn:∀ s,N s→N' s):Jz E E' N':=⟨h.le,fun s hs=>h.al s (fun hN=>hs (hn s hN))⟩
theorem Xh {E E':Env} (hw:E'.w=E.w):∀ {xs:List V} {vs:List Value} {F:List Nat},Uq xs=true→Tup E xs vs F→Tup E' xs vs F
 | [],vs,F,_,h=>h
 | x :: xs,vs,F,ho,⟨v,r,F1,F2,e1,e2,⟨cs,h1,h2⟩,h3⟩=>by
  unfold Uq at ho; rw [Je] at ho
  exact ⟨v,r,F1,F2,e1,e2,⟨cs,Wa hw x ho.1 h1,h2⟩,Xh hw ho.2 h3⟩
theorem SA {s:Nat}:∀ {vs:List V} {j:Nat} {sl:List V} {bl b':BL} {G:GT} {X F:List Nat} {xs:List V} {vals:List Value},JW w bl G (F ++ X) w0 F0→Tup (Ja w bl G (F ++ X)) vs vals F→Uq vs=true →
  Hj s sl bl j vs=some (xs,b')→∃ G',JW w b' G' X w0 F0∧Tup (Ja w b' G' X) xs vals []∧Jz (Ja w bl G (F ++ X)) (Ja w b' G' X) (fun t=>t ∉ Jn sl)
 | [],j,sl,bl,b',G,X,F,xs,vals,hc,hv,ho,h=>by
  simp only [Hj,oj,pj] at h
  obtain ⟨rfl,rfl⟩:=h
  obtain ⟨rfl,rfl⟩:=hv
  exact ⟨G,hc,⟨rfl,rfl⟩,(Jz.refl_ _ (fun _=>False)).mono (fun _ h=>h.elim)⟩
 | v :: vs,j,sl,bl,b',G,X,F,xs,vals,hc,hv,ho,h=>by
  unfold Uq at ho; rw [Je] at ho
  obtain ⟨u,r,F1,F2,rfl,rfl,⟨cs,i1,i2⟩,i3⟩:=hv
  simp only [Hj] at h
  split at h
  ·rename_i x b1 h1
   split at h
   ·rename_i ys b2 h2
    simp only [oj,pj] at h
    obtain ⟨rfl,rfl⟩:=h
    obtain ⟨p1,p2⟩:=hc.perm (show ((F1 ++ F2) ++ X).Perm (F1 ++ (F2 ++ X)) by rw [List.append_assoc])
    obtain ⟨G1,q1,⟨cs',q3,q5⟩,q4⟩:=Sz (sl:=sl) (X:=F2 ++ X) p1 (Wa (E:=Ja w bl G ((F1 ++ F2) ++ X)) (E':=Ja w bl G (F1 ++ (F2 ++ X))) rfl v ho.1 i1) i2 ho.1 h1
    obtain ⟨G2,r1,r2,r3⟩:=SA (sl:=x :: sl) q1 (Xh (E:=Ja w bl G ((F1 ++ F2) ++ X)) (E':=Ja w b1 G1 (F2 ++ X)) rfl ho.2 i3) ho.2 h2
    have hg:Jz (Ja w bl G ((F1 ++ F2) ++ X)) (Ja w b1 G1 (F2 ++ X)) (fun t=>t ∉ Jn sl):=(p2.mono (fun _ h=>h.elim)).trans q4
    have hg2:Jz (Ja w b1 G1 (F2 ++ X)) (Ja w b2 G2 X) (fun t=>t ∉ Jn sl):=r3.mono (fun t ht hm=>ht (by simp [Jn,Jv,hm]))
    have hx:One (Ja w b2 G2 X) x u []:=⟨cs',r3.inV (fun t ht hn=>hn (by simp [Jn,Jv,ht])) (fun _ hb=>by cases hb) q3,q5⟩
    exact ⟨G2,r1,⟨u,r,[],[],rfl,rfl,hx,r2⟩,hg.trans hg2⟩
   ·simp at h
  ·simp at h
theorem YP {F:List Nat} (h:JW w bl G F w0 F0) (hs:JA (Ja w bl G F) sl a) {d:Option Nat} {x x':V} {v:Value} {E:Env} (hE:E.w=w) (hx:Val E x v F) (ho:Qa x=true)
  (hf:Q7 sl bl d x=some (x',b')):∃ G',J7 w b' G' w0 F0∧JA (Ja w b' G' []) sl a∧Val (Ja w b' G' []) x' v []:=by
 unfold Q7 at hf
 have hF0:F ++ []=F:=List.append_nil F
 split at hf
 ·rename_i s
  split at hf
  ·rename_i vs
   split at hf
   ·rename_i xs b1 hp
    simp only [oj,pj] at hf
    obtain ⟨rfl,rfl⟩:=hf
    obtain ⟨vals,rfl,ht⟩:=hx
    unfold Qa at ho
    obtain ⟨G',g1,g2,g3⟩:=SA (X:=[]) (F:=F) (by rw [hF0]; exact h) (Xh (E:=E) (E':=Ja w bl G (F ++ [])) (by rw [hE]; rfl) ho ht) ho hp
    rw [hF0] at g3
    exact ⟨G',g1.c,hs.goes g3 (fun t ht hn=>hn ht),⟨vals,rfl,g2⟩⟩
   ·simp at hf
  ·rename_i hnt
   have hone:One E x v F:=by
    cases x <;> first | exact hx | (simp [Qa] at ho; done) | exact absurd rfl (hnt _)
   obtain ⟨cs,h1,h2⟩:=hone
   obtain ⟨G',g1,g2,g3⟩:=Sz (sl:=sl) (X:=[]) (F:=F) (by rw [hF0]; exact h) (Wa (E:=E) (E':=Ja w bl G (F ++ [])) (by rw [hE]; rfl) x ho h1) h2 ho hf
   rw [hF0] at g3
   exact ⟨G',g1.c,hs.goes g3 (fun t ht hn=>hn ht),W4 g2⟩
 ·simp only [oj,pj] at hf
  obtain ⟨rfl,rfl⟩:=hf
  obtain ⟨p1,p2⟩:=h.sub (X':=[]) (by simp) (fun b hb=>by cases hb)
  exact ⟨G,p1.c,hs.go0 p2,Ce⟩
end
end Go.Rai
namespace Go.Rai
variable [Inhabited Qe]
section
variable {P:Program} {A:Ann} {w w' w0:World} {F0:List Nat} {sl:List V} {a:Act} {bl b':BL} {G:GT} {o:Oper} {X:List Nat}
theorem Wb {E:Env} {x:V} {v:Value} (hx:∀ xs,x ≠ .tup xs) (h:Val E x v []):One E x v []:=by
 cases x with
 | tup xs=>exact absurd rfl (hx xs)
 | undef=>exact ⟨[v],by unfold InV; exact ⟨⟨v,rfl⟩,rfl⟩,by unfold Qi; rfl⟩
 | _=>exact h
theorem Xi {E:Env} (hs:JA E sl a) {io:Nat→Bool}:∀ {xs:List Operand} {i:Nat},QV (Jo sl xs)=true→UC E io i (Jo sl xs) (xs.map a.eval) []
 | [],i,_=>⟨rfl,rfl⟩
 | x :: xs,i,h=>by
  simp only [Jo] at h
  have hx:(∀ ys,opd sl x ≠ .tup ys)∧QV (Jo sl xs)=true:=by
   cases hq:opd sl x <;> rw [hq] at h <;> simp [QV] at h <;> exact ⟨(by intro ys hh; cases hh),h⟩
  exact ⟨a.eval x,xs.map a.eval,[],[],rfl,rfl,Wb hx.1 (JZ hs x),fun _=>rfl,Xi hs hx.2⟩
theorem Xj {E:Env} {io:Nat→Bool}:∀ {caps:List V} {i:Nat} {vals:List Value},Hy caps=true→Ji E caps vals []→UC E io i caps vals []
 | [],i,vals,_,h=>by unfold Ji at h; exact h
 | x :: caps,i,vals,h,hi=>by
  unfold Ji at hi
  obtain ⟨c1,c2,F1,F2,e1,e2,h1,h2⟩:=hi
  obtain ⟨rfl,rfl⟩:=List.append_eq_nil_iff.1 e2.symm
  have hx:isA x=false∧vsz x=1∧Hy caps=true:=by
   cases x <;> simp [Hy] at h <;> exact ⟨rfl,rfl,h⟩
  have hl:=Qp _ h1
  rw [hx.2.1] at hl
  match c1,hl with
  | [u],_=>exact ⟨u,c2,[],[],e1,rfl,⟨[u],h1,by unfold Qi; rw [hx.1]⟩,fun _=>rfl,Xj hx.2.2 h2⟩
theorem Xk {E:Env} {io:Nat→Bool}:∀ {xs ys:List V} {i:Nat} {vs us:List Value} {F F':List Nat},UC E io i xs vs F→UC E io (i + xs.length) ys us F'→UC E io i (xs ++ ys) (vs ++ us) (F ++ F')
 | [],ys,i,vs,us,F,F',h,h'=>by obtain ⟨rfl,rfl⟩:=h; exact h'
 | x :: xs,ys,i,vs,us,F,F',⟨v,r,F1,F2,e1,e2,h1,h2,h3⟩,h'=>by
  subst e1; subst e2
  exact ⟨v,r ++ us,F1,F2 ++ F',by simp,by simp,h1,h2,Xk h3 (by rw [show i + 1 + xs.length=i + (x :: xs).length by simp; omega]; exact h')⟩
theorem SB {E:Env} {io:Nat→Bool}:∀ {xs:List V} {i:Nat} {vs:List Value} {F:List Nat},UC E io i xs vs F→vs.length=xs.length
 | [],i,vs,F,h=>by rw [h.1]; rfl
 | x :: xs,i,vs,F,⟨v,r,F1,F2,e1,e2,h1,h2,h3⟩=>by subst e1; simp [SB h3]
theorem SC {E:Env} {f:FuncId}:∀ {vs outs:List V} {i:Nat} {vals:List Value} {Fo:List Nat},UA A f i vs=false→vals.length=vs.length→CD E (fun j=>J9 (A.mode f j)) i outs vals Fo→Fo=[]
 | vs,[],i,vals,Fo,_,_,h=>h.2
 | [],x :: outs,i,vals,Fo,_,hl,⟨v,r,F1,F2,e1,_⟩=>by subst e1; simp at hl
 | _ :: vs,x :: outs,i,vals,Fo,hio,hl,⟨v,r,F1,F2,e1,e2,h1,h2,h3⟩=>by
  subst e1; subst e2
  simp only [UA] at hio
  split at hio
  ·cases hio
  ·cases hio
  ·rename_i hm hm2
   have hf:J9 (A.mode f i)=false:=by
    cases hq:A.mode f i with
    | io=>exact absurd hq hm
    | take=>rfl
    | lend=>rfl
    | keep=>rfl
   rw [h2 hf,SC hio (by simpa using hl) h3]
   rfl
theorem YQ {f : FuncId} {args : Array Value} {fn : Func} (j1 : P.funcs[f]? = some fn) (j2 : (fn.name == "runtime.NumGoroutine") = false) (j3 : fn.body.isNone = false) : (callFunc f args).run P w = .ok (.enter f args) w := by
 unfold callFunc
 simp only [Sem.run_bind,run_program,Result.andThen_ok,j1,j2,j3,Bool.false_eq_true,if_false,Sem.run_pure]
end
end Go.Rai
namespace Go.Rai
variable [Inhabited Qe]
theorem M3 (b:Bool):undef ≠ Value.bool b:=by intro h; cases h
section
variable {P:Program} {A:Ann} {w w' w0:World} {F0:List Nat} {sl:List V} {a:Act} {bl b':BL} {G:GT} {o:Oper} {X:List Nat}
theorem YR:∀ (l:List Oper) (j:Nat),Hk l j=(l[j]?).bind (·.dst)
 | [],j=>by simp [Hk]
 | o :: l,0=>by simp [Hk]
 | o :: l,j + 1=>by simp [Hk,YR l j]
theorem Wc:∀ {sl:List V} {t:Nat} {v:V},Jy sl t=v→v ≠ .undef→JF sl t v=sl
 | [],t,v,h,hn=>by simp [Jy] at h; exact absurd h.symm hn
 | x :: sl,0,v,h,hn=>by simp [Jy] at h; simp [JF,h]
 | x :: sl,t + 1,v,h,hn=>by simp [Jy] at h; simp [JF,Wc h hn]
theorem SD {ops:Array Oper} {E:Env} (hs:JA E sl a) {j t:Nat} (hd:Hk ops.toList j=some t) {b:Bool} (hb:Jy sl t=.bool b):yielded ops a.tmps j=some b:=by
 rw [YR] at hd
 have hv:=hs t
 rw [hb] at hv
 obtain ⟨hv,_⟩:=QI.1 hv
 have:a.tmps[t]?=some (.bool b):=by
  rw [Array.getD_eq_getD_getElem?] at hv
  cases hq:a.tmps[t]? with
  | none=>rw [hq] at hv; exact absurd hv (M3 b)
  | some u=>rw [hq] at hv; simp at hv; rw [hv]
 unfold yielded
 rw [show ops[j]?=ops.toList[j]? by simp,hd]
 simp [this]
theorem M4 {ops:Array Oper} {E:Env} (hs:JA E sl a) {j t:Nat} (hd:Hk ops.toList j=some t) (hb:Jy sl t=.void):yielded ops a.tmps j=none:=by
 rw [YR] at hd
 have hv:=hs t
 rw [hb] at hv
 obtain ⟨hv,_⟩:=VP.1 hv
 unfold yielded
 rw [show ops[j]?=ops.toList[j]? by simp,hd]
 simp only [Option.bind_some]
 rw [Array.getD_eq_getD_getElem?] at hv
 cases hq:a.tmps[t]? with
 | none=>simp
 | some u=>rw [hq] at hv; simp at hv; subst hv; rfl
end
end Go.Rai
namespace Go.Rai
variable [Inhabited Qe]
theorem SE (f:Nat→Nat):∀ (v:V),vsz (ren f v)=vsz v
 | .agg vs=>by
  unfold ren vsz
  exact go vs
 | .arr _ _ _=>rfl
 | .int _ _=>rfl
 | .bool _=>rfl
 | .str _=>rfl
 | .own _ _=>rfl
 | .rd _ _=>rfl
 | .lst _ _=>rfl
 | .nilsl=>rfl
 | .emp _=>rfl
 | .obox _=>rfl
 | .rp _=>rfl
 | .full _ _ _=>rfl
 | .sub _ _ _ _ _=>rfl
 | .ptr _ _=>rfl
 | .fn _ _=>rfl
 | .nilfn=>rfl
 | .nilptr=>rfl
 | .undef=>rfl
 | .void=>rfl
 | .tup _=>rfl
 where go:∀ (vs:List V),Jt (QB f vs)=Jt vs
 | []=>rfl
 | v :: vs=>by unfold QB Jt; rw [SE f v,go vs]
theorem Wd (f:Nat→Nat) (vs:List V):Jt (QB f vs)=Jt vs:=by
 induction vs with
 | nil=>rfl
 | cons v vs ih=>unfold QB Jt; rw [SE,ih]
theorem Xl (f:Nat→Nat):∀ (vs:List V),(QB f vs).length=vs.length
 | []=>rfl
 | v :: vs=>by unfold QB; simp [Xl f vs]
theorem Xm (f:Nat→Nat):∀ (vs:List V) (j:Nat),nth (QB f vs) j=(nth vs j).map (ren f)
 | [],j=>by simp [QB,nth]
 | v :: vs,0=>by simp [QB,nth]
 | v :: vs,j + 1=>by simp [QB,nth,Xm f vs j]
theorem Xn (f:Nat→Nat):∀ (vs:List V) (j:Nat),(QB f vs).take j=QB f (vs.take j)
 | [],j=>by simp [QB]
 | v :: vs,0=>by simp [QB]
 | v :: vs,j + 1=>by simp [QB,Xn f vs j]
theorem SF (f:Nat→Nat) (v:V):QE (ren f v)=QE v:=by cases v <;> rfl
theorem M5 (f:Nat→Nat) (v:V):isA (ren f v)=isA v:=by cases v <;> rfl
mutual
theorem We (f:Nat→Nat):∀ (v:V),Jf v=[]→ren f v=v
 | .agg vs,h=>by unfold ren; unfold Jf at h; rw [Wg f vs h]
 | .lst e vs,h=>by unfold ren; unfold Jf at h; rw [Wg f vs h]
 | .tup vs,h=>by unfold ren; unfold Jf at h; rw [Wg f vs h]
 | .fn g vs,h=>by unfold ren; unfold Jf at h; rw [Wg f vs h]
 | .obox v,h=>by unfold ren; unfold Jf at h; rw [We f v h]
 | .rp v,h=>by unfold ren; unfold Jf at h; rw [We f v h]
 | .full _ _ _,h=>by simp [Jf] at h
 | .sub _ _ _ _ _,h=>by simp [Jf] at h
 | .ptr _ _,h=>by simp [Jf] at h
 | .arr _ _ _,_=>rfl
 | .int _ _,_=>rfl
 | .bool _,_=>rfl
 | .str _,_=>rfl
 | .own _ _,_=>rfl
 | .rd _ _,_=>rfl
 | .nilsl,_=>rfl
 | .emp _,_=>rfl
 | .nilfn,_=>rfl
 | .nilptr,_=>rfl
 | .undef,_=>rfl
 | .void,_=>rfl
theorem Wg (f:Nat→Nat):∀ (vs:List V),Jn vs=[]→QB f vs=vs
 | [],_=>rfl
 | v :: vs,h=>by
  unfold Jn at h
  rw [J8,List.append_eq_nil_iff] at h
  unfold QB
  rw [We f v h.1,Wg f vs h.2]
end
theorem CE (f:Nat→Nat) {w:World}:∀ (p:List Nat) (v:V) (L:Jj) (x':V) (L':Jj),Jg w (ren f v) L p=some (x',L')→∃ x,Jg w v L p=some (x,L')∧x'=ren f x
 | [],v,L,x',L',h=>by
  simp only [Jg,oj,pj] at h
  exact ⟨v,by simp [Jg,h.2],h.1.symm⟩
 | j :: p,v,L,x',L',h=>by
  cases v with
  | agg vs=>
   simp only [ren,Jg,Xm,Xn,Wd] at h
   cases hj:nth vs j with
   | none=>rw [hj] at h; simp at h
   | some xj=>
    rw [hj] at h
    simp only [Option.map_some] at h
    obtain ⟨x,h1,h2⟩:=CE f p xj _ x' L' h
    exact ⟨x,by simp only [Jg,hj]; exact h1,h2⟩
  | lst e vs=>
   simp only [ren,Jg,Xm,Xn,Wd] at h
   cases hj:nth vs j with
   | none=>rw [hj] at h; simp at h
   | some xj=>
    rw [hj] at h
    simp only [Option.map_some] at h
    split at h
    ·rename_i a _ _ hh
     obtain ⟨x,h1,h2⟩:=CE f p xj _ x' L' h
     exact ⟨x,by simp only [Jg,hj,hh]; exact h1,h2⟩
    ·simp at h
  | fn g vs=>
   simp only [ren,Jg,Xm,Xn,Wd] at h
   cases hj:nth vs j with
   | none=>rw [hj] at h; simp at h
   | some xj=>
    rw [hj] at h
    simp only [Option.map_some] at h
    split at h
    ·rename_i a _ _ hh
     obtain ⟨x,h1,h2⟩:=CE f p xj _ x' L' h
     exact ⟨x,by simp only [Jg,hj,hh]; exact h1,h2⟩
    ·simp at h
  | obox y=>
   simp only [ren,Jg] at h
   split at h
   ·rename_i a hh
    obtain ⟨x,h1,h2⟩:=CE f p y _ x' L' h
    exact ⟨x,by simp only [Jg,hh]; exact h1,h2⟩
   ·simp at h
  | own e l=>
   simp only [ren,Jg] at h
   split at h
   ·rename_i hj
    split at h
    ·rename_i a _ _ hh
     rw [← We f (dec true e (l.getD j (.int 0))) (VM true e _)] at h
     obtain ⟨x,h1,h2⟩:=CE f p _ _ x' L' h
     exact ⟨x,by simp only [Jg,if_pos hj,hh]; exact h1,h2⟩
    ·simp at h
   ·simp at h
  | arr n e l=>
   simp only [ren,Jg] at h
   split at h
   ·rename_i hj
    rw [← We f (dec true e (l.getD j (.int 0))) (VM true e _)] at h
    obtain ⟨x,h1,h2⟩:=CE f p _ _ x' L' h
    exact ⟨x,by simp only [Jg,if_pos hj]; exact h1,h2⟩
   ·simp at h
  | _=>simp [ren,Jg] at h
structure Ren (f:Nat→Nat) (L:List Nat) (E E':Env):Prop where
 w:E'.w=E.w
 S:∀ b,E.S b→E'.S b
 K:∀ b,E.K b→E'.K b
 al:∀ s,s ∈ L→∀ c' rc F',Jb E'.bl (f s)=some c'→E'.G (f s)=some (rc,F')→∃ c,Jb E.bl s=some c∧c'=ren f c∧E.G s=some (rc,F')
mutual
theorem Ren.inV {f:Nat→Nat} {L:List Nat} {E E':Env} (h:Ren f L E E'):∀ (v:V) {cs:List Value} {F:List Nat},(∀ s ∈ Jf v,s ∈ L)→InV E v cs F→InV E' (ren f v) cs F
 | .undef,_,_,_,hv=>by unfold ren InV at *; exact hv
 | .void,_,_,_,hv=>by unfold ren InV at *; exact hv
 | .int _ _,_,_,_,hv=>by unfold ren InV at *; exact hv
 | .bool _,_,_,_,hv=>by unfold ren InV at *; exact hv
 | .str _,_,_,_,hv=>by unfold ren InV at *; exact hv
 | .agg vs,_,_,hs,hv=>by unfold ren InV at *; exact h.inVs vs (by simpa [Jf] using hs) hv
 | .arr _ _ _,_,_,_,hv=>by unfold ren InV at *; rw [h.w]; exact hv
 | .own _ _,_,_,_,hv=>by unfold ren InV at *; rw [h.w]; exact hv
 | .rd _ _,_,_,_,hv=>by
  unfold ren InV at *
  rw [h.w]
  obtain ⟨h1,h2,A,c,F',h3,h4,h5⟩:=hv
  exact ⟨h1,h2,A,c,F',h3,h4,fun b hb=>⟨h.S b (h5 b hb).1,fun he=>h.K b ((h5 b hb).2 he)⟩⟩
 | .lst e vs,_,_,hs,hv=>by
  unfold ren InV at *
  rw [h.w,Xl,Wd]
  obtain ⟨a,c,cs',F',h1,h2,h3,h4,h5⟩:=hv
  exact ⟨a,c,cs',F',h1,h2,h3,h.inVs vs (by simpa [Jf] using hs) h4,h5⟩
 | .nilsl,_,_,_,hv=>by unfold ren InV at *; exact hv
 | .emp _,_,_,_,hv=>by unfold ren InV at *; exact hv
 | .obox v,_,_,hs,hv=>by
  unfold ren InV at *
  rw [h.w]
  obtain ⟨a,cs',F',h1,h2,h3⟩:=hv
  exact ⟨a,cs',F',h1,h.inV v (by simpa [Jf] using hs) h2,h3⟩
 | .rp v,_,_,hs,hv=>by
  unfold ren InV at *
  rw [h.w]
  obtain ⟨h0,a,cs',h1,h2,h3,h4⟩:=hv
  exact ⟨h0,a,cs',h1,h.inV v (by simpa [Jf] using hs) h2,h3,h.S _ h4⟩
 | .full s p e,_,_,hs,hv=>by
  unfold ren InV at *
  obtain ⟨h0,h1,h2⟩:=hv
  refine ⟨h0,h1,fun c' rc F0 hl hg x' Lx hx ho=>?_⟩
  obtain ⟨c,k1,rfl,k3⟩:=h.al s (hs s (by simp [Jf])) c' rc F0 hl hg
  rw [h.w] at hx ⊢
  obtain ⟨x,e1,rfl⟩:=CE f p c (.reg rc) x' Lx hx
  exact h2 c rc F0 k1 k3 x Lx e1 (by rw [SF] at ho; exact ho)
 | .sub s p off len e,_,_,hs,hv=>by
  unfold ren InV at *
  obtain ⟨h0,h1,h2⟩:=hv
  refine ⟨h0,h1,fun c' rc F0 hl hg x' Lx hx ho=>?_⟩
  obtain ⟨c,k1,rfl,k3⟩:=h.al s (hs s (by simp [Jf])) c' rc F0 hl hg
  rw [h.w] at hx ⊢
  obtain ⟨x,e1,rfl⟩:=CE f p c (.reg rc) x' Lx hx
  exact h2 c rc F0 k1 k3 x Lx e1 (by rw [SF] at ho; exact ho)
 | .ptr s p,_,_,hs,hv=>by
  unfold ren InV at *
  obtain ⟨h0,h1,h2⟩:=hv
  refine ⟨h0,h1,fun c' rc F0 hl hg x' Lx hx=>?_⟩
  obtain ⟨c,k1,rfl,k3⟩:=h.al s (hs s (by simp [Jf])) c' rc F0 hl hg
  rw [h.w] at hx
  obtain ⟨x,e1,rfl⟩:=CE f p c (.reg rc) x' Lx hx
  exact h2 c rc F0 k1 k3 x Lx e1
 | .fn g caps,_,_,hs,hv=>by
  unfold ren InV at *
  rw [Wd,Xl]
  obtain ⟨vals,h1,h2,h3⟩:=hv
  exact ⟨vals,h1,h.inVs caps (by simpa [Jf] using hs) h2,h3⟩
 | .nilfn,_,_,_,hv=>by unfold ren InV at *; exact hv
 | .nilptr,_,_,_,hv=>by unfold ren InV at *; exact hv
 | .tup _,_,_,_,hv=>by unfold InV at hv; exact hv.elim
theorem Ren.inVs {f:Nat→Nat} {L:List Nat} {E E':Env} (h:Ren f L E E'):∀ (vs:List V) {cs:List Value} {F:List Nat},(∀ s ∈ Jn vs,s ∈ L)→Ji E vs cs F→Ji E' (QB f vs) cs F
 | [],_,_,_,hv=>by unfold QB Ji at *; exact hv
 | v :: vs,_,_,hs,hv=>by
  unfold QB Ji at *
  obtain ⟨c1,c2,F1,F2,e1,e2,h1,h2⟩:=hv
  exact ⟨c1,c2,F1,F2,e1,e2,h.inV v (fun s hs'=>hs s (by simp [Jn,Jv,hs'])) h1,h.inVs vs (fun s hs'=>hs s (by simp [Jn,Jv,hs'])) h2⟩
end
theorem Ren.one {f:Nat→Nat} {L:List Nat} {E E':Env} (h:Ren f L E E') {x:V} {v:Value} {F:List Nat} (hs:∀ s ∈ Jf x,s ∈ L) (hv:One E x v F):One E' (ren f x) v F:=by
 obtain ⟨cs,h1,h2⟩:=hv
 refine ⟨cs,h.inV x hs h1,?_⟩
 unfold Qi at h2 ⊢
 rw [M5]
 exact h2
theorem Ren.tup {f:Nat→Nat} {L:List Nat} {E E':Env} (h:Ren f L E E'):∀ {xs:List V} {vs:List Value} {F:List Nat},(∀ s ∈ Jn xs,s ∈ L)→Tup E xs vs F→Tup E' (QB f xs) vs F
 | [],_,_,_,hv=>hv
 | x :: xs,_,_,hs,⟨v,r,F1,F2,e1,e2,h1,h2⟩=>
  ⟨v,r,F1,F2,e1,e2,h.one (fun s hs'=>hs s (by simp [Jn,Jv,hs'])) h1,h.tup (fun s hs'=>hs s (by simp [Jn,Jv,hs'])) h2⟩
theorem Ren.val {f:Nat→Nat} {L:List Nat} {E E':Env} (h:Ren f L E E') {x:V} {v:Value} {F:List Nat} (hs:∀ s ∈ Jf x,s ∈ L) (hv:Val E x v F):Val E' (ren f x) v F:=by
 cases x with
 | tup xs=>
  obtain ⟨vs,h1,h2⟩:=hv
  exact ⟨vs,h1,h.tup (by simpa [Jf] using hs) h2⟩
 | undef=>exact hv
 | _=>exact h.one hs hv
theorem YS {f:Nat→Nat} {b:BL}:∀ {L:List Nat} {t:Nat} {c':V},Jb (Cb f b L) t=some c'→∃ s ∈ L,f s=t∧∃ c,Jb b s=some c∧c'=ren f c
 | [],t,c',h=>by simp [Cb,Jb] at h
 | s :: L,t,c',h=>by
  unfold Cb at h
  split at h
  ·rename_i c hc
   simp only [Jb] at h
   split at h
   ·rename_i hb
    simp only [oj] at h
    exact ⟨s,by simp,Nat.eq_of_beq_eq_true hb,c,hc,h.symm⟩
   ·obtain ⟨s',h1,h2⟩:=YS h
    exact ⟨s',by simp [h1],h2⟩
  ·obtain ⟨s',h1,h2⟩:=YS h
   exact ⟨s',by simp [h1],h2⟩
theorem YT:∀ (L:List Nat) (k s:Nat),k≤HO L k s
 | [],k,s=>Nat.le_refl _
 | a :: L,k,s=>by
  unfold HO
  split
  ·exact Nat.le_refl _
  ·exact Nat.le_trans (Nat.le_succ k) (YT L (k + 1) s)
theorem SG:∀ (L:List Nat) (k:Nat) {s t:Nat},s ∈ L→t ∈ L→HO L k s=HO L k t→s=t
 | [],k,s,t,hs,_,_=>by cases hs
 | a :: L,k,s,t,hs,ht,h=>by
  unfold HO at h
  split at h
  ·rename_i h1
   have:=Nat.eq_of_beq_eq_true h1
   subst this
   split at h
   ·rename_i h2
    exact Nat.eq_of_beq_eq_true h2
   ·have:=YT L (k + 1) t
    omega
  ·rename_i h1
   split at h
   ·have:=YT L (k + 1) s
    omega
   ·rename_i h2
    have n1:s ≠ a:=fun e=>by subst e; rw [Nat.beq_refl] at h1; cases h1
    have n2:t ≠ a:=fun e=>by subst e; rw [Nat.beq_refl] at h2; cases h2
    exact SG L (k + 1) ((List.mem_cons.1 hs).resolve_left n1) ((List.mem_cons.1 ht).resolve_left n2) h
theorem YU {L:List Nat}:∀ {r:List Nat},OU L r=true→∀ s ∈ r,s ∈ L
 | [],_,s,hs=>by cases hs
 | a :: r,h,s,hs=>by
  unfold OU at h
  rw [Je] at h
  rcases List.mem_cons.1 hs with rfl | hs
  ·exact UB.1 h.1
  ·exact YU h.2 s hs
theorem YV {b:BL} {L:List Nat}:∀ {r:List Nat},OV b L r=true→∀ s ∈ r,∀ c,Jb b s=some c→∀ t ∈ Jf c,t ∈ L
 | [],_,s,hs=>by cases hs
 | a :: r,h,s,hs=>by
  unfold OV at h
  intro c hc
  split at h
  ·rename_i c0 h0
   rw [Je] at h
   rcases List.mem_cons.1 hs with rfl | hs
   ·rw [h0] at hc
    simp only [oj] at hc
    subst hc
    exact YU h.1
   ·exact YV h.2 s hs c hc
  ·rename_i h0
   rcases List.mem_cons.1 hs with rfl | hs
   ·rw [h0] at hc
    cases hc
   ·exact YV h s hs c hc
theorem SH (ks:List Nat):∀ (sl:List V) (t u:Nat),Jy (Cr ks t sl) u=Jy sl u ∨ Jy (Cr ks t sl) u=.undef
 | [],t,u=>.inl rfl
 | v :: sl,t,0=>by
  simp only [Cr,Jy]
  split
  ·exact .inl rfl
  ·exact .inr rfl
 | v :: sl,t,u + 1=>by simpa only [Cr,Jy] using SH ks sl (t + 1) u
theorem SI (ks:List Nat):∀ (sl:List V) (t:Nat),(Cr ks t sl).length=sl.length
 | [],_=>rfl
 | v :: sl,t=>by simp [Cr,SI ks sl]
theorem SJ (f:Nat→Nat):∀ (sl:List V) (t:Nat),Jy (QB f sl) t=ren f (Jy sl t)
 | [],t=>by simp [QB,Jy,ren]
 | v :: sl,0=>by simp [QB,Jy]
 | v :: sl,t + 1=>by simp [QB,Jy,SJ f sl t]
section
variable {Pn:Nat→Option Value} {P:Program} {A:Ann} {w w' w0:World} {F0:List Nat} {sl:List V} {a:Act} {bl b':BL} {G:GT} {o:Oper} {X:List Nat}
theorem JA.mask {E:Env} (h:JA E sl a) (ks:List Nat):JA E (Cr ks 0 sl) a:=by
 intro t
 rcases SH ks sl 0 t with h1 | h1
 ·rw [h1]; exact h t
 ·rw [h1]; exact Ce
theorem M6 {m:List V} {L:List Nat} (hr:Rel Pn w0 F0 ⟨m,bl⟩ a w) (h1:OU L (Jn m)=true) (h2:OV bl L L=true) :
  Rel Pn w0 F0 ⟨QB (HO L 1000) m,Cb (HO L 1000) bl L⟩ a w:=by
 obtain ⟨⟨G,hc,hs⟩,hl,hd,hpin⟩:=hr
 let f:=HO L 1000
 let G':GT:=fun t=>(L.find? (fun s=>f s == t)).bind G
 have inj:∀ {s t:Nat},s ∈ L→t ∈ L→f s=f t→s=t:=fun hs ht h=>SG L 1000 hs ht h
 have hG:∀ s ∈ L,G' (f s)=G s:=by
  intro s hs
  show (L.find? (fun s'=>f s' == f s)).bind G=G s
  cases hq:L.find? (fun s'=>f s' == f s) with
  | none=>
   have:=List.find?_eq_none.1 hq s hs
   simp at this
  | some s'=>
   have e1:=List.find?_some hq
   have e2:=List.mem_of_find?_eq_some hq
   have:s'=s:=inj e2 hs (by simpa using e1)
   subst this
   rfl
 have look:∀ {t:Nat} {c':V},Jb (Cb f bl L) t=some c'→∃ s ∈ L,f s=t∧∃ c,Jb bl s=some c∧c'=ren f c:=fun h=>YS h
 have owned:∀ b,Ud (Cb f bl L) G' [] b→Ud bl G [] b:=by
  rintro b (hb | ⟨t,c',rc,F,k1,k2,k3⟩)
  ·cases hb
  ·obtain ⟨s,hs,rfl,c,e1,rfl⟩:=look k1
   rw [hG s hs] at k2
   exact .inr ⟨s,c,rc,F,e1,k2,k3⟩
 have hren:Ren f L (Ja w bl G []) (Ja w (Cb f bl L) G' []):=by
  refine ⟨rfl,fun b hb=>⟨hb.1,fun ho=>hb.2 (owned b ho)⟩,fun b hb=>hb,?_⟩
  intro s hs c' rc F' k1 k2
  obtain ⟨s',hs',e0,c,e1,rfl⟩:=look k1
  have:=inj hs' hs e0
  subst this
  have k2':G' (f s')=some (rc,F'):=k2
  rw [hG s' hs'] at k2'
  exact ⟨c,e1,rfl,k2'⟩
 refine ⟨⟨G',⟨?_,hc.frame,fun b hb=>hc.own b (owned b hb),hc.size,hc.os,hc.tape,hc.output⟩,?_⟩,by rw [Xl]; exact hl,hd,hpin⟩
 ·refine ⟨?_,?_,List.nodup_nil,fun b hb=>by cases hb⟩
  ·intro t c' k1
   obtain ⟨s,hs',rfl,c,e1,rfl⟩:=look k1
   obtain ⟨rc,F,Fc,g1,g2,g3,g4,g5⟩:=hc.ok.root s c e1
   exact ⟨rc,F,Fc,by rw [hG s hs']; exact g1,hren.inV c (YV h2 s hs' c e1) g2,g3,g4,g5⟩
  ·intro t t' c c' rc rc' F F' hne k1 k2 k3 k4
   obtain ⟨s,hs1,rfl,c1,e1,rfl⟩:=look k1
   obtain ⟨s',hs2,rfl,c2,e2,rfl⟩:=look k2
   rw [hG s hs1] at k3
   rw [hG s' hs2] at k4
   exact hc.ok.apart s s' c1 c2 rc rc' F F' (fun e=>hne (by rw [e])) e1 e2 k3 k4
 ·intro t
  show Val _ (Jy (QB f m) t) _ []
  rw [SJ]
  exact hren.val (fun s hs'=>YU h1 s (Yj hs')) (hs t)
theorem Xo {R:Type} {ks:List Nat} {σ:St} {κ:St→Option R} {r:R} (hr:Rel Pn w0 F0 σ a w) (h:OW ks σ κ=some r):∃ σ',κ σ'=some r∧Rel Pn w0 F0 σ' a w:=by
 unfold OW at h
 rw [UZ,Ou] at h
 split at h
 ·rename_i hb
  rw [Je] at hb
  rw [UZ,HY] at h
  obtain ⟨⟨G,hc,hs⟩,hl,hd,hpin⟩:=hr
  exact ⟨_,h,M6 ⟨⟨G,hc,hs.mask ks⟩,by rw [SI]; exact hl,hd,hpin⟩ hb.1 hb.2⟩
 ·cases h
end
end Go.Rai
namespace Go.Rai
structure Rec where
 v:V
 rd:List Nat
 dst:Option Nat
 bar:Bool
 T:List Nat
 W:List Nat
 N:List Nat
 nm:List Nat
 L:List Nat
 sm:Bool
 bn:List Nat
 qf:List Nat
 qp:List Nat
 deriving Inhabited
inductive Cls where
 | read
 | fresh
 | store
 | call
 | app
 | bar
def cls:Op→Cls
 | .move _=>.read
 | .assign _=>.read
 | .pick _ _ _=>.read
 | .build _ _=>.read
 | .load _ _=>.read
 | .nilCheck _=>.read
 | .binOp _ _ _ _ _=>.read
 | .unOp _ _ _=>.read
 | .convert _ _ _=>.read
 | .makeFunc _ _ _=>.read
 | .slice _ _ _ _ _=>.read
 | .fieldAddr _ _ _=>.read
 | .field _ _ _=>.read
 | .indexAddr _ _ _=>.read
 | .index _ _ _=>.read
 | .extract _ _=>.read
 | .alloc _=>.fresh
 | .box _ _=>.fresh
 | .makeSlice _ _ _=>.fresh
 | .buildSlice _ _ _=>.fresh
 | .store _ _ _=>.store
 | .call c=>match c.callee with
  | .builtin .len=>.read
  | .builtin .max=>.read
  | .builtin .min=>.read
  | .builtin .append=>.app
  | .builtin .copy=>.app
  | .value _=>.call
  | _=>.bar
 | _=>.bar
def Wh:Option Operand→List Operand
 | some x=>[x]
 | none=>[]
def Jp:Op→List Operand
 | .move x=>[x]
 | .assign x=>[x]
 | .pick c x y=>[c,x,y]
 | .build _ ps=>ps.toList.map (·.2)
 | .load _ a=>[a]
 | .nilCheck x=>[x]
 | .binOp _ _ x y _=>[x,y]
 | .unOp _ _ x=>[x]
 | .convert _ _ x=>[x]
 | .makeFunc _ _ caps=>caps.toList
 | .slice _ x lo hi mx=>x :: cat (Wh lo) (cat (Wh hi) (Wh mx))
 | .fieldAddr _ x _=>[x]
 | .field _ x _=>[x]
 | .indexAddr _ x i=>[x,i]
 | .index _ x i=>[x,i]
 | .extract x _=>[x]
 | .box _ x=>[x]
 | .makeSlice _ l c=>[l,c]
 | .buildSlice _ _ ps=>ps.toList.map (·.2)
 | .store _ a x=>[a,x]
 | .call c=>match c.callee with
  | .value f=>f :: c.args.toList
  | _=>c.args.toList
 | _=>[]
def Ue:List Operand→List Nat
 | []=>[]
 | .tmp t :: r=>t :: Ue r
 | _ :: r=>Ue r
def HZ (all:List Oper) (o:Oper):List Nat:=
 match o.guard with
 | some (j,_)=>match Hk all j with
  | some t=>[t]
  | none=>[]
 | none=>[]
def Vi (b:BL):List Nat→List Nat
 | []=>[]
 | s :: r=>match Jb b s with
  | some c=>cat (Jf c) (Vi b r)
  | none=>Vi b r
def CW (b:BL):List Nat→BL
 | []=>[]
 | s :: r=>match Jb b s with
  | some c=>(s,c) :: CW b r
  | none=>CW b r
def QC:BL→List Nat
 | []=>[]
 | (k,_) :: r=>k :: QC r
def UL (s:Nat):Nat→List V→List Nat
 | _,[]=>[]
 | j,_ :: vs=>(10000 + 16 * s + j) :: UL s (j + 1) vs
def Uf (d:Option Nat) (v:V):List Nat:=
 match d with
 | some s=>match v with
  | .tup vs=>UL s 0 vs
  | _=>[s]
 | none=>[]
def SK {R:Type} (oc:OC R) (A:Ann) (σ:St) (d:Option Nat) (f:FuncId) (ts:List Ty) (args caps:List V) (κ:V→BL→List Nat→List Nat→Option R):Option R:=
 match Jh (QV args) (Hy caps) with
 | true=>Hh (CW σ.bl (Of σ.bl 60 [] (Jn (cat args caps)))) (fun bR=>match Q4 A f bR 0 ts (cat args caps) with
  | some (c,ws)=>QM c (Uw ws (fun ws=>oc f ws (fun res _=>
    match Qa res with
    | true=>match Q7 σ.sl σ.bl d res with
     | some (v,b'')=>κ v b'' (QC bR) (Uf d res)
     | none=>none
    | false=>none)))
  | none=>none)
 | false=>none
def Wi:BL→List Nat→BL
 | b,[]=>b
 | b,s :: r=>Wi (Qb b s) r
def CF (b:BL) (K:List Nat) (b':BL):BL:=cat (Wi b K) b'
def Xp (A:Ann) (f:FuncId):Nat→List V→List V
 | _,[]=>[]
 | i,v :: vs=>match A.mode f i with
  | .io=>v :: Xp A f (i + 1) vs
  | .take=>v :: Xp A f (i + 1) vs
  | _=>Xp A f (i + 1) vs
def SL {R:Type} (oc:OC R) (A:Ann) (σ:St) (d:Option Nat) (f:FuncId) (ts:List Ty) (args caps:List V) (κ:V→BL→List Nat→List Nat→List Nat→Option R):Option R:=
 match Jh (QV args) (Hy caps) with
 | true=>Hh (CW σ.bl (Of σ.bl 60 [] (Jn (Xp A f 0 (cat args caps))))) (fun bW=>
   Hh (CW σ.bl (Of σ.bl 60 [] (Jn (cat args caps)))) (fun bR=>
   match U6 A f bW 0 (cat args caps) with
   | true=>match Hi A f 0 bW (cat args caps) with
    | some (c,ws,b1)=>match Q4 A f (CF bR (QC bW) b1) 0 ts ws with
     | some (c',us)=>QM (cat c c') (Uw us (fun us=>Hh b1 (fun b1=>oc f us (fun res outs=>
       match Qa res with
       | true=>match Q5 A (UH A f 0 us) f 0 b1 (cat args caps) outs with
        | some b2=>match Q7 σ.sl (CF σ.bl (QC bW) b2) d res with
         | some (v,b3)=>κ v b3 (cat (QC bR) (QC bW)) (QC bW) (Uf d res)
         | none=>none
        | none=>none
       | false=>none))))
     | none=>none
    | none=>none
   | false=>none))
 | false=>none
def H0 (bar:Bool) (v:V) (b:BL) (W:List Nat):List Nat:=
 match bar with
 | true=>cat (Jf v) (Ju b)
 | false=>cat (Jf v) (Vi b W)
def Wj (bar:Bool) (b:BL) (W:List Nat):List Nat:=
 match bar with
 | true=>Ju b
 | false=>Vi b W
def CX (d:Option Nat) (sl:List V):V:=
 match d with
 | some t=>Jy sl t
 | none=>.undef
def Hr {R:Type} (all:List Oper) (σ:St) (o:Oper) (bar:Bool) (v:V) (b:BL) (T W N L:List Nat) (sm:Bool) (κ:Rec→St→Option R):Option R:=
 QD v (fun v=>QU σ o.dst v b (fun σ'=>Ux T (fun T=>Ux (H0 bar v σ'.bl W) (fun nm=>Ux L (fun L=>Ux (Wj bar σ'.bl W) (fun bn=>
  match sm with
  | true=>κ ⟨v,cat (HZ all o) (Ue (Jp o.op)),o.dst,bar,T,W,N,nm,L,true,bn,[],[]⟩ σ'
  | false=>κ ⟨v,cat (HZ all o) (Ue (Jp o.op)),o.dst,bar,T,W,N,nm,L,false,bn,[],[]⟩ σ'))))))
def YW {R:Type} (all:List Oper) (σ:St) (o:Oper) (v:V) (b:BL) (T W N qf qp:List Nat) (κ:Rec→St→Option R):Option R:=
 QD v (fun v=>QU σ o.dst v b (fun σ'=>Ux T (fun T=>Ux W (fun W=>Ux (H0 false v σ'.bl W) (fun nm=>Ux (Wj false σ'.bl W) (fun bn=>Ux qf (fun qf=>Ux qp (fun qp=>
  κ ⟨v,cat (HZ all o) (Ue (Jp o.op)),o.dst,false,T,W,N,nm,[],false,bn,qf,qp⟩ σ'))))))))
def Vj (b:BL):V→Option Nat
 | .full s p _=>match Jb b s with
  | some c=>match c.outer p with
   | true=>some s
   | false=>none
  | none=>none
 | .sub s p _ _ _=>match Jb b s with
  | some c=>match c.outer p with
   | true=>some s
   | false=>none
  | none=>none
 | _=>none
def Vk (σ:St) (op:Op):List Nat:=
 match op with
 | .move _=>[]
 | .assign _=>[]
 | .pick _ _ _=>[]
 | .unOp _ _ _=>[]
 | .field _ _ _=>[]
 | .extract _ _=>[]
 | .indexAddr _ x i=>match Vj σ.bl (opd σ.sl x) with
  | some _=>[]
  | none=>Jn (Jo σ.sl (Jp (.indexAddr 0 x i)))
 | op=>Jn (Jo σ.sl (Jp op))
def Wk (σ:St) (op:Op):List Nat:=
 match op with
 | .indexAddr _ x _=>match Vj σ.bl (opd σ.sl x) with
  | some s=>[s]
  | none=>[]
 | _=>[]
def YX (σ:St) (op:Op):Bool:=
 match op with
 | .store _ a _=>match opd σ.sl a with
  | .ptr s p=>match Jb σ.bl s with
   | some c=>J2 (c.outer p)
   | none=>false
  | _=>false
 | _=>false
def Qf:Option Nat→List Nat
 | some t=>[t]
 | none=>[]
def Vl {R:Type} (A:Ann) (all:List Oper) (σ:St) (o:Oper) (bar:Bool) (T W N L:List Nat) (sm:Bool) (κ:Rec→St→Option R):Option R:=
 match JI A σ.sl σ.bl o.dst o.op with
 | some (c,v,b)=>QM c (Hr all σ o bar v b T W N L sm κ)
 | none=>none
def CY (σ:St):Op→List Nat
 | .store _ a _=>Jf (opd σ.sl a)
 | _=>[]
def SM:V→Bool
 | .nilsl=>true
 | .emp _=>true
 | .full _ _ _=>true
 | _=>false
def SN:V→Bool
 | .sub _ _ _ _ _=>true
 | _=>false
def Xq (b:BL):V→Bool
 | .full s p _=>match J1 b s p with
  | some (_,.own _ _)=>true
  | _=>false
 | _=>true
def SO:V→Bool
 | .full _ _ _=>true
 | .sub _ _ _ _ _=>true
 | _=>false
def Xr (A:Ann) (σ:St) (op:Op):Bool:=
 match op with
 | .call c=>match c.argTypes.toList with
  | t :: ts=>match A.ty t with
   | .slice e=>match Jh e.flat (J2 (OM (A.ty (ts.headD 0)))) with
    | true=>match Jo σ.sl c.args.toList with
     | [s,x]=>match c.callee with
      | .builtin .append=>Jh (bor (SM s) (SN s)) (Xq σ.bl x)
      | .builtin .copy=>Jh (SO s) (Xq σ.bl x)
      | _=>false
     | _=>false
    | false=>false
   | _=>false
  | []=>false
 | _=>false
def Ch (d:Option Nat) (op:Op):List Nat:=
 match op with
 | .call c=>match c.callee with
  | .builtin .copy=>[]
  | _=>Qf d
 | _=>Qf d
def CZ (σ:St) (d:Option Nat) (op:Op):List Nat:=
 match op with
 | .call c=>match Jo σ.sl c.args.toList with
  | s :: _=>cat (Jf s) (Ch d op)
  | []=>Ch d op
 | _=>Ch d op
def Oy (σ:St) (d:Option Nat) (op:Op):List Nat:=cat (Jn (Jo σ.sl (Jp op))) (Ch d op)
def Wl {R:Type} (oc:OC R) (A:Ann) (all:List Oper) (σ:St) (o:Oper) (κ:Rec→St→Option R):Option R:=
 match cls o.op with
 | .read=>Vl A all σ o false (Vk σ o.op) [] [] (Wk σ o.op) false κ
 | .fresh=>Vl A all σ o false (Qf o.dst) (Qf o.dst) (Qf o.dst) [] false κ
 | .store=>match JI A σ.sl σ.bl o.dst o.op with
  | some _=>Vl A all σ o false (CY σ o.op) (CY σ o.op) [] [] (YX σ o.op) κ
  | none=>Cq oc A σ o (fun σ'=>Hr all σ o true (CX o.dst σ'.sl) σ'.bl [] [] [] [] false κ)
 | .call=>match o.op with
  | .call c=>match c.callee with
   | .value f=>match opd σ.sl f with
    | .fn g caps=>match UA A g 0 (cat (Jo σ.sl c.args.toList) caps) with
     | false=>SK oc A σ o.dst g (VI A c.argTypes.toList) (Jo σ.sl c.args.toList) caps (fun v b T N=>Hr all σ o false v b (cat T N) N N [] false κ)
     | true=>match X6 A g σ.bl (cat (Jo σ.sl c.args.toList) caps) with
      | some _=>Cq oc A σ o (fun σ'=>Hr all σ o true (CX o.dst σ'.sl) σ'.bl [] [] [] [] false κ)
      | none=>SL oc A σ o.dst g (VI A c.argTypes.toList) (Jo σ.sl c.args.toList) caps (fun v b T W N=>YW all σ o v b (cat T N) (cat W N) N (ioF A g 0 (cat (Jo σ.sl c.args.toList) caps)) (ioP A g 0 (cat (Jo σ.sl c.args.toList) caps)) κ)
    | _=>none
   | _=>none
  | _=>none
 | .app=>match Xr A σ o.op with
  | true=>Vl A all σ o false (Oy σ o.dst o.op) (CZ σ o.dst o.op) (Ch o.dst o.op) [] false κ
  | false=>Cq oc A σ o (fun σ'=>Hr all σ o true (CX o.dst σ'.sl) σ'.bl [] [] [] [] false κ)
 | .bar=>Cq oc A σ o (fun σ'=>Hr all σ o true (CX o.dst σ'.sl) σ'.bl [] [] [] [] false κ)
def Ci {R:Type} (oc:OC R) (A:Ann) (all:List Oper):List Oper→St→(List Rec→St→Option R)→Option R
 | [],σ,κ=>κ [] σ
 | o :: rest,σ,κ=>
  match o.guard with
  | none=>Wl oc A all σ o (fun r σ'=>Ci oc A all rest σ' (fun rs=>κ (r :: rs)))
  | some (j,want)=>match Hk all j with
   | some t=>match Jy σ.sl t with
    | .void=>Hr all σ o false .void σ.bl [] [] [] [] false (fun r σ'=>Ci oc A all rest σ' (fun rs=>κ (r :: rs)))
    | .bool b=>bif b
     then U5 σ.sl t (.bool true) (fun sl=>match want with
      | true=>Wl oc A all ⟨sl,σ.bl⟩ o (fun r σ'=>Ci oc A all rest σ' (fun rs=>κ (r :: rs)))
      | false=>Hr all ⟨sl,σ.bl⟩ o false .void σ.bl [] [] [] [] false (fun r σ'=>Ci oc A all rest σ' (fun rs=>κ (r :: rs))))
     else U5 σ.sl t (.bool false) (fun sl=>match want with
      | true=>Hr all ⟨sl,σ.bl⟩ o false .void σ.bl [] [] [] [] false (fun r σ'=>Ci oc A all rest σ' (fun rs=>κ (r :: rs)))
      | false=>Wl oc A all ⟨sl,σ.bl⟩ o (fun r σ'=>Ci oc A all rest σ' (fun rs=>κ (r :: rs))))
    | _=>none
   | none=>none
def YY (e:Edge):Bool:=
 match e.ground with
 | .textOnly _=>false
 | .gcOnly _=>false
 | _=>true
def Wm:List Nat→List Nat→List Nat
 | [],acc=>acc
 | i :: l,acc=>match J3 acc i with
  | true=>Wm l acc
  | false=>Wm l (i :: acc)
def Vm (acc:List (List Nat)):List Edge→List Nat→Option (List Nat)
 | [],l=>some l
 | e :: r,l=>match YY e with
  | true=>match nth acc e.on with
   | some p=>Vm acc r (Wm (e.on :: p) l)
   | none=>none
  | false=>Vm acc r l
def HH:List (List Nat)→List Oper→Option (List (List Nat))
 | acc,[]=>some acc
 | acc,o :: r=>match Vm acc o.after.toList [] with
  | some l=>HH (cat acc [l]) r
  | none=>none
def SP:Option Nat→Option Nat→Bool
 | some t,some u=>Nat.beq t u
 | _,_=>false
def Xs (ri rj:Rec):Bool:=Jh (ioV rj.qf rj.qp ri.v) (Jh (Ub rj.qf ri.bn) (Ub rj.qp ri.bn))
def YZ (i:Nat) (ri:Rec) (bj:List Nat) (rj:Rec):Bool:=
 Jh (Jh (J2 (SP ri.dst rj.dst)) (Xs ri rj)) (match J3 bj i with
  | true=>Ub rj.N ri.nm
  | false=>Jh (Xs rj ri) <| Jh (Jh (J2 ri.bar) (J2 rj.bar)) (Jh (Jh (Ub (Qf ri.dst) rj.rd) (Ub (Qf rj.dst) ri.rd))
    (Jh (Jh (Ub ri.W rj.T) (Ub rj.W ri.T)) (Jh (Jh (bor ri.sm (Ub ri.W rj.L)) (bor rj.sm (Ub rj.W ri.L))) (Jh (Ub rj.N ri.nm) (Ub ri.N rj.nm))))))
def Xt:Nat→List Rec→List Nat→Rec→Bool
 | _,[],_,_=>true
 | i,ri :: r,bj,rj=>Jh (YZ i ri bj rj) (Xt (i + 1) r bj rj)
def Xu (σ:St):List Nat→Bool
 | []=>true
 | s :: r=>Jh (Uh σ.sl σ.bl .undef s) (Xu σ r)
def SQ (σ:St) (r:Rec):Bool:=Jh (Q6 r.qf r.qp σ.sl) (Jh (Ub r.qf (Ju σ.bl)) (Ub r.qp (Ju σ.bl)))
def Wn (σ:St):List Rec→List (List Nat)→List Rec→Bool
 | _,_,[]=>true
 | pre,bj :: bs,rj :: rs=>Jh (Jh (Jh (Xu σ rj.N) (SQ σ rj)) (Xt 0 pre bj rj)) (Wn σ (cat pre [rj]) bs rs)
 | _,_,_=>false
def Xv:Nat→List Nat→Bool
 | 0,_=>true
 | n + 1,l=>Jh (J3 l n) (Xv n l)
def Cj:List Oper→List (List Nat)→Option (List Oper × List (List Nat) × Oper)
 | [],_=>none
 | [o],[b]=>match o.guard with
  | none=>some ([],[],o)
  | some _=>none
 | o :: os,b :: bs=>match Cj os bs with
  | some (pre,bpre,l)=>some (o :: pre,b :: bpre,l)
  | none=>none
 | _,_=>none
def Wo (n:Nat):List Oper→Bool
 | []=>true
 | o :: os=>match o.guard with
  | none=>Wo n os
  | some (j,_)=>Jh (Nat.ble (Nat.succ j) n) (Wo n os)
def Wp:List (List Nat)→List Nat
 | []=>[]
 | [b]=>b
 | _ :: bs=>Wp bs
def SR (ops:List Oper) (bs:List (List Nat)):Option (List Oper × List (List Nat) × Oper):=
 match Cj ops bs with
 | some (pre,bpre,o)=>match Jh (Xv (Ul pre) (Wp bs)) (Wo (Ul pre) pre) with
  | true=>some (pre,bpre,o)
  | false=>none
 | none=>none
def Wq {R:Type} (oc:OC R) (A:Ann) (ops:List Oper) (σ:St) (bs:List (List Nat)) (κ:St→Option R):Option R:=
 Ci oc A ops ops σ (fun rs σ'=>match Wn σ [] bs rs with
  | true=>κ σ'
  | false=>none)
def Y0 {R:Type} (oc:OC R) (A:Ann) (ops:List Oper) (σ:St) (κ:St→Option R):Option R:=
 match HH [] ops with
 | some bs=>match SR ops bs with
  | some (pre,bpre,o)=>Wq oc A pre σ bpre (fun σ'=>HA oc A σ' o κ)
  | none=>Wq oc A ops σ bs κ
 | none=>none
open Classical in
noncomputable def C0 {R:Type} (x y:Option R):Option R:=if x=y then x else none
def Y1 (A:Ann) (σ:St) (o:Oper):Option (List Jm × List D × Bool):=
 match o.guard with
 | some _=>none
 | none=>match o.op with
  | .binOp op t x y _=>match Uz (A.ty t) with
   | true=>match opd σ.sl y with
    | .nilsl=>match opd σ.sl x with
     | .nilsl=>none
     | v=>match UP σ.bl v with
      | some (c,_,l)=>match op with
       | .eql=>some (c,l,false)
       | .neq=>some (c,l,true)
       | _=>none
      | none=>none
    | _=>none
   | false=>none
  | _=>none
noncomputable def UD {R:Type} (oc:OC R) (A:Ann) (all:List Oper):List Oper→St→(St→Option R)→Option R
 | [],σ,κ=>κ σ
 | o :: rest,σ,κ=>
  match Y1 A σ o with
  | some (c,l,ng)=>QM c (if 1≤l.length then QU σ o.dst (.bool ng) σ.bl (fun σ'=>UD oc A all rest σ' κ)
    else C0 (QU σ o.dst (.bool ng) σ.bl (fun σ'=>UD oc A all rest σ' κ)) (QU σ o.dst (.bool (J2 ng)) σ.bl (fun σ'=>UD oc A all rest σ' κ)))
  | none=>
  match o.guard with
  | none=>HA oc A σ o (fun σ'=>UD oc A all rest σ' κ)
  | some (j,want)=>match Hk all j with
   | some t=>match Jy σ.sl t with
    | .void=>QU σ o.dst .void σ.bl (fun σ'=>UD oc A all rest σ' κ)
    | .bool b=>bif b
     then U5 σ.sl t (.bool true) (fun sl=>match want with
      | true=>HA oc A ⟨sl,σ.bl⟩ o (fun σ'=>UD oc A all rest σ' κ)
      | false=>QU ⟨sl,σ.bl⟩ o.dst .void σ.bl (fun σ'=>UD oc A all rest σ' κ))
     else U5 σ.sl t (.bool false) (fun sl=>match want with
      | true=>QU ⟨sl,σ.bl⟩ o.dst .void σ.bl (fun σ'=>UD oc A all rest σ' κ)
      | false=>HA oc A ⟨sl,σ.bl⟩ o (fun σ'=>UD oc A all rest σ' κ))
    | _=>none
   | none=>none
def Xw {R:Type}:List Nat→List V→(List V→Option R)→Option R
 | [],sl,κ=>κ sl
 | t :: r,sl,κ=>U5 sl t .undef (fun sl'=>Xw r sl' κ)
noncomputable def Q9 {R:Type} (oc:OC R) (ol:OL R) (A:Ann) (fid:FuncId):Code→St→(Ex→St→Option R)→Option R
 | .skip,σ,κ=>κ .normal σ
 | .region id ops draw,σ,κ=>Xw (A.dead fid id) σ.sl (fun sl=>match draw with
  | false=>match A.both fid with
   | true=>UD oc A ops.toList ops.toList ⟨sl,σ.bl⟩ (κ .normal)
   | false=>Hl oc A ops.toList ops.toList ⟨sl,σ.bl⟩ (κ .normal)
  | true=>Y0 oc A ops.toList ⟨sl,σ.bl⟩ (κ .normal))
 | .seq a b,σ,κ=>Q9 oc ol A fid a σ (fun e σ'=>match e with
   | .normal=>Q9 oc ol A fid b σ' κ
   | .exit i=>κ (.exit i) σ'
   | .ret=>κ .ret σ')
 | .cond c a b,σ,κ=>match c with
  | .tmp t=>match Jy σ.sl t with
   | .bool x=>bif x
    then U5 σ.sl t (.bool true) (fun sl=>Q9 oc ol A fid a ⟨sl,σ.bl⟩ κ)
    else U5 σ.sl t (.bool false) (fun sl=>Q9 oc ol A fid b ⟨sl,σ.bl⟩ κ)
   | _=>none
  | .const v=>match WN v with
   | .bool x=>bif x then Q9 oc ol A fid a σ κ else Q9 oc ol A fid b σ κ
   | _=>none
  | _=>none
 | .block id b,σ,κ=>Q9 oc ol A fid b σ (fun e σ'=>match e with
   | .normal=>κ .normal σ'
   | .exit i=>match Nat.beq i id with
    | true=>κ .normal σ'
    | false=>κ (.exit i) σ'
   | .ret=>κ .ret σ')
 | .loop b,σ,κ=>OW (A.keep fid (Qs b)) σ (fun σ'=>ol (Qs b) b σ' κ)
 | .exit id,σ,κ=>κ (.exit id) σ
 | .ret,σ,κ=>κ .ret σ
 | _,_,_=>none
def J6:Code→List Code
 | .seq a b=>J6 a ++ J6 b
 | .cond _ a b=>J6 a ++ J6 b
 | .block _ b=>J6 b
 | .loop b=>b :: J6 b
 | _=>[]
def QR (id:Nat):Code→Option Code
 | .seq a b=>match QR id a with
  | some c=>some c
  | none=>QR id b
 | .cond _ a b=>match QR id a with
  | some c=>some c
  | none=>QR id b
 | .block _ b=>QR id b
 | .loop b=>match Nat.beq (Qs b) id with
  | true=>some b
  | false=>QR id b
 | _=>none
noncomputable def QJ {R:Type} (oc:OC R) (ol:OL R) (A:Ann) (fid:FuncId) (b:Code) (σ:St) (κ:Ex→St→Option R):Option R:=
 Q9 oc ol A fid b σ (fun e σ'=>match e with
  | .normal=>OW (A.keep fid (Qs b)) σ' (fun σ''=>ol (Qs b) b σ'' κ)
  | .exit i=>OW (A.out fid (Qs b)) σ' (κ (.exit i))
  | .ret=>OW (A.out fid (Qs b)) σ' (κ .ret))
def Ck:Nat→List V→List V
 | _,[]=>[]
 | i,v :: vs=>Qh i [] v :: Ck ((i + 1)) vs
def He:Nat→List V→BL
 | _,[]=>[]
 | i,v :: vs=>match QY v with
  | true=>(i,v) :: He ((i + 1)) vs
  | false=>He ((i + 1)) vs
def Hf:Nat→List V→List V
 | 0,l=>l
 | n + 1,[]=>.undef :: Hf n []
 | n + 1,v :: l=>v :: Hf n l
def Y2 (n:Nat) (args:List V):St:=
 { sl:=Hf n (Ck 0 args),bl:=He 0 args }
def Vn (q:Bool) (ty:Ty) (v:V):V:=
 match q with
 | true=>match v with
  | .nilsl=>.nilsl
  | v=>UG ty v
 | false=>UG ty v
def Y3 (A:Ann) (q:Bool) (σ:St) (ty:Ty):ResultVar→Option V
 | .tmp t=>some (Vn q ty (Jy σ.sl t))
 | .cell a t=>match H8 (A.ty t) σ.bl (Jy σ.sl a) with
  | some ([],v,_)=>some (Vn q ty v)
  | _=>none
def Wr (A:Ann) (q:Bool) (σ:St):List Ty→List ResultVar→Option (List V)
 | _,[]=>some []
 | ts,r :: rs=>match Y3 A q σ (ts.headD .other) r with
  | some v=>match Wr A q σ ts.tail rs with
   | some vs=>some (v :: vs)
   | none=>none
  | none=>none
def HI (A:Ann) (f:FuncId) (sl:List V):Nat→List V→List V
 | _,[]=>[]
 | i,_ :: vs=>match A.mode f i with
  | .io=>Jy sl i :: HI A f sl (i + 1) vs
  | _=>HI A f sl (i + 1) vs
def HJ (A:Ann) (f:FuncId):Nat→List V→List V→List V
 | _,[],_=>[]
 | i,_ :: vs,ws=>match A.mode f i with
  | .io=>match ws with
   | w :: ws=>w :: HJ A f (i + 1) vs ws
   | []=>.undef :: HJ A f (i + 1) vs []
  | _=>.undef :: HJ A f (i + 1) vs ws
def Vo:List V→List V→List V
 | [],_=>[]
 | _ :: vs,w :: ws=>w :: Vo vs ws
 | _ :: _,[]=>[]
def Vp:List V→List V→List V
 | [],ws=>ws
 | _ :: vs,_ :: ws=>Vp vs ws
 | _ :: _,[]=>[]
def Xx (A:Ann) (f:FuncId):List Oper→Bool
 | []=>true
 | o :: os=>match (match o.dst with
   | some t=>match A.mode f t with
    | .io=>false
    | _=>true
   | none=>true) with
  | true=>Xx A f os
  | false=>false
def HK (A:Ann) (f:FuncId):Code→Bool
 | .region _ ops _=>Xx A f ops.toList
 | .seq a b=>Jh (HK A f a) (HK A f b)
 | .cond _ a b=>Jh (HK A f a) (HK A f b)
 | .block _ b=>HK A f b
 | .loop b=>HK A f b
 | _=>true
def Y4:List V→V
 | [w]=>w
 | ws=>.tup ws
def Xy {R:Type} (A:Ann) (fid:FuncId) (fn:Func) (args:List V) (σ:St) (κ:V→List V→Option R):Option R:=
 match Wr A (A.nils fid) σ (VI A fn.resultTypes.toList) fn.results.toList with
 | some vs=>match QV (cat vs (HI A fid σ.sl 0 args)) with
  | true=>match Q3 30 σ.bl (cat vs (HI A fid σ.sl 0 args)) with
   | some (c,ws,b)=>match Jh (Uq (Vo vs ws)) (Hx (Vp vs ws)) with
    | true=>QM c (QD (Y4 (Vo vs ws)) (fun r=>Uw (HJ A fid 0 args (Vp vs ws)) (fun os=>κ r os)))
    | false=>none
   | none=>none
  | false=>none
 | none=>none
def Y5:List Nat→Bool
 | []=>true
 | _=>false
noncomputable def Qg {R:Type} (oc:OC R) (ol:OL R) (A:Ann) (fid:FuncId) (fn:Func) (args:List V) (κ:V→List V→Option R):Option R:=
 match fn.body with
 | some c=>match Jh (QV args) (Jh (Y5 (Jn args)) (bor (J2 (UA A fid 0 args)) (HK A fid c))) with
  | true=>Uw (Y2 fn.ntmps args).sl (fun sl=>Hh (Y2 fn.ntmps args).bl (fun b=>
   Q9 oc ol A fid c ⟨sl,b⟩ (fun e σ=>match e with
   | .normal=>Xy A fid fn args σ κ
   | .ret=>Xy A fid fn args σ κ
   | .exit _=>none)))
  | false=>none
 | none=>none
end Go.Rai
namespace Go.Rai
variable [Inhabited Qe]
def Ql (sl sl':List V) (xs:List Operand):Prop:=∀ x ∈ xs,opd sl' x=opd sl x
theorem Hs {sl sl':List V}:∀ {xs:List Operand},(∀ t ∈ Ue xs,Jy sl' t=Jy sl t)→Ql sl sl' xs
 | [],_=>fun x hx=>by cases hx
 | y :: ys,h=>by
  intro x hx
  have hr:Ql sl sl' ys:=Hs (fun t ht=>h t (by cases y <;> simp [Ue,ht]))
  rcases List.mem_cons.1 hx with rfl | hx
  ·cases x with
   | tmp t=>exact h t (by simp [Ue])
   | _=>rfl
  ·exact hr x hx
theorem Ql.map {sl sl':List V}:∀ {xs:List Operand},Ql sl sl' xs→Jo sl' xs=Jo sl xs
 | [],_=>rfl
 | x :: xs,h=>by
  simp only [Jo]
  rw [h x (by simp),Ql.map (xs:=xs) (fun y hy=>h y (by simp [hy]))]
theorem Ql.opds {sl sl':List V}:∀ {ps:List (Nat × Operand)},Ql sl sl' (ps.map (·.2))→HN sl' ps=HN sl ps
 | [],_=>rfl
 | (i,x) :: ps,h=>by
  simp only [HN]
  rw [h x (by simp),Ql.opds (ps:=ps) (fun y hy=>h y (by simp at hy ⊢; exact .inr hy))]
theorem Ql.opt {sl sl':List V} {x:Option Operand} (h:Ql sl sl' (Wh x)):QN sl' x=QN sl x:=by
 cases x with
 | none=>rfl
 | some x=>simp only [QN]; rw [h x (by simp [Wh])]
def QS (b b':BL) (T:List Nat):Prop:=∀ s ∈ T,Jb b' s=Jb b s
theorem QS.sub {b b':BL} {T T':List Nat} (h:QS b b' T) (hs:∀ s ∈ T',s ∈ T):QS b b' T':=fun s hs'=>h s (hs s hs')
theorem H1 {b b':BL} {s:Nat} {p:List Nat} (h:Jb b' s=Jb b s):J1 b' s p=J1 b s p:=by
 unfold J1; rw [h]
theorem Xz {b b':BL} {x:V} (h:QS b b' (Jf x)):UP b' x=UP b x:=by
 cases x with
 | full s p e=>simp only [UP,H1 (h s (by simp [Jf]))]
 | sub s p o l e=>simp only [UP,H1 (h s (by simp [Jf]))]
 | _=>rfl
theorem SS {b b':BL} {x:V} (h:QS b b' (Jf x)):C9 b' x=C9 b x:=by
 have:=Xz h
 cases x <;> simp only [C9,this]
theorem M7 {t:Ty} {b b':BL} {op:BinOp} {x y:V} (hx:QS b b' (Jf x)) (hy:QS b b' (Jf y)):OK t b' op x y=OK t b op x y:=by
 have h1:=SS hx
 have h2:=SS hy
 unfold OK
 split <;> first | rfl | (simp only [h1]) | (simp only [h2])
def H2 (b b':BL) (r r':G Out):Prop:=∀ c v b1,r=some (c,v,b1)→b1=b∧r'=some (c,v,b')
theorem Qj {b b':BL} {c:List Jm} {v:V}:H2 b b' (some (c,v,b)) (some (c,v,b')):=by
 intro c1 v1 b1 h
 simp only [oj,pj] at h
 obtain ⟨rfl,rfl,rfl⟩:=h
 exact ⟨rfl,rfl⟩
theorem JC {b b':BL} {r:G Out}:H2 b b' none r:=by intro c1 v1 b1 h; cases h
theorem M8 {t:Ty} {b b':BL} {a:V} (h:QS b b' (Jf a)):H2 b b' (H8 t b a) (H8 t b' a):=by
 cases a with
 | ptr s p=>
  simp only [H8,H1 (h s (by simp [Jf]))]
  split
  ·split
   ·exact Qj
   ·exact JC
  ·exact JC
 | rp x=>
  simp only [H8]
  split
  ·exact Qj
  ·exact JC
 | _=>exact JC
theorem M9 {t:Ty} {b b':BL} {f:Nat} {a:V} (h:QS b b' (Jf a)):H2 b b' (Ob t b f a) (Ob t b' f a):=by
 cases t with
 | struct fs=>
  cases a with
  | ptr s p=>
   simp only [Ob,H1 (h s (by simp [Jf]))]
   split
   ·split
    ·split
     ·exact Qj
     ·exact JC
    ·exact JC
   ·exact JC
  | rp x=>
   cases x with
   | agg vs=>
    simp only [Ob]
    split
    ·split
     ·exact Qj
     ·exact JC
    ·exact JC
   | _=>exact JC
  | _=>exact JC
 | _=>exact JC
theorem ja {t:Ty} {b b':BL} {x i:V} (h:QS b b' (Jf x)):H2 b b' (Cn t b x i) (Cn t b' x i):=by
 unfold Cn
 split
 ·split
  ·split
   ·split
    ·exact Qj
    ·exact JC
   ·rw [H1 (h _ (by simp [Jf]))]
    split
    ·split
     ·exact Qj
     ·exact JC
    ·exact JC
   ·rw [H1 (h _ (by simp [Jf]))]
    split
    ·split
     ·exact Qj
     ·exact JC
    ·exact JC
   ·exact JC
  ·split
   ·rw [H1 (h _ (by simp [Jf]))]
    split
    ·split
     ·exact Qj
     ·exact JC
    ·exact JC
   ·split
    ·exact Qj
    ·exact JC
   ·exact JC
  ·exact JC
 ·exact JC
theorem jb {b b':BL} {x i:V}:H2 b b' (OP x i b) (OP x i b'):=by
 unfold OP
 split
 ·exact Qj
 ·exact JC
theorem jc {t:Ty} {b b':BL} {x:V} {lo hi mx:Option V} (h:QS b b' (Jf x)):H2 b b' (OO t b x lo hi mx) (OO t b' x lo hi mx):=by
 unfold OO
 split
 ·split
  ·split
   ·split
    ·exact Qj
    ·exact JC
   ·exact JC
  ·split
   ·split
    ·split
     ·split
      ·split
       ·rw [H1 (h _ (by simp [Jf]))]
        split
        ·split
         ·exact Qj
         ·exact JC
        ·exact JC
       ·exact JC
      ·exact JC
     ·exact JC
    ·exact JC
   ·exact JC
  ·exact JC
 ·split
  ·split
   ·split
    ·exact Qj
    ·exact JC
   ·exact JC
  ·split
   ·split
    ·exact Qj
    ·exact JC
   ·exact JC
  ·split
   ·split
    ·exact Qj
    ·exact JC
   ·exact JC
  ·rw [H1 (h _ (by simp [Jf]))]
   split
   ·split
    ·split
     ·exact Qj
     ·exact JC
    ·exact JC
   ·exact JC
  ·split
   ·split
    ·split
     ·exact Qj
     ·exact JC
    ·rw [H1 (h _ (by simp [Jf]))]
     split
     ·split
      ·split
       ·exact Qj
       ·exact JC
      ·exact JC
     ·exact JC
   ·exact JC
  ·exact JC
theorem jd {A:Ann} {sl sl':List V} {b b':BL} {d:Option Nat} {ts:List TypeId} {xs:List V} (h:QS b b' (Jn xs)):H2 b b' (Qd A sl b d .len ts xs) (Qd A sl' b' d .len ts xs):=by
 cases xs with
 | nil=>exact JC
 | cons x r=>
  cases r with
  | cons y r=>exact JC
  | nil=>
   have hx:QS b b' (Jf x):=h.sub (fun s hs=>by simp [Jn,Jv,hs])
   simp only [Qd]
   split
   ·split
    ·split
     ·exact Qj
     ·exact JC
    ·split
     ·exact Qj
     ·exact Qj
     ·exact Qj
     ·rw [Xz hx]
      split
      ·exact Qj
      ·exact JC
    ·exact JC
   ·exact JC
theorem ST {A:Ann} {sl sl':List V} {b b':BL} {d:Option Nat} {ts:List TypeId} {xs:List V} {f:Builtin} (hf:f=.max ∨ f=.min):H2 b b' (Qd A sl b d f ts xs) (Qd A sl' b' d f ts xs):=by
 unfold Qd
 rcases hf with rfl | rfl <;> cases xs with
 | nil=>exact JC
 | cons x r=>
  simp only
  split
  ·exact Qj
  ·exact JC
section
variable {A:Ann} {sl sl':List V} {b b':BL} {d:Option Nat} {op:Op}
theorem Y6 (hcl:(match cls op with | .read=>true | _=>false)=true) (ho:Ql sl sl' (Jp op)) (hb:QS b b' (Jn (Jo sl (Jp op)))):H2 b b' (JI A sl b d op) (JI A sl' b' d op):=by
 cases op with
 | move x=>simp only [JI]; rw [ho x (by simp [Jp])]; exact Qj
 | assign x=>simp only [JI]; rw [ho x (by simp [Jp])]; exact Qj
 | pick c x y=>
  simp only [JI]; rw [ho c (by simp [Jp]),ho x (by simp [Jp]),ho y (by simp [Jp])]
  split
  ·exact Qj
  ·exact JC
 | build t ps=>
  simp only [JI]
  rw [Ql.opds (sl:=sl) (sl':=sl') (ps:=ps.toList) (by simpa [Jp] using ho)]
  split
  ·split
   ·split
    ·exact Qj
    ·exact JC
   ·exact JC
  ·exact JC
 | load t a=>
  simp only [JI]; rw [ho a (by simp [Jp])]
  exact M8 (hb.sub (fun s hs=>by simp [Jp,Jo,Jn,Jv,hs]))
 | nilCheck x=>
  simp only [JI]; rw [ho x (by simp [Jp])]
  split <;> first | exact Qj | exact JC
 | binOp o t x y t2=>
  simp only [JI]; rw [ho x (by simp [Jp]),ho y (by simp [Jp]),M7 (b:=b) (b':=b') (hb.sub (fun s hs=>by simp [Jp,Jo,Jn,Jv,hs])) (hb.sub (fun s hs=>by simp [Jp,Jo,Jn,Jv,hs]))]
  split
  ·exact Qj
  ·exact JC
 | unOp o t x=>
  simp only [JI]; rw [ho x (by simp [Jp])]
  split
  ·exact Qj
  ·exact JC
 | convert s t x=>
  simp only [JI]; rw [ho x (by simp [Jp])]
  split
  ·split
   ·unfold WP
    split
    ·rw [Xz (hb.sub (fun s hs=>by simp [Jp,Jo,Jn,Jv,hs]))]
     split
     ·split
      ·exact Qj
      ·exact JC
     ·exact JC
    ·exact JC
   ·exact JC
  ·split <;> first | exact Qj | exact JC
 | makeFunc fn first caps=>
  simp only [JI]
  rw [Ql.map (sl:=sl) (sl':=sl') (xs:=caps.toList) (by simpa [Jp] using ho)]
  split
  ·split
   ·exact Qj
   ·exact JC
  ·exact JC
 | slice t x lo hi mx=>
  simp only [JI]
  rw [ho x (by simp [Jp]),Ql.opt (sl:=sl) (sl':=sl') (x:=lo) (fun y hy=>ho y (by simp [Jp,J8,hy])),Ql.opt (sl:=sl) (sl':=sl') (x:=hi) (fun y hy=>ho y (by simp [Jp,J8,hy])),Ql.opt (sl:=sl) (sl':=sl') (x:=mx) (fun y hy=>ho y (by simp [Jp,J8,hy]))]
  exact jc (hb.sub (fun s hs=>by simp [Jp,Jo,Jn,Jv,hs]))
 | fieldAddr t x f=>
  simp only [JI]; rw [ho x (by simp [Jp])]
  exact M9 (hb.sub (fun s hs=>by simp [Jp,Jo,Jn,Jv,hs]))
 | field t x f=>
  simp only [JI]; rw [ho x (by simp [Jp])]
  split
  ·exact Qj
  ·exact JC
 | indexAddr t x i=>
  simp only [JI]; rw [ho x (by simp [Jp]),ho i (by simp [Jp])]
  exact ja (hb.sub (fun s hs=>by simp [Jp,Jo,Jn,Jv,hs]))
 | index t x i=>
  simp only [JI]; rw [ho x (by simp [Jp]),ho i (by simp [Jp])]
  split
  ·exact jb
  ·exact JC
 | extract x i=>
  simp only [JI]; rw [ho x (by simp [Jp])]
  split
  ·split
   ·exact Qj
   ·exact JC
  ·exact JC
 | call c=>
  simp only [JI]
  cases hc:c.callee with
  | builtin f=>
   have hops:Jp (.call c)=c.args.toList:=by simp [Jp,hc]
   rw [hops] at ho hb
   simp only
   rw [Ql.map ho]
   cases f with
   | len=>exact jd hb
   | max=>exact ST (.inl rfl)
   | min=>exact ST (.inr rfl)
   | _=>simp [cls,hc] at hcl
  | _=>simp [cls,hc] at hcl
 | _=>simp [cls] at hcl
end
end Go.Rai
