/- Models of Go functions and their contracts, printed by a program of this session. -/
import Derived.Test.YtdoaceeakjbgfaaClMFnOrderx0
set_option linter.unusedVariables false
set_option maxRecDepth 100000
namespace Go.Proofs.Ytdoaceeakjbgfaa
open Go Go.Rai
noncomputable section
/-!-/
abbrev T_Z62:=List D→List D→List D→List D→Int→Int→List D→Option (List D)
def c_Z62 {R:Type} (F:T_Z62) (x0 x1 x2 x3:List D) (x4 x5:Int) (x6:List D) (k:List D→Option R):Option R:=
 bif decide (x5<x4) then
 if 0≤x5∧x5<(↑x3.length:Int) then
 if (0:Int)≤(x3.getD x5.toNat (D.int 0)).toInt∧(x3.getD x5.toNat (D.int 0)).toInt<(↑x0.length:Int) then
 if x6.length + [D.int (x0.getD (x3.getD x5.toNat (D.int 0)).toInt.toNat (D.int 0)).toInt].length≤(4294967296:Nat) then
 (F x0 x1 x2 x3 x4 (IntKind.i64.wrap (x5 + 1)) (x6 ++ [D.int (x0.getD (x3.getD x5.toNat (D.int 0)).toInt.toNat (D.int 0)).toInt])).bind k
 else
 none
 else
 none
 else
 none
 else
 k x6
theorem c_Z62_bind {R:Type} (F:T_Z62) (x0 x1 x2 x3:List D) (x4 x5:Int) (x6:List D) (k:List D→Option R):c_Z62 F x0 x1 x2 x3 x4 x5 x6 k=(c_Z62 F x0 x1 x2 x3 x4 x5 x6 some).bind k:=by
 unfold c_Z62
 repeat' first|exact bnd_tail|exact bnd_none|exact bnd_leaf|apply bnd_ite|apply bnd_cond|apply bnd_sum|(apply bnd_bind;intro _)|intro _
def n_Z62:Nat→T_Z62
 | 0,_,_,_,_,_,_,_=>none
 | n + 1,x0,x1,x2,x3,x4,x5,x6=>c_Z62 (n_Z62 n) x0 x1 x2 x3 x4 x5 x6 some
noncomputable def Z62 (x0 x1 x2 x3:List D) (x4 x5:Int) (x6:List D):Option (List D):=ev (fun n=>n_Z62 n x0 x1 x2 x3 x4 x5 x6)
def m_Z62 (F:T_Z62):Lent:=⟨3,⟨(.rp (.agg [.rd (.int .i64),.rd (.slice (.bool)),.rd (.slice (.bool))]) :: uu 4 (.full 1000 [] (.int .i64) :: .undef :: .undef :: .undef :: .rd (.int .i64) :: .int .i64 :: .int .i64 :: uu 15 ([]))),[(1000,.own (.int .i64))]⟩,[(.exit 0,⟨(uu 5 (.full 1000 [] (.int .i64) :: uu 21 ([]))),[(1000,.own (.int .i64))]⟩)],fun _ ds k=>dL (fun x0 ds=>dL (fun x1 ds=>dL (fun x2 ds=>dL (fun x3 ds=>dI (fun x4 ds=>dI (fun x5 ds=>dL (fun x6 ds=>dE ((F x0 x1 x2 x3 x4 x5 x6).bind (fun y=>k 0 [.L y])) ds) ds) ds) ds) ds) ds) ds) ds⟩
theorem q_Z62 (F:T_Z62) (x0 x1 x2 x3:List D) (x4 x5:Int) (x6:List D):runLoop (ocOf []) (olOf [m_Z62 F]) A 135 (codeAt (bodyOf Try.f135) 3) ((m_Z62 F).sh.mk' [.L x0,.L x1,.L x2,.L x3,.I x4,.I x5,.L x6]) (fun e σ'=>some (e,σ'))=c_Z62 F x0 x1 x2 x3 x4 x5 x6 (fun y=>some (.exit 0,SSt.mk' ⟨(uu 5 (.full 1000 [] (.int .i64) :: uu 21 ([]))),[(1000,.own (.int .i64))]⟩ [.L y])):=by kernel_rfl
theorem m_Z62_ok:∀ n,(m_Z62 (n_Z62 n)).ok Try.prog (codeAt (bodyOf Try.f135) 3):=by
 intro n
 induction n with
 | zero=>
  intro R ds k r h
  unfold m_Z62 at h
  obtain ⟨_,_,rfl,h⟩:=dL_some h
  obtain ⟨_,_,rfl,h⟩:=dL_some h
  obtain ⟨_,_,rfl,h⟩:=dL_some h
  obtain ⟨_,_,rfl,h⟩:=dL_some h
  obtain ⟨_,_,rfl,h⟩:=dI_some h
  obtain ⟨_,_,rfl,h⟩:=dI_some h
  obtain ⟨_,_,rfl,h⟩:=dL_some h
  obtain ⟨rfl,hE⟩:=dE_some h
  obtain ⟨y,hy,hk⟩:=bnd_some hE
  cases hy
 | succ n ih=>
  intro R ds k r h
  unfold m_Z62 at h
  obtain ⟨_,_,rfl,h⟩:=dL_some h
  obtain ⟨_,_,rfl,h⟩:=dL_some h
  obtain ⟨_,_,rfl,h⟩:=dL_some h
  obtain ⟨_,_,rfl,h⟩:=dL_some h
  obtain ⟨_,_,rfl,h⟩:=dI_some h
  obtain ⟨_,_,rfl,h⟩:=dI_some h
  obtain ⟨_,_,rfl,h⟩:=dL_some h
  obtain ⟨rfl,hE⟩:=dE_some h
  obtain ⟨y,hy,hk⟩:=bnd_some hE
  exact ⟨0,_,_,_,hk,rfl,loop_ok px (fx:=⟨Try.func135,by kernel_rfl,by kernel_rfl⟩) entsOK_nil (lentsOK_cons ih lentsOK_nil) (by kernel_rfl) ((q_Z62 ..).trans ((c_Z62_bind ..).trans (bnd_to hy)))⟩
noncomputable def e_Z62:Lent:=m_Z62 (Z62)
theorem e_Z62_ok:(e_Z62).ok Try.prog (codeAt (bodyOf Try.f135) 3):=by
 intro R ds k r h
 unfold e_Z62 m_Z62 at h
 obtain ⟨_,_,rfl,h⟩:=dL_some h
 obtain ⟨_,_,rfl,h⟩:=dL_some h
 obtain ⟨_,_,rfl,h⟩:=dL_some h
 obtain ⟨_,_,rfl,h⟩:=dL_some h
 obtain ⟨_,_,rfl,h⟩:=dI_some h
 obtain ⟨_,_,rfl,h⟩:=dI_some h
 obtain ⟨_,_,rfl,h⟩:=dL_some h
 obtain ⟨rfl,hE⟩:=dE_some h
 obtain ⟨y,hy,hk⟩:=bnd_some hE
 obtain ⟨n,hn⟩:=ev_some hy
 exact m_Z62_ok n R _ k r ((bnd_to hn).trans hk)

/-!-/
def c_Z63 {R:Type} (x0 x1 x2 x3:List D) (k:List D→Option R):Option R:=
 (Z62 x0 x1 x2 x3 (↑x3.length:Int) (0:Int) []).bind (fun y0=>
 k y0)
theorem c_Z63_bind {R:Type} (x0 x1 x2 x3:List D) (k:List D→Option R):c_Z63 x0 x1 x2 x3 k=(c_Z63 x0 x1 x2 x3 some).bind k:=by
 unfold c_Z63
 repeat' first|exact bnd_tail|exact bnd_none|exact bnd_leaf|apply bnd_ite|apply bnd_cond|apply bnd_sum|(apply bnd_bind;intro _)|intro _
def Z63 (x0 x1 x2 x3:List D):Option (List D):=c_Z63 x0 x1 x2 x3 some
def e_Z63:Ent:=⟨135,[.rp (.agg [.rd (.int .i64),.rd (.slice (.bool)),.rd (.slice (.bool))]),.rd (.int .i64)],[(.own (.int .i64),[.undef,.undef])],fun _ ds k=>dL (fun x0 ds=>dL (fun x1 ds=>dL (fun x2 ds=>dL (fun x3 ds=>dE ((Z63 x0 x1 x2 x3).bind (fun y=>k 0 [.L y])) ds) ds) ds) ds) ds⟩
theorem q_Z63 (x0 x1 x2 x3:List D):runFn (ocOf []) (olOf [e_Z62]) A 135 Try.f135 (Sh.mks e_Z63.sh [.L x0,.L x1,.L x2,.L x3]).1 (fun v os=>some (v,os))=c_Z63 x0 x1 x2 x3 (fun y=>retO e_Z63 0 [.L y]):=by kernel_rfl
theorem e_Z63_ok:e_Z63.ok Try.prog A:=by
 intro R ds k r h
 unfold e_Z63 at h
 obtain ⟨_,_,rfl,h⟩:=dL_some h
 obtain ⟨_,_,rfl,h⟩:=dL_some h
 obtain ⟨_,_,rfl,h⟩:=dL_some h
 obtain ⟨_,_,rfl,h⟩:=dL_some h
 obtain ⟨rfl,hE⟩:=dE_some h
 obtain ⟨y,hy,hk⟩:=bnd_some hE
 exact ⟨0,_,_,_,hk,rfl,fn_ok px (fx:=⟨Try.func135,by kernel_rfl,by kernel_rfl⟩) entsOK_nil (lentsOK_cons e_Z62_ok lentsOK_nil) ((q_Z63 ..).trans ((c_Z63_bind ..).trans (bnd_to hy)))⟩

/-!-/
def c_Z64 {R:Type} (x0 x1:List D) (x2 x3:Int) (k:List D × Bool × Bool→Option R):Option R:=
 (Z41 x0 x1 x2).bind (fun y0=>
 bif !y0 then
 k ([],Bool.false,Bool.false)
 else
 (Z41 x0 x1 x3).bind (fun y1=>
 bif !y1 then
 k ([],Bool.false,Bool.false)
 else
 (Z54 x0 x1).bind (fun y2=>
 (Z33 x0 x1 x2).bind (fun y3=>
 (Z33 x0 x1 x3).bind (fun y4=>
 (Z61 y2.fst y2.snd.fst y2.snd.snd y3 y4 (0:Int)).bind (Sum.elim (fun y5=>
 (Z63 y2.fst y2.snd.fst y2.snd.snd []).bind (fun y6=>
 k (y6,Bool.false,Bool.true))) (fun y7=>
 (Z63 y2.fst y2.snd.fst y2.snd.snd y7).bind (fun y8=>
 if (1:Nat)≤y7.length then
 k (y8,Bool.true,Bool.true)
 else
 none))))))))
theorem c_Z64_bind {R:Type} (x0 x1:List D) (x2 x3:Int) (k:List D × Bool × Bool→Option R):c_Z64 x0 x1 x2 x3 k=(c_Z64 x0 x1 x2 x3 some).bind k:=by
 unfold c_Z64
 repeat' first|exact bnd_tail|exact bnd_none|exact bnd_leaf|apply bnd_ite|apply bnd_cond|apply bnd_sum|(apply bnd_bind;intro _)|intro _
def Z64 (x0 x1:List D) (x2 x3:Int):Option (List D × Bool × Bool):=c_Z64 x0 x1 x2 x3 some
def e_Z64:Ent:=⟨53,[.agg [.rd (.struct [.int .i64,.int .i64]),.rd (.struct [.int .i64,.int .i64])],.int .i64,.int .i64],[(.tup [.own (.int .i64),.bool,.bool],[.undef,.undef,.undef])],fun _ ds k=>dL (fun x0 ds=>dL (fun x1 ds=>dI (fun x2 ds=>dI (fun x3 ds=>dE ((Z64 x0 x1 x2 x3).bind (fun y=>k 0 [.L y.1,.B y.2.1,.B y.2.2])) ds) ds) ds) ds) ds⟩
theorem q_Z64 (x0 x1:List D) (x2 x3:Int):runFn (ocOf [e_Z41,e_Z54,e_Z33,e_Z61,e_Z63]) (olOf []) A 53 Try.f53 (Sh.mks e_Z64.sh [.L x0,.L x1,.I x2,.I x3]).1 (fun v os=>some (v,os))=c_Z64 x0 x1 x2 x3 (fun y=>retO e_Z64 0 [.L y.1,.B y.2.1,.B y.2.2]):=by kernel_rfl
theorem e_Z64_ok:e_Z64.ok Try.prog A:=by
 intro R ds k r h
 unfold e_Z64 at h
 obtain ⟨_,_,rfl,h⟩:=dL_some h
 obtain ⟨_,_,rfl,h⟩:=dL_some h
 obtain ⟨_,_,rfl,h⟩:=dI_some h
 obtain ⟨_,_,rfl,h⟩:=dI_some h
 obtain ⟨rfl,hE⟩:=dE_some h
 obtain ⟨y,hy,hk⟩:=bnd_some hE
 exact ⟨0,_,_,_,hk,rfl,fn_ok px (fx:=⟨Try.func53,by kernel_rfl,by kernel_rfl⟩) (entsOK_cons e_Z41_ok (entsOK_cons e_Z54_ok (entsOK_cons e_Z33_ok (entsOK_cons e_Z61_ok (entsOK_cons e_Z63_ok entsOK_nil))))) lentsOK_nil ((q_Z64 ..).trans ((c_Z64_bind ..).trans (bnd_to hy)))⟩

/-!-/
def c_Z65 {R:Type} (x0 x1:List D) (x2 x3:Int) (k:Bool × Bool→Option R):Option R:=
 (Z41 x0 x1 x2).bind (fun y0=>
 bif !y0 then
 k (Bool.false,Bool.false)
 else
 (Z41 x0 x1 x3).bind (fun y1=>
 bif !y1 then
 k (Bool.false,Bool.false)
 else
 (Z54 x0 x1).bind (fun y2=>
 (Z33 x0 x1 x2).bind (fun y3=>
 if 0≤y3∧y3<(↑y2.snd.snd.length:Int) then
 if y3.toNat + 1≤y2.snd.snd.length then
 (Z33 x0 x1 x3).bind (fun y4=>
 if y3.toNat + 1≤y2.snd.snd.length then
 if 0≤y4∧y4<(↑(y2.snd.snd.getD y3.toNat (D.int 0)).items.length:Int) then
 if y3.toNat + 1≤y2.snd.snd.length then
 if y4.toNat + 1≤(y2.snd.snd.getD y3.toNat (D.int 0)).items.length then
 k (((y2.snd.snd.getD y3.toNat (D.int 0)).items.getD y4.toNat (D.int 0)).toBool,Bool.true)
 else
 none
 else
 none
 else
 none
 else
 none)
 else
 none
 else
 none))))
theorem c_Z65_bind {R:Type} (x0 x1:List D) (x2 x3:Int) (k:Bool × Bool→Option R):c_Z65 x0 x1 x2 x3 k=(c_Z65 x0 x1 x2 x3 some).bind k:=by
 unfold c_Z65
 repeat' first|exact bnd_tail|exact bnd_none|exact bnd_leaf|apply bnd_ite|apply bnd_cond|apply bnd_sum|(apply bnd_bind;intro _)|intro _
def Z65 (x0 x1:List D) (x2 x3:Int):Option (Bool × Bool):=c_Z65 x0 x1 x2 x3 some
def e_Z65:Ent:=⟨46,[.agg [.rd (.struct [.int .i64,.int .i64]),.rd (.struct [.int .i64,.int .i64])],.int .i64,.int .i64],[(.tup [.bool,.bool],[.undef,.undef,.undef])],fun _ ds k=>dL (fun x0 ds=>dL (fun x1 ds=>dI (fun x2 ds=>dI (fun x3 ds=>dE ((Z65 x0 x1 x2 x3).bind (fun y=>k 0 [.B y.1,.B y.2])) ds) ds) ds) ds) ds⟩
theorem q_Z65 (x0 x1:List D) (x2 x3:Int):runFn (ocOf [e_Z41,e_Z54,e_Z33]) (olOf []) A 46 Try.f46 (Sh.mks e_Z65.sh [.L x0,.L x1,.I x2,.I x3]).1 (fun v os=>some (v,os))=c_Z65 x0 x1 x2 x3 (fun y=>retO e_Z65 0 [.B y.1,.B y.2]):=by kernel_rfl
theorem e_Z65_ok:e_Z65.ok Try.prog A:=by
 intro R ds k r h
 unfold e_Z65 at h
 obtain ⟨_,_,rfl,h⟩:=dL_some h
 obtain ⟨_,_,rfl,h⟩:=dL_some h
 obtain ⟨_,_,rfl,h⟩:=dI_some h
 obtain ⟨_,_,rfl,h⟩:=dI_some h
 obtain ⟨rfl,hE⟩:=dE_some h
 obtain ⟨y,hy,hk⟩:=bnd_some hE
 exact ⟨0,_,_,_,hk,rfl,fn_ok px (fx:=⟨Try.func46,by kernel_rfl,by kernel_rfl⟩) (entsOK_cons e_Z41_ok (entsOK_cons e_Z54_ok (entsOK_cons e_Z33_ok entsOK_nil))) lentsOK_nil ((q_Z65 ..).trans ((c_Z65_bind ..).trans (bnd_to hy)))⟩

/-!-/
abbrev T_Z66:=Int→Int→List D→List D→Option ((Int) ⊕ (Unit))
def c_Z66 {R:Type} (F:T_Z66) (x0 x1:Int) (x2 x3:List D) (k:(Int) ⊕ (Unit)→Option R):Option R:=
 bif decide (x1<(↑x2.length:Int)) then
 if 0≤x1∧x1<(↑x2.length:Int) then
 bif decide (((x2.getD x1.toNat (D.int 0)).fld (0:Nat)).toInt=x0) then
 k (.inl x1)
 else
 (F x0 (IntKind.i64.wrap (x1 + 1)) x2 x3).bind k
 else
 none
 else
 k (.inr ())
theorem c_Z66_bind {R:Type} (F:T_Z66) (x0 x1:Int) (x2 x3:List D) (k:(Int) ⊕ (Unit)→Option R):c_Z66 F x0 x1 x2 x3 k=(c_Z66 F x0 x1 x2 x3 some).bind k:=by
 unfold c_Z66
 repeat' first|exact bnd_tail|exact bnd_none|exact bnd_leaf|apply bnd_ite|apply bnd_cond|apply bnd_sum|(apply bnd_bind;intro _)|intro _
def n_Z66:Nat→T_Z66
 | 0,_,_,_,_=>none
 | n + 1,x0,x1,x2,x3=>c_Z66 (n_Z66 n) x0 x1 x2 x3 some
noncomputable def Z66 (x0 x1:Int) (x2 x3:List D):Option ((Int) ⊕ (Unit)):=ev (fun n=>n_Z66 n x0 x1 x2 x3)
def m_Z66 (F:T_Z66):Lent:=⟨2,⟨(.undef :: .int .i64 :: .ptr 1000 [0] :: .undef :: .undef :: .int .i64 :: uu 16 ([])),[(1000,.obox (.agg [.rd (.struct [.int .i64,.int .i64]),.rd (.struct [.int .i64,.int .i64])]))]⟩,[(.ret,⟨(uu 4 (.int .i64 :: uu 17 ([]))),[]⟩),(.exit 0,⟨(uu 22 ([])),[]⟩)],fun _ ds k=>dI (fun x0 ds=>dI (fun x1 ds=>dL (fun x2 ds=>dL (fun x3 ds=>dE ((F x0 x1 x2 x3).bind (Sum.elim (fun y=>k 0 [.I y]) (fun y=>k 1 []))) ds) ds) ds) ds) ds⟩
theorem q_Z66 (F:T_Z66) (x0 x1:Int) (x2 x3:List D):runLoop (ocOf []) (olOf [m_Z66 F]) A 141 (codeAt (bodyOf Try.f141) 2) ((m_Z66 F).sh.mk' [.I x0,.I x1,.L x2,.L x3]) (fun e σ'=>some (e,σ'))=c_Z66 F x0 x1 x2 x3 (Sum.elim (fun y=>some (.ret,SSt.mk' ⟨(uu 4 (.int .i64 :: uu 17 ([]))),[]⟩ [.I y])) (fun y=>some (.exit 0,SSt.mk' ⟨(uu 22 ([])),[]⟩ []))):=by kernel_rfl
theorem m_Z66_ok:∀ n,(m_Z66 (n_Z66 n)).ok Try.prog (codeAt (bodyOf Try.f141) 2):=by
 intro n
 induction n with
 | zero=>
  intro R ds k r h
  unfold m_Z66 at h
  obtain ⟨_,_,rfl,h⟩:=dI_some h
  obtain ⟨_,_,rfl,h⟩:=dI_some h
  obtain ⟨_,_,rfl,h⟩:=dL_some h
  obtain ⟨_,_,rfl,h⟩:=dL_some h
  obtain ⟨rfl,hE⟩:=dE_some h
  obtain ⟨y,hy,hk⟩:=bnd_some hE
  cases hy
 | succ n ih=>
  intro R ds k r h
  unfold m_Z66 at h
  obtain ⟨_,_,rfl,h⟩:=dI_some h
  obtain ⟨_,_,rfl,h⟩:=dI_some h
  obtain ⟨_,_,rfl,h⟩:=dL_some h
  obtain ⟨_,_,rfl,h⟩:=dL_some h
  obtain ⟨rfl,hE⟩:=dE_some h
  obtain ⟨y,hy,hk⟩:=bnd_some hE
  cases y with
  | inl y=>
   exact ⟨0,_,_,_,hk,rfl,loop_ok px (fx:=⟨Try.func141,by kernel_rfl,by kernel_rfl⟩) entsOK_nil (lentsOK_cons ih lentsOK_nil) (by kernel_rfl) ((q_Z66 ..).trans ((c_Z66_bind ..).trans (bnd_to hy)))⟩
  | inr y=>
   exact ⟨1,_,_,_,hk,rfl,loop_ok px (fx:=⟨Try.func141,by kernel_rfl,by kernel_rfl⟩) entsOK_nil (lentsOK_cons ih lentsOK_nil) (by kernel_rfl) ((q_Z66 ..).trans ((c_Z66_bind ..).trans (bnd_to hy)))⟩
noncomputable def e_Z66:Lent:=m_Z66 (Z66)
theorem e_Z66_ok:(e_Z66).ok Try.prog (codeAt (bodyOf Try.f141) 2):=by
 intro R ds k r h
 unfold e_Z66 m_Z66 at h
 obtain ⟨_,_,rfl,h⟩:=dI_some h
 obtain ⟨_,_,rfl,h⟩:=dI_some h
 obtain ⟨_,_,rfl,h⟩:=dL_some h
 obtain ⟨_,_,rfl,h⟩:=dL_some h
 obtain ⟨rfl,hE⟩:=dE_some h
 obtain ⟨y,hy,hk⟩:=bnd_some hE
 obtain ⟨n,hn⟩:=ev_some hy
 exact m_Z66_ok n R _ k r ((bnd_to hn).trans hk)

/-!-/
def c_Z67 {R:Type} (x0 x1:List D) (x2:Int) (k:Int→Option R):Option R:=
 (Z66 x2 (0:Int) x0 x1).bind (Sum.elim (fun y0=>
 k y0) (fun y1=>
 k (-1:Int)))
theorem c_Z67_bind {R:Type} (x0 x1:List D) (x2:Int) (k:Int→Option R):c_Z67 x0 x1 x2 k=(c_Z67 x0 x1 x2 some).bind k:=by
 unfold c_Z67
 repeat' first|exact bnd_tail|exact bnd_none|exact bnd_leaf|apply bnd_ite|apply bnd_cond|apply bnd_sum|(apply bnd_bind;intro _)|intro _
def Z67 (x0 x1:List D) (x2:Int):Option (Int):=c_Z67 x0 x1 x2 some
def e_Z67:Ent:=⟨141,[.agg [.rd (.struct [.int .i64,.int .i64]),.rd (.struct [.int .i64,.int .i64])],.int .i64],[(.int .i64,[.undef,.undef])],fun _ ds k=>dL (fun x0 ds=>dL (fun x1 ds=>dI (fun x2 ds=>dE ((Z67 x0 x1 x2).bind (fun y=>k 0 [.I y])) ds) ds) ds) ds⟩
theorem q_Z67 (x0 x1:List D) (x2:Int):runFn (ocOf []) (olOf [e_Z66]) A 141 Try.f141 (Sh.mks e_Z67.sh [.L x0,.L x1,.I x2]).1 (fun v os=>some (v,os))=c_Z67 x0 x1 x2 (fun y=>retO e_Z67 0 [.I y]):=by kernel_rfl
theorem e_Z67_ok:e_Z67.ok Try.prog A:=by
 intro R ds k r h
 unfold e_Z67 at h
 obtain ⟨_,_,rfl,h⟩:=dL_some h
 obtain ⟨_,_,rfl,h⟩:=dL_some h
 obtain ⟨_,_,rfl,h⟩:=dI_some h
 obtain ⟨rfl,hE⟩:=dE_some h
 obtain ⟨y,hy,hk⟩:=bnd_some hE
 exact ⟨0,_,_,_,hk,rfl,fn_ok px (fx:=⟨Try.func141,by kernel_rfl,by kernel_rfl⟩) entsOK_nil (lentsOK_cons e_Z66_ok lentsOK_nil) ((q_Z67 ..).trans ((c_Z67_bind ..).trans (bnd_to hy)))⟩

/-!-/
def c_Z68 {R:Type} (x0 x1 x2:Int) (k:Bool→Option R):Option R:=
 bif decide (x1≤x0) then
 k (decide (x0≤x2))
 else
 k Bool.false
theorem c_Z68_bind {R:Type} (x0 x1 x2:Int) (k:Bool→Option R):c_Z68 x0 x1 x2 k=(c_Z68 x0 x1 x2 some).bind k:=by
 unfold c_Z68
 repeat' first|exact bnd_tail|exact bnd_none|exact bnd_leaf|apply bnd_ite|apply bnd_cond|apply bnd_sum|(apply bnd_bind;intro _)|intro _
def Z68 (x0 x1 x2:Int):Option (Bool):=c_Z68 x0 x1 x2 some
def e_Z68:Ent:=⟨108,[.int .i64,.int .i64,.int .i64],[(.bool,[.undef,.undef,.undef])],fun _ ds k=>dI (fun x0 ds=>dI (fun x1 ds=>dI (fun x2 ds=>dE ((Z68 x0 x1 x2).bind (fun y=>k 0 [.B y])) ds) ds) ds) ds⟩
theorem q_Z68 (x0 x1 x2:Int):runFn (ocOf []) (olOf []) A 108 Try.f108 (Sh.mks e_Z68.sh [.I x0,.I x1,.I x2]).1 (fun v os=>some (v,os))=c_Z68 x0 x1 x2 (fun y=>retO e_Z68 0 [.B y]):=by kernel_rfl
theorem e_Z68_ok:e_Z68.ok Try.prog A:=by
 intro R ds k r h
 unfold e_Z68 at h
 obtain ⟨_,_,rfl,h⟩:=dI_some h
 obtain ⟨_,_,rfl,h⟩:=dI_some h
 obtain ⟨_,_,rfl,h⟩:=dI_some h
 obtain ⟨rfl,hE⟩:=dE_some h
 obtain ⟨y,hy,hk⟩:=bnd_some hE
 exact ⟨0,_,_,_,hk,rfl,fn_ok px (fx:=⟨Try.func108,by kernel_rfl,by kernel_rfl⟩) entsOK_nil lentsOK_nil ((q_Z68 ..).trans ((c_Z68_bind ..).trans (bnd_to hy)))⟩

/-!-/
abbrev T_Z69:=Int→List D→List D→Option ((Bool × List D × List D) ⊕ (List D × List D))
def c_Z69 {R:Type} (F:T_Z69) (x0:Int) (x1 x2:List D) (k:(Bool × List D × List D) ⊕ (List D × List D)→Option R):Option R:=
 bif decide (x0<(↑x1.length:Int)) then
 if 0≤x0∧x0<(↑x1.length:Int) then
 (Z68 (((x1.getD x0.toNat (D.int 0)).fld (0:Nat)).toInt) (1:Int) (999:Int)).bind (fun y0=>
 bif !y0 then
 k (.inl (Bool.false,x1,x2))
 else
 (Z68 (((x1.getD x0.toNat (D.int 0)).fld (1:Nat)).toInt) (1:Int) (4:Int)).bind (fun y1=>
 bif !y1 then
 k (.inl (Bool.false,x1,x2))
 else
 bif decide ((0:Int)<x0) then
 if (0:Int)≤IntKind.i64.wrap (x0 - 1)∧IntKind.i64.wrap (x0 - 1)<(↑x1.length:Int) then
 bif decide (((x1.getD x0.toNat (D.int 0)).fld (0:Nat)).toInt≤((x1.getD (IntKind.i64.wrap (x0 - 1)).toNat (D.int 0)).fld (0:Nat)).toInt) then
 k (.inl (Bool.false,x1,x2))
 else
 (F (IntKind.i64.wrap (x0 + 1)) x1 x2).bind k
 else
 none
 else
 (F (IntKind.i64.wrap (x0 + 1)) x1 x2).bind k))
 else
 none
 else
 k (.inr (x1,x2))
theorem c_Z69_bind {R:Type} (F:T_Z69) (x0:Int) (x1 x2:List D) (k:(Bool × List D × List D) ⊕ (List D × List D)→Option R):c_Z69 F x0 x1 x2 k=(c_Z69 F x0 x1 x2 some).bind k:=by
 unfold c_Z69
 repeat' first|exact bnd_tail|exact bnd_none|exact bnd_leaf|apply bnd_ite|apply bnd_cond|apply bnd_sum|(apply bnd_bind;intro _)|intro _
def n_Z69:Nat→T_Z69
 | 0,_,_,_=>none
 | n + 1,x0,x1,x2=>c_Z69 (n_Z69 n) x0 x1 x2 some
noncomputable def Z69 (x0:Int) (x1 x2:List D):Option ((Bool × List D × List D) ⊕ (List D × List D)):=ev (fun n=>n_Z69 n x0 x1 x2)
def m_Z69 (F:T_Z69):Lent:=⟨4,⟨(.undef :: .ptr 1000 [0] :: .undef :: .int .i64 :: uu 97 ([])),[(1000,.obox (.agg [.rd (.struct [.int .i64,.int .i64]),.rd (.struct [.int .i64,.int .i64])]))]⟩,[(.ret,⟨(.undef :: .ptr 1000 [0] :: .bool :: uu 98 ([])),[(1000,.obox (.agg [.rd (.struct [.int .i64,.int .i64]),.rd (.struct [.int .i64,.int .i64])]))]⟩),(.exit 0,⟨(.undef :: .ptr 1000 [0] :: uu 99 ([])),[(1000,.obox (.agg [.rd (.struct [.int .i64,.int .i64]),.rd (.struct [.int .i64,.int .i64])]))]⟩)],fun _ ds k=>dI (fun x0 ds=>dL (fun x1 ds=>dL (fun x2 ds=>dE ((F x0 x1 x2).bind (Sum.elim (fun y=>k 0 [.B y.1,.L y.2.1,.L y.2.2]) (fun y=>k 1 [.L y.1,.L y.2]))) ds) ds) ds) ds⟩
theorem q_Z69 (F:T_Z69) (x0:Int) (x1 x2:List D):runLoop (ocOf [e_Z68]) (olOf [m_Z69 F]) A 100 (codeAt (bodyOf Try.f100) 4) ((m_Z69 F).sh.mk' [.I x0,.L x1,.L x2]) (fun e σ'=>some (e,σ'))=c_Z69 F x0 x1 x2 (Sum.elim (fun y=>some (.ret,SSt.mk' ⟨(.undef :: .ptr 1000 [0] :: .bool :: uu 98 ([])),[(1000,.obox (.agg [.rd (.struct [.int .i64,.int .i64]),.rd (.struct [.int .i64,.int .i64])]))]⟩ [.B y.1,.L y.2.1,.L y.2.2])) (fun y=>some (.exit 0,SSt.mk' ⟨(.undef :: .ptr 1000 [0] :: uu 99 ([])),[(1000,.obox (.agg [.rd (.struct [.int .i64,.int .i64]),.rd (.struct [.int .i64,.int .i64])]))]⟩ [.L y.1,.L y.2]))):=by kernel_rfl
theorem m_Z69_ok:∀ n,(m_Z69 (n_Z69 n)).ok Try.prog (codeAt (bodyOf Try.f100) 4):=by
 intro n
 induction n with
 | zero=>
  intro R ds k r h
  unfold m_Z69 at h
  obtain ⟨_,_,rfl,h⟩:=dI_some h
  obtain ⟨_,_,rfl,h⟩:=dL_some h
  obtain ⟨_,_,rfl,h⟩:=dL_some h
  obtain ⟨rfl,hE⟩:=dE_some h
  obtain ⟨y,hy,hk⟩:=bnd_some hE
  cases hy
 | succ n ih=>
  intro R ds k r h
  unfold m_Z69 at h
  obtain ⟨_,_,rfl,h⟩:=dI_some h
  obtain ⟨_,_,rfl,h⟩:=dL_some h
  obtain ⟨_,_,rfl,h⟩:=dL_some h
  obtain ⟨rfl,hE⟩:=dE_some h
  obtain ⟨y,hy,hk⟩:=bnd_some hE
  cases y with
  | inl y=>
   exact ⟨0,_,_,_,hk,rfl,loop_ok px (fx:=⟨Try.func100,by kernel_rfl,by kernel_rfl⟩) (entsOK_cons e_Z68_ok entsOK_nil) (lentsOK_cons ih lentsOK_nil) (by kernel_rfl) ((q_Z69 ..).trans ((c_Z69_bind ..).trans (bnd_to hy)))⟩
  | inr y=>
   exact ⟨1,_,_,_,hk,rfl,loop_ok px (fx:=⟨Try.func100,by kernel_rfl,by kernel_rfl⟩) (entsOK_cons e_Z68_ok entsOK_nil) (lentsOK_cons ih lentsOK_nil) (by kernel_rfl) ((q_Z69 ..).trans ((c_Z69_bind ..).trans (bnd_to hy)))⟩
noncomputable def e_Z69:Lent:=m_Z69 (Z69)
theorem e_Z69_ok:(e_Z69).ok Try.prog (codeAt (bodyOf Try.f100) 4):=by
 intro R ds k r h
 unfold e_Z69 m_Z69 at h
 obtain ⟨_,_,rfl,h⟩:=dI_some h
 obtain ⟨_,_,rfl,h⟩:=dL_some h
 obtain ⟨_,_,rfl,h⟩:=dL_some h
 obtain ⟨rfl,hE⟩:=dE_some h
 obtain ⟨y,hy,hk⟩:=bnd_some hE
 obtain ⟨n,hn⟩:=ev_some hy
 exact m_Z69_ok n R _ k r ((bnd_to hn).trans hk)

/-!-/
abbrev T_Z70:=Int→List D→List D→Option ((Bool) ⊕ (Unit))
def c_Z70 {R:Type} (F:T_Z70) (x0:Int) (x1 x2:List D) (k:(Bool) ⊕ (Unit)→Option R):Option R:=
 bif decide (x0<(↑x2.length:Int)) then
 if 0≤x0∧x0<(↑x2.length:Int) then
 bif decide (((x2.getD x0.toNat (D.int 0)).fld (0:Nat)).toInt=((x2.getD x0.toNat (D.int 0)).fld (1:Nat)).toInt) then
 k (.inl Bool.false)
 else
 (Z67 x1 x2 (((x2.getD x0.toNat (D.int 0)).fld (0:Nat)).toInt)).bind (fun y0=>
 bif decide (y0<(0:Int)) then
 k (.inl Bool.false)
 else
 (Z67 x1 x2 (((x2.getD x0.toNat (D.int 0)).fld (1:Nat)).toInt)).bind (fun y1=>
 bif decide (y1<(0:Int)) then
 k (.inl Bool.false)
 else
 bif decide ((0:Int)<x0) then
 if (0:Int)≤IntKind.i64.wrap (x0 - 1)∧IntKind.i64.wrap (x0 - 1)<(↑x2.length:Int) then
 (Z6 (((x2.getD (IntKind.i64.wrap (x0 - 1)).toNat (D.int 0)).fld (0:Nat)).toInt) (((x2.getD (IntKind.i64.wrap (x0 - 1)).toNat (D.int 0)).fld (1:Nat)).toInt) (((x2.getD x0.toNat (D.int 0)).fld (0:Nat)).toInt) (((x2.getD x0.toNat (D.int 0)).fld (1:Nat)).toInt)).bind (fun y2=>
 bif !y2 then
 k (.inl Bool.false)
 else
 (F (IntKind.i64.wrap (x0 + 1)) x1 x2).bind k)
 else
 none
 else
 (F (IntKind.i64.wrap (x0 + 1)) x1 x2).bind k))
 else
 none
 else
 k (.inr ())
theorem c_Z70_bind {R:Type} (F:T_Z70) (x0:Int) (x1 x2:List D) (k:(Bool) ⊕ (Unit)→Option R):c_Z70 F x0 x1 x2 k=(c_Z70 F x0 x1 x2 some).bind k:=by
 unfold c_Z70
 repeat' first|exact bnd_tail|exact bnd_none|exact bnd_leaf|apply bnd_ite|apply bnd_cond|apply bnd_sum|(apply bnd_bind;intro _)|intro _
def n_Z70:Nat→T_Z70
 | 0,_,_,_=>none
 | n + 1,x0,x1,x2=>c_Z70 (n_Z70 n) x0 x1 x2 some
noncomputable def Z70 (x0:Int) (x1 x2:List D):Option ((Bool) ⊕ (Unit)):=ev (fun n=>n_Z70 n x0 x1 x2)
def m_Z70 (F:T_Z70):Lent:=⟨10,⟨(.undef :: .ptr 1000 [0] :: .undef :: .undef :: .undef :: .int .i64 :: uu 95 ([])),[(1000,.obox (.agg [.rd (.struct [.int .i64,.int .i64]),.rd (.struct [.int .i64,.int .i64])]))]⟩,[(.ret,⟨(.undef :: .undef :: .bool :: uu 98 ([])),[]⟩),(.exit 2,⟨(uu 101 ([])),[]⟩)],fun _ ds k=>dI (fun x0 ds=>dL (fun x1 ds=>dL (fun x2 ds=>dE ((F x0 x1 x2).bind (Sum.elim (fun y=>k 0 [.B y]) (fun y=>k 1 []))) ds) ds) ds) ds⟩
theorem q_Z70 (F:T_Z70) (x0:Int) (x1 x2:List D):runLoop (ocOf [e_Z67,e_Z6]) (olOf [m_Z70 F]) A 100 (codeAt (bodyOf Try.f100) 10) ((m_Z70 F).sh.mk' [.I x0,.L x1,.L x2]) (fun e σ'=>some (e,σ'))=c_Z70 F x0 x1 x2 (Sum.elim (fun y=>some (.ret,SSt.mk' ⟨(.undef :: .undef :: .bool :: uu 98 ([])),[]⟩ [.B y])) (fun y=>some (.exit 2,SSt.mk' ⟨(uu 101 ([])),[]⟩ []))):=by kernel_rfl
theorem m_Z70_ok:∀ n,(m_Z70 (n_Z70 n)).ok Try.prog (codeAt (bodyOf Try.f100) 10):=by
 intro n
 induction n with
 | zero=>
  intro R ds k r h
  unfold m_Z70 at h
  obtain ⟨_,_,rfl,h⟩:=dI_some h
  obtain ⟨_,_,rfl,h⟩:=dL_some h
  obtain ⟨_,_,rfl,h⟩:=dL_some h
  obtain ⟨rfl,hE⟩:=dE_some h
  obtain ⟨y,hy,hk⟩:=bnd_some hE
  cases hy
 | succ n ih=>
  intro R ds k r h
  unfold m_Z70 at h
  obtain ⟨_,_,rfl,h⟩:=dI_some h
  obtain ⟨_,_,rfl,h⟩:=dL_some h
  obtain ⟨_,_,rfl,h⟩:=dL_some h
  obtain ⟨rfl,hE⟩:=dE_some h
  obtain ⟨y,hy,hk⟩:=bnd_some hE
  cases y with
  | inl y=>
   exact ⟨0,_,_,_,hk,rfl,loop_ok px (fx:=⟨Try.func100,by kernel_rfl,by kernel_rfl⟩) (entsOK_cons e_Z67_ok (entsOK_cons e_Z6_ok entsOK_nil)) (lentsOK_cons ih lentsOK_nil) (by kernel_rfl) ((q_Z70 ..).trans ((c_Z70_bind ..).trans (bnd_to hy)))⟩
  | inr y=>
   exact ⟨1,_,_,_,hk,rfl,loop_ok px (fx:=⟨Try.func100,by kernel_rfl,by kernel_rfl⟩) (entsOK_cons e_Z67_ok (entsOK_cons e_Z6_ok entsOK_nil)) (lentsOK_cons ih lentsOK_nil) (by kernel_rfl) ((q_Z70 ..).trans ((c_Z70_bind ..).trans (bnd_to hy)))⟩
noncomputable def e_Z70:Lent:=m_Z70 (Z70)
theorem e_Z70_ok:(e_Z70).ok Try.prog (codeAt (bodyOf Try.f100) 10):=by
 intro R ds k r h
 unfold e_Z70 m_Z70 at h
 obtain ⟨_,_,rfl,h⟩:=dI_some h
 obtain ⟨_,_,rfl,h⟩:=dL_some h
 obtain ⟨_,_,rfl,h⟩:=dL_some h
 obtain ⟨rfl,hE⟩:=dE_some h
 obtain ⟨y,hy,hk⟩:=bnd_some hE
 obtain ⟨n,hn⟩:=ev_some hy
 exact m_Z70_ok n R _ k r ((bnd_to hn).trans hk)

/-!-/
def c_Z71 {R:Type} (x0 x1:List D) (k:Bool→Option R):Option R:=
 bif decide ((10:Int)<(↑x0.length:Int)) then
 k Bool.false
 else
 bif decide ((24:Int)<(↑x1.length:Int)) then
 k Bool.false
 else
 (Z69 (0:Int) x0 x1).bind (Sum.elim (fun y0=>
 k y0.fst) (fun y1=>
 (Z70 (0:Int) y1.fst y1.snd).bind (Sum.elim (fun y2=>
 k y2) (fun y3=>
 k Bool.true))))
theorem c_Z71_bind {R:Type} (x0 x1:List D) (k:Bool→Option R):c_Z71 x0 x1 k=(c_Z71 x0 x1 some).bind k:=by
 unfold c_Z71
 repeat' first|exact bnd_tail|exact bnd_none|exact bnd_leaf|apply bnd_ite|apply bnd_cond|apply bnd_sum|(apply bnd_bind;intro _)|intro _
def Z71 (x0 x1:List D):Option (Bool):=c_Z71 x0 x1 some
def e_Z71:Ent:=⟨100,[.agg [.rd (.struct [.int .i64,.int .i64]),.rd (.struct [.int .i64,.int .i64])]],[(.bool,[.undef])],fun _ ds k=>dL (fun x0 ds=>dL (fun x1 ds=>dE ((Z71 x0 x1).bind (fun y=>k 0 [.B y])) ds) ds) ds⟩
theorem q_Z71 (x0 x1:List D):runFn (ocOf []) (olOf [e_Z69,e_Z70]) A 100 Try.f100 (Sh.mks e_Z71.sh [.L x0,.L x1]).1 (fun v os=>some (v,os))=c_Z71 x0 x1 (fun y=>retO e_Z71 0 [.B y]):=by kernel_rfl
theorem e_Z71_ok:e_Z71.ok Try.prog A:=by
 intro R ds k r h
 unfold e_Z71 at h
 obtain ⟨_,_,rfl,h⟩:=dL_some h
 obtain ⟨_,_,rfl,h⟩:=dL_some h
 obtain ⟨rfl,hE⟩:=dE_some h
 obtain ⟨y,hy,hk⟩:=bnd_some hE
 exact ⟨0,_,_,_,hk,rfl,fn_ok px (fx:=⟨Try.func100,by kernel_rfl,by kernel_rfl⟩) entsOK_nil (lentsOK_cons e_Z69_ok (lentsOK_cons e_Z70_ok lentsOK_nil)) ((q_Z71 ..).trans ((c_Z71_bind ..).trans (bnd_to hy)))⟩

/-!-/
abbrev T_Z72:=Int→List D→List D→List D→Option (List D)
def c_Z72 {R:Type} (F:T_Z72) (x0:Int) (x1 x2 x3:List D) (k:List D→Option R):Option R:=
 bif decide (x0<(↑x2.length:Int)) then
 if 0≤x0∧x0<(↑x2.length:Int) then
 (Z67 x1 x2 (((x2.getD x0.toNat (D.int 0)).fld (0:Nat)).toInt)).bind (fun y0=>
 if 0≤x0∧x0<(↑x2.length:Int) then
 (Z67 x1 x2 (((x2.getD x0.toNat (D.int 0)).fld (1:Nat)).toInt)).bind (fun y1=>
 if 0≤y0∧y0<(↑x3.length:Int) then
 if y0.toNat + 1≤x3.length then
 if (0:Int)≤IntKind.u64.wrap y1 then
 if 0≤y0∧y0<(↑x3.length:Int) then
 if y0.toNat + 1≤x3.length then
 (F (IntKind.i64.wrap (x0 + 1)) x1 x2 (x3.set y0.toNat (D.int (IntKind.i64.wrap (↑(BitVec.ofInt IntKind.i64.bits (x3.getD y0.toNat (D.int 0)).toInt ||| BitVec.ofInt IntKind.i64.bits (IntKind.i64.wrap ((1:Int) * (2:Int) ^ Min.min (IntKind.u64.wrap y1).toNat IntKind.i64.bits))).toNat:Int))))).bind k
 else
 none
 else
 none
 else
 none
 else
 none
 else
 none)
 else
 none)
 else
 none
 else
 k x3
theorem c_Z72_bind {R:Type} (F:T_Z72) (x0:Int) (x1 x2 x3:List D) (k:List D→Option R):c_Z72 F x0 x1 x2 x3 k=(c_Z72 F x0 x1 x2 x3 some).bind k:=by
 unfold c_Z72
 repeat' first|exact bnd_tail|exact bnd_none|exact bnd_leaf|apply bnd_ite|apply bnd_cond|apply bnd_sum|(apply bnd_bind;intro _)|intro _
def n_Z72:Nat→T_Z72
 | 0,_,_,_,_=>none
 | n + 1,x0,x1,x2,x3=>c_Z72 (n_Z72 n) x0 x1 x2 x3 some
noncomputable def Z72 (x0:Int) (x1 x2 x3:List D):Option (List D):=ev (fun n=>n_Z72 n x0 x1 x2 x3)
def m_Z72 (F:T_Z72):Lent:=⟨3,⟨(.undef :: .ptr 1000 [0] :: .undef :: .full 1001 [] (.int .i64) :: .int .i64 :: uu 76 ([])),[(1000,.obox (.agg [.rd (.struct [.int .i64,.int .i64]),.rd (.struct [.int .i64,.int .i64])])),(1001,.own (.int .i64))]⟩,[(.exit 0,⟨(.undef :: .undef :: .undef :: .full 1000 [] (.int .i64) :: uu 77 ([])),[(1000,.own (.int .i64))]⟩)],fun _ ds k=>dI (fun x0 ds=>dL (fun x1 ds=>dL (fun x2 ds=>dL (fun x3 ds=>dE ((F x0 x1 x2 x3).bind (fun y=>k 0 [.L y])) ds) ds) ds) ds) ds⟩
theorem q_Z72 (F:T_Z72) (x0:Int) (x1 x2 x3:List D):runLoop (ocOf [e_Z67]) (olOf [m_Z72 F]) A 91 (codeAt (bodyOf Try.f91) 3) ((m_Z72 F).sh.mk' [.I x0,.L x1,.L x2,.L x3]) (fun e σ'=>some (e,σ'))=c_Z72 F x0 x1 x2 x3 (fun y=>some (.exit 0,SSt.mk' ⟨(.undef :: .undef :: .undef :: .full 1000 [] (.int .i64) :: uu 77 ([])),[(1000,.own (.int .i64))]⟩ [.L y])):=by kernel_rfl
theorem m_Z72_ok:∀ n,(m_Z72 (n_Z72 n)).ok Try.prog (codeAt (bodyOf Try.f91) 3):=by
 intro n
 induction n with
 | zero=>
  intro R ds k r h
  unfold m_Z72 at h
  obtain ⟨_,_,rfl,h⟩:=dI_some h
  obtain ⟨_,_,rfl,h⟩:=dL_some h
  obtain ⟨_,_,rfl,h⟩:=dL_some h
  obtain ⟨_,_,rfl,h⟩:=dL_some h
  obtain ⟨rfl,hE⟩:=dE_some h
  obtain ⟨y,hy,hk⟩:=bnd_some hE
  cases hy
 | succ n ih=>
  intro R ds k r h
  unfold m_Z72 at h
  obtain ⟨_,_,rfl,h⟩:=dI_some h
  obtain ⟨_,_,rfl,h⟩:=dL_some h
  obtain ⟨_,_,rfl,h⟩:=dL_some h
  obtain ⟨_,_,rfl,h⟩:=dL_some h
  obtain ⟨rfl,hE⟩:=dE_some h
  obtain ⟨y,hy,hk⟩:=bnd_some hE
  exact ⟨0,_,_,_,hk,rfl,loop_ok px (fx:=⟨Try.func91,by kernel_rfl,by kernel_rfl⟩) (entsOK_cons e_Z67_ok entsOK_nil) (lentsOK_cons ih lentsOK_nil) (by kernel_rfl) ((q_Z72 ..).trans ((c_Z72_bind ..).trans (bnd_to hy)))⟩
noncomputable def e_Z72:Lent:=m_Z72 (Z72)
theorem e_Z72_ok:(e_Z72).ok Try.prog (codeAt (bodyOf Try.f91) 3):=by
 intro R ds k r h
 unfold e_Z72 m_Z72 at h
 obtain ⟨_,_,rfl,h⟩:=dI_some h
 obtain ⟨_,_,rfl,h⟩:=dL_some h
 obtain ⟨_,_,rfl,h⟩:=dL_some h
 obtain ⟨_,_,rfl,h⟩:=dL_some h
 obtain ⟨rfl,hE⟩:=dE_some h
 obtain ⟨y,hy,hk⟩:=bnd_some hE
 obtain ⟨n,hn⟩:=ev_some hy
 exact m_Z72_ok n R _ k r ((bnd_to hn).trans hk)

/-!-/
abbrev T_Z73:=Int→Int→List D→Option (Int × List D)
def c_Z73 {R:Type} (F:T_Z73) (x0 x1:Int) (x2:List D) (k:Int × List D→Option R):Option R:=
 bif decide (x1<(↑x2.length:Int)) then
 if 0≤x1∧x1<(↑x2.length:Int) then
 if x1.toNat + 1≤x2.length then
 if (0:Int)≤IntKind.u64.wrap x0 then
 bif decide (IntKind.i64.wrap (↑(BitVec.ofInt IntKind.i64.bits ((x2.getD x1.toNat (D.int 0)).toInt.fdiv ((2:Int) ^ Min.min (IntKind.u64.wrap x0).toNat IntKind.i64.bits)) &&& BitVec.ofInt IntKind.i64.bits (1:Int)).toNat:Int)=(1:Int)) then
 if 0≤x1∧x1<(↑x2.length:Int) then
 if x1.toNat + 1≤x2.length then
 if 0≤x0∧x0<(↑x2.length:Int) then
 if x0.toNat + 1≤x2.length then
 if 0≤x1∧x1<(↑x2.length:Int) then
 if x1.toNat + 1≤x2.length then
 (F x0 (IntKind.i64.wrap (x1 + 1)) (x2.set x1.toNat (D.int (IntKind.i64.wrap (↑(BitVec.ofInt IntKind.i64.bits (x2.getD x1.toNat (D.int 0)).toInt ||| BitVec.ofInt IntKind.i64.bits (x2.getD x0.toNat (D.int 0)).toInt).toNat:Int))))).bind k
 else
 none
 else
 none
 else
 none
 else
 none
 else
 none
 else
 none
 else
 (F x0 (IntKind.i64.wrap (x1 + 1)) x2).bind k
 else
 none
 else
 none
 else
 none
 else
 k (x0,x2)
theorem c_Z73_bind {R:Type} (F:T_Z73) (x0 x1:Int) (x2:List D) (k:Int × List D→Option R):c_Z73 F x0 x1 x2 k=(c_Z73 F x0 x1 x2 some).bind k:=by
 unfold c_Z73
 repeat' first|exact bnd_tail|exact bnd_none|exact bnd_leaf|apply bnd_ite|apply bnd_cond|apply bnd_sum|(apply bnd_bind;intro _)|intro _
def n_Z73:Nat→T_Z73
 | 0,_,_,_=>none
 | n + 1,x0,x1,x2=>c_Z73 (n_Z73 n) x0 x1 x2 some
noncomputable def Z73 (x0 x1:Int) (x2:List D):Option (Int × List D):=ev (fun n=>n_Z73 n x0 x1 x2)
def m_Z73 (F:T_Z73):Lent:=⟨11,⟨(.undef :: .undef :: .undef :: .full 1000 [] (.int .i64) :: .undef :: .undef :: .undef :: .int .i64 :: .int .i64 :: uu 72 ([])),[(1000,.own (.int .i64))]⟩,[(.exit 4,⟨(.undef :: .undef :: .undef :: .full 1000 [] (.int .i64) :: .undef :: .undef :: .undef :: .int .i64 :: uu 73 ([])),[(1000,.own (.int .i64))]⟩)],fun _ ds k=>dI (fun x0 ds=>dI (fun x1 ds=>dL (fun x2 ds=>dE ((F x0 x1 x2).bind (fun y=>k 0 [.I y.1,.L y.2])) ds) ds) ds) ds⟩
theorem q_Z73 (F:T_Z73) (x0 x1:Int) (x2:List D):runLoop (ocOf []) (olOf [m_Z73 F]) A 91 (codeAt (bodyOf Try.f91) 11) ((m_Z73 F).sh.mk' [.I x0,.I x1,.L x2]) (fun e σ'=>some (e,σ'))=c_Z73 F x0 x1 x2 (fun y=>some (.exit 4,SSt.mk' ⟨(.undef :: .undef :: .undef :: .full 1000 [] (.int .i64) :: .undef :: .undef :: .undef :: .int .i64 :: uu 73 ([])),[(1000,.own (.int .i64))]⟩ [.I y.1,.L y.2])):=by kernel_rfl
theorem m_Z73_ok:∀ n,(m_Z73 (n_Z73 n)).ok Try.prog (codeAt (bodyOf Try.f91) 11):=by
 intro n
 induction n with
 | zero=>
  intro R ds k r h
  unfold m_Z73 at h
  obtain ⟨_,_,rfl,h⟩:=dI_some h
  obtain ⟨_,_,rfl,h⟩:=dI_some h
  obtain ⟨_,_,rfl,h⟩:=dL_some h
  obtain ⟨rfl,hE⟩:=dE_some h
  obtain ⟨y,hy,hk⟩:=bnd_some hE
  cases hy
 | succ n ih=>
  intro R ds k r h
  unfold m_Z73 at h
  obtain ⟨_,_,rfl,h⟩:=dI_some h
  obtain ⟨_,_,rfl,h⟩:=dI_some h
  obtain ⟨_,_,rfl,h⟩:=dL_some h
  obtain ⟨rfl,hE⟩:=dE_some h
  obtain ⟨y,hy,hk⟩:=bnd_some hE
  exact ⟨0,_,_,_,hk,rfl,loop_ok px (fx:=⟨Try.func91,by kernel_rfl,by kernel_rfl⟩) entsOK_nil (lentsOK_cons ih lentsOK_nil) (by kernel_rfl) ((q_Z73 ..).trans ((c_Z73_bind ..).trans (bnd_to hy)))⟩
noncomputable def e_Z73:Lent:=m_Z73 (Z73)
theorem e_Z73_ok:(e_Z73).ok Try.prog (codeAt (bodyOf Try.f91) 11):=by
 intro R ds k r h
 unfold e_Z73 m_Z73 at h
 obtain ⟨_,_,rfl,h⟩:=dI_some h
 obtain ⟨_,_,rfl,h⟩:=dI_some h
 obtain ⟨_,_,rfl,h⟩:=dL_some h
 obtain ⟨rfl,hE⟩:=dE_some h
 obtain ⟨y,hy,hk⟩:=bnd_some hE
 obtain ⟨n,hn⟩:=ev_some hy
 exact m_Z73_ok n R _ k r ((bnd_to hn).trans hk)

/-!-/
abbrev T_Z74:=Int→List D→Option (List D)
def c_Z74 {R:Type} (F:T_Z74) (x0:Int) (x1:List D) (k:List D→Option R):Option R:=
 bif decide (x0<(↑x1.length:Int)) then
 (Z73 x0 (0:Int) x1).bind (fun y0=>
 (F (IntKind.i64.wrap (y0.fst + 1)) y0.snd).bind k)
 else
 k x1
theorem c_Z74_bind {R:Type} (F:T_Z74) (x0:Int) (x1:List D) (k:List D→Option R):c_Z74 F x0 x1 k=(c_Z74 F x0 x1 some).bind k:=by
 unfold c_Z74
 repeat' first|exact bnd_tail|exact bnd_none|exact bnd_leaf|apply bnd_ite|apply bnd_cond|apply bnd_sum|(apply bnd_bind;intro _)|intro _
def n_Z74:Nat→T_Z74
 | 0,_,_=>none
 | n + 1,x0,x1=>c_Z74 (n_Z74 n) x0 x1 some
noncomputable def Z74 (x0:Int) (x1:List D):Option (List D):=ev (fun n=>n_Z74 n x0 x1)
def m_Z74 (F:T_Z74):Lent:=⟨8,⟨(.undef :: .undef :: .undef :: .full 1000 [] (.int .i64) :: .undef :: .undef :: .undef :: .int .i64 :: uu 73 ([])),[(1000,.own (.int .i64))]⟩,[(.exit 2,⟨(.undef :: .undef :: .undef :: .full 1000 [] (.int .i64) :: uu 77 ([])),[(1000,.own (.int .i64))]⟩)],fun _ ds k=>dI (fun x0 ds=>dL (fun x1 ds=>dE ((F x0 x1).bind (fun y=>k 0 [.L y])) ds) ds) ds⟩
theorem q_Z74 (F:T_Z74) (x0:Int) (x1:List D):runLoop (ocOf []) (olOf [m_Z74 F,e_Z73]) A 91 (codeAt (bodyOf Try.f91) 8) ((m_Z74 F).sh.mk' [.I x0,.L x1]) (fun e σ'=>some (e,σ'))=c_Z74 F x0 x1 (fun y=>some (.exit 2,SSt.mk' ⟨(.undef :: .undef :: .undef :: .full 1000 [] (.int .i64) :: uu 77 ([])),[(1000,.own (.int .i64))]⟩ [.L y])):=by kernel_rfl
theorem m_Z74_ok:∀ n,(m_Z74 (n_Z74 n)).ok Try.prog (codeAt (bodyOf Try.f91) 8):=by
 intro n
 induction n with
 | zero=>
  intro R ds k r h
  unfold m_Z74 at h
  obtain ⟨_,_,rfl,h⟩:=dI_some h
  obtain ⟨_,_,rfl,h⟩:=dL_some h
  obtain ⟨rfl,hE⟩:=dE_some h
  obtain ⟨y,hy,hk⟩:=bnd_some hE
  cases hy
 | succ n ih=>
  intro R ds k r h
  unfold m_Z74 at h
  obtain ⟨_,_,rfl,h⟩:=dI_some h
  obtain ⟨_,_,rfl,h⟩:=dL_some h
  obtain ⟨rfl,hE⟩:=dE_some h
  obtain ⟨y,hy,hk⟩:=bnd_some hE
  exact ⟨0,_,_,_,hk,rfl,loop_ok px (fx:=⟨Try.func91,by kernel_rfl,by kernel_rfl⟩) entsOK_nil (lentsOK_cons ih (lentsOK_cons e_Z73_ok lentsOK_nil)) (by kernel_rfl) ((q_Z74 ..).trans ((c_Z74_bind ..).trans (bnd_to hy)))⟩
noncomputable def e_Z74:Lent:=m_Z74 (Z74)
theorem e_Z74_ok:(e_Z74).ok Try.prog (codeAt (bodyOf Try.f91) 8):=by
 intro R ds k r h
 unfold e_Z74 m_Z74 at h
 obtain ⟨_,_,rfl,h⟩:=dI_some h
 obtain ⟨_,_,rfl,h⟩:=dL_some h
 obtain ⟨rfl,hE⟩:=dE_some h
 obtain ⟨y,hy,hk⟩:=bnd_some hE
 obtain ⟨n,hn⟩:=ev_some hy
 exact m_Z74_ok n R _ k r ((bnd_to hn).trans hk)

/-!-/
def c_Z75 {R:Type} (x0 x1:List D) (k:List D→Option R):Option R:=
 if (0:Int)≤(↑x0.length:Int)∧(↑x0.length:Int)≤(↑x0.length:Int)∧(↑x0.length:Int)≤(4294967296:Int) then
 (Z72 (0:Int) x0 x1 (List.replicate (↑x0.length:Int).toNat (D.int 0))).bind (fun y0=>
 (Z74 (0:Int) y0).bind (fun y1=>
 k y1))
 else
 none
theorem c_Z75_bind {R:Type} (x0 x1:List D) (k:List D→Option R):c_Z75 x0 x1 k=(c_Z75 x0 x1 some).bind k:=by
 unfold c_Z75
 repeat' first|exact bnd_tail|exact bnd_none|exact bnd_leaf|apply bnd_ite|apply bnd_cond|apply bnd_sum|(apply bnd_bind;intro _)|intro _
def Z75 (x0 x1:List D):Option (List D):=c_Z75 x0 x1 some
def e_Z75:Ent:=⟨91,[.agg [.rd (.struct [.int .i64,.int .i64]),.rd (.struct [.int .i64,.int .i64])]],[(.own (.int .i64),[.undef])],fun _ ds k=>dL (fun x0 ds=>dL (fun x1 ds=>dE ((Z75 x0 x1).bind (fun y=>k 0 [.L y])) ds) ds) ds⟩
theorem q_Z75 (x0 x1:List D):runFn (ocOf []) (olOf [e_Z72,e_Z74]) A 91 Try.f91 (Sh.mks e_Z75.sh [.L x0,.L x1]).1 (fun v os=>some (v,os))=c_Z75 x0 x1 (fun y=>retO e_Z75 0 [.L y]):=by kernel_rfl
theorem e_Z75_ok:e_Z75.ok Try.prog A:=by
 intro R ds k r h
 unfold e_Z75 at h
 obtain ⟨_,_,rfl,h⟩:=dL_some h
 obtain ⟨_,_,rfl,h⟩:=dL_some h
 obtain ⟨rfl,hE⟩:=dE_some h
 obtain ⟨y,hy,hk⟩:=bnd_some hE
 exact ⟨0,_,_,_,hk,rfl,fn_ok px (fx:=⟨Try.func91,by kernel_rfl,by kernel_rfl⟩) entsOK_nil (lentsOK_cons e_Z72_ok (lentsOK_cons e_Z74_ok lentsOK_nil)) ((q_Z75 ..).trans ((c_Z75_bind ..).trans (bnd_to hy)))⟩

/-!-/
def c_Z76 {R:Type} (x0 x1:Int) (k:Bool→Option R):Option R:=
 if (0:Int)≤IntKind.u64.wrap x1 then
 k (decide (IntKind.i64.wrap (↑(BitVec.ofInt IntKind.i64.bits (x0.fdiv ((2:Int) ^ Min.min (IntKind.u64.wrap x1).toNat IntKind.i64.bits)) &&& BitVec.ofInt IntKind.i64.bits (1:Int)).toNat:Int)=(1:Int)))
 else
 none
theorem c_Z76_bind {R:Type} (x0 x1:Int) (k:Bool→Option R):c_Z76 x0 x1 k=(c_Z76 x0 x1 some).bind k:=by
 unfold c_Z76
 repeat' first|exact bnd_tail|exact bnd_none|exact bnd_leaf|apply bnd_ite|apply bnd_cond|apply bnd_sum|(apply bnd_bind;intro _)|intro _
def Z76 (x0 x1:Int):Option (Bool):=c_Z76 x0 x1 some
def e_Z76:Ent:=⟨142,[.int .i64,.int .i64],[(.bool,[.undef,.undef])],fun _ ds k=>dI (fun x0 ds=>dI (fun x1 ds=>dE ((Z76 x0 x1).bind (fun y=>k 0 [.B y])) ds) ds) ds⟩
theorem q_Z76 (x0 x1:Int):runFn (ocOf []) (olOf []) A 142 Try.f142 (Sh.mks e_Z76.sh [.I x0,.I x1]).1 (fun v os=>some (v,os))=c_Z76 x0 x1 (fun y=>retO e_Z76 0 [.B y]):=by kernel_rfl
theorem e_Z76_ok:e_Z76.ok Try.prog A:=by
 intro R ds k r h
 unfold e_Z76 at h
 obtain ⟨_,_,rfl,h⟩:=dI_some h
 obtain ⟨_,_,rfl,h⟩:=dI_some h
 obtain ⟨rfl,hE⟩:=dE_some h
 obtain ⟨y,hy,hk⟩:=bnd_some hE
 exact ⟨0,_,_,_,hk,rfl,fn_ok px (fx:=⟨Try.func142,by kernel_rfl,by kernel_rfl⟩) entsOK_nil lentsOK_nil ((q_Z76 ..).trans ((c_Z76_bind ..).trans (bnd_to hy)))⟩

/-!-/
def c_Z77 {R:Type} (x0 x1:List D) (x2 x3:Int) (k:Bool × Bool→Option R):Option R:=
 (Z67 x0 x1 x2).bind (fun y0=>
 (Z67 x0 x1 x3).bind (fun y1=>
 (Z71 x0 x1).bind (fun y2=>
 bif !y2 then
 k (Bool.false,Bool.false)
 else
 bif decide (y0<(0:Int)) then
 k (Bool.false,Bool.false)
 else
 bif decide (y1<(0:Int)) then
 k (Bool.false,Bool.false)
 else
 (Z75 x0 x1).bind (fun y3=>
 if 0≤y0∧y0<(↑y3.length:Int) then
 if y0.toNat + 1≤y3.length then
 (Z76 ((y3.getD y0.toNat (D.int 0)).toInt) y1).bind (fun y4=>
 k (y4,Bool.true))
 else
 none
 else
 none))))
theorem c_Z77_bind {R:Type} (x0 x1:List D) (x2 x3:Int) (k:Bool × Bool→Option R):c_Z77 x0 x1 x2 x3 k=(c_Z77 x0 x1 x2 x3 some).bind k:=by
 unfold c_Z77
 repeat' first|exact bnd_tail|exact bnd_none|exact bnd_leaf|apply bnd_ite|apply bnd_cond|apply bnd_sum|(apply bnd_bind;intro _)|intro _
def Z77 (x0 x1:List D) (x2 x3:Int):Option (Bool × Bool):=c_Z77 x0 x1 x2 x3 some
def e_Z77:Ent:=⟨54,[.agg [.rd (.struct [.int .i64,.int .i64]),.rd (.struct [.int .i64,.int .i64])],.int .i64,.int .i64],[(.tup [.bool,.bool],[.undef,.undef,.undef])],fun _ ds k=>dL (fun x0 ds=>dL (fun x1 ds=>dI (fun x2 ds=>dI (fun x3 ds=>dE ((Z77 x0 x1 x2 x3).bind (fun y=>k 0 [.B y.1,.B y.2])) ds) ds) ds) ds) ds⟩
theorem q_Z77 (x0 x1:List D) (x2 x3:Int):runFn (ocOf [e_Z67,e_Z71,e_Z75,e_Z76]) (olOf []) A 54 Try.f54 (Sh.mks e_Z77.sh [.L x0,.L x1,.I x2,.I x3]).1 (fun v os=>some (v,os))=c_Z77 x0 x1 x2 x3 (fun y=>retO e_Z77 0 [.B y.1,.B y.2]):=by kernel_rfl
theorem e_Z77_ok:e_Z77.ok Try.prog A:=by
 intro R ds k r h
 unfold e_Z77 at h
 obtain ⟨_,_,rfl,h⟩:=dL_some h
 obtain ⟨_,_,rfl,h⟩:=dL_some h
 obtain ⟨_,_,rfl,h⟩:=dI_some h
 obtain ⟨_,_,rfl,h⟩:=dI_some h
 obtain ⟨rfl,hE⟩:=dE_some h
 obtain ⟨y,hy,hk⟩:=bnd_some hE
 exact ⟨0,_,_,_,hk,rfl,fn_ok px (fx:=⟨Try.func54,by kernel_rfl,by kernel_rfl⟩) (entsOK_cons e_Z67_ok (entsOK_cons e_Z71_ok (entsOK_cons e_Z75_ok (entsOK_cons e_Z76_ok entsOK_nil)))) lentsOK_nil ((q_Z77 ..).trans ((c_Z77_bind ..).trans (bnd_to hy)))⟩

/-!-/
def c_Z78 {R:Type} (x0:Int) (x1 x2 x3:List D) (x4:Int) (k:Bool→Option R):Option R:=
 if 0≤x0∧x0<(↑x3.length:Int) then
 if 0≤x4∧x4<(↑(x3.getD x0.toNat (D.int 0)).items.length:Int) then
 k (((x3.getD x0.toNat (D.int 0)).items.getD x4.toNat (D.int 0)).toBool)
 else
 none
 else
 none
theorem c_Z78_bind {R:Type} (x0:Int) (x1 x2 x3:List D) (x4:Int) (k:Bool→Option R):c_Z78 x0 x1 x2 x3 x4 k=(c_Z78 x0 x1 x2 x3 x4 some).bind k:=by
 unfold c_Z78
 repeat' first|exact bnd_tail|exact bnd_none|exact bnd_leaf|apply bnd_ite|apply bnd_cond|apply bnd_sum|(apply bnd_bind;intro _)|intro _
def Z78 (x0:Int) (x1 x2 x3:List D) (x4:Int):Option (Bool):=c_Z78 x0 x1 x2 x3 x4 some
def e_Z78:Ent:=⟨143,[.int .i64,.rp (.rp (.agg [.rd (.int .i64),.rd (.slice (.bool)),.rd (.slice (.bool))])),.rp (.int .i64)],[(.bool,[.undef,.undef,.undef])],fun _ ds k=>dI (fun x0 ds=>dL (fun x1 ds=>dL (fun x2 ds=>dL (fun x3 ds=>dI (fun x4 ds=>dE ((Z78 x0 x1 x2 x3 x4).bind (fun y=>k 0 [.B y])) ds) ds) ds) ds) ds) ds⟩
theorem q_Z78 (x0:Int) (x1 x2 x3:List D) (x4:Int):runFn (ocOf []) (olOf []) A 143 Try.f143 (Sh.mks e_Z78.sh [.I x0,.L x1,.L x2,.L x3,.I x4]).1 (fun v os=>some (v,os))=c_Z78 x0 x1 x2 x3 x4 (fun y=>retO e_Z78 0 [.B y]):=by kernel_rfl
theorem e_Z78_ok:e_Z78.ok Try.prog A:=by
 intro R ds k r h
 unfold e_Z78 at h
 obtain ⟨_,_,rfl,h⟩:=dI_some h
 obtain ⟨_,_,rfl,h⟩:=dL_some h
 obtain ⟨_,_,rfl,h⟩:=dL_some h
 obtain ⟨_,_,rfl,h⟩:=dL_some h
 obtain ⟨_,_,rfl,h⟩:=dI_some h
 obtain ⟨rfl,hE⟩:=dE_some h
 obtain ⟨y,hy,hk⟩:=bnd_some hE
 exact ⟨0,_,_,_,hk,rfl,fn_ok px (fx:=⟨Try.func143,by kernel_rfl,by kernel_rfl⟩) entsOK_nil lentsOK_nil ((q_Z78 ..).trans ((c_Z78_bind ..).trans (bnd_to hy)))⟩

/-!-/
abbrev T_Z79:=List D→List D→List D→Int→List D→Int→Int→List D→Option (List D)
def c_Z79 {R:Type} (F:T_Z79) (x0 x1 x2:List D) (x3:Int) (x4:List D) (x5 x6:Int) (x7:List D) (k:List D→Option R):Option R:=
 bif decide (x6<x5) then
 if 0≤x6∧x6<(↑x4.length:Int) then
 (Z78 x6 x0 x1 x2 x3).bind (fun y0=>
 bif y0 then
 if x7.length + [D.int (x4.getD x6.toNat (D.int 0)).toInt].length≤(4294967296:Nat) then
 (F x0 x1 x2 x3 x4 x5 (IntKind.i64.wrap (x6 + 1)) (x7 ++ [D.int (x4.getD x6.toNat (D.int 0)).toInt])).bind k
 else
 none
 else
 (F x0 x1 x2 x3 x4 x5 (IntKind.i64.wrap (x6 + 1)) x7).bind k)
 else
 none
 else
 k x7
theorem c_Z79_bind {R:Type} (F:T_Z79) (x0 x1 x2:List D) (x3:Int) (x4:List D) (x5 x6:Int) (x7:List D) (k:List D→Option R):c_Z79 F x0 x1 x2 x3 x4 x5 x6 x7 k=(c_Z79 F x0 x1 x2 x3 x4 x5 x6 x7 some).bind k:=by
 unfold c_Z79
 repeat' first|exact bnd_tail|exact bnd_none|exact bnd_leaf|apply bnd_ite|apply bnd_cond|apply bnd_sum|(apply bnd_bind;intro _)|intro _
def n_Z79:Nat→T_Z79
 | 0,_,_,_,_,_,_,_,_=>none
 | n + 1,x0,x1,x2,x3,x4,x5,x6,x7=>c_Z79 (n_Z79 n) x0 x1 x2 x3 x4 x5 x6 x7 some
noncomputable def Z79 (x0 x1 x2:List D) (x3:Int) (x4:List D) (x5 x6:Int) (x7:List D):Option (List D):=ev (fun n=>n_Z79 n x0 x1 x2 x3 x4 x5 x6 x7)
def m_Z79 (F:T_Z79):Lent:=⟨3,⟨(.undef :: .fn 143 [.rp (.rp (.agg [.rd (.int .i64),.rd (.slice (.bool)),.rd (.slice (.bool))])),.rp (.int .i64)] :: .undef :: .undef :: .undef :: .full 1000 [] (.int .i64) :: uu 6 (.rd (.int .i64) :: .int .i64 :: .int .i64 :: uu 13 ([]))),[(1000,.own (.int .i64))]⟩,[(.exit 0,⟨(uu 5 (.full 1000 [] (.int .i64) :: uu 22 ([]))),[(1000,.own (.int .i64))]⟩)],fun _ ds k=>dL (fun x0 ds=>dL (fun x1 ds=>dL (fun x2 ds=>dI (fun x3 ds=>dL (fun x4 ds=>dI (fun x5 ds=>dI (fun x6 ds=>dL (fun x7 ds=>dE ((F x0 x1 x2 x3 x4 x5 x6 x7).bind (fun y=>k 0 [.L y])) ds) ds) ds) ds) ds) ds) ds) ds) ds⟩
theorem q_Z79 (F:T_Z79) (x0 x1 x2:List D) (x3:Int) (x4:List D) (x5 x6:Int) (x7:List D):runLoop (ocOf [e_Z78]) (olOf [m_Z79 F]) A 126 (codeAt (bodyOf Try.f126) 3) ((m_Z79 F).sh.mk' [.L x0,.L x1,.L x2,.I x3,.L x4,.I x5,.I x6,.L x7]) (fun e σ'=>some (e,σ'))=c_Z79 F x0 x1 x2 x3 x4 x5 x6 x7 (fun y=>some (.exit 0,SSt.mk' ⟨(uu 5 (.full 1000 [] (.int .i64) :: uu 22 ([]))),[(1000,.own (.int .i64))]⟩ [.L y])):=by kernel_rfl
theorem m_Z79_ok:∀ n,(m_Z79 (n_Z79 n)).ok Try.prog (codeAt (bodyOf Try.f126) 3):=by
 intro n
 induction n with
 | zero=>
  intro R ds k r h
  unfold m_Z79 at h
  obtain ⟨_,_,rfl,h⟩:=dL_some h
  obtain ⟨_,_,rfl,h⟩:=dL_some h
  obtain ⟨_,_,rfl,h⟩:=dL_some h
  obtain ⟨_,_,rfl,h⟩:=dI_some h
  obtain ⟨_,_,rfl,h⟩:=dL_some h
  obtain ⟨_,_,rfl,h⟩:=dI_some h
  obtain ⟨_,_,rfl,h⟩:=dI_some h
  obtain ⟨_,_,rfl,h⟩:=dL_some h
  obtain ⟨rfl,hE⟩:=dE_some h
  obtain ⟨y,hy,hk⟩:=bnd_some hE
  cases hy
 | succ n ih=>
  intro R ds k r h
  unfold m_Z79 at h
  obtain ⟨_,_,rfl,h⟩:=dL_some h
  obtain ⟨_,_,rfl,h⟩:=dL_some h
  obtain ⟨_,_,rfl,h⟩:=dL_some h
  obtain ⟨_,_,rfl,h⟩:=dI_some h
  obtain ⟨_,_,rfl,h⟩:=dL_some h
  obtain ⟨_,_,rfl,h⟩:=dI_some h
  obtain ⟨_,_,rfl,h⟩:=dI_some h
  obtain ⟨_,_,rfl,h⟩:=dL_some h
  obtain ⟨rfl,hE⟩:=dE_some h
  obtain ⟨y,hy,hk⟩:=bnd_some hE
  exact ⟨0,_,_,_,hk,rfl,loop_ok px (fx:=⟨Try.func126,by kernel_rfl,by kernel_rfl⟩) (entsOK_cons e_Z78_ok entsOK_nil) (lentsOK_cons ih lentsOK_nil) (by kernel_rfl) ((q_Z79 ..).trans ((c_Z79_bind ..).trans (bnd_to hy)))⟩
noncomputable def e_Z79:Lent:=m_Z79 (Z79)
theorem e_Z79_ok:(e_Z79).ok Try.prog (codeAt (bodyOf Try.f126) 3):=by
 intro R ds k r h
 unfold e_Z79 m_Z79 at h
 obtain ⟨_,_,rfl,h⟩:=dL_some h
 obtain ⟨_,_,rfl,h⟩:=dL_some h
 obtain ⟨_,_,rfl,h⟩:=dL_some h
 obtain ⟨_,_,rfl,h⟩:=dI_some h
 obtain ⟨_,_,rfl,h⟩:=dL_some h
 obtain ⟨_,_,rfl,h⟩:=dI_some h
 obtain ⟨_,_,rfl,h⟩:=dI_some h
 obtain ⟨_,_,rfl,h⟩:=dL_some h
 obtain ⟨rfl,hE⟩:=dE_some h
 obtain ⟨y,hy,hk⟩:=bnd_some hE
 obtain ⟨n,hn⟩:=ev_some hy
 exact m_Z79_ok n R _ k r ((bnd_to hn).trans hk)

/-!-/
def c_Z80 {R:Type} (x0 x1 x2 x3 x4 x5:List D) (x6:Int) (k:List D→Option R):Option R:=
 (Z79 x3 x4 x5 x6 x0 (↑x0.length:Int) (0:Int) []).bind (fun y0=>
 k y0)
theorem c_Z80_bind {R:Type} (x0 x1 x2 x3 x4 x5:List D) (x6:Int) (k:List D→Option R):c_Z80 x0 x1 x2 x3 x4 x5 x6 k=(c_Z80 x0 x1 x2 x3 x4 x5 x6 some).bind k:=by
 unfold c_Z80
 repeat' first|exact bnd_tail|exact bnd_none|exact bnd_leaf|apply bnd_ite|apply bnd_cond|apply bnd_sum|(apply bnd_bind;intro _)|intro _
def Z80 (x0 x1 x2 x3 x4 x5:List D) (x6:Int):Option (List D):=c_Z80 x0 x1 x2 x3 x4 x5 x6 some
def e_Z80:Ent:=⟨126,[.rp (.agg [.rd (.int .i64),.rd (.slice (.bool)),.rd (.slice (.bool))]),.fn 143 [.rp (.rp (.agg [.rd (.int .i64),.rd (.slice (.bool)),.rd (.slice (.bool))])),.rp (.int .i64)]],[(.own (.int .i64),[.undef,.undef])],fun _ ds k=>dL (fun x0 ds=>dL (fun x1 ds=>dL (fun x2 ds=>dL (fun x3 ds=>dL (fun x4 ds=>dL (fun x5 ds=>dI (fun x6 ds=>dE ((Z80 x0 x1 x2 x3 x4 x5 x6).bind (fun y=>k 0 [.L y])) ds) ds) ds) ds) ds) ds) ds) ds⟩
theorem q_Z80 (x0 x1 x2 x3 x4 x5:List D) (x6:Int):runFn (ocOf []) (olOf [e_Z79]) A 126 Try.f126 (Sh.mks e_Z80.sh [.L x0,.L x1,.L x2,.L x3,.L x4,.L x5,.I x6]).1 (fun v os=>some (v,os))=c_Z80 x0 x1 x2 x3 x4 x5 x6 (fun y=>retO e_Z80 0 [.L y]):=by kernel_rfl
theorem e_Z80_ok:e_Z80.ok Try.prog A:=by
 intro R ds k r h
 unfold e_Z80 at h
 obtain ⟨_,_,rfl,h⟩:=dL_some h
 obtain ⟨_,_,rfl,h⟩:=dL_some h
 obtain ⟨_,_,rfl,h⟩:=dL_some h
 obtain ⟨_,_,rfl,h⟩:=dL_some h
 obtain ⟨_,_,rfl,h⟩:=dL_some h
 obtain ⟨_,_,rfl,h⟩:=dL_some h
 obtain ⟨_,_,rfl,h⟩:=dI_some h
 obtain ⟨rfl,hE⟩:=dE_some h
 obtain ⟨y,hy,hk⟩:=bnd_some hE
 exact ⟨0,_,_,_,hk,rfl,fn_ok px (fx:=⟨Try.func126,by kernel_rfl,by kernel_rfl⟩) entsOK_nil (lentsOK_cons e_Z79_ok lentsOK_nil) ((q_Z80 ..).trans ((c_Z80_bind ..).trans (bnd_to hy)))⟩

/-!-/
def c_Z81 {R:Type} (x0 x1:List D) (x2:Int) (k:List D × Bool→Option R):Option R:=
 (Z41 x0 x1 x2).bind (fun y0=>
 bif !y0 then
 k ([],Bool.false)
 else
 (Z54 x0 x1).bind (fun y1=>
 (Z33 x0 x1 x2).bind (fun y2=>
 (Z80 y1.fst y1.snd.fst y1.snd.snd y1.fst y1.snd.fst y1.snd.snd y2).bind (fun y3=>
 k (y3,Bool.true)))))
theorem c_Z81_bind {R:Type} (x0 x1:List D) (x2:Int) (k:List D × Bool→Option R):c_Z81 x0 x1 x2 k=(c_Z81 x0 x1 x2 some).bind k:=by
 unfold c_Z81
 repeat' first|exact bnd_tail|exact bnd_none|exact bnd_leaf|apply bnd_ite|apply bnd_cond|apply bnd_sum|(apply bnd_bind;intro _)|intro _
def Z81 (x0 x1:List D) (x2:Int):Option (List D × Bool):=c_Z81 x0 x1 x2 some
def e_Z81:Ent:=⟨55,[.agg [.rd (.struct [.int .i64,.int .i64]),.rd (.struct [.int .i64,.int .i64])],.int .i64],[(.tup [.own (.int .i64),.bool],[.undef,.undef])],fun _ ds k=>dL (fun x0 ds=>dL (fun x1 ds=>dI (fun x2 ds=>dE ((Z81 x0 x1 x2).bind (fun y=>k 0 [.L y.1,.B y.2])) ds) ds) ds) ds⟩
theorem q_Z81 (x0 x1:List D) (x2:Int):runFn (ocOf [e_Z41,e_Z54,e_Z33,e_Z80]) (olOf []) A 55 Try.f55 (Sh.mks e_Z81.sh [.L x0,.L x1,.I x2]).1 (fun v os=>some (v,os))=c_Z81 x0 x1 x2 (fun y=>retO e_Z81 0 [.L y.1,.B y.2]):=by kernel_rfl
theorem e_Z81_ok:e_Z81.ok Try.prog A:=by
 intro R ds k r h
 unfold e_Z81 at h
 obtain ⟨_,_,rfl,h⟩:=dL_some h
 obtain ⟨_,_,rfl,h⟩:=dL_some h
 obtain ⟨_,_,rfl,h⟩:=dI_some h
 obtain ⟨rfl,hE⟩:=dE_some h
 obtain ⟨y,hy,hk⟩:=bnd_some hE
 exact ⟨0,_,_,_,hk,rfl,fn_ok px (fx:=⟨Try.func55,by kernel_rfl,by kernel_rfl⟩) (entsOK_cons e_Z41_ok (entsOK_cons e_Z54_ok (entsOK_cons e_Z33_ok (entsOK_cons e_Z80_ok entsOK_nil)))) lentsOK_nil ((q_Z81 ..).trans ((c_Z81_bind ..).trans (bnd_to hy)))⟩

/-!-/
def c_Z82 {R:Type} (x0:Int) (x1 x2 x3:List D) (x4:Int) (k:Bool→Option R):Option R:=
 if 0≤x4∧x4<(↑x3.length:Int) then
 if 0≤x0∧x0<(↑(x3.getD x4.toNat (D.int 0)).items.length:Int) then
 k (((x3.getD x4.toNat (D.int 0)).items.getD x0.toNat (D.int 0)).toBool)
 else
 none
 else
 none
theorem c_Z82_bind {R:Type} (x0:Int) (x1 x2 x3:List D) (x4:Int) (k:Bool→Option R):c_Z82 x0 x1 x2 x3 x4 k=(c_Z82 x0 x1 x2 x3 x4 some).bind k:=by
 unfold c_Z82
 repeat' first|exact bnd_tail|exact bnd_none|exact bnd_leaf|apply bnd_ite|apply bnd_cond|apply bnd_sum|(apply bnd_bind;intro _)|intro _
def Z82 (x0:Int) (x1 x2 x3:List D) (x4:Int):Option (Bool):=c_Z82 x0 x1 x2 x3 x4 some
def e_Z82:Ent:=⟨144,[.int .i64,.rp (.rp (.agg [.rd (.int .i64),.rd (.slice (.bool)),.rd (.slice (.bool))])),.rp (.int .i64)],[(.bool,[.undef,.undef,.undef])],fun _ ds k=>dI (fun x0 ds=>dL (fun x1 ds=>dL (fun x2 ds=>dL (fun x3 ds=>dI (fun x4 ds=>dE ((Z82 x0 x1 x2 x3 x4).bind (fun y=>k 0 [.B y])) ds) ds) ds) ds) ds) ds⟩
theorem q_Z82 (x0:Int) (x1 x2 x3:List D) (x4:Int):runFn (ocOf []) (olOf []) A 144 Try.f144 (Sh.mks e_Z82.sh [.I x0,.L x1,.L x2,.L x3,.I x4]).1 (fun v os=>some (v,os))=c_Z82 x0 x1 x2 x3 x4 (fun y=>retO e_Z82 0 [.B y]):=by kernel_rfl
theorem e_Z82_ok:e_Z82.ok Try.prog A:=by
 intro R ds k r h
 unfold e_Z82 at h
 obtain ⟨_,_,rfl,h⟩:=dI_some h
 obtain ⟨_,_,rfl,h⟩:=dL_some h
 obtain ⟨_,_,rfl,h⟩:=dL_some h
 obtain ⟨_,_,rfl,h⟩:=dL_some h
 obtain ⟨_,_,rfl,h⟩:=dI_some h
 obtain ⟨rfl,hE⟩:=dE_some h
 obtain ⟨y,hy,hk⟩:=bnd_some hE
 exact ⟨0,_,_,_,hk,rfl,fn_ok px (fx:=⟨Try.func144,by kernel_rfl,by kernel_rfl⟩) entsOK_nil lentsOK_nil ((q_Z82 ..).trans ((c_Z82_bind ..).trans (bnd_to hy)))⟩

/-!-/
abbrev T_Z83:=List D→List D→List D→Int→List D→Int→Int→List D→Option (List D)
def c_Z83 {R:Type} (F:T_Z83) (x0 x1 x2:List D) (x3:Int) (x4:List D) (x5 x6:Int) (x7:List D) (k:List D→Option R):Option R:=
 bif decide (x6<x5) then
 if 0≤x6∧x6<(↑x4.length:Int) then
 (Z82 x6 x0 x1 x2 x3).bind (fun y0=>
 bif y0 then
 if x7.length + [D.int (x4.getD x6.toNat (D.int 0)).toInt].length≤(4294967296:Nat) then
 (F x0 x1 x2 x3 x4 x5 (IntKind.i64.wrap (x6 + 1)) (x7 ++ [D.int (x4.getD x6.toNat (D.int 0)).toInt])).bind k
 else
 none
 else
 (F x0 x1 x2 x3 x4 x5 (IntKind.i64.wrap (x6 + 1)) x7).bind k)
 else
 none
 else
 k x7
theorem c_Z83_bind {R:Type} (F:T_Z83) (x0 x1 x2:List D) (x3:Int) (x4:List D) (x5 x6:Int) (x7:List D) (k:List D→Option R):c_Z83 F x0 x1 x2 x3 x4 x5 x6 x7 k=(c_Z83 F x0 x1 x2 x3 x4 x5 x6 x7 some).bind k:=by
 unfold c_Z83
 repeat' first|exact bnd_tail|exact bnd_none|exact bnd_leaf|apply bnd_ite|apply bnd_cond|apply bnd_sum|(apply bnd_bind;intro _)|intro _
def n_Z83:Nat→T_Z83
 | 0,_,_,_,_,_,_,_,_=>none
 | n + 1,x0,x1,x2,x3,x4,x5,x6,x7=>c_Z83 (n_Z83 n) x0 x1 x2 x3 x4 x5 x6 x7 some
noncomputable def Z83 (x0 x1 x2:List D) (x3:Int) (x4:List D) (x5 x6:Int) (x7:List D):Option (List D):=ev (fun n=>n_Z83 n x0 x1 x2 x3 x4 x5 x6 x7)
def m_Z83 (F:T_Z83):Lent:=⟨3,⟨(.undef :: .fn 144 [.rp (.rp (.agg [.rd (.int .i64),.rd (.slice (.bool)),.rd (.slice (.bool))])),.rp (.int .i64)] :: .undef :: .undef :: .undef :: .full 1000 [] (.int .i64) :: uu 6 (.rd (.int .i64) :: .int .i64 :: .int .i64 :: uu 13 ([]))),[(1000,.own (.int .i64))]⟩,[(.exit 0,⟨(uu 5 (.full 1000 [] (.int .i64) :: uu 22 ([]))),[(1000,.own (.int .i64))]⟩)],fun _ ds k=>dL (fun x0 ds=>dL (fun x1 ds=>dL (fun x2 ds=>dI (fun x3 ds=>dL (fun x4 ds=>dI (fun x5 ds=>dI (fun x6 ds=>dL (fun x7 ds=>dE ((F x0 x1 x2 x3 x4 x5 x6 x7).bind (fun y=>k 0 [.L y])) ds) ds) ds) ds) ds) ds) ds) ds) ds⟩
theorem q_Z83 (F:T_Z83) (x0 x1 x2:List D) (x3:Int) (x4:List D) (x5 x6:Int) (x7:List D):runLoop (ocOf [e_Z82]) (olOf [m_Z83 F]) A 126 (codeAt (bodyOf Try.f126) 3) ((m_Z83 F).sh.mk' [.L x0,.L x1,.L x2,.I x3,.L x4,.I x5,.I x6,.L x7]) (fun e σ'=>some (e,σ'))=c_Z83 F x0 x1 x2 x3 x4 x5 x6 x7 (fun y=>some (.exit 0,SSt.mk' ⟨(uu 5 (.full 1000 [] (.int .i64) :: uu 22 ([]))),[(1000,.own (.int .i64))]⟩ [.L y])):=by kernel_rfl
theorem m_Z83_ok:∀ n,(m_Z83 (n_Z83 n)).ok Try.prog (codeAt (bodyOf Try.f126) 3):=by
 intro n
 induction n with
 | zero=>
  intro R ds k r h
  unfold m_Z83 at h
  obtain ⟨_,_,rfl,h⟩:=dL_some h
  obtain ⟨_,_,rfl,h⟩:=dL_some h
  obtain ⟨_,_,rfl,h⟩:=dL_some h
  obtain ⟨_,_,rfl,h⟩:=dI_some h
  obtain ⟨_,_,rfl,h⟩:=dL_some h
  obtain ⟨_,_,rfl,h⟩:=dI_some h
  obtain ⟨_,_,rfl,h⟩:=dI_some h
  obtain ⟨_,_,rfl,h⟩:=dL_some h
  obtain ⟨rfl,hE⟩:=dE_some h
  obtain ⟨y,hy,hk⟩:=bnd_some hE
  cases hy
 | succ n ih=>
  intro R ds k r h
  unfold m_Z83 at h
  obtain ⟨_,_,rfl,h⟩:=dL_some h
  obtain ⟨_,_,rfl,h⟩:=dL_some h
  obtain ⟨_,_,rfl,h⟩:=dL_some h
  obtain ⟨_,_,rfl,h⟩:=dI_some h
  obtain ⟨_,_,rfl,h⟩:=dL_some h
  obtain ⟨_,_,rfl,h⟩:=dI_some h
  obtain ⟨_,_,rfl,h⟩:=dI_some h
  obtain ⟨_,_,rfl,h⟩:=dL_some h
  obtain ⟨rfl,hE⟩:=dE_some h
  obtain ⟨y,hy,hk⟩:=bnd_some hE
  exact ⟨0,_,_,_,hk,rfl,loop_ok px (fx:=⟨Try.func126,by kernel_rfl,by kernel_rfl⟩) (entsOK_cons e_Z82_ok entsOK_nil) (lentsOK_cons ih lentsOK_nil) (by kernel_rfl) ((q_Z83 ..).trans ((c_Z83_bind ..).trans (bnd_to hy)))⟩
noncomputable def e_Z83:Lent:=m_Z83 (Z83)
theorem e_Z83_ok:(e_Z83).ok Try.prog (codeAt (bodyOf Try.f126) 3):=by
 intro R ds k r h
 unfold e_Z83 m_Z83 at h
 obtain ⟨_,_,rfl,h⟩:=dL_some h
 obtain ⟨_,_,rfl,h⟩:=dL_some h
 obtain ⟨_,_,rfl,h⟩:=dL_some h
 obtain ⟨_,_,rfl,h⟩:=dI_some h
 obtain ⟨_,_,rfl,h⟩:=dL_some h
 obtain ⟨_,_,rfl,h⟩:=dI_some h
 obtain ⟨_,_,rfl,h⟩:=dI_some h
 obtain ⟨_,_,rfl,h⟩:=dL_some h
 obtain ⟨rfl,hE⟩:=dE_some h
 obtain ⟨y,hy,hk⟩:=bnd_some hE
 obtain ⟨n,hn⟩:=ev_some hy
 exact m_Z83_ok n R _ k r ((bnd_to hn).trans hk)

/-!-/
def c_Z84 {R:Type} (x0 x1 x2 x3 x4 x5:List D) (x6:Int) (k:List D→Option R):Option R:=
 (Z83 x3 x4 x5 x6 x0 (↑x0.length:Int) (0:Int) []).bind (fun y0=>
 k y0)
theorem c_Z84_bind {R:Type} (x0 x1 x2 x3 x4 x5:List D) (x6:Int) (k:List D→Option R):c_Z84 x0 x1 x2 x3 x4 x5 x6 k=(c_Z84 x0 x1 x2 x3 x4 x5 x6 some).bind k:=by
 unfold c_Z84
 repeat' first|exact bnd_tail|exact bnd_none|exact bnd_leaf|apply bnd_ite|apply bnd_cond|apply bnd_sum|(apply bnd_bind;intro _)|intro _
def Z84 (x0 x1 x2 x3 x4 x5:List D) (x6:Int):Option (List D):=c_Z84 x0 x1 x2 x3 x4 x5 x6 some
def e_Z84:Ent:=⟨126,[.rp (.agg [.rd (.int .i64),.rd (.slice (.bool)),.rd (.slice (.bool))]),.fn 144 [.rp (.rp (.agg [.rd (.int .i64),.rd (.slice (.bool)),.rd (.slice (.bool))])),.rp (.int .i64)]],[(.own (.int .i64),[.undef,.undef])],fun _ ds k=>dL (fun x0 ds=>dL (fun x1 ds=>dL (fun x2 ds=>dL (fun x3 ds=>dL (fun x4 ds=>dL (fun x5 ds=>dI (fun x6 ds=>dE ((Z84 x0 x1 x2 x3 x4 x5 x6).bind (fun y=>k 0 [.L y])) ds) ds) ds) ds) ds) ds) ds) ds⟩
theorem q_Z84 (x0 x1 x2 x3 x4 x5:List D) (x6:Int):runFn (ocOf []) (olOf [e_Z83]) A 126 Try.f126 (Sh.mks e_Z84.sh [.L x0,.L x1,.L x2,.L x3,.L x4,.L x5,.I x6]).1 (fun v os=>some (v,os))=c_Z84 x0 x1 x2 x3 x4 x5 x6 (fun y=>retO e_Z84 0 [.L y]):=by kernel_rfl
theorem e_Z84_ok:e_Z84.ok Try.prog A:=by
 intro R ds k r h
 unfold e_Z84 at h
 obtain ⟨_,_,rfl,h⟩:=dL_some h
 obtain ⟨_,_,rfl,h⟩:=dL_some h
 obtain ⟨_,_,rfl,h⟩:=dL_some h
 obtain ⟨_,_,rfl,h⟩:=dL_some h
 obtain ⟨_,_,rfl,h⟩:=dL_some h
 obtain ⟨_,_,rfl,h⟩:=dL_some h
 obtain ⟨_,_,rfl,h⟩:=dI_some h
 obtain ⟨rfl,hE⟩:=dE_some h
 obtain ⟨y,hy,hk⟩:=bnd_some hE
 exact ⟨0,_,_,_,hk,rfl,fn_ok px (fx:=⟨Try.func126,by kernel_rfl,by kernel_rfl⟩) entsOK_nil (lentsOK_cons e_Z83_ok lentsOK_nil) ((q_Z84 ..).trans ((c_Z84_bind ..).trans (bnd_to hy)))⟩

/-!-/
def c_Z85 {R:Type} (x0 x1:List D) (x2:Int) (k:List D × Bool→Option R):Option R:=
 (Z41 x0 x1 x2).bind (fun y0=>
 bif !y0 then
 k ([],Bool.false)
 else
 (Z54 x0 x1).bind (fun y1=>
 (Z33 x0 x1 x2).bind (fun y2=>
 (Z84 y1.fst y1.snd.fst y1.snd.snd y1.fst y1.snd.fst y1.snd.snd y2).bind (fun y3=>
 k (y3,Bool.true)))))
theorem c_Z85_bind {R:Type} (x0 x1:List D) (x2:Int) (k:List D × Bool→Option R):c_Z85 x0 x1 x2 k=(c_Z85 x0 x1 x2 some).bind k:=by
 unfold c_Z85
 repeat' first|exact bnd_tail|exact bnd_none|exact bnd_leaf|apply bnd_ite|apply bnd_cond|apply bnd_sum|(apply bnd_bind;intro _)|intro _
def Z85 (x0 x1:List D) (x2:Int):Option (List D × Bool):=c_Z85 x0 x1 x2 some
def e_Z85:Ent:=⟨56,[.agg [.rd (.struct [.int .i64,.int .i64]),.rd (.struct [.int .i64,.int .i64])],.int .i64],[(.tup [.own (.int .i64),.bool],[.undef,.undef])],fun _ ds k=>dL (fun x0 ds=>dL (fun x1 ds=>dI (fun x2 ds=>dE ((Z85 x0 x1 x2).bind (fun y=>k 0 [.L y.1,.B y.2])) ds) ds) ds) ds⟩
theorem q_Z85 (x0 x1:List D) (x2:Int):runFn (ocOf [e_Z41,e_Z54,e_Z33,e_Z84]) (olOf []) A 56 Try.f56 (Sh.mks e_Z85.sh [.L x0,.L x1,.I x2]).1 (fun v os=>some (v,os))=c_Z85 x0 x1 x2 (fun y=>retO e_Z85 0 [.L y.1,.B y.2]):=by kernel_rfl
theorem e_Z85_ok:e_Z85.ok Try.prog A:=by
 intro R ds k r h
 unfold e_Z85 at h
 obtain ⟨_,_,rfl,h⟩:=dL_some h
 obtain ⟨_,_,rfl,h⟩:=dL_some h
 obtain ⟨_,_,rfl,h⟩:=dI_some h
 obtain ⟨rfl,hE⟩:=dE_some h
 obtain ⟨y,hy,hk⟩:=bnd_some hE
 exact ⟨0,_,_,_,hk,rfl,fn_ok px (fx:=⟨Try.func56,by kernel_rfl,by kernel_rfl⟩) (entsOK_cons e_Z41_ok (entsOK_cons e_Z54_ok (entsOK_cons e_Z33_ok (entsOK_cons e_Z84_ok entsOK_nil)))) lentsOK_nil ((q_Z85 ..).trans ((c_Z85_bind ..).trans (bnd_to hy)))⟩

/-!-/
abbrev T_Z86:=List D→Int→Int→Option ((Bool) ⊕ (Unit))
def c_Z86 {R:Type} (F:T_Z86) (x0:List D) (x1 x2:Int) (k:(Bool) ⊕ (Unit)→Option R):Option R:=
 bif decide (x2<(↑x0.length:Int)) then
 if 0≤x2∧x2<(↑x0.length:Int) then
 bif decide ((x0.getD x2.toNat (D.int 0)).toInt=x1) then
 k (.inl Bool.true)
 else
 (F x0 x1 (IntKind.i64.wrap (x2 + 1))).bind k
 else
 none
 else
 k (.inr ())
theorem c_Z86_bind {R:Type} (F:T_Z86) (x0:List D) (x1 x2:Int) (k:(Bool) ⊕ (Unit)→Option R):c_Z86 F x0 x1 x2 k=(c_Z86 F x0 x1 x2 some).bind k:=by
 unfold c_Z86
 repeat' first|exact bnd_tail|exact bnd_none|exact bnd_leaf|apply bnd_ite|apply bnd_cond|apply bnd_sum|(apply bnd_bind;intro _)|intro _
def n_Z86:Nat→T_Z86
 | 0,_,_,_=>none
 | n + 1,x0,x1,x2=>c_Z86 (n_Z86 n) x0 x1 x2 some
noncomputable def Z86 (x0:List D) (x1 x2:Int):Option ((Bool) ⊕ (Unit)):=ev (fun n=>n_Z86 n x0 x1 x2)
def m_Z86 (F:T_Z86):Lent:=⟨2,⟨(.rd (.int .i64) :: .int .i64 :: .undef :: .undef :: .undef :: .int .i64 :: uu 12 ([])),[]⟩,[(.ret,⟨(uu 4 (.bool :: uu 13 ([]))),[]⟩),(.exit 0,⟨(uu 18 ([])),[]⟩)],fun _ ds k=>dL (fun x0 ds=>dI (fun x1 ds=>dI (fun x2 ds=>dE ((F x0 x1 x2).bind (Sum.elim (fun y=>k 0 [.B y]) (fun y=>k 1 []))) ds) ds) ds) ds⟩
theorem q_Z86 (F:T_Z86) (x0:List D) (x1 x2:Int):runLoop (ocOf []) (olOf [m_Z86 F]) A 44 (codeAt (bodyOf Try.f44) 2) ((m_Z86 F).sh.mk' [.L x0,.I x1,.I x2]) (fun e σ'=>some (e,σ'))=c_Z86 F x0 x1 x2 (Sum.elim (fun y=>some (.ret,SSt.mk' ⟨(uu 4 (.bool :: uu 13 ([]))),[]⟩ [.B y])) (fun y=>some (.exit 0,SSt.mk' ⟨(uu 18 ([])),[]⟩ []))):=by kernel_rfl
theorem m_Z86_ok:∀ n,(m_Z86 (n_Z86 n)).ok Try.prog (codeAt (bodyOf Try.f44) 2):=by
 intro n
 induction n with
 | zero=>
  intro R ds k r h
  unfold m_Z86 at h
  obtain ⟨_,_,rfl,h⟩:=dL_some h
  obtain ⟨_,_,rfl,h⟩:=dI_some h
  obtain ⟨_,_,rfl,h⟩:=dI_some h
  obtain ⟨rfl,hE⟩:=dE_some h
  obtain ⟨y,hy,hk⟩:=bnd_some hE
  cases hy
 | succ n ih=>
  intro R ds k r h
  unfold m_Z86 at h
  obtain ⟨_,_,rfl,h⟩:=dL_some h
  obtain ⟨_,_,rfl,h⟩:=dI_some h
  obtain ⟨_,_,rfl,h⟩:=dI_some h
  obtain ⟨rfl,hE⟩:=dE_some h
  obtain ⟨y,hy,hk⟩:=bnd_some hE
  cases y with
  | inl y=>
   exact ⟨0,_,_,_,hk,rfl,loop_ok px (fx:=⟨Try.func44,by kernel_rfl,by kernel_rfl⟩) entsOK_nil (lentsOK_cons ih lentsOK_nil) (by kernel_rfl) ((q_Z86 ..).trans ((c_Z86_bind ..).trans (bnd_to hy)))⟩
  | inr y=>
   exact ⟨1,_,_,_,hk,rfl,loop_ok px (fx:=⟨Try.func44,by kernel_rfl,by kernel_rfl⟩) entsOK_nil (lentsOK_cons ih lentsOK_nil) (by kernel_rfl) ((q_Z86 ..).trans ((c_Z86_bind ..).trans (bnd_to hy)))⟩
noncomputable def e_Z86:Lent:=m_Z86 (Z86)
theorem e_Z86_ok:(e_Z86).ok Try.prog (codeAt (bodyOf Try.f44) 2):=by
 intro R ds k r h
 unfold e_Z86 m_Z86 at h
 obtain ⟨_,_,rfl,h⟩:=dL_some h
 obtain ⟨_,_,rfl,h⟩:=dI_some h
 obtain ⟨_,_,rfl,h⟩:=dI_some h
 obtain ⟨rfl,hE⟩:=dE_some h
 obtain ⟨y,hy,hk⟩:=bnd_some hE
 obtain ⟨n,hn⟩:=ev_some hy
 exact m_Z86_ok n R _ k r ((bnd_to hn).trans hk)

/-!-/
def c_Z87 {R:Type} (x0:List D) (x1:Int) (k:Bool→Option R):Option R:=
 (Z86 x0 x1 (0:Int)).bind (Sum.elim (fun y0=>
 k y0) (fun y1=>
 k Bool.false))
theorem c_Z87_bind {R:Type} (x0:List D) (x1:Int) (k:Bool→Option R):c_Z87 x0 x1 k=(c_Z87 x0 x1 some).bind k:=by
 unfold c_Z87
 repeat' first|exact bnd_tail|exact bnd_none|exact bnd_leaf|apply bnd_ite|apply bnd_cond|apply bnd_sum|(apply bnd_bind;intro _)|intro _
def Z87 (x0:List D) (x1:Int):Option (Bool):=c_Z87 x0 x1 some
def e_Z87:Ent:=⟨44,[.rd (.int .i64),.int .i64],[(.bool,[.undef,.undef])],fun _ ds k=>dL (fun x0 ds=>dI (fun x1 ds=>dE ((Z87 x0 x1).bind (fun y=>k 0 [.B y])) ds) ds) ds⟩
theorem q_Z87 (x0:List D) (x1:Int):runFn (ocOf []) (olOf [e_Z86]) A 44 Try.f44 (Sh.mks e_Z87.sh [.L x0,.I x1]).1 (fun v os=>some (v,os))=c_Z87 x0 x1 (fun y=>retO e_Z87 0 [.B y]):=by kernel_rfl
theorem e_Z87_ok:e_Z87.ok Try.prog A:=by
 intro R ds k r h
 unfold e_Z87 at h
 obtain ⟨_,_,rfl,h⟩:=dL_some h
 obtain ⟨_,_,rfl,h⟩:=dI_some h
 obtain ⟨rfl,hE⟩:=dE_some h
 obtain ⟨y,hy,hk⟩:=bnd_some hE
 exact ⟨0,_,_,_,hk,rfl,fn_ok px (fx:=⟨Try.func44,by kernel_rfl,by kernel_rfl⟩) entsOK_nil (lentsOK_cons e_Z86_ok lentsOK_nil) ((q_Z87 ..).trans ((c_Z87_bind ..).trans (bnd_to hy)))⟩

/-!-/
abbrev T_Z88:=Int→Int→Int→List D→List D→Option ((Bool) ⊕ (Unit))
def c_Z88 {R:Type} (F:T_Z88) (x0 x1 x2:Int) (x3 x4:List D) (k:(Bool) ⊕ (Unit)→Option R):Option R:=
 bif decide (x2<(↑x4.length:Int)) then
 if 0≤x2∧x2<(↑x4.length:Int) then
 bif decide (((x4.getD x2.toNat (D.int 0)).fld (0:Nat)).toInt=x0) then
 if 0≤x2∧x2<(↑x4.length:Int) then
 bif decide (((x4.getD x2.toNat (D.int 0)).fld (1:Nat)).toInt=x1) then
 k (.inl Bool.true)
 else
 (F x0 x1 (IntKind.i64.wrap (x2 + 1)) x3 x4).bind k
 else
 none
 else
 (F x0 x1 (IntKind.i64.wrap (x2 + 1)) x3 x4).bind k
 else
 none
 else
 k (.inr ())
theorem c_Z88_bind {R:Type} (F:T_Z88) (x0 x1 x2:Int) (x3 x4:List D) (k:(Bool) ⊕ (Unit)→Option R):c_Z88 F x0 x1 x2 x3 x4 k=(c_Z88 F x0 x1 x2 x3 x4 some).bind k:=by
 unfold c_Z88
 repeat' first|exact bnd_tail|exact bnd_none|exact bnd_leaf|apply bnd_ite|apply bnd_cond|apply bnd_sum|(apply bnd_bind;intro _)|intro _
def n_Z88:Nat→T_Z88
 | 0,_,_,_,_,_=>none
 | n + 1,x0,x1,x2,x3,x4=>c_Z88 (n_Z88 n) x0 x1 x2 x3 x4 some
noncomputable def Z88 (x0 x1 x2:Int) (x3 x4:List D):Option ((Bool) ⊕ (Unit)):=ev (fun n=>n_Z88 n x0 x1 x2 x3 x4)
def m_Z88 (F:T_Z88):Lent:=⟨2,⟨(.undef :: .int .i64 :: .int .i64 :: .ptr 1000 [0] :: .undef :: .undef :: .undef :: .int .i64 :: uu 25 ([])),[(1000,.obox (.agg [.rd (.struct [.int .i64,.int .i64]),.rd (.struct [.int .i64,.int .i64])]))]⟩,[(.ret,⟨(uu 6 (.bool :: uu 26 ([]))),[]⟩),(.exit 0,⟨(uu 33 ([])),[]⟩)],fun _ ds k=>dI (fun x0 ds=>dI (fun x1 ds=>dI (fun x2 ds=>dL (fun x3 ds=>dL (fun x4 ds=>dE ((F x0 x1 x2 x3 x4).bind (Sum.elim (fun y=>k 0 [.B y]) (fun y=>k 1 []))) ds) ds) ds) ds) ds) ds⟩
theorem q_Z88 (F:T_Z88) (x0 x1 x2:Int) (x3 x4:List D):runLoop (ocOf []) (olOf [m_Z88 F]) A 51 (codeAt (bodyOf Try.f51) 2) ((m_Z88 F).sh.mk' [.I x0,.I x1,.I x2,.L x3,.L x4]) (fun e σ'=>some (e,σ'))=c_Z88 F x0 x1 x2 x3 x4 (Sum.elim (fun y=>some (.ret,SSt.mk' ⟨(uu 6 (.bool :: uu 26 ([]))),[]⟩ [.B y])) (fun y=>some (.exit 0,SSt.mk' ⟨(uu 33 ([])),[]⟩ []))):=by kernel_rfl
theorem m_Z88_ok:∀ n,(m_Z88 (n_Z88 n)).ok Try.prog (codeAt (bodyOf Try.f51) 2):=by
 intro n
 induction n with
 | zero=>
  intro R ds k r h
  unfold m_Z88 at h
  obtain ⟨_,_,rfl,h⟩:=dI_some h
  obtain ⟨_,_,rfl,h⟩:=dI_some h
  obtain ⟨_,_,rfl,h⟩:=dI_some h
  obtain ⟨_,_,rfl,h⟩:=dL_some h
  obtain ⟨_,_,rfl,h⟩:=dL_some h
  obtain ⟨rfl,hE⟩:=dE_some h
  obtain ⟨y,hy,hk⟩:=bnd_some hE
  cases hy
 | succ n ih=>
  intro R ds k r h
  unfold m_Z88 at h
  obtain ⟨_,_,rfl,h⟩:=dI_some h
  obtain ⟨_,_,rfl,h⟩:=dI_some h
  obtain ⟨_,_,rfl,h⟩:=dI_some h
  obtain ⟨_,_,rfl,h⟩:=dL_some h
  obtain ⟨_,_,rfl,h⟩:=dL_some h
  obtain ⟨rfl,hE⟩:=dE_some h
  obtain ⟨y,hy,hk⟩:=bnd_some hE
  cases y with
  | inl y=>
   exact ⟨0,_,_,_,hk,rfl,loop_ok px (fx:=⟨Try.func51,by kernel_rfl,by kernel_rfl⟩) entsOK_nil (lentsOK_cons ih lentsOK_nil) (by kernel_rfl) ((q_Z88 ..).trans ((c_Z88_bind ..).trans (bnd_to hy)))⟩
  | inr y=>
   exact ⟨1,_,_,_,hk,rfl,loop_ok px (fx:=⟨Try.func51,by kernel_rfl,by kernel_rfl⟩) entsOK_nil (lentsOK_cons ih lentsOK_nil) (by kernel_rfl) ((q_Z88 ..).trans ((c_Z88_bind ..).trans (bnd_to hy)))⟩
noncomputable def e_Z88:Lent:=m_Z88 (Z88)
theorem e_Z88_ok:(e_Z88).ok Try.prog (codeAt (bodyOf Try.f51) 2):=by
 intro R ds k r h
 unfold e_Z88 m_Z88 at h
 obtain ⟨_,_,rfl,h⟩:=dI_some h
 obtain ⟨_,_,rfl,h⟩:=dI_some h
 obtain ⟨_,_,rfl,h⟩:=dI_some h
 obtain ⟨_,_,rfl,h⟩:=dL_some h
 obtain ⟨_,_,rfl,h⟩:=dL_some h
 obtain ⟨rfl,hE⟩:=dE_some h
 obtain ⟨y,hy,hk⟩:=bnd_some hE
 obtain ⟨n,hn⟩:=ev_some hy
 exact m_Z88_ok n R _ k r ((bnd_to hn).trans hk)

/-!-/
def c_Z89 {R:Type} (x0 x1:List D) (x2 x3:Int) (k:Bool→Option R):Option R:=
 (Z88 x2 x3 (0:Int) x0 x1).bind (Sum.elim (fun y0=>
 k y0) (fun y1=>
 k Bool.false))
theorem c_Z89_bind {R:Type} (x0 x1:List D) (x2 x3:Int) (k:Bool→Option R):c_Z89 x0 x1 x2 x3 k=(c_Z89 x0 x1 x2 x3 some).bind k:=by
 unfold c_Z89
 repeat' first|exact bnd_tail|exact bnd_none|exact bnd_leaf|apply bnd_ite|apply bnd_cond|apply bnd_sum|(apply bnd_bind;intro _)|intro _
def Z89 (x0 x1:List D) (x2 x3:Int):Option (Bool):=c_Z89 x0 x1 x2 x3 some
def e_Z89:Ent:=⟨51,[.agg [.rd (.struct [.int .i64,.int .i64]),.rd (.struct [.int .i64,.int .i64])],.int .i64,.int .i64],[(.bool,[.undef,.undef,.undef])],fun _ ds k=>dL (fun x0 ds=>dL (fun x1 ds=>dI (fun x2 ds=>dI (fun x3 ds=>dE ((Z89 x0 x1 x2 x3).bind (fun y=>k 0 [.B y])) ds) ds) ds) ds) ds⟩
theorem q_Z89 (x0 x1:List D) (x2 x3:Int):runFn (ocOf []) (olOf [e_Z88]) A 51 Try.f51 (Sh.mks e_Z89.sh [.L x0,.L x1,.I x2,.I x3]).1 (fun v os=>some (v,os))=c_Z89 x0 x1 x2 x3 (fun y=>retO e_Z89 0 [.B y]):=by kernel_rfl
theorem e_Z89_ok:e_Z89.ok Try.prog A:=by
 intro R ds k r h
 unfold e_Z89 at h
 obtain ⟨_,_,rfl,h⟩:=dL_some h
 obtain ⟨_,_,rfl,h⟩:=dL_some h
 obtain ⟨_,_,rfl,h⟩:=dI_some h
 obtain ⟨_,_,rfl,h⟩:=dI_some h
 obtain ⟨rfl,hE⟩:=dE_some h
 obtain ⟨y,hy,hk⟩:=bnd_some hE
 exact ⟨0,_,_,_,hk,rfl,fn_ok px (fx:=⟨Try.func51,by kernel_rfl,by kernel_rfl⟩) entsOK_nil (lentsOK_cons e_Z88_ok lentsOK_nil) ((q_Z89 ..).trans ((c_Z89_bind ..).trans (bnd_to hy)))⟩

/-!-/
abbrev T_Z90:=Int→Int→Int→List D→List D→List D→Option ((Bool × Int × Int × List D) ⊕ (Int × Int × List D))
def c_Z90 {R:Type} (F:T_Z90) (x0 x1 x2:Int) (x3 x4 x5:List D) (k:(Bool × Int × Int × List D) ⊕ (Int × Int × List D)→Option R):Option R:=
 bif decide (x2<(↑x5.length:Int)) then
 if (0:Int)≤IntKind.i64.wrap (x2 - 1)∧IntKind.i64.wrap (x2 - 1)<(↑x5.length:Int) then
 if (IntKind.i64.wrap (x2 - 1)).toNat + 1≤x5.length then
 if 0≤x2∧x2<(↑x5.length:Int) then
 if x2.toNat + 1≤x5.length then
 (Z89 x3 x4 ((x5.getD (IntKind.i64.wrap (x2 - 1)).toNat (D.int 0)).toInt) ((x5.getD x2.toNat (D.int 0)).toInt)).bind (fun y0=>
 bif !y0 then
 k (.inl (Bool.false,x0,x1,x5))
 else
 (F x0 x1 (IntKind.i64.wrap (x2 + 1)) x3 x4 x5).bind k)
 else
 none
 else
 none
 else
 none
 else
 none
 else
 k (.inr (x0,x1,x5))
theorem c_Z90_bind {R:Type} (F:T_Z90) (x0 x1 x2:Int) (x3 x4 x5:List D) (k:(Bool × Int × Int × List D) ⊕ (Int × Int × List D)→Option R):c_Z90 F x0 x1 x2 x3 x4 x5 k=(c_Z90 F x0 x1 x2 x3 x4 x5 some).bind k:=by
 unfold c_Z90
 repeat' first|exact bnd_tail|exact bnd_none|exact bnd_leaf|apply bnd_ite|apply bnd_cond|apply bnd_sum|(apply bnd_bind;intro _)|intro _
def n_Z90:Nat→T_Z90
 | 0,_,_,_,_,_,_=>none
 | n + 1,x0,x1,x2,x3,x4,x5=>c_Z90 (n_Z90 n) x0 x1 x2 x3 x4 x5 some
noncomputable def Z90 (x0 x1 x2:Int) (x3 x4 x5:List D):Option ((Bool × Int × Int × List D) ⊕ (Int × Int × List D)):=ev (fun n=>n_Z90 n x0 x1 x2 x3 x4 x5)
def m_Z90 (F:T_Z90):Lent:=⟨18,⟨(.undef :: .undef :: .undef :: .ptr 1000 [0] :: .int .i64 :: .int .i64 :: .full 1002 [] (.int .i64) :: uu 10 (.int .i64 :: uu 125 ([]))),[(1000,.obox (.agg [.full 1001 [0] (.struct [.int .i64,.int .i64]),.full 1001 [1] (.struct [.int .i64,.int .i64])])),(1001,.agg [.own (.struct [.int .i64,.int .i64]),.own (.struct [.int .i64,.int .i64])]),(1002,.own (.int .i64))]⟩,[(.ret,⟨(.undef :: .undef :: .bool :: .undef :: .int .i64 :: .int .i64 :: .full 1000 [] (.int .i64) :: uu 136 ([])),[(1000,.own (.int .i64))]⟩),(.exit 0,⟨(uu 4 (.int .i64 :: .int .i64 :: .full 1000 [] (.int .i64) :: uu 136 ([]))),[(1000,.own (.int .i64))]⟩)],fun _ ds k=>dI (fun x0 ds=>dI (fun x1 ds=>dI (fun x2 ds=>dL (fun x3 ds=>dL (fun x4 ds=>dL (fun x5 ds=>dE ((F x0 x1 x2 x3 x4 x5).bind (Sum.elim (fun y=>k 0 [.B y.1,.I y.2.1,.I y.2.2.1,.L y.2.2.2]) (fun y=>k 1 [.I y.1,.I y.2.1,.L y.2.2]))) ds) ds) ds) ds) ds) ds) ds⟩
theorem q_Z90 (F:T_Z90) (x0 x1 x2:Int) (x3 x4 x5:List D):runLoop (ocOf [e_Z89]) (olOf [m_Z90 F]) A 8 (codeAt (bodyOf Try.f8) 18) ((m_Z90 F).sh.mk' [.I x0,.I x1,.I x2,.L x3,.L x4,.L x5]) (fun e σ'=>some (e,σ'))=c_Z90 F x0 x1 x2 x3 x4 x5 (Sum.elim (fun y=>some (.ret,SSt.mk' ⟨(.undef :: .undef :: .bool :: .undef :: .int .i64 :: .int .i64 :: .full 1000 [] (.int .i64) :: uu 136 ([])),[(1000,.own (.int .i64))]⟩ [.B y.1,.I y.2.1,.I y.2.2.1,.L y.2.2.2])) (fun y=>some (.exit 0,SSt.mk' ⟨(uu 4 (.int .i64 :: .int .i64 :: .full 1000 [] (.int .i64) :: uu 136 ([]))),[(1000,.own (.int .i64))]⟩ [.I y.1,.I y.2.1,.L y.2.2]))):=by kernel_rfl
theorem m_Z90_ok:∀ n,(m_Z90 (n_Z90 n)).ok Try.prog (codeAt (bodyOf Try.f8) 18):=by
 intro n
 induction n with
 | zero=>
  intro R ds k r h
  unfold m_Z90 at h
  obtain ⟨_,_,rfl,h⟩:=dI_some h
  obtain ⟨_,_,rfl,h⟩:=dI_some h
  obtain ⟨_,_,rfl,h⟩:=dI_some h
  obtain ⟨_,_,rfl,h⟩:=dL_some h
  obtain ⟨_,_,rfl,h⟩:=dL_some h
  obtain ⟨_,_,rfl,h⟩:=dL_some h
  obtain ⟨rfl,hE⟩:=dE_some h
  obtain ⟨y,hy,hk⟩:=bnd_some hE
  cases hy
 | succ n ih=>
  intro R ds k r h
  unfold m_Z90 at h
  obtain ⟨_,_,rfl,h⟩:=dI_some h
  obtain ⟨_,_,rfl,h⟩:=dI_some h
  obtain ⟨_,_,rfl,h⟩:=dI_some h
  obtain ⟨_,_,rfl,h⟩:=dL_some h
  obtain ⟨_,_,rfl,h⟩:=dL_some h
  obtain ⟨_,_,rfl,h⟩:=dL_some h
  obtain ⟨rfl,hE⟩:=dE_some h
  obtain ⟨y,hy,hk⟩:=bnd_some hE
  cases y with
  | inl y=>
   exact ⟨0,_,_,_,hk,rfl,loop_ok px (fx:=⟨Try.func8,by kernel_rfl,by kernel_rfl⟩) (entsOK_cons e_Z89_ok entsOK_nil) (lentsOK_cons ih lentsOK_nil) (by kernel_rfl) ((q_Z90 ..).trans ((c_Z90_bind ..).trans (bnd_to hy)))⟩
  | inr y=>
   exact ⟨1,_,_,_,hk,rfl,loop_ok px (fx:=⟨Try.func8,by kernel_rfl,by kernel_rfl⟩) (entsOK_cons e_Z89_ok entsOK_nil) (lentsOK_cons ih lentsOK_nil) (by kernel_rfl) ((q_Z90 ..).trans ((c_Z90_bind ..).trans (bnd_to hy)))⟩
noncomputable def e_Z90:Lent:=m_Z90 (Z90)
theorem e_Z90_ok:(e_Z90).ok Try.prog (codeAt (bodyOf Try.f8) 18):=by
 intro R ds k r h
 unfold e_Z90 m_Z90 at h
 obtain ⟨_,_,rfl,h⟩:=dI_some h
 obtain ⟨_,_,rfl,h⟩:=dI_some h
 obtain ⟨_,_,rfl,h⟩:=dI_some h
 obtain ⟨_,_,rfl,h⟩:=dL_some h
 obtain ⟨_,_,rfl,h⟩:=dL_some h
 obtain ⟨_,_,rfl,h⟩:=dL_some h
 obtain ⟨rfl,hE⟩:=dE_some h
 obtain ⟨y,hy,hk⟩:=bnd_some hE
 obtain ⟨n,hn⟩:=ev_some hy
 exact m_Z90_ok n R _ k r ((bnd_to hn).trans hk)

/-!-/
def c_Z91 {R:Type} (x0:List D) (k:Bool→Option R):Option R:=
 (Z0 x0).bind (fun y0=>
 bif y0 then
 k Bool.true
 else
 (Z25 x0).bind (fun y1=>
 (Z64 y1.fst y1.snd.fst y1.snd.snd.fst y1.snd.snd.snd).bind (fun y2=>
 (Z65 y1.fst y1.snd.fst y1.snd.snd.fst y1.snd.snd.snd).bind (fun y3=>
 (Z77 y1.fst y1.snd.fst y1.snd.snd.fst y1.snd.snd.snd).bind (fun y4=>
 bif !y3.fst == y4.fst then
 k Bool.false
 else
 bif !y3.snd == y4.snd then
 k Bool.false
 else
 bif !y2.snd.snd == y3.snd then
 k Bool.false
 else
 bif !y2.snd.fst == y3.fst then
 k Bool.false
 else
 bif !y2.snd.snd then
 k (decide ((↑y2.fst.length:Int)=(0:Int)))
 else
 (Z81 y1.fst y1.snd.fst y1.snd.snd.snd).bind (fun y5=>
 (Z85 y1.fst y1.snd.fst y1.snd.snd.fst).bind (fun y6=>
 bif !y5.snd then
 k Bool.false
 else
 bif !y6.snd then
 k Bool.false
 else
 (Z87 y5.fst y1.snd.snd.fst).bind (fun y7=>
 bif !y7 == y3.fst then
 k Bool.false
 else
 (Z87 y6.fst y1.snd.snd.snd).bind (fun y8=>
 bif !y8 == y3.fst then
 k Bool.false
 else
 bif !y2.snd.fst then
 k Bool.true
 else
 (Z90 y1.snd.snd.fst y1.snd.snd.snd (1:Int) y1.fst y1.snd.fst y2.fst).bind (Sum.elim (fun y9=>
 k y9.fst) (fun y10=>
 bif decide ((1:Int)<(↑y10.snd.snd.length:Int)) then
 if (0:Int)≤(0:Int)∧(0:Int)<(↑y10.snd.snd.length:Int) then
 if Int.toNat (0:Int) + (1:Nat)≤y10.snd.snd.length then
 bif decide ((y10.snd.snd.getD (Int.toNat (0:Int)) (D.int 0)).toInt=y10.fst) then
 if (0:Int)≤IntKind.i64.wrap ((↑y10.snd.snd.length:Int) - (1:Int))∧IntKind.i64.wrap ((↑y10.snd.snd.length:Int) - (1:Int))<(↑y10.snd.snd.length:Int) then
 if (IntKind.i64.wrap ((↑y10.snd.snd.length:Int) - (1:Int))).toNat + 1≤y10.snd.snd.length then
 k (decide ((y10.snd.snd.getD (IntKind.i64.wrap ((↑y10.snd.snd.length:Int) - (1:Int))).toNat (D.int 0)).toInt=y10.snd.fst))
 else
 none
 else
 none
 else
 k Bool.false
 else
 none
 else
 none
 else
 k Bool.false)))))))))))
theorem c_Z91_bind {R:Type} (x0:List D) (k:Bool→Option R):c_Z91 x0 k=(c_Z91 x0 some).bind k:=by
 unfold c_Z91
 repeat' first|exact bnd_tail|exact bnd_none|exact bnd_leaf|apply bnd_ite|apply bnd_cond|apply bnd_sum|(apply bnd_bind;intro _)|intro _
def Z91 (x0:List D):Option (Bool):=c_Z91 x0 some
def e_Z91:Ent:=⟨8,[.rd (.int .u8)],[(.bool,[.undef])],fun _ ds k=>dL (fun x0 ds=>dE ((Z91 x0).bind (fun y=>k 0 [.B y])) ds) ds⟩
theorem q_Z91 (x0:List D):runFn (ocOf [e_Z0,e_Z25,e_Z64,e_Z65,e_Z77,e_Z81,e_Z85,e_Z87]) (olOf [e_Z90]) A 8 Try.f8 (Sh.mks e_Z91.sh [.L x0]).1 (fun v os=>some (v,os))=c_Z91 x0 (fun y=>retO e_Z91 0 [.B y]):=by kernel_rfl
theorem e_Z91_ok:e_Z91.ok Try.prog A:=by
 intro R ds k r h
 unfold e_Z91 at h
 obtain ⟨_,_,rfl,h⟩:=dL_some h
 obtain ⟨rfl,hE⟩:=dE_some h
 obtain ⟨y,hy,hk⟩:=bnd_some hE
 exact ⟨0,_,_,_,hk,rfl,fn_ok px (fx:=⟨Try.func8,by kernel_rfl,by kernel_rfl⟩) (entsOK_cons e_Z0_ok (entsOK_cons e_Z25_ok (entsOK_cons e_Z64_ok (entsOK_cons e_Z65_ok (entsOK_cons e_Z77_ok (entsOK_cons e_Z81_ok (entsOK_cons e_Z85_ok (entsOK_cons e_Z87_ok entsOK_nil)))))))) (lentsOK_cons e_Z90_ok lentsOK_nil) ((q_Z91 ..).trans ((c_Z91_bind ..).trans (bnd_to hy)))⟩
end
end Go.Proofs.Ytdoaceeakjbgfaa
