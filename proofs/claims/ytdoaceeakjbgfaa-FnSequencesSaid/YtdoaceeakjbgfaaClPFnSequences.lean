/- The law FnSequences over plain values. No condition beside those of the statement. -/
import Derived.Test.YtdoaceeakjbgfaaClMFnSequences
import Derived.Test.YtdoaceeakjbgfaaRaiU6
set_option linter.unusedVariables false
set_option linter.unusedSimpArgs false
set_option maxRecDepth 100000
namespace Go.Proofs.Ytdoaceeakjbgfaa
open Go Go.Rai
theorem Z4_fx (x0 x1 x2:Int) (x3:List D) (x4 x5:Int) (x6:List D):Z4 x0 x1 x2 x3 x4 x5 x6=c_Z4 Z4 x0 x1 x2 x3 x4 x5 x6 some:=
 fix_eq (N:=fun n (p:Int×Int×Int×List D×Int×Int×List D)=>n_Z4 n p.1 p.2.1 p.2.2.1 p.2.2.2.1 p.2.2.2.2.1 p.2.2.2.2.2.1 p.2.2.2.2.2.2) (C:=fun f p=>c_Z4 (fun x0 x1 x2 x3 x4 x5 x6=>f (x0,x1,x2,x3,x4,x5,x6)) p.1 p.2.1 p.2.2.1 p.2.2.2.1 p.2.2.2.2.1 p.2.2.2.2.2.1 p.2.2.2.2.2.2 some) (fun _=>rfl) (fun _ _=>rfl) (fun hD f fs h p=>by
  unfold c_Z4
  repeat' first | exact Lim.const hD | exact h _ | apply Lim.ite | apply Lim.cond | apply Lim.bind hD | apply Lim.sum | intro _) (x0,x1,x2,x3,x4,x5,x6)
theorem Z7_fx (x0:Int) (x1 x2:List D) (x3 x4:Int):Z7 x0 x1 x2 x3 x4=c_Z7 Z7 x0 x1 x2 x3 x4 some:=
 fix_eq (N:=fun n (p:Int×List D×List D×Int×Int)=>n_Z7 n p.1 p.2.1 p.2.2.1 p.2.2.2.1 p.2.2.2.2) (C:=fun f p=>c_Z7 (fun x0 x1 x2 x3 x4=>f (x0,x1,x2,x3,x4)) p.1 p.2.1 p.2.2.1 p.2.2.2.1 p.2.2.2.2 some) (fun _=>rfl) (fun _ _=>rfl) (fun hD f fs h p=>by
  unfold c_Z7
  repeat' first | exact Lim.const hD | exact h _ | apply Lim.ite | apply Lim.cond | apply Lim.bind hD | apply Lim.sum | intro _) (x0,x1,x2,x3,x4)
theorem Z10_fx (x0:Int) (x1 x2:List D) (x3 x4:Int):Z10 x0 x1 x2 x3 x4=c_Z10 Z10 x0 x1 x2 x3 x4 some:=
 fix_eq (N:=fun n (p:Int×List D×List D×Int×Int)=>n_Z10 n p.1 p.2.1 p.2.2.1 p.2.2.2.1 p.2.2.2.2) (C:=fun f p=>c_Z10 (fun x0 x1 x2 x3 x4=>f (x0,x1,x2,x3,x4)) p.1 p.2.1 p.2.2.1 p.2.2.2.1 p.2.2.2.2 some) (fun _=>rfl) (fun _ _=>rfl) (fun hD f fs h p=>by
  unfold c_Z10
  repeat' first | exact Lim.const hD | exact h _ | apply Lim.ite | apply Lim.cond | apply Lim.bind hD | apply Lim.sum | intro _) (x0,x1,x2,x3,x4)
theorem Z12_fx (x0 x1:Int) (x2:List D) (x3 x4:Int) (x5 x6:List D):Z12 x0 x1 x2 x3 x4 x5 x6=c_Z12 Z12 x0 x1 x2 x3 x4 x5 x6 some:=
 fix_eq (N:=fun n (p:Int×Int×List D×Int×Int×List D×List D)=>n_Z12 n p.1 p.2.1 p.2.2.1 p.2.2.2.1 p.2.2.2.2.1 p.2.2.2.2.2.1 p.2.2.2.2.2.2) (C:=fun f p=>c_Z12 (fun x0 x1 x2 x3 x4 x5 x6=>f (x0,x1,x2,x3,x4,x5,x6)) p.1 p.2.1 p.2.2.1 p.2.2.2.1 p.2.2.2.2.1 p.2.2.2.2.2.1 p.2.2.2.2.2.2 some) (fun _=>rfl) (fun _ _=>rfl) (fun hD f fs h p=>by
  unfold c_Z12
  repeat' first | exact Lim.const hD | exact h _ | apply Lim.ite | apply Lim.cond | apply Lim.bind hD | apply Lim.sum | intro _) (x0,x1,x2,x3,x4,x5,x6)
theorem Z13_fx (x0 x1:Int) (x2:List D) (x3 x4:Int) (x5:List D):Z13 x0 x1 x2 x3 x4 x5=c_Z13 Z13 x0 x1 x2 x3 x4 x5 some:=
 fix_eq (N:=fun n (p:Int×Int×List D×Int×Int×List D)=>n_Z13 n p.1 p.2.1 p.2.2.1 p.2.2.2.1 p.2.2.2.2.1 p.2.2.2.2.2) (C:=fun f p=>c_Z13 (fun x0 x1 x2 x3 x4 x5=>f (x0,x1,x2,x3,x4,x5)) p.1 p.2.1 p.2.2.1 p.2.2.2.1 p.2.2.2.2.1 p.2.2.2.2.2 some) (fun _=>rfl) (fun _ _=>rfl) (fun hD f fs h p=>by
  unfold c_Z13
  repeat' first | exact Lim.const hD | exact h _ | apply Lim.ite | apply Lim.cond | apply Lim.bind hD | apply Lim.sum | intro _) (x0,x1,x2,x3,x4,x5)
theorem Z16_fx (x0:Int) (x1:List D) (x2 x3:Int) (x4 x5:List D):Z16 x0 x1 x2 x3 x4 x5=c_Z16 Z16 x0 x1 x2 x3 x4 x5 some:=
 fix_eq (N:=fun n (p:Int×List D×Int×Int×List D×List D)=>n_Z16 n p.1 p.2.1 p.2.2.1 p.2.2.2.1 p.2.2.2.2.1 p.2.2.2.2.2) (C:=fun f p=>c_Z16 (fun x0 x1 x2 x3 x4 x5=>f (x0,x1,x2,x3,x4,x5)) p.1 p.2.1 p.2.2.1 p.2.2.2.1 p.2.2.2.2.1 p.2.2.2.2.2 some) (fun _=>rfl) (fun _ _=>rfl) (fun hD f fs h p=>by
  unfold c_Z16
  repeat' first | exact Lim.const hD | exact h _ | apply Lim.ite | apply Lim.cond | apply Lim.bind hD | apply Lim.sum | intro _) (x0,x1,x2,x3,x4,x5)
theorem Z17_fx (x0:Int) (x1:List D) (x2 x3:Int) (x4 x5:List D):Z17 x0 x1 x2 x3 x4 x5=c_Z17 Z17 x0 x1 x2 x3 x4 x5 some:=
 fix_eq (N:=fun n (p:Int×List D×Int×Int×List D×List D)=>n_Z17 n p.1 p.2.1 p.2.2.1 p.2.2.2.1 p.2.2.2.2.1 p.2.2.2.2.2) (C:=fun f p=>c_Z17 (fun x0 x1 x2 x3 x4 x5=>f (x0,x1,x2,x3,x4,x5)) p.1 p.2.1 p.2.2.1 p.2.2.2.1 p.2.2.2.2.1 p.2.2.2.2.2 some) (fun _=>rfl) (fun _ _=>rfl) (fun hD f fs h p=>by
  unfold c_Z17
  repeat' first | exact Lim.const hD | exact h _ | apply Lim.ite | apply Lim.cond | apply Lim.bind hD | apply Lim.sum | intro _) (x0,x1,x2,x3,x4,x5)
theorem Z18_fx (x0 x1:Int) (x2:List D) (x3 x4:Int) (x5 x6:List D):Z18 x0 x1 x2 x3 x4 x5 x6=c_Z18 Z18 x0 x1 x2 x3 x4 x5 x6 some:=
 fix_eq (N:=fun n (p:Int×Int×List D×Int×Int×List D×List D)=>n_Z18 n p.1 p.2.1 p.2.2.1 p.2.2.2.1 p.2.2.2.2.1 p.2.2.2.2.2.1 p.2.2.2.2.2.2) (C:=fun f p=>c_Z18 (fun x0 x1 x2 x3 x4 x5 x6=>f (x0,x1,x2,x3,x4,x5,x6)) p.1 p.2.1 p.2.2.1 p.2.2.2.1 p.2.2.2.2.1 p.2.2.2.2.2.1 p.2.2.2.2.2.2 some) (fun _=>rfl) (fun _ _=>rfl) (fun hD f fs h p=>by
  unfold c_Z18
  repeat' first | exact Lim.const hD | exact h _ | apply Lim.ite | apply Lim.cond | apply Lim.bind hD | apply Lim.sum | intro _) (x0,x1,x2,x3,x4,x5,x6)
theorem Z19_fx (x0 x1:Int) (x2:List D) (x3 x4:Int) (x5 x6:List D):Z19 x0 x1 x2 x3 x4 x5 x6=c_Z19 Z19 x0 x1 x2 x3 x4 x5 x6 some:=
 fix_eq (N:=fun n (p:Int×Int×List D×Int×Int×List D×List D)=>n_Z19 n p.1 p.2.1 p.2.2.1 p.2.2.2.1 p.2.2.2.2.1 p.2.2.2.2.2.1 p.2.2.2.2.2.2) (C:=fun f p=>c_Z19 (fun x0 x1 x2 x3 x4 x5 x6=>f (x0,x1,x2,x3,x4,x5,x6)) p.1 p.2.1 p.2.2.1 p.2.2.2.1 p.2.2.2.2.1 p.2.2.2.2.2.1 p.2.2.2.2.2.2 some) (fun _=>rfl) (fun _ _=>rfl) (fun hD f fs h p=>by
  unfold c_Z19
  repeat' first | exact Lim.const hD | exact h _ | apply Lim.ite | apply Lim.cond | apply Lim.bind hD | apply Lim.sum | intro _) (x0,x1,x2,x3,x4,x5,x6)
theorem Z20_fx (x0:Int) (x1:List D) (x2 x3:Int) (x4 x5:List D):Z20 x0 x1 x2 x3 x4 x5=c_Z20 Z20 x0 x1 x2 x3 x4 x5 some:=
 fix_eq (N:=fun n (p:Int×List D×Int×Int×List D×List D)=>n_Z20 n p.1 p.2.1 p.2.2.1 p.2.2.2.1 p.2.2.2.2.1 p.2.2.2.2.2) (C:=fun f p=>c_Z20 (fun x0 x1 x2 x3 x4 x5=>f (x0,x1,x2,x3,x4,x5)) p.1 p.2.1 p.2.2.1 p.2.2.2.1 p.2.2.2.2.1 p.2.2.2.2.2 some) (fun _=>rfl) (fun _ _=>rfl) (fun hD f fs h p=>by
  unfold c_Z20
  repeat' first | exact Lim.const hD | exact h _ | apply Lim.ite | apply Lim.cond | apply Lim.bind hD | apply Lim.sum | intro _) (x0,x1,x2,x3,x4,x5)
theorem Z21_fx (x0:Int) (x1:List D) (x2 x3:Int) (x4 x5:List D):Z21 x0 x1 x2 x3 x4 x5=c_Z21 Z21 x0 x1 x2 x3 x4 x5 some:=
 fix_eq (N:=fun n (p:Int×List D×Int×Int×List D×List D)=>n_Z21 n p.1 p.2.1 p.2.2.1 p.2.2.2.1 p.2.2.2.2.1 p.2.2.2.2.2) (C:=fun f p=>c_Z21 (fun x0 x1 x2 x3 x4 x5=>f (x0,x1,x2,x3,x4,x5)) p.1 p.2.1 p.2.2.1 p.2.2.2.1 p.2.2.2.2.1 p.2.2.2.2.2 some) (fun _=>rfl) (fun _ _=>rfl) (fun hD f fs h p=>by
  unfold c_Z21
  repeat' first | exact Lim.const hD | exact h _ | apply Lim.ite | apply Lim.cond | apply Lim.bind hD | apply Lim.sum | intro _) (x0,x1,x2,x3,x4,x5)
theorem Z23_fx (x0 x1:Int) (x2 x3:List D):Z23 x0 x1 x2 x3=c_Z23 Z23 x0 x1 x2 x3 some:=
 fix_eq (N:=fun n (p:Int×Int×List D×List D)=>n_Z23 n p.1 p.2.1 p.2.2.1 p.2.2.2) (C:=fun f p=>c_Z23 (fun x0 x1 x2 x3=>f (x0,x1,x2,x3)) p.1 p.2.1 p.2.2.1 p.2.2.2 some) (fun _=>rfl) (fun _ _=>rfl) (fun hD f fs h p=>by
  unfold c_Z23
  repeat' first | exact Lim.const hD | exact h _ | apply Lim.ite | apply Lim.cond | apply Lim.bind hD | apply Lim.sum | intro _) (x0,x1,x2,x3)
theorem Z25_fx (x0:Int) (x1 x2 x3:List D):Z25 x0 x1 x2 x3=c_Z25 Z25 x0 x1 x2 x3 some:=
 fix_eq (N:=fun n (p:Int×List D×List D×List D)=>n_Z25 n p.1 p.2.1 p.2.2.1 p.2.2.2) (C:=fun f p=>c_Z25 (fun x0 x1 x2 x3=>f (x0,x1,x2,x3)) p.1 p.2.1 p.2.2.1 p.2.2.2 some) (fun _=>rfl) (fun _ _=>rfl) (fun hD f fs h p=>by
  unfold c_Z25
  repeat' first | exact Lim.const hD | exact h _ | apply Lim.ite | apply Lim.cond | apply Lim.bind hD | apply Lim.sum | intro _) (x0,x1,x2,x3)
theorem Z26_fx (x0 x1:Int) (x2:List D):Z26 x0 x1 x2=c_Z26 Z26 x0 x1 x2 some:=
 fix_eq (N:=fun n (p:Int×Int×List D)=>n_Z26 n p.1 p.2.1 p.2.2) (C:=fun f p=>c_Z26 (fun x0 x1 x2=>f (x0,x1,x2)) p.1 p.2.1 p.2.2 some) (fun _=>rfl) (fun _ _=>rfl) (fun hD f fs h p=>by
  unfold c_Z26
  repeat' first | exact Lim.const hD | exact h _ | apply Lim.ite | apply Lim.cond | apply Lim.bind hD | apply Lim.sum | intro _) (x0,x1,x2)
theorem Z27_fx (x0:Int) (x1:List D):Z27 x0 x1=c_Z27 Z27 x0 x1 some:=
 fix_eq (N:=fun n (p:Int×List D)=>n_Z27 n p.1 p.2) (C:=fun f p=>c_Z27 (fun x0 x1=>f (x0,x1)) p.1 p.2 some) (fun _=>rfl) (fun _ _=>rfl) (fun hD f fs h p=>by
  unfold c_Z27
  repeat' first | exact Lim.const hD | exact h _ | apply Lim.ite | apply Lim.cond | apply Lim.bind hD | apply Lim.sum | intro _) (x0,x1)
theorem Z30_fx (x0:Int) (x1:List D):Z30 x0 x1=c_Z30 Z30 x0 x1 some:=
 fix_eq (N:=fun n (p:Int×List D)=>n_Z30 n p.1 p.2) (C:=fun f p=>c_Z30 (fun x0 x1=>f (x0,x1)) p.1 p.2 some) (fun _=>rfl) (fun _ _=>rfl) (fun hD f fs h p=>by
  unfold c_Z30
  repeat' first | exact Lim.const hD | exact h _ | apply Lim.ite | apply Lim.cond | apply Lim.bind hD | apply Lim.sum | intro _) (x0,x1)
theorem Z38_fx (x0:List D) (x1 x2:Int) (x3 x4:List D):Z38 x0 x1 x2 x3 x4=c_Z38 Z38 x0 x1 x2 x3 x4 some:=
 fix_eq (N:=fun n (p:List D×Int×Int×List D×List D)=>n_Z38 n p.1 p.2.1 p.2.2.1 p.2.2.2.1 p.2.2.2.2) (C:=fun f p=>c_Z38 (fun x0 x1 x2 x3 x4=>f (x0,x1,x2,x3,x4)) p.1 p.2.1 p.2.2.1 p.2.2.2.1 p.2.2.2.2 some) (fun _=>rfl) (fun _ _=>rfl) (fun hD f fs h p=>by
  unfold c_Z38
  repeat' first | exact Lim.const hD | exact h _ | apply Lim.ite | apply Lim.cond | apply Lim.bind hD | apply Lim.sum | intro _) (x0,x1,x2,x3,x4)
theorem Z40_fx (x0:List D) (x1 x2 x3:Int):Z40 x0 x1 x2 x3=c_Z40 Z40 x0 x1 x2 x3 some:=
 fix_eq (N:=fun n (p:List D×Int×Int×Int)=>n_Z40 n p.1 p.2.1 p.2.2.1 p.2.2.2) (C:=fun f p=>c_Z40 (fun x0 x1 x2 x3=>f (x0,x1,x2,x3)) p.1 p.2.1 p.2.2.1 p.2.2.2 some) (fun _=>rfl) (fun _ _=>rfl) (fun hD f fs h p=>by
  unfold c_Z40
  repeat' first | exact Lim.const hD | exact h _ | apply Lim.ite | apply Lim.cond | apply Lim.bind hD | apply Lim.sum | intro _) (x0,x1,x2,x3)
theorem Z48_fx (x0:List D) (x1 x2:Int) (x3 x4:List D):Z48 x0 x1 x2 x3 x4=c_Z48 Z48 x0 x1 x2 x3 x4 some:=
 fix_eq (N:=fun n (p:List D×Int×Int×List D×List D)=>n_Z48 n p.1 p.2.1 p.2.2.1 p.2.2.2.1 p.2.2.2.2) (C:=fun f p=>c_Z48 (fun x0 x1 x2 x3 x4=>f (x0,x1,x2,x3,x4)) p.1 p.2.1 p.2.2.1 p.2.2.2.1 p.2.2.2.2 some) (fun _=>rfl) (fun _ _=>rfl) (fun hD f fs h p=>by
  unfold c_Z48
  repeat' first | exact Lim.const hD | exact h _ | apply Lim.ite | apply Lim.cond | apply Lim.bind hD | apply Lim.sum | intro _) (x0,x1,x2,x3,x4)
theorem Z50_fx (x0 x1 x2:Int) (x3:List D):Z50 x0 x1 x2 x3=c_Z50 Z50 x0 x1 x2 x3 some:=
 fix_eq (N:=fun n (p:Int×Int×Int×List D)=>n_Z50 n p.1 p.2.1 p.2.2.1 p.2.2.2) (C:=fun f p=>c_Z50 (fun x0 x1 x2 x3=>f (x0,x1,x2,x3)) p.1 p.2.1 p.2.2.1 p.2.2.2 some) (fun _=>rfl) (fun _ _=>rfl) (fun hD f fs h p=>by
  unfold c_Z50
  repeat' first | exact Lim.const hD | exact h _ | apply Lim.ite | apply Lim.cond | apply Lim.bind hD | apply Lim.sum | intro _) (x0,x1,x2,x3)
theorem Z52_fx (x0:Int) (x1:List D) (x2 x3:Int) (x4 x5 x6 x7 x8:List D):Z52 x0 x1 x2 x3 x4 x5 x6 x7 x8=c_Z52 Z52 x0 x1 x2 x3 x4 x5 x6 x7 x8 some:=
 fix_eq (N:=fun n (p:Int×List D×Int×Int×List D×List D×List D×List D×List D)=>n_Z52 n p.1 p.2.1 p.2.2.1 p.2.2.2.1 p.2.2.2.2.1 p.2.2.2.2.2.1 p.2.2.2.2.2.2.1 p.2.2.2.2.2.2.2.1 p.2.2.2.2.2.2.2.2) (C:=fun f p=>c_Z52 (fun x0 x1 x2 x3 x4 x5 x6 x7 x8=>f (x0,x1,x2,x3,x4,x5,x6,x7,x8)) p.1 p.2.1 p.2.2.1 p.2.2.2.1 p.2.2.2.2.1 p.2.2.2.2.2.1 p.2.2.2.2.2.2.1 p.2.2.2.2.2.2.2.1 p.2.2.2.2.2.2.2.2 some) (fun _=>rfl) (fun _ _=>rfl) (fun hD f fs h p=>by
  unfold c_Z52
  repeat' first | exact Lim.const hD | exact h _ | apply Lim.ite | apply Lim.cond | apply Lim.bind hD | apply Lim.sum | intro _) (x0,x1,x2,x3,x4,x5,x6,x7,x8)
theorem Z53_fx (x0:Int) (x1:List D) (x2 x3:Int) (x4 x5 x6 x7 x8:List D):Z53 x0 x1 x2 x3 x4 x5 x6 x7 x8=c_Z53 Z53 x0 x1 x2 x3 x4 x5 x6 x7 x8 some:=
 fix_eq (N:=fun n (p:Int×List D×Int×Int×List D×List D×List D×List D×List D)=>n_Z53 n p.1 p.2.1 p.2.2.1 p.2.2.2.1 p.2.2.2.2.1 p.2.2.2.2.2.1 p.2.2.2.2.2.2.1 p.2.2.2.2.2.2.2.1 p.2.2.2.2.2.2.2.2) (C:=fun f p=>c_Z53 (fun x0 x1 x2 x3 x4 x5 x6 x7 x8=>f (x0,x1,x2,x3,x4,x5,x6,x7,x8)) p.1 p.2.1 p.2.2.1 p.2.2.2.1 p.2.2.2.2.1 p.2.2.2.2.2.1 p.2.2.2.2.2.2.1 p.2.2.2.2.2.2.2.1 p.2.2.2.2.2.2.2.2 some) (fun _=>rfl) (fun _ _=>rfl) (fun hD f fs h p=>by
  unfold c_Z53
  repeat' first | exact Lim.const hD | exact h _ | apply Lim.ite | apply Lim.cond | apply Lim.bind hD | apply Lim.sum | intro _) (x0,x1,x2,x3,x4,x5,x6,x7,x8)
theorem Z54_fx (x0:Int) (x1:List D) (x2 x3:Int) (x4 x5 x6 x7 x8:List D):Z54 x0 x1 x2 x3 x4 x5 x6 x7 x8=c_Z54 Z54 x0 x1 x2 x3 x4 x5 x6 x7 x8 some:=
 fix_eq (N:=fun n (p:Int×List D×Int×Int×List D×List D×List D×List D×List D)=>n_Z54 n p.1 p.2.1 p.2.2.1 p.2.2.2.1 p.2.2.2.2.1 p.2.2.2.2.2.1 p.2.2.2.2.2.2.1 p.2.2.2.2.2.2.2.1 p.2.2.2.2.2.2.2.2) (C:=fun f p=>c_Z54 (fun x0 x1 x2 x3 x4 x5 x6 x7 x8=>f (x0,x1,x2,x3,x4,x5,x6,x7,x8)) p.1 p.2.1 p.2.2.1 p.2.2.2.1 p.2.2.2.2.1 p.2.2.2.2.2.1 p.2.2.2.2.2.2.1 p.2.2.2.2.2.2.2.1 p.2.2.2.2.2.2.2.2 some) (fun _=>rfl) (fun _ _=>rfl) (fun hD f fs h p=>by
  unfold c_Z54
  repeat' first | exact Lim.const hD | exact h _ | apply Lim.ite | apply Lim.cond | apply Lim.bind hD | apply Lim.sum | intro _) (x0,x1,x2,x3,x4,x5,x6,x7,x8)
theorem Z55_fx (x0 x1 x2 x3 x4 x5 x6 x7 x8:Int) (x9 x10 x11:List D):Z55 x0 x1 x2 x3 x4 x5 x6 x7 x8 x9 x10 x11=c_Z55 Z55 x0 x1 x2 x3 x4 x5 x6 x7 x8 x9 x10 x11 some:=
 fix_eq (N:=fun n (p:Int×Int×Int×Int×Int×Int×Int×Int×Int×List D×List D×List D)=>n_Z55 n p.1 p.2.1 p.2.2.1 p.2.2.2.1 p.2.2.2.2.1 p.2.2.2.2.2.1 p.2.2.2.2.2.2.1 p.2.2.2.2.2.2.2.1 p.2.2.2.2.2.2.2.2.1 p.2.2.2.2.2.2.2.2.2.1 p.2.2.2.2.2.2.2.2.2.2.1 p.2.2.2.2.2.2.2.2.2.2.2) (C:=fun f p=>c_Z55 (fun x0 x1 x2 x3 x4 x5 x6 x7 x8 x9 x10 x11=>f (x0,x1,x2,x3,x4,x5,x6,x7,x8,x9,x10,x11)) p.1 p.2.1 p.2.2.1 p.2.2.2.1 p.2.2.2.2.1 p.2.2.2.2.2.1 p.2.2.2.2.2.2.1 p.2.2.2.2.2.2.2.1 p.2.2.2.2.2.2.2.2.1 p.2.2.2.2.2.2.2.2.2.1 p.2.2.2.2.2.2.2.2.2.2.1 p.2.2.2.2.2.2.2.2.2.2.2 some) (fun _=>rfl) (fun _ _=>rfl) (fun hD f fs h p=>by
  unfold c_Z55
  repeat' first | exact Lim.const hD | exact h _ | apply Lim.ite | apply Lim.cond | apply Lim.bind hD | apply Lim.sum | intro _) (x0,x1,x2,x3,x4,x5,x6,x7,x8,x9,x10,x11)
theorem Z56_fx (x0 x1 x2 x3 x4 x5:Int) (x6 x7 x8:List D):Z56 x0 x1 x2 x3 x4 x5 x6 x7 x8=c_Z56 Z56 x0 x1 x2 x3 x4 x5 x6 x7 x8 some:=
 fix_eq (N:=fun n (p:Int×Int×Int×Int×Int×Int×List D×List D×List D)=>n_Z56 n p.1 p.2.1 p.2.2.1 p.2.2.2.1 p.2.2.2.2.1 p.2.2.2.2.2.1 p.2.2.2.2.2.2.1 p.2.2.2.2.2.2.2.1 p.2.2.2.2.2.2.2.2) (C:=fun f p=>c_Z56 (fun x0 x1 x2 x3 x4 x5 x6 x7 x8=>f (x0,x1,x2,x3,x4,x5,x6,x7,x8)) p.1 p.2.1 p.2.2.1 p.2.2.2.1 p.2.2.2.2.1 p.2.2.2.2.2.1 p.2.2.2.2.2.2.1 p.2.2.2.2.2.2.2.1 p.2.2.2.2.2.2.2.2 some) (fun _=>rfl) (fun _ _=>rfl) (fun hD f fs h p=>by
  unfold c_Z56
  repeat' first | exact Lim.const hD | exact h _ | apply Lim.ite | apply Lim.cond | apply Lim.bind hD | apply Lim.sum | intro _) (x0,x1,x2,x3,x4,x5,x6,x7,x8)
theorem Z57_fx (x0 x1 x2:Int) (x3 x4 x5:List D):Z57 x0 x1 x2 x3 x4 x5=c_Z57 Z57 x0 x1 x2 x3 x4 x5 some:=
 fix_eq (N:=fun n (p:Int×Int×Int×List D×List D×List D)=>n_Z57 n p.1 p.2.1 p.2.2.1 p.2.2.2.1 p.2.2.2.2.1 p.2.2.2.2.2) (C:=fun f p=>c_Z57 (fun x0 x1 x2 x3 x4 x5=>f (x0,x1,x2,x3,x4,x5)) p.1 p.2.1 p.2.2.1 p.2.2.2.1 p.2.2.2.2.1 p.2.2.2.2.2 some) (fun _=>rfl) (fun _ _=>rfl) (fun hD f fs h p=>by
  unfold c_Z57
  repeat' first | exact Lim.const hD | exact h _ | apply Lim.ite | apply Lim.cond | apply Lim.bind hD | apply Lim.sum | intro _) (x0,x1,x2,x3,x4,x5)
theorem Z58_fx (x0:Int) (x1:List D) (x2 x3:Int) (x4 x5 x6 x7 x8:List D):Z58 x0 x1 x2 x3 x4 x5 x6 x7 x8=c_Z58 Z58 x0 x1 x2 x3 x4 x5 x6 x7 x8 some:=
 fix_eq (N:=fun n (p:Int×List D×Int×Int×List D×List D×List D×List D×List D)=>n_Z58 n p.1 p.2.1 p.2.2.1 p.2.2.2.1 p.2.2.2.2.1 p.2.2.2.2.2.1 p.2.2.2.2.2.2.1 p.2.2.2.2.2.2.2.1 p.2.2.2.2.2.2.2.2) (C:=fun f p=>c_Z58 (fun x0 x1 x2 x3 x4 x5 x6 x7 x8=>f (x0,x1,x2,x3,x4,x5,x6,x7,x8)) p.1 p.2.1 p.2.2.1 p.2.2.2.1 p.2.2.2.2.1 p.2.2.2.2.2.1 p.2.2.2.2.2.2.1 p.2.2.2.2.2.2.2.1 p.2.2.2.2.2.2.2.2 some) (fun _=>rfl) (fun _ _=>rfl) (fun hD f fs h p=>by
  unfold c_Z58
  repeat' first | exact Lim.const hD | exact h _ | apply Lim.ite | apply Lim.cond | apply Lim.bind hD | apply Lim.sum | intro _) (x0,x1,x2,x3,x4,x5,x6,x7,x8)
theorem Z61_fx (x0 x1 x2:Int) (x3 x4 x5:List D):Z61 x0 x1 x2 x3 x4 x5=c_Z61 Z61 x0 x1 x2 x3 x4 x5 some:=
 fix_eq (N:=fun n (p:Int×Int×Int×List D×List D×List D)=>n_Z61 n p.1 p.2.1 p.2.2.1 p.2.2.2.1 p.2.2.2.2.1 p.2.2.2.2.2) (C:=fun f p=>c_Z61 (fun x0 x1 x2 x3 x4 x5=>f (x0,x1,x2,x3,x4,x5)) p.1 p.2.1 p.2.2.1 p.2.2.2.1 p.2.2.2.2.1 p.2.2.2.2.2 some) (fun _=>rfl) (fun _ _=>rfl) (fun hD f fs h p=>by
  unfold c_Z61
  repeat' first | exact Lim.const hD | exact h _ | apply Lim.ite | apply Lim.cond | apply Lim.bind hD | apply Lim.sum | intro _) (x0,x1,x2,x3,x4,x5)
theorem Z63_fx (x0 x1 x2:List D) (x3 x4:Int):Z63 x0 x1 x2 x3 x4=c_Z63 Z63 x0 x1 x2 x3 x4 some:=
 fix_eq (N:=fun n (p:List D×List D×List D×Int×Int)=>n_Z63 n p.1 p.2.1 p.2.2.1 p.2.2.2.1 p.2.2.2.2) (C:=fun f p=>c_Z63 (fun x0 x1 x2 x3 x4=>f (x0,x1,x2,x3,x4)) p.1 p.2.1 p.2.2.1 p.2.2.2.1 p.2.2.2.2 some) (fun _=>rfl) (fun _ _=>rfl) (fun hD f fs h p=>by
  unfold c_Z63
  repeat' first | exact Lim.const hD | exact h _ | apply Lim.ite | apply Lim.cond | apply Lim.bind hD | apply Lim.sum | intro _) (x0,x1,x2,x3,x4)
theorem Z66_fx (x0 x1 x2:List D) (x3 x4 x5 x6:Int):Z66 x0 x1 x2 x3 x4 x5 x6=c_Z66 Z66 x0 x1 x2 x3 x4 x5 x6 some:=
 fix_eq (N:=fun n (p:List D×List D×List D×Int×Int×Int×Int)=>n_Z66 n p.1 p.2.1 p.2.2.1 p.2.2.2.1 p.2.2.2.2.1 p.2.2.2.2.2.1 p.2.2.2.2.2.2) (C:=fun f p=>c_Z66 (fun x0 x1 x2 x3 x4 x5 x6=>f (x0,x1,x2,x3,x4,x5,x6)) p.1 p.2.1 p.2.2.1 p.2.2.2.1 p.2.2.2.2.1 p.2.2.2.2.2.1 p.2.2.2.2.2.2 some) (fun _=>rfl) (fun _ _=>rfl) (fun hD f fs h p=>by
  unfold c_Z66
  repeat' first | exact Lim.const hD | exact h _ | apply Lim.ite | apply Lim.cond | apply Lim.bind hD | apply Lim.sum | intro _) (x0,x1,x2,x3,x4,x5,x6)
theorem Z69_fx (x0 x1 x2 x3 x4 x5:Int) (x6 x7 x8 x9 x10:List D):Z69 x0 x1 x2 x3 x4 x5 x6 x7 x8 x9 x10=c_Z69 Z69 x0 x1 x2 x3 x4 x5 x6 x7 x8 x9 x10 some:=
 fix_eq (N:=fun n (p:Int×Int×Int×Int×Int×Int×List D×List D×List D×List D×List D)=>n_Z69 n p.1 p.2.1 p.2.2.1 p.2.2.2.1 p.2.2.2.2.1 p.2.2.2.2.2.1 p.2.2.2.2.2.2.1 p.2.2.2.2.2.2.2.1 p.2.2.2.2.2.2.2.2.1 p.2.2.2.2.2.2.2.2.2.1 p.2.2.2.2.2.2.2.2.2.2) (C:=fun f p=>c_Z69 (fun x0 x1 x2 x3 x4 x5 x6 x7 x8 x9 x10=>f (x0,x1,x2,x3,x4,x5,x6,x7,x8,x9,x10)) p.1 p.2.1 p.2.2.1 p.2.2.2.1 p.2.2.2.2.1 p.2.2.2.2.2.1 p.2.2.2.2.2.2.1 p.2.2.2.2.2.2.2.1 p.2.2.2.2.2.2.2.2.1 p.2.2.2.2.2.2.2.2.2.1 p.2.2.2.2.2.2.2.2.2.2 some) (fun _=>rfl) (fun _ _=>rfl) (fun hD f fs h p=>by
  unfold c_Z69
  repeat' first | exact Lim.const hD | exact h _ | apply Lim.ite | apply Lim.cond | apply Lim.bind hD | apply Lim.sum | intro _) (x0,x1,x2,x3,x4,x5,x6,x7,x8,x9,x10)
theorem Z70_fx (x0 x1 x2:Int) (x3 x4 x5 x6 x7:List D):Z70 x0 x1 x2 x3 x4 x5 x6 x7=c_Z70 Z70 x0 x1 x2 x3 x4 x5 x6 x7 some:=
 fix_eq (N:=fun n (p:Int×Int×Int×List D×List D×List D×List D×List D)=>n_Z70 n p.1 p.2.1 p.2.2.1 p.2.2.2.1 p.2.2.2.2.1 p.2.2.2.2.2.1 p.2.2.2.2.2.2.1 p.2.2.2.2.2.2.2) (C:=fun f p=>c_Z70 (fun x0 x1 x2 x3 x4 x5 x6 x7=>f (x0,x1,x2,x3,x4,x5,x6,x7)) p.1 p.2.1 p.2.2.1 p.2.2.2.1 p.2.2.2.2.1 p.2.2.2.2.2.1 p.2.2.2.2.2.2.1 p.2.2.2.2.2.2.2 some) (fun _=>rfl) (fun _ _=>rfl) (fun hD f fs h p=>by
  unfold c_Z70
  repeat' first | exact Lim.const hD | exact h _ | apply Lim.ite | apply Lim.cond | apply Lim.bind hD | apply Lim.sum | intro _) (x0,x1,x2,x3,x4,x5,x6,x7)
theorem Z71_fx (x0 x1 x2:Int) (x3 x4 x5 x6 x7:List D):Z71 x0 x1 x2 x3 x4 x5 x6 x7=c_Z71 Z71 x0 x1 x2 x3 x4 x5 x6 x7 some:=
 fix_eq (N:=fun n (p:Int×Int×Int×List D×List D×List D×List D×List D)=>n_Z71 n p.1 p.2.1 p.2.2.1 p.2.2.2.1 p.2.2.2.2.1 p.2.2.2.2.2.1 p.2.2.2.2.2.2.1 p.2.2.2.2.2.2.2) (C:=fun f p=>c_Z71 (fun x0 x1 x2 x3 x4 x5 x6 x7=>f (x0,x1,x2,x3,x4,x5,x6,x7)) p.1 p.2.1 p.2.2.1 p.2.2.2.1 p.2.2.2.2.1 p.2.2.2.2.2.1 p.2.2.2.2.2.2.1 p.2.2.2.2.2.2.2 some) (fun _=>rfl) (fun _ _=>rfl) (fun hD f fs h p=>by
  unfold c_Z71
  repeat' first | exact Lim.const hD | exact h _ | apply Lim.ite | apply Lim.cond | apply Lim.bind hD | apply Lim.sum | intro _) (x0,x1,x2,x3,x4,x5,x6,x7)
theorem Z72_fx (x0:Int) (x1 x2 x3 x4 x5:List D):Z72 x0 x1 x2 x3 x4 x5=c_Z72 Z72 x0 x1 x2 x3 x4 x5 some:=
 fix_eq (N:=fun n (p:Int×List D×List D×List D×List D×List D)=>n_Z72 n p.1 p.2.1 p.2.2.1 p.2.2.2.1 p.2.2.2.2.1 p.2.2.2.2.2) (C:=fun f p=>c_Z72 (fun x0 x1 x2 x3 x4 x5=>f (x0,x1,x2,x3,x4,x5)) p.1 p.2.1 p.2.2.1 p.2.2.2.1 p.2.2.2.2.1 p.2.2.2.2.2 some) (fun _=>rfl) (fun _ _=>rfl) (fun hD f fs h p=>by
  unfold c_Z72
  repeat' first | exact Lim.const hD | exact h _ | apply Lim.ite | apply Lim.cond | apply Lim.bind hD | apply Lim.sum | intro _) (x0,x1,x2,x3,x4,x5)
theorem Z74_fx (x0 x1 x2 x3 x4:List D) (x5 x6 x7 x8:Int) (x9:List D) (x10 x11:Int) (x12:List D):Z74 x0 x1 x2 x3 x4 x5 x6 x7 x8 x9 x10 x11 x12=c_Z74 Z74 x0 x1 x2 x3 x4 x5 x6 x7 x8 x9 x10 x11 x12 some:=
 fix_eq (N:=fun n (p:List D×List D×List D×List D×List D×Int×Int×Int×Int×List D×Int×Int×List D)=>n_Z74 n p.1 p.2.1 p.2.2.1 p.2.2.2.1 p.2.2.2.2.1 p.2.2.2.2.2.1 p.2.2.2.2.2.2.1 p.2.2.2.2.2.2.2.1 p.2.2.2.2.2.2.2.2.1 p.2.2.2.2.2.2.2.2.2.1 p.2.2.2.2.2.2.2.2.2.2.1 p.2.2.2.2.2.2.2.2.2.2.2.1 p.2.2.2.2.2.2.2.2.2.2.2.2) (C:=fun f p=>c_Z74 (fun x0 x1 x2 x3 x4 x5 x6 x7 x8 x9 x10 x11 x12=>f (x0,x1,x2,x3,x4,x5,x6,x7,x8,x9,x10,x11,x12)) p.1 p.2.1 p.2.2.1 p.2.2.2.1 p.2.2.2.2.1 p.2.2.2.2.2.1 p.2.2.2.2.2.2.1 p.2.2.2.2.2.2.2.1 p.2.2.2.2.2.2.2.2.1 p.2.2.2.2.2.2.2.2.2.1 p.2.2.2.2.2.2.2.2.2.2.1 p.2.2.2.2.2.2.2.2.2.2.2.1 p.2.2.2.2.2.2.2.2.2.2.2.2 some) (fun _=>rfl) (fun _ _=>rfl) (fun hD f fs h p=>by
  unfold c_Z74
  repeat' first | exact Lim.const hD | exact h _ | apply Lim.ite | apply Lim.cond | apply Lim.bind hD | apply Lim.sum | intro _) (x0,x1,x2,x3,x4,x5,x6,x7,x8,x9,x10,x11,x12)
theorem Z75_fx (x0 x1 x2 x3 x4:List D) (x5 x6 x7 x8:Int) (x9:List D):Z75 x0 x1 x2 x3 x4 x5 x6 x7 x8 x9=c_Z75 Z75 x0 x1 x2 x3 x4 x5 x6 x7 x8 x9 some:=
 fix_eq (N:=fun n (p:List D×List D×List D×List D×List D×Int×Int×Int×Int×List D)=>n_Z75 n p.1 p.2.1 p.2.2.1 p.2.2.2.1 p.2.2.2.2.1 p.2.2.2.2.2.1 p.2.2.2.2.2.2.1 p.2.2.2.2.2.2.2.1 p.2.2.2.2.2.2.2.2.1 p.2.2.2.2.2.2.2.2.2) (C:=fun f p=>c_Z75 (fun x0 x1 x2 x3 x4 x5 x6 x7 x8 x9=>f (x0,x1,x2,x3,x4,x5,x6,x7,x8,x9)) p.1 p.2.1 p.2.2.1 p.2.2.2.1 p.2.2.2.2.1 p.2.2.2.2.2.1 p.2.2.2.2.2.2.1 p.2.2.2.2.2.2.2.1 p.2.2.2.2.2.2.2.2.1 p.2.2.2.2.2.2.2.2.2 some) (fun _=>rfl) (fun _ _=>rfl) (fun hD f fs h p=>by
  unfold c_Z75
  repeat' first | exact Lim.const hD | exact h _ | apply Lim.ite | apply Lim.cond | apply Lim.bind hD | apply Lim.sum | intro _) (x0,x1,x2,x3,x4,x5,x6,x7,x8,x9)
theorem Z80_fx (x0:Int) (x1 x2:List D):Z80 x0 x1 x2=c_Z80 Z80 x0 x1 x2 some:=
 fix_eq (N:=fun n (p:Int×List D×List D)=>n_Z80 n p.1 p.2.1 p.2.2) (C:=fun f p=>c_Z80 (fun x0 x1 x2=>f (x0,x1,x2)) p.1 p.2.1 p.2.2 some) (fun _=>rfl) (fun _ _=>rfl) (fun hD f fs h p=>by
  unfold c_Z80
  repeat' first | exact Lim.const hD | exact h _ | apply Lim.ite | apply Lim.cond | apply Lim.bind hD | apply Lim.sum | intro _) (x0,x1,x2)
theorem Z81_fx (x0:Int) (x1 x2:List D):Z81 x0 x1 x2=c_Z81 Z81 x0 x1 x2 some:=
 fix_eq (N:=fun n (p:Int×List D×List D)=>n_Z81 n p.1 p.2.1 p.2.2) (C:=fun f p=>c_Z81 (fun x0 x1 x2=>f (x0,x1,x2)) p.1 p.2.1 p.2.2 some) (fun _=>rfl) (fun _ _=>rfl) (fun hD f fs h p=>by
  unfold c_Z81
  repeat' first | exact Lim.const hD | exact h _ | apply Lim.ite | apply Lim.cond | apply Lim.bind hD | apply Lim.sum | intro _) (x0,x1,x2)
theorem Z84_fx (x0:List D) (x1 x2 x3:Int):Z84 x0 x1 x2 x3=c_Z84 Z84 x0 x1 x2 x3 some:=
 fix_eq (N:=fun n (p:List D×Int×Int×Int)=>n_Z84 n p.1 p.2.1 p.2.2.1 p.2.2.2) (C:=fun f p=>c_Z84 (fun x0 x1 x2 x3=>f (x0,x1,x2,x3)) p.1 p.2.1 p.2.2.1 p.2.2.2 some) (fun _=>rfl) (fun _ _=>rfl) (fun hD f fs h p=>by
  unfold c_Z84
  repeat' first | exact Lim.const hD | exact h _ | apply Lim.ite | apply Lim.cond | apply Lim.bind hD | apply Lim.sum | intro _) (x0,x1,x2,x3)
theorem Z86_fx (x0:List D) (x1 x2 x3:Int) (x4:List D):Z86 x0 x1 x2 x3 x4=c_Z86 Z86 x0 x1 x2 x3 x4 some:=
 fix_eq (N:=fun n (p:List D×Int×Int×Int×List D)=>n_Z86 n p.1 p.2.1 p.2.2.1 p.2.2.2.1 p.2.2.2.2) (C:=fun f p=>c_Z86 (fun x0 x1 x2 x3 x4=>f (x0,x1,x2,x3,x4)) p.1 p.2.1 p.2.2.1 p.2.2.2.1 p.2.2.2.2 some) (fun _=>rfl) (fun _ _=>rfl) (fun hD f fs h p=>by
  unfold c_Z86
  repeat' first | exact Lim.const hD | exact h _ | apply Lim.ite | apply Lim.cond | apply Lim.bind hD | apply Lim.sum | intro _) (x0,x1,x2,x3,x4)
theorem Z87_fx (x0:List D) (x1 x2:Int) (x3:List D):Z87 x0 x1 x2 x3=c_Z87 Z87 x0 x1 x2 x3 some:=
 fix_eq (N:=fun n (p:List D×Int×Int×List D)=>n_Z87 n p.1 p.2.1 p.2.2.1 p.2.2.2) (C:=fun f p=>c_Z87 (fun x0 x1 x2 x3=>f (x0,x1,x2,x3)) p.1 p.2.1 p.2.2.1 p.2.2.2 some) (fun _=>rfl) (fun _ _=>rfl) (fun hD f fs h p=>by
  unfold c_Z87
  repeat' first | exact Lim.const hD | exact h _ | apply Lim.ite | apply Lim.cond | apply Lim.bind hD | apply Lim.sum | intro _) (x0,x1,x2,x3)
theorem Z92_fx (x0:List D) (x1 x2 x3:Int):Z92 x0 x1 x2 x3=c_Z92 Z92 x0 x1 x2 x3 some:=
 fix_eq (N:=fun n (p:List D×Int×Int×Int)=>n_Z92 n p.1 p.2.1 p.2.2.1 p.2.2.2) (C:=fun f p=>c_Z92 (fun x0 x1 x2 x3=>f (x0,x1,x2,x3)) p.1 p.2.1 p.2.2.1 p.2.2.2 some) (fun _=>rfl) (fun _ _=>rfl) (fun hD f fs h p=>by
  unfold c_Z92
  repeat' first | exact Lim.const hD | exact h _ | apply Lim.ite | apply Lim.cond | apply Lim.bind hD | apply Lim.sum | intro _) (x0,x1,x2,x3)
theorem Z94_fx (x0 x1 x2 x3 x4 x5:List D) (x6:Int) (x7:List D) (x8 x9:Int):Z94 x0 x1 x2 x3 x4 x5 x6 x7 x8 x9=c_Z94 Z94 x0 x1 x2 x3 x4 x5 x6 x7 x8 x9 some:=
 fix_eq (N:=fun n (p:List D×List D×List D×List D×List D×List D×Int×List D×Int×Int)=>n_Z94 n p.1 p.2.1 p.2.2.1 p.2.2.2.1 p.2.2.2.2.1 p.2.2.2.2.2.1 p.2.2.2.2.2.2.1 p.2.2.2.2.2.2.2.1 p.2.2.2.2.2.2.2.2.1 p.2.2.2.2.2.2.2.2.2) (C:=fun f p=>c_Z94 (fun x0 x1 x2 x3 x4 x5 x6 x7 x8 x9=>f (x0,x1,x2,x3,x4,x5,x6,x7,x8,x9)) p.1 p.2.1 p.2.2.1 p.2.2.2.1 p.2.2.2.2.1 p.2.2.2.2.2.1 p.2.2.2.2.2.2.1 p.2.2.2.2.2.2.2.1 p.2.2.2.2.2.2.2.2.1 p.2.2.2.2.2.2.2.2.2 some) (fun _=>rfl) (fun _ _=>rfl) (fun hD f fs h p=>by
  unfold c_Z94
  repeat' first | exact Lim.const hD | exact h _ | apply Lim.ite | apply Lim.cond | apply Lim.bind hD | apply Lim.sum | intro _) (x0,x1,x2,x3,x4,x5,x6,x7,x8,x9)
theorem Z99_fx (x0 x1 x2 x3 x4:List D) (x5 x6 x7:Int) (x8:List D) (x9 x10 x11 x12:Int):Z99 x0 x1 x2 x3 x4 x5 x6 x7 x8 x9 x10 x11 x12=c_Z99 Z99 x0 x1 x2 x3 x4 x5 x6 x7 x8 x9 x10 x11 x12 some:=
 fix_eq (N:=fun n (p:List D×List D×List D×List D×List D×Int×Int×Int×List D×Int×Int×Int×Int)=>n_Z99 n p.1 p.2.1 p.2.2.1 p.2.2.2.1 p.2.2.2.2.1 p.2.2.2.2.2.1 p.2.2.2.2.2.2.1 p.2.2.2.2.2.2.2.1 p.2.2.2.2.2.2.2.2.1 p.2.2.2.2.2.2.2.2.2.1 p.2.2.2.2.2.2.2.2.2.2.1 p.2.2.2.2.2.2.2.2.2.2.2.1 p.2.2.2.2.2.2.2.2.2.2.2.2) (C:=fun f p=>c_Z99 (fun x0 x1 x2 x3 x4 x5 x6 x7 x8 x9 x10 x11 x12=>f (x0,x1,x2,x3,x4,x5,x6,x7,x8,x9,x10,x11,x12)) p.1 p.2.1 p.2.2.1 p.2.2.2.1 p.2.2.2.2.1 p.2.2.2.2.2.1 p.2.2.2.2.2.2.1 p.2.2.2.2.2.2.2.1 p.2.2.2.2.2.2.2.2.1 p.2.2.2.2.2.2.2.2.2.1 p.2.2.2.2.2.2.2.2.2.2.1 p.2.2.2.2.2.2.2.2.2.2.2.1 p.2.2.2.2.2.2.2.2.2.2.2.2 some) (fun _=>rfl) (fun _ _=>rfl) (fun hD f fs h p=>by
  unfold c_Z99
  repeat' first | exact Lim.const hD | exact h _ | apply Lim.ite | apply Lim.cond | apply Lim.bind hD | apply Lim.sum | intro _) (x0,x1,x2,x3,x4,x5,x6,x7,x8,x9,x10,x11,x12)
theorem Z100_fx (x0 x1 x2 x3 x4:List D) (x5 x6:Int) (x7:List D) (x8 x9:Int):Z100 x0 x1 x2 x3 x4 x5 x6 x7 x8 x9=c_Z100 Z100 x0 x1 x2 x3 x4 x5 x6 x7 x8 x9 some:=
 fix_eq (N:=fun n (p:List D×List D×List D×List D×List D×Int×Int×List D×Int×Int)=>n_Z100 n p.1 p.2.1 p.2.2.1 p.2.2.2.1 p.2.2.2.2.1 p.2.2.2.2.2.1 p.2.2.2.2.2.2.1 p.2.2.2.2.2.2.2.1 p.2.2.2.2.2.2.2.2.1 p.2.2.2.2.2.2.2.2.2) (C:=fun f p=>c_Z100 (fun x0 x1 x2 x3 x4 x5 x6 x7 x8 x9=>f (x0,x1,x2,x3,x4,x5,x6,x7,x8,x9)) p.1 p.2.1 p.2.2.1 p.2.2.2.1 p.2.2.2.2.1 p.2.2.2.2.2.1 p.2.2.2.2.2.2.1 p.2.2.2.2.2.2.2.1 p.2.2.2.2.2.2.2.2.1 p.2.2.2.2.2.2.2.2.2 some) (fun _=>rfl) (fun _ _=>rfl) (fun hD f fs h p=>by
  unfold c_Z100
  repeat' first | exact Lim.const hD | exact h _ | apply Lim.ite | apply Lim.cond | apply Lim.bind hD | apply Lim.sum | intro _) (x0,x1,x2,x3,x4,x5,x6,x7,x8,x9)
theorem Z104_fx (x0 x1:List D) (x2 x3:Int) (x4:List D) (x5 x6:Int) (x7:List D) (x8 x9:Int):Z104 x0 x1 x2 x3 x4 x5 x6 x7 x8 x9=c_Z104 Z104 x0 x1 x2 x3 x4 x5 x6 x7 x8 x9 some:=
 fix_eq (N:=fun n (p:List D×List D×Int×Int×List D×Int×Int×List D×Int×Int)=>n_Z104 n p.1 p.2.1 p.2.2.1 p.2.2.2.1 p.2.2.2.2.1 p.2.2.2.2.2.1 p.2.2.2.2.2.2.1 p.2.2.2.2.2.2.2.1 p.2.2.2.2.2.2.2.2.1 p.2.2.2.2.2.2.2.2.2) (C:=fun f p=>c_Z104 (fun x0 x1 x2 x3 x4 x5 x6 x7 x8 x9=>f (x0,x1,x2,x3,x4,x5,x6,x7,x8,x9)) p.1 p.2.1 p.2.2.1 p.2.2.2.1 p.2.2.2.2.1 p.2.2.2.2.2.1 p.2.2.2.2.2.2.1 p.2.2.2.2.2.2.2.1 p.2.2.2.2.2.2.2.2.1 p.2.2.2.2.2.2.2.2.2 some) (fun _=>rfl) (fun _ _=>rfl) (fun hD f fs h p=>by
  unfold c_Z104
  repeat' first | exact Lim.const hD | exact h _ | apply Lim.ite | apply Lim.cond | apply Lim.bind hD | apply Lim.sum | intro _) (x0,x1,x2,x3,x4,x5,x6,x7,x8,x9)
theorem Z105_fx (x0 x1:List D) (x2:Int) (x3:List D) (x4 x5:Int):Z105 x0 x1 x2 x3 x4 x5=c_Z105 Z105 x0 x1 x2 x3 x4 x5 some:=
 fix_eq (N:=fun n (p:List D×List D×Int×List D×Int×Int)=>n_Z105 n p.1 p.2.1 p.2.2.1 p.2.2.2.1 p.2.2.2.2.1 p.2.2.2.2.2) (C:=fun f p=>c_Z105 (fun x0 x1 x2 x3 x4 x5=>f (x0,x1,x2,x3,x4,x5)) p.1 p.2.1 p.2.2.1 p.2.2.2.1 p.2.2.2.2.1 p.2.2.2.2.2 some) (fun _=>rfl) (fun _ _=>rfl) (fun hD f fs h p=>by
  unfold c_Z105
  repeat' first | exact Lim.const hD | exact h _ | apply Lim.ite | apply Lim.cond | apply Lim.bind hD | apply Lim.sum | intro _) (x0,x1,x2,x3,x4,x5)
theorem Z107_fx (x0:Int) (x1:Bool) (x2 x3 x4 x5 x6 x7:Int) (x8 x9 x10 x11 x12:List D):Z107 x0 x1 x2 x3 x4 x5 x6 x7 x8 x9 x10 x11 x12=c_Z107 Z107 x0 x1 x2 x3 x4 x5 x6 x7 x8 x9 x10 x11 x12 some:=
 fix_eq (N:=fun n (p:Int×Bool×Int×Int×Int×Int×Int×Int×List D×List D×List D×List D×List D)=>n_Z107 n p.1 p.2.1 p.2.2.1 p.2.2.2.1 p.2.2.2.2.1 p.2.2.2.2.2.1 p.2.2.2.2.2.2.1 p.2.2.2.2.2.2.2.1 p.2.2.2.2.2.2.2.2.1 p.2.2.2.2.2.2.2.2.2.1 p.2.2.2.2.2.2.2.2.2.2.1 p.2.2.2.2.2.2.2.2.2.2.2.1 p.2.2.2.2.2.2.2.2.2.2.2.2) (C:=fun f p=>c_Z107 (fun x0 x1 x2 x3 x4 x5 x6 x7 x8 x9 x10 x11 x12=>f (x0,x1,x2,x3,x4,x5,x6,x7,x8,x9,x10,x11,x12)) p.1 p.2.1 p.2.2.1 p.2.2.2.1 p.2.2.2.2.1 p.2.2.2.2.2.1 p.2.2.2.2.2.2.1 p.2.2.2.2.2.2.2.1 p.2.2.2.2.2.2.2.2.1 p.2.2.2.2.2.2.2.2.2.1 p.2.2.2.2.2.2.2.2.2.2.1 p.2.2.2.2.2.2.2.2.2.2.2.1 p.2.2.2.2.2.2.2.2.2.2.2.2 some) (fun _=>rfl) (fun _ _=>rfl) (fun hD f fs h p=>by
  unfold c_Z107
  repeat' first | exact Lim.const hD | exact h _ | apply Lim.ite | apply Lim.cond | apply Lim.bind hD | apply Lim.sum | intro _) (x0,x1,x2,x3,x4,x5,x6,x7,x8,x9,x10,x11,x12)
theorem Z108_fx (x0 x1 x2 x3:Int) (x4 x5 x6 x7 x8:List D):Z108 x0 x1 x2 x3 x4 x5 x6 x7 x8=c_Z108 Z108 x0 x1 x2 x3 x4 x5 x6 x7 x8 some:=
 fix_eq (N:=fun n (p:Int×Int×Int×Int×List D×List D×List D×List D×List D)=>n_Z108 n p.1 p.2.1 p.2.2.1 p.2.2.2.1 p.2.2.2.2.1 p.2.2.2.2.2.1 p.2.2.2.2.2.2.1 p.2.2.2.2.2.2.2.1 p.2.2.2.2.2.2.2.2) (C:=fun f p=>c_Z108 (fun x0 x1 x2 x3 x4 x5 x6 x7 x8=>f (x0,x1,x2,x3,x4,x5,x6,x7,x8)) p.1 p.2.1 p.2.2.1 p.2.2.2.1 p.2.2.2.2.1 p.2.2.2.2.2.1 p.2.2.2.2.2.2.1 p.2.2.2.2.2.2.2.1 p.2.2.2.2.2.2.2.2 some) (fun _=>rfl) (fun _ _=>rfl) (fun hD f fs h p=>by
  unfold c_Z108
  repeat' first | exact Lim.const hD | exact h _ | apply Lim.ite | apply Lim.cond | apply Lim.bind hD | apply Lim.sum | intro _) (x0,x1,x2,x3,x4,x5,x6,x7,x8)
theorem Z109_fx (x0 x1:Int) (x2 x3 x4 x5 x6:List D):Z109 x0 x1 x2 x3 x4 x5 x6=c_Z109 Z109 x0 x1 x2 x3 x4 x5 x6 some:=
 fix_eq (N:=fun n (p:Int×Int×List D×List D×List D×List D×List D)=>n_Z109 n p.1 p.2.1 p.2.2.1 p.2.2.2.1 p.2.2.2.2.1 p.2.2.2.2.2.1 p.2.2.2.2.2.2) (C:=fun f p=>c_Z109 (fun x0 x1 x2 x3 x4 x5 x6=>f (x0,x1,x2,x3,x4,x5,x6)) p.1 p.2.1 p.2.2.1 p.2.2.2.1 p.2.2.2.2.1 p.2.2.2.2.2.1 p.2.2.2.2.2.2 some) (fun _=>rfl) (fun _ _=>rfl) (fun hD f fs h p=>by
  unfold c_Z109
  repeat' first | exact Lim.const hD | exact h _ | apply Lim.ite | apply Lim.cond | apply Lim.bind hD | apply Lim.sum | intro _) (x0,x1,x2,x3,x4,x5,x6)
theorem Z111_fx (x0 x1:List D) (x2:Int):Z111 x0 x1 x2=c_Z111 Z111 x0 x1 x2 some:=
 fix_eq (N:=fun n (p:List D×List D×Int)=>n_Z111 n p.1 p.2.1 p.2.2) (C:=fun f p=>c_Z111 (fun x0 x1 x2=>f (x0,x1,x2)) p.1 p.2.1 p.2.2 some) (fun _=>rfl) (fun _ _=>rfl) (fun hD f fs h p=>by
  unfold c_Z111
  repeat' first | exact Lim.const hD | exact h _ | apply Lim.ite | apply Lim.cond | apply Lim.bind hD | apply Lim.sum | intro _) (x0,x1,x2)
def Tt {ι β:Type} (I:ι→Prop) (P:β→Prop) (e:ι→Option β):Prop:=∃ y,P y∧∀ i,I i→e i=some y
theorem Tt.pure {ι β:Type} {I:ι→Prop} {P:β→Prop} {y:β} (h:P y):Tt I P (fun _=>some y):=⟨y,h,fun _ _=>rfl⟩
theorem Tt.bind {ι α β:Type} {I:ι→Prop} {Q:α→Prop} {P:β→Prop} {t:ι→Option α} {f:α→ι→Option β} (h:Tt I Q t) (k:∀ v,Q v→Tt I P (fun i=>f v i)) :
  Tt I P (fun i=>(t i).bind (fun v=>f v i)):=by
 obtain ⟨v,hv,ht⟩:=h
 obtain ⟨y,hy,hk⟩:=k v hv
 exact ⟨y,hy,fun i hi=>by show (t i).bind _=_; rw [ht i hi]; exact hk i hi⟩
theorem Tt.ite {ι β:Type} {I:ι→Prop} {P:β→Prop} {c:Prop} [Decidable c] {x y:ι→Option β} (h:c) (k:Tt I P x):Tt I P (fun i=>if c then x i else y i):=by
 simpa only [if_pos h] using k
theorem Tt.cnd {ι β:Type} {I:ι→Prop} {P:β→Prop} {b:Bool} {x y:ι→Option β} (h1:b=true→Tt I P x) (h2:b=false→Tt I P y):Tt I P (fun i=>bif b then x i else y i):=by
 cases b with
 | true=>exact h1 rfl
 | false=>exact h2 rfl
theorem Tt.dec {ι β:Type} {I:ι→Prop} {P:β→Prop} {p:Prop} [Decidable p] {x y:ι→Option β} (h1:p→Tt I P x) (h2:¬ p→Tt I P y):Tt I P (fun i=>bif decide p then x i else y i):=
 Tt.cnd (fun h=>h1 (of_decide_eq_true h)) (fun h=>h2 (of_decide_eq_false h))
theorem Tt.ndec {ι β:Type} {I:ι→Prop} {P:β→Prop} {p:Prop} [Decidable p] {x y:ι→Option β} (h1:¬ p→Tt I P x) (h2:p→Tt I P y):Tt I P (fun i=>bif !decide p then x i else y i):=by
 by_cases h:p
 ·simpa only [decide_eq_true h,Bool.not_true,cond_false] using h2 h
 ·simpa only [decide_eq_false h,Bool.not_false,cond_true] using h1 h
theorem Tt.con {ι β:Type} {I:ι→Prop} {Q:β→Prop} {t:Option β} (h:∃ y,t=some y∧Q y):Tt I Q (fun _=>t):=by
 obtain ⟨y,h1,h2⟩:=h
 exact ⟨y,h2,fun _ _=>h1⟩
theorem Tt.mono {ι β:Type} {I J:ι→Prop} {P Q:β→Prop} {e:ι→Option β} (h:Tt I P e) (hI:∀ i,J i→I i) (hP:∀ y,P y→Q y):Tt J Q e:=by
 obtain ⟨y,h1,h2⟩:=h
 exact ⟨y,hP y h1,fun i hi=>h2 i (hI i hi)⟩
theorem Tt.out {β:Type} {P:β→Prop} {t:Option β} (h:Tt (fun _:Unit=>True) P (fun _=>t)):∃ y,t=some y∧P y:=by
 obtain ⟨y,h1,h2⟩:=h
 exact ⟨y,h2 () trivial,h1⟩
theorem Tt.loop {X Y:Type} (N:Nat→X→Option Y) (Inv:X→Prop) (μ:X→Nat) (Post:X→Y→Prop)
  (step:∀ x,Inv x→(∀ x',Inv x'→μ x'<μ x→Tt (fun m=>μ x≤m) (Post x') (fun m=>N m x'))→Tt (fun m=>μ x≤m) (Post x) (fun m=>N (m+1) x)) :
  ∀ x,Inv x→∃ y,ev (fun n=>N n x)=some y∧Post x y:=by
 have key:∀ k x,Inv x→μ x≤k→Tt (fun m=>μ x<m) (Post x) (fun m=>N m x):=by
  intro k
  induction k with
  | zero=>
   intro x hi hk
   obtain ⟨y,h1,h2⟩:=step x hi (fun x' _ h=>absurd h (by omega))
   refine ⟨y,h1,fun m hm=>?_⟩
   obtain ⟨m,rfl⟩:∃ m',m=m'+1:=⟨m - 1,by omega⟩
   exact h2 m (by omega)
  | succ k ih=>
   intro x hi hk
   obtain ⟨y,h1,h2⟩:=step x hi (fun x' hx' h=>(ih x' hx' (by omega)).mono (fun m hm=>by omega) (fun _ h=>h))
   refine ⟨y,h1,fun m hm=>?_⟩
   obtain ⟨m,rfl⟩:∃ m',m=m'+1:=⟨m - 1,by omega⟩
   exact h2 m (by omega)
 intro x hi
 obtain ⟨y,h1,h2⟩:=key (μ x) x hi (Nat.le_refl _)
 exact ⟨y,ev_eq (μ x+1) (fun m hm=>h2 m (by omega)),h1⟩
theorem wq (n:Int):IntKind.i64.wrap n=(n+9223372036854775808) % 18446744073709551616 - 9223372036854775808:=by
 unfold IntKind.wrap
 simp [IntKind.signed,IntKind.bits]
 omega
def okC (c:List D):Prop:=c.length≤65536∧∀ d∈c,0≤d.toInt∧d.toInt≤255
theorem uwrap (n:Int):IntKind.u64.wrap n=n % 18446744073709551616:=by
 unfold IntKind.wrap
 simp [IntKind.signed,IntKind.bits]
theorem and255 (r:Int):0≤IntKind.i64.wrap (IntKind.u64.wrap (((BitVec.ofInt IntKind.u64.bits r &&& BitVec.ofInt IntKind.u64.bits 255).toNat:Nat):Int))∧IntKind.i64.wrap (IntKind.u64.wrap (((BitVec.ofInt IntKind.u64.bits r &&& BitVec.ofInt IntKind.u64.bits 255).toNat:Nat):Int))≤255:=by
 have h2:(BitVec.ofInt IntKind.u64.bits r &&& BitVec.ofInt IntKind.u64.bits 255).toNat≤(BitVec.ofInt IntKind.u64.bits 255).toNat:=by
  rw [BitVec.toNat_and]; exact Nat.and_le_right
 have h3:(BitVec.ofInt IntKind.u64.bits 255).toNat=255:=by decide
 rw [h3] at h2
 rw [uwrap,wq]
 omega
theorem next_tot (c:List D) (h:okC c) (p s:Int) (hp:0≤p∧p≤1099511627776):∃ y,Z1 c p s=some y∧(0≤y.1∧y.1≤255∧y.2.1=c∧y.2.2.1=p+1):=by
 have hw:IntKind.i64.wrap (p+1)=p+1:=wrap_id (by omega) (by omega)
 have a1:=fun r=>and255 r
 refine Tt.out ?_
 unfold Z1 c_Z1
 rw [hw]
 by_cases hpl:p<(c.length:Int)
 ·rw [decide_eq_true hpl,cond_true]
  have hd:=h.2 _ (getD_mem (show p.toNat<c.length by omega))
  have hv:IntKind.i64.wrap (c.getD p.toNat (D.int 0)).toInt=(c.getD p.toNat (D.int 0)).toInt:=wrap_id (by omega) (by omega)
  refine Tt.ite (by omega) ?_
  refine Tt.dec (fun _=>?_) (fun hn=>absurd (show p+1≤(c.length:Int) by omega) hn)
  refine Tt.pure ?_
  exact ⟨by rw [hv]; exact hd.1,by rw [hv]; exact hd.2,rfl,rfl⟩
 ·rw [decide_eq_false hpl,cond_false]
  refine Tt.dec (fun hn=>by exfalso; omega) (fun _=>?_)
  refine Tt.ite (by decide) ?_
  refine Tt.pure ?_
  exact ⟨(a1 _).1,(a1 _).2,rfl,rfl⟩
attribute [local irreducible] Z1
theorem pick_tot (c:List D) (h:okC c) (p s n:Int) (hp:0≤p∧p≤1099511627770) (hn:n≤65536):∃ y,Z2 c p s n=some y∧(0≤y.1∧(y.1<n∨y.1=0)∧y.2.1=c∧p≤y.2.2.1∧y.2.2.1≤p+2):=by
 refine Tt.out ?_
 unfold Z2 c_Z2
 refine Tt.dec (fun _=>?_) (fun hn1=>?_)
 ·refine Tt.pure ?_
  exact ⟨by simp,.inr rfl,rfl,by simp,by simp only; omega⟩
 ·refine Tt.bind (Tt.con (next_tot c h p s (by omega))) (fun v hv=>?_)
  obtain ⟨v1,v2,v3,v4⟩:=hv
  rw [v3,v4]
  refine Tt.dec (fun _=>?_) (fun _=>?_)
  ·refine Tt.bind (Tt.con (next_tot c h (p+1) _ (by omega))) (fun w hw=>?_)
   obtain ⟨w1,w2,w3,w4⟩:=hw
   refine Tt.ite (by omega) ?_
   have hq:IntKind.i64.wrap (IntKind.i64.wrap (v.1 * 256)+w.1)=v.1 * 256+w.1:=by
    rw [wrap_id (n:=v.1 * 256) (by omega) (by omega),wrap_id (by omega) (by omega)]
   have hm:(v.1 * 256+w.1).tmod n=(v.1 * 256+w.1) % n:=Int.tmod_eq_emod_of_nonneg (by omega)
   have m1:=Int.emod_nonneg (v.1 * 256+w.1) (show n≠0 by omega)
   have m2:=Int.emod_lt_of_pos (v.1 * 256+w.1) (show 0<n by omega)
   refine Tt.pure ?_
   exact ⟨by simp only; rw [hq,hm]; exact m1,.inl (by simp only; rw [hq,hm]; exact m2),w3,by simp only; omega,by simp only; omega⟩
  ·refine Tt.ite (by omega) ?_
   have hm:v.1.tmod n=v.1 % n:=Int.tmod_eq_emod_of_nonneg v1
   have m1:=Int.emod_nonneg v.1 (show n≠0 by omega)
   have m2:=Int.emod_lt_of_pos v.1 (show 0<n by omega)
   refine Tt.pure ?_
   exact ⟨by simp only; rw [hm]; exact m1,.inl (by simp only; rw [hm]; exact m2),rfl,by simp only; omega,by simp only; omega⟩
attribute [local irreducible] Z2
theorem among_tot (c:List D) (h:okC c) (p s:Int) (l:List D) (hp:0≤p∧p≤1099511627770) (hl:1≤l.length∧l.length≤65536):∃ y,Z15 c p s l=some y∧((∃ d∈l,y.1=d.toInt)∧y.2.1=c∧p≤y.2.2.1∧y.2.2.1≤p+2):=by
 refine Tt.out ?_
 unfold Z15 c_Z15
 refine Tt.bind (Tt.con (pick_tot c h p s _ hp (by omega))) (fun v hv=>?_)
 refine Tt.ite (by omega) ?_
 refine Tt.ite (by omega) ?_
 refine Tt.pure ?_
 exact ⟨⟨_,getD_mem (show v.1.toNat<l.length by omega),rfl⟩,hv.2.2.1,hv.2.2.2.1,hv.2.2.2.2⟩
attribute [local irreducible] Z15
theorem okB {d:D} (h:wfD (.int .u8) d):0≤d.toInt∧d.toInt≤255:=by
 obtain ⟨n,rfl,h2⟩:=h
 simp [Lit.wf,IntKind.min,IntKind.max,IntKind.signed,IntKind.bits] at h2
 simp only [toInt_int]; omega
theorem pick_tot' (c:List D) (h:okC c) (p s n:Int) (hp:0≤p∧p≤1099511627770) (hn:n≤65536):∃ y,Z2 c p s n=some y∧((0≤y.1∧(y.1<n∨y.1=0))∧y.2.1=c∧p≤y.2.2.1∧y.2.2.1≤p+2):=by
 obtain ⟨y,h1,h2,h3,h4⟩:=pick_tot c h p s n hp hn
 exact ⟨y,h1,⟨h2,h3⟩,h4⟩
theorem one_tot (c:List D) (h:okC c) (p s n:Int) (hp:0≤p∧p≤1099511627770) (hn:n≤65536):∃ y,Z3 c p s n=some y∧(y.2.1=c∧p≤y.2.2.1∧y.2.2.1≤p+2):=by
 refine Tt.out ?_
 unfold Z3 c_Z3
 refine Tt.bind (Tt.con (pick_tot c h p s n hp hn)) (fun v hv=>?_)
 refine Tt.pure ?_
 exact ⟨hv.2.2.1,hv.2.2.2.1,hv.2.2.2.2⟩
attribute [local irreducible] Z3
theorem one_tot' (c:List D) (h:okC c) (p s n:Int) (hp:0≤p∧p≤1099511627770) (hn:n≤65536):∃ y,Z3 c p s n=some y∧(True∧y.2.1=c∧p≤y.2.2.1∧y.2.2.1≤p+2):=by
 obtain ⟨y,h1,h2⟩:=one_tot c h p s n hp hn
 exact ⟨y,h1,trivial,h2⟩
theorem l1In_eq (x a b:Int):Z79 x a b=some (btw x a b):=by
 unfold Z79 c_Z79 btw
 by_cases h:a≤x <;> simp [h]
theorem within_eq (x a b:Int):Z35 x a b=some (btw x a b):=by
 unfold Z35 c_Z35 btw
 by_cases h:a≤x <;> simp [h]
def cmpV (x y:Int):Int:=if x<y then -1 else if y<x then 1 else 0
theorem compare_eq (x y:Int):Z44 x y=some (cmpV x y):=by
 simp only [Z44,c_Z44,Z43,c_Z43,Option.bind_some,decide_true,Bool.not_true,cond_false,cmpV]
 by_cases h:x<y
 ·simp [h]
 ·by_cases h2:y<x <;> simp [h,h2]
theorem or_eq (a b:Int):Z46 [.int a,.int b]=some (if a=0 then b else a):=by
 have w1:IntKind.i64.wrap 1=1:=by decide
 have w2:IntKind.i64.wrap 2=2:=by decide
 have key:∃ y,Z45 0 [.int a,.int b] 2 0=some y∧(match y with | .inl z=>z.1 | .inr z=>z)=(if a=0 then b else a):=by
  by_cases ha:a=0
  ·by_cases hb:b=0
   ·refine ⟨.inr 0,ev_eq (f:=fun m=>n_Z45 m 0 [.int a,.int b] 2 0) 3 (fun m hm=>?_),by simp [ha,hb]⟩
    obtain ⟨m,rfl⟩:∃ m',m=m'+3:=⟨m - 3,by omega⟩
    simp [n_Z45,c_Z45,ha,hb,toInt_int,w1,w2]
   ·refine ⟨.inl (b,0),ev_eq (f:=fun m=>n_Z45 m 0 [.int a,.int b] 2 0) 2 (fun m hm=>?_),by simp [ha]⟩
    obtain ⟨m,rfl⟩:∃ m',m=m'+2:=⟨m - 2,by omega⟩
    simp [n_Z45,c_Z45,ha,hb,toInt_int,w1]
  ·refine ⟨.inl (a,0),ev_eq (f:=fun m=>n_Z45 m 0 [.int a,.int b] 2 0) 1 (fun m hm=>?_),by simp [ha]⟩
   obtain ⟨m,rfl⟩:∃ m',m=m'+1:=⟨m - 1,by omega⟩
   simp [n_Z45,c_Z45,ha,toInt_int]
 obtain ⟨y,h1,h2⟩:=key
 rw [← h2]
 simp only [Z46,c_Z46,show (([D.int a,D.int b]:List D).length:Int)=2 from rfl,h1,Option.bind_some]
 cases y <;> rfl
theorem fxScan {α:Type} {F:Int→Option α} {len:Nat} (p:Nat→Bool) (bad:Nat→α) {fin:α}
  (hs:∀ i:Nat,i<len→F (i:Int)=bif p i then some (bad i) else F ((i+1:Nat):Int)) (he:F (len:Int)=some fin) :
  F 0=some (match firstN p len with | some i=>bad i | none=>fin):=by
 have key:∀ k (i:Nat),i+k=len→(∀ j,j<i→p j=false)→F (i:Int)=some (match firstN p len with | some i=>bad i | none=>fin):=by
  intro k
  induction k with
  | zero=>
   intro i h1 h3
   have hi:i=len:=by omega
   subst hi
   rw [he]
   cases hf:firstN p i with
   | none=>rfl
   | some j=>
    obtain ⟨q1,q2,_⟩:=firstN_some hf
    rw [h3 j q1] at q2
    cases q2
  | succ k ih=>
   intro i h1 h3
   rw [hs i (by omega)]
   cases hp:p i with
   | true=>
    rw [cond_true]
    have:firstN p len=some i:=by
     unfold firstN
     rw [List.find?_range_eq_some]
     exact ⟨hp,List.mem_range.2 (by omega),fun j hj=>by simp [h3 j hj]⟩
    rw [this]
   | false=>
    rw [cond_false]
    refine ih (i+1) (by omega) (fun j hj=>?_)
    by_cases hji:j=i
    ·subst hji; exact hp
    ·exact h3 j (by omega)
 exact key len 0 (by omega) (fun j hj=>by omega)
def allN (p:Nat→Bool) (len:Nat):Bool:=(firstN (fun i=>!p i) len).isNone
theorem allN_iff {p:Nat→Bool} {len:Nat}:allN p len=true↔∀ i,i<len→p i=true:=by
 unfold allN
 constructor
 ·intro h i hi
  cases hf:firstN (fun i=>!p i) len with
  | none=>simpa using firstN_none hf i hi
  | some j=>rw [hf] at h; cases h
 ·intro h
  cases hf:firstN (fun i=>!p i) len with
  | none=>rfl
  | some i=>obtain ⟨h1,h2,_⟩:=firstN_some hf; rw [h i h1] at h2; cases h2
theorem fxAll {α:Type} {F:Int→Option α} {len:Nat} (p:Nat→Bool) (bad:α) {fin:α}
  (hs:∀ i:Nat,i<len→F (i:Int)=bif p i then F ((i+1:Nat):Int) else some bad) (he:F (len:Int)=some fin) :
  F 0=some (bif allN p len then fin else bad):=by
 have:=fxScan (F:=F) (len:=len) (fun i=>!p i) (fun _=>bad) (fin:=fin) (fun i hi=>by rw [hs i hi]; cases p i <;> rfl) he
 rw [this]
 unfold allN
 cases firstN (fun i=>!p i) len <;> rfl
def find2 (C:List D) (n:Int):Int:=match firstN (fun i=>decide (((C[i]?.getD (.int 0)).fld 0).toInt=n)) C.length with | some i=>(i:Int) | none=>-1
theorem l2Find_eq (C R:List D) (n:Int) (hC:C.length≤100000):Z24 C R n=some (find2 C n):=by
 have h:=fxScan (F:=fun i=>Z23 n i C R) (len:=C.length) (fun i=>decide (((C[i]?.getD (.int 0)).fld 0).toInt=n)) (fun i=>.inl (i:Int)) (fin:=.inr ()) (fun i hi=>by
  show Z23 n i C R=_
  rw [Z23_fx]
  unfold c_Z23
  have h1:(i:Int)<C.length:=by omega
  simp only [h1,decide_true,cond_true,Int.natCast_nonneg,and_self,if_true,Int.toNat_natCast,List.getD_eq_getElem?_getD,succ_wrap (show i<4611686018427387904 by omega),Option.bind_fun_some])
  (by
   show Z23 n C.length C R=_
   rw [Z23_fx]; unfold c_Z23; simp)
 have h':Z23 n 0 C R=_:=h
 simp only [Z24,c_Z24,h',Option.bind_some,find2]
 cases firstN (fun i=>decide (((C[i]?.getD (.int 0)).fld 0).toInt=n)) C.length <;> rfl
theorem indexOf_eq (C R:List D) (n:Int) (hC:C.length≤100000):Z42 C R n=some (find2 C n):=by
 have h:=fxScan (F:=fun i=>Z40 C n C.length i) (len:=C.length) (fun i=>decide (((C[i]?.getD (.int 0)).fld 0).toInt=n)) (fun i=>.inl (i:Int)) (fin:=.inr ()) (fun i hi=>by
  show Z40 C n C.length i=_
  rw [Z40_fx]
  unfold c_Z40
  have h1:(i:Int)<C.length:=by omega
  simp only [h1,decide_true,cond_true,Int.natCast_nonneg,and_self,if_true,Int.toNat_natCast,List.getD_eq_getElem?_getD,Z39,c_Z39,Option.bind_some,succ_wrap (show i<4611686018427387904 by omega),Option.bind_fun_some])
  (by
   show Z40 C n C.length C.length=_
   rw [Z40_fx]; unfold c_Z40; simp)
 have h':Z40 C n C.length 0=_:=h
 simp only [Z42,c_Z42,Z41,c_Z41,h',Option.bind_some,find2]
 cases firstN (fun i=>decide (((C[i]?.getD (.int 0)).fld 0).toInt=n)) C.length <;> rfl
theorem find2_some {C:List D} {n:Int} (h:0≤find2 C n):∃ i,i<C.length∧find2 C n=(i:Int)∧((C[i]?.getD (.int 0)).fld 0).toInt=n:=by
 unfold find2 at h ⊢
 cases hf:firstN (fun i=>decide (((C[i]?.getD (.int 0)).fld 0).toInt=n)) C.length with
 | none=>rw [hf] at h; simp at h
 | some i=>
  obtain ⟨h1,h2,_⟩:=firstN_some hf
  exact ⟨i,h1,rfl,of_decide_eq_true h2⟩
def cOk (C:List D) (i:Nat):Bool:=btw ((C[i]?.getD (.int 0)).fld 0).toInt 1 999&&(btw ((C[i]?.getD (.int 0)).fld 1).toInt 1 4&&(decide (i=0)||decide (((C[i - 1]?.getD (.int 0)).fld 0).toInt<((C[i]?.getD (.int 0)).fld 0).toInt)))
def lexB (a b c d:Int):Bool:=decide (a<c)||(decide (a=c)&&decide (b<d))
def rOk (C R:List D) (i:Nat):Bool:=!decide (((R[i]?.getD (.int 0)).fld 0).toInt=((R[i]?.getD (.int 0)).fld 1).toInt)&&(decide (0≤find2 C ((R[i]?.getD (.int 0)).fld 0).toInt)&&(decide (0≤find2 C ((R[i]?.getD (.int 0)).fld 1).toInt)&&(decide (i=0)||lexB ((R[i - 1]?.getD (.int 0)).fld 0).toInt ((R[i - 1]?.getD (.int 0)).fld 1).toInt ((R[i]?.getD (.int 0)).fld 0).toInt ((R[i]?.getD (.int 0)).fld 1).toInt)))
def validB (C R:List D):Bool:=decide (C.length≤10)&&(decide (R.length≤24)&&(allN (cOk C) C.length&&allN (rOk C R) R.length))
theorem before_eq (a b c d:Int):Z6 a b c d=some (lexB a b c d):=by
 unfold Z6 c_Z6 lexB
 by_cases h:a<c
 ·simp [h]
 ·by_cases h2:a=c <;> simp [h,h2]
theorem l2Good_eq (C R:List D):Z82 C R=some (validB C R):=by
 unfold Z82 c_Z82 validB
 by_cases hC:C.length≤10
 ·have hC':¬ (10:Int)<C.length:=by omega
  by_cases hR:R.length≤24
  ·have hR':¬ (24:Int)<R.length:=by omega
   have h1:=fxAll (F:=fun i=>Z80 i C R) (len:=C.length) (cOk C) (.inl (false,C,R)) (fin:=.inr (C,R)) (fun i hi=>by
    show Z80 i C R=_
    rw [Z80_fx]
    unfold c_Z80
    have h1:(i:Int)<C.length:=by omega
    simp only [h1,decide_true,cond_true,Int.natCast_nonneg,and_self,if_true,Int.toNat_natCast,List.getD_eq_getElem?_getD,l1In_eq,Option.bind_some,succ_wrap (show i<4611686018427387904 by omega),Option.bind_fun_some,cOk]
    cases btw ((C[i]?.getD (.int 0)).fld 0).toInt 1 999 with
    | false=>rfl
    | true=>
     cases btw ((C[i]?.getD (.int 0)).fld 1).toInt 1 4 with
     | false=>rfl
     | true=>
      by_cases h0:i=0
      ·subst h0; simp
      ·have h2:(0:Int)<i:=by omega
       have h3:((i - 1:Nat):Int)<C.length:=by omega
       simp only [pred_wrap (show i<4611686018427387904 by omega) (show 0<i by omega),h2,h3,h0,Int.natCast_nonneg,and_self,if_true,Int.toNat_natCast,decide_true,decide_false,cond_true,cond_false,Bool.not_true,Bool.true_and,Bool.false_or]
       by_cases h4:((C[i]?.getD (.int 0)).fld 0).toInt≤((C[i - 1]?.getD (.int 0)).fld 0).toInt
       ·have:¬ ((C[i - 1]?.getD (.int 0)).fld 0).toInt<((C[i]?.getD (.int 0)).fld 0).toInt:=by omega
        simp [h4,this]
       ·have:((C[i - 1]?.getD (.int 0)).fld 0).toInt<((C[i]?.getD (.int 0)).fld 0).toInt:=by omega
        simp [h4,this])
    (by
     show Z80 C.length C R=_
     rw [Z80_fx]; unfold c_Z80; simp)
   have h1':Z80 0 C R=_:=h1
   have h2:=fxAll (F:=fun i=>Z81 i C R) (len:=R.length) (rOk C R) (.inl false) (fin:=.inr ()) (fun i hi=>by
    show Z81 i C R=_
    rw [Z81_fx]
    unfold c_Z81
    have h1:(i:Int)<R.length:=by omega
    simp only [h1,decide_true,cond_true,Int.natCast_nonneg,and_self,if_true,Int.toNat_natCast,List.getD_eq_getElem?_getD,l2Find_eq C R _ (show C.length≤100000 by omega),before_eq,Option.bind_some,succ_wrap (show i<4611686018427387904 by omega),Option.bind_fun_some,rOk]
    by_cases e1:((R[i]?.getD (.int 0)).fld 0).toInt=((R[i]?.getD (.int 0)).fld 1).toInt
    ·simp [e1]
    ·by_cases e2:find2 C ((R[i]?.getD (.int 0)).fld 0).toInt<0
     ·have:¬ 0≤find2 C ((R[i]?.getD (.int 0)).fld 0).toInt:=by omega
      simp [e1,e2,this]
     ·have e2':0≤find2 C ((R[i]?.getD (.int 0)).fld 0).toInt:=by omega
      by_cases e3:find2 C ((R[i]?.getD (.int 0)).fld 1).toInt<0
      ·have:¬ 0≤find2 C ((R[i]?.getD (.int 0)).fld 1).toInt:=by omega
       simp [e1,e2,e2',e3,this]
      ·have e3':0≤find2 C ((R[i]?.getD (.int 0)).fld 1).toInt:=by omega
       by_cases h0:i=0
       ·subst h0; simp [e1,e2,e2',e3,e3']
       ·have h2:(0:Int)<i:=by omega
        have h3:((i - 1:Nat):Int)<R.length:=by omega
        simp only [pred_wrap (show i<4611686018427387904 by omega) (show 0<i by omega),e1,e2,e2',e3,e3',h2,h3,h0,Int.natCast_nonneg,and_self,if_true,Int.toNat_natCast,decide_true,decide_false,cond_true,cond_false,Bool.not_true,Bool.not_false,Bool.true_and,Bool.false_or]
        cases lexB ((R[i - 1]?.getD (.int 0)).fld 0).toInt ((R[i - 1]?.getD (.int 0)).fld 1).toInt ((R[i]?.getD (.int 0)).fld 0).toInt ((R[i]?.getD (.int 0)).fld 1).toInt <;> rfl)
    (by
     show Z81 R.length C R=_
     rw [Z81_fx]; unfold c_Z81; simp)
   have h2':Z81 0 C R=_:=h2
   simp only [hC',hR',hC,hR,decide_true,decide_false,cond_false,Bool.true_and,h1',Option.bind_some]
   cases allN (cOk C) C.length with
   | false=>rfl
   | true=>
    simp only [cond_true,Sum.elim_inr,h2',Option.bind_some,Bool.true_and]
    cases allN (rOk C R) R.length <;> rfl
  ·have hR':(24:Int)<R.length:=by omega
   simp only [hC',hR',hR,decide_true,decide_false,cond_true,cond_false,Bool.false_and,Bool.and_false]
 ·have hC':(10:Int)<C.length:=by omega
  simp only [hC',hC,decide_true,decide_false,cond_true,Bool.false_and]
theorem number_eq (n:Int):Z36 n=some (btw n 1 999):=by
 simp only [Z36,c_Z36,within_eq,Option.bind_some]
theorem kind_eq (n:Int):Z37 n=some (btw n 1 4):=by
 simp only [Z37,c_Z37,within_eq,Option.bind_some]
theorem cmpRel_eq (a b c d:Int):∃ v,Z47 a b c d=some v∧decide (0≤v)=!lexB a b c d:=by
 simp only [Z47,c_Z47,compare_eq,or_eq,Option.bind_some]
 refine ⟨_,rfl,?_⟩
 unfold cmpV lexB
 by_cases h1:a<c
 ·simp [h1]
 ·by_cases h2:c<a
  ·have:¬ a=c:=by omega
   simp [h1,h2,this]
  ·have:a=c:=by omega
   subst this
   by_cases h3:b<d
   ·simp [h3]
   ·by_cases h4:d<b <;> simp [h3,h4]
theorem valid_eq (C R:List D):Z49 C R=some (validB C R):=by
 unfold Z49 c_Z49 validB
 by_cases hC:C.length≤10
 ·have hC':¬ (10:Int)<C.length:=by omega
  by_cases hR:R.length≤24
  ·have hR':¬ (24:Int)<R.length:=by omega
   have h1:=fxAll (F:=fun i=>Z38 C C.length i C R) (len:=C.length) (cOk C) (.inl (false,C,R)) (fin:=.inr (C,R)) (fun i hi=>by
    show Z38 C C.length i C R=_
    rw [Z38_fx]
    unfold c_Z38
    have h1:(i:Int)<C.length:=by omega
    simp only [h1,decide_true,cond_true,Int.natCast_nonneg,and_self,if_true,Int.toNat_natCast,List.getD_eq_getElem?_getD,number_eq,kind_eq,Option.bind_some,succ_wrap (show i<4611686018427387904 by omega),Option.bind_fun_some,cOk]
    cases btw ((C[i]?.getD (.int 0)).fld 0).toInt 1 999 with
    | false=>rfl
    | true=>
     cases btw ((C[i]?.getD (.int 0)).fld 1).toInt 1 4 with
     | false=>rfl
     | true=>
      by_cases h0:i=0
      ·subst h0; simp
      ·have h2:(0:Int)<i:=by omega
       have h3:((i - 1:Nat):Int)<C.length:=by omega
       simp only [pred_wrap (show i<4611686018427387904 by omega) (show 0<i by omega),h2,h3,h0,Int.natCast_nonneg,and_self,if_true,Int.toNat_natCast,decide_true,decide_false,cond_true,cond_false,Bool.not_true,Bool.true_and,Bool.false_or]
       by_cases h4:((C[i]?.getD (.int 0)).fld 0).toInt≤((C[i - 1]?.getD (.int 0)).fld 0).toInt
       ·have:¬ ((C[i - 1]?.getD (.int 0)).fld 0).toInt<((C[i]?.getD (.int 0)).fld 0).toInt:=by omega
        simp [h4,this]
       ·have:((C[i - 1]?.getD (.int 0)).fld 0).toInt<((C[i]?.getD (.int 0)).fld 0).toInt:=by omega
        simp [h4,this])
    (by
     show Z38 C C.length C.length C R=_
     rw [Z38_fx]; unfold c_Z38; simp)
   have h1':Z38 C C.length 0 C R=_:=h1
   have h2:=fxAll (F:=fun i=>Z48 R R.length i C R) (len:=R.length) (rOk C R) (.inl false) (fin:=.inr ()) (fun i hi=>by
    show Z48 R R.length i C R=_
    rw [Z48_fx]
    unfold c_Z48
    have h1:(i:Int)<R.length:=by omega
    simp only [h1,decide_true,cond_true,Int.natCast_nonneg,and_self,if_true,Int.toNat_natCast,List.getD_eq_getElem?_getD,indexOf_eq C R _ (show C.length≤100000 by omega),Option.bind_some,succ_wrap (show i<4611686018427387904 by omega),Option.bind_fun_some,rOk]
    by_cases e1:((R[i]?.getD (.int 0)).fld 0).toInt=((R[i]?.getD (.int 0)).fld 1).toInt
    ·simp [e1]
    ·by_cases e2:find2 C ((R[i]?.getD (.int 0)).fld 0).toInt<0
     ·have:¬ 0≤find2 C ((R[i]?.getD (.int 0)).fld 0).toInt:=by omega
      simp [e1,e2,this]
     ·have e2':0≤find2 C ((R[i]?.getD (.int 0)).fld 0).toInt:=by omega
      by_cases e3:find2 C ((R[i]?.getD (.int 0)).fld 1).toInt<0
      ·have:¬ 0≤find2 C ((R[i]?.getD (.int 0)).fld 1).toInt:=by omega
       simp [e1,e2,e2',e3,this]
      ·have e3':0≤find2 C ((R[i]?.getD (.int 0)).fld 1).toInt:=by omega
       by_cases h0:i=0
       ·subst h0; simp [e1,e2,e2',e3,e3']
       ·have h2:(0:Int)<i:=by omega
        have h3:((i - 1:Nat):Int)<R.length:=by omega
        obtain ⟨v,v1,v2⟩:=cmpRel_eq ((R[i - 1]?.getD (.int 0)).fld 0).toInt ((R[i - 1]?.getD (.int 0)).fld 1).toInt ((R[i]?.getD (.int 0)).fld 0).toInt ((R[i]?.getD (.int 0)).fld 1).toInt
        simp only [pred_wrap (show i<4611686018427387904 by omega) (show 0<i by omega),e1,e2,e2',e3,e3',h2,h3,h0,v1,v2,Option.bind_some,Int.natCast_nonneg,and_self,if_true,Int.toNat_natCast,decide_true,decide_false,cond_true,cond_false,Bool.not_true,Bool.not_false,Bool.true_and,Bool.false_or]
        cases lexB ((R[i - 1]?.getD (.int 0)).fld 0).toInt ((R[i - 1]?.getD (.int 0)).fld 1).toInt ((R[i]?.getD (.int 0)).fld 0).toInt ((R[i]?.getD (.int 0)).fld 1).toInt <;> rfl)
    (by
     show Z48 R R.length R.length C R=_
     rw [Z48_fx]; unfold c_Z48; simp)
   have h2':Z48 R R.length 0 C R=_:=h2
   simp only [hC',hR',hC,hR,decide_true,decide_false,cond_false,Bool.true_and,h1',Option.bind_some]
   cases allN (cOk C) C.length with
   | false=>rfl
   | true=>
    simp only [cond_true,Sum.elim_inr,h2',Option.bind_some,Bool.true_and]
    cases allN (rOk C R) R.length <;> rfl
  ·have hR':(24:Int)<R.length:=by omega
   simp only [hC',hR',hR,decide_true,decide_false,cond_true,cond_false,Bool.false_and,Bool.and_false]
 ·have hC':(10:Int)<C.length:=by omega
  simp only [hC',hC,decide_true,decide_false,cond_true,Bool.false_and]
theorem ctxsL_tot (c:List D) (hc:okC c):∀ (k:Nat) (n i num p s:Int) (acc:List D),(n - i).toNat=k→0≤i→i≤n→n≤10→0≤p→p+4 * k≤1099511627000→(acc.length:Int)=i →
  ∃ y,Z4 n num i c p s acc=some y∧(y.1=c∧p≤y.2.1∧y.2.1≤p+4 * k∧(y.2.2.2.length:Int)=n):=by
 intro k
 induction k with
 | zero=>
  intro n i num p s acc hk h0 h1 h2 h3 h4 h5
  refine Tt.out ?_
  rw [Z4_fx]
  unfold c_Z4
  refine Tt.dec (fun hn=>by exfalso; omega) (fun _=>Tt.pure ⟨rfl,by simp only; omega,by simp only; omega,by simp only; omega⟩)
 | succ k ih=>
  intro n i num p s acc hk h0 h1 h2 h3 h4 h5
  refine Tt.out ?_
  rw [Z4_fx]
  unfold c_Z4
  refine Tt.dec (fun hn=>?_) (fun hn=>by exfalso; omega)
  (refine Tt.bind (Tt.con (pick_tot' _ hc _ _ _ (by omega) (by omega))) ?_; rintro ⟨v,c',p',s'⟩ ⟨hv,rfl,hp1,hp2⟩; dsimp only at hv hp1 hp2 ⊢)
  (refine Tt.bind (Tt.con (pick_tot' _ hc _ _ _ (by omega) (by omega))) ?_; rintro ⟨v,c',p',s'⟩ ⟨hv,rfl,hp1,hp2⟩; dsimp only at hv hp1 hp2 ⊢)
  refine Tt.ite (by simp only [List.length_cons,List.length_nil]; omega) ?_
  rw [wrap_id (n:=i+1) (by omega) (by omega)]
  refine Tt.bind (Tt.con (ih n (i+1) _ _ _ _ (by omega) (by omega) (by omega) (by omega) (by omega) (by omega) (by simp only [List.length_append,List.length_cons,List.length_nil]; omega))) ?_
  rintro ⟨c2,p2,s2,l2⟩ ⟨e1,e2,e3,e4⟩
  simp only at e1 e2 e3 e4
  exact Tt.pure ⟨e1,by simp only; omega,by simp only; omega,by simp only; omega⟩
theorem ctxs_tot (c:List D) (hc:okC c) (p s n:Int) (hn:0≤n∧n≤10) (hp:0≤p∧p≤1099511620000):∃ y,Z5 c p s n=some y∧(y.2.1=c∧p≤y.2.2.1∧y.2.2.1≤p+40∧(y.1.length:Int)=n):=by
 refine Tt.out ?_
 unfold Z5 c_Z5
 refine Tt.bind (Tt.con (ctxsL_tot c hc _ n 0 0 p s [] rfl (by omega) (by omega) (by omega) (by omega) (by omega) (by simp))) ?_
 rintro ⟨c2,p2,s2,l2⟩ ⟨e1,e2,e3,e4⟩
 simp only at e1 e2 e3 e4
 exact Tt.pure ⟨e1,by simp only; omega,by simp only; omega,by simp only; omega⟩
theorem linkL2_tot (C R:List D) (u v:Int) (hR:R.length≤100000):∀ (m i:Nat),i+m=R.length →
  ∃ y,Z10 i C R u v=some y∧(0≤y.1∧y.1≤R.length∧y.2.1=C∧y.2.2.1=R∧y.2.2.2.1=u∧y.2.2.2.2=v):=by
 intro m
 induction m with
 | zero=>
  intro i hi
  refine Tt.out ?_
  rw [Z10_fx]
  unfold c_Z10
  refine Tt.dec (fun hn=>by exfalso; omega) (fun _=>Tt.pure ⟨by simp only; omega,by simp only; omega,rfl,rfl,rfl,rfl⟩)
 | succ m ih=>
  intro i hi
  refine Tt.out ?_
  rw [Z10_fx]
  unfold c_Z10
  refine Tt.dec (fun hn=>?_) (fun hn=>by exfalso; omega)
  refine Tt.ite (by omega) ?_
  rw [before_eq,succ_wrap (show i<4611686018427387904 by omega)]
  refine Tt.bind (Q:=fun _=>True) (Tt.con ⟨_,rfl,trivial⟩) ?_
  rintro b -
  refine Tt.cnd (fun _=>?_) (fun _=>?_)
  ·refine Tt.bind (Tt.con (ih (i+1) (by omega))) ?_
   intro y hy
   exact Tt.pure hy
  ·exact Tt.pure ⟨by simp only; omega,by simp only; omega,rfl,rfl,rfl,rfl⟩
theorem own2_eq (C R:List D) (hC:C.length≤100000) (hR:R.length≤100000):Z8 C R=some (C,R):=by
 unfold Z8 c_Z8
 rw [if_pos (by simp; omega),if_pos (by simp; omega)]
 rfl
def InR (C R:List D):Prop:=∀ d∈R,0≤find2 C (d.fld 0).toInt∧0≤find2 C (d.fld 1).toInt
theorem num_in {C:List D} {i:Int} (h0:0≤i) (h1:i<C.length):0≤find2 C ((C.getD i.toNat (.int 0)).fld 0).toInt:=by
 unfold find2
 cases hf:firstN (fun k=>decide (((C[k]?.getD (.int 0)).fld 0).toInt=((C.getD i.toNat (.int 0)).fld 0).toInt)) C.length with
 | none=>
  have:=firstN_none hf i.toNat (by omega)
  rw [List.getD_eq_getElem?_getD] at this
  simp at this
 | some k=>simp only; omega
theorem link_in (C R:List D) (u v:Int) (hC:C.length≤100000) (hR:R.length≤99999):∃ y,Z11 C R u v=some y∧(y.1=C∧R.length≤y.2.length∧y.2.length≤R.length+1∧∀ d∈y.2,d∈R∨d=.node [.int u,.int v]):=by
 refine Tt.out ?_
 unfold Z11 c_Z11
 refine Tt.bind (Tt.con (linkL2_tot C R u v (by omega) R.length 0 (by omega))) ?_
 rintro ⟨i,C',R',u',v'⟩ ⟨h1,h2,e1,e2,e3,e4⟩
 dsimp only at h1 h2 e1 e2 e3 e4 ⊢
 subst e1 e2 e3 e4
 rw [own2_eq _ _ hC (by omega)]
 refine Tt.bind (Q:=fun y=>y=(C',R')) (Tt.con ⟨_,rfl,rfl⟩) ?_
 rintro y rfl
 dsimp only
 have app:Tt (fun _:Unit=>True) (fun y:List D×List D=>y.1=C'∧R'.length≤y.2.length∧y.2.length≤R'.length+1∧∀ d∈y.2,d∈R'∨d=.node [.int u',.int v']) (fun _=>some (C',[]++List.take (i.toNat - 0) (List.drop 0 R')++[D.node [D.int u',D.int v']]++List.take (R'.length - i.toNat) (List.drop i.toNat R'))):=by
  refine Tt.pure ⟨rfl,?_,?_,fun d hd=>?_⟩
  ·simp only [List.nil_append,List.length_append,List.length_take,List.length_drop,List.length_cons,List.length_nil]; omega
  ·simp only [List.nil_append,List.length_append,List.length_take,List.length_drop,List.length_cons,List.length_nil]; omega
  ·simp only [List.nil_append,List.mem_append,List.mem_singleton] at hd
   rcases hd with (h | h) | h
   ·exact .inl (List.mem_of_mem_drop (List.mem_of_mem_take h))
   ·exact .inr h
   ·exact .inl (List.mem_of_mem_drop (List.mem_of_mem_take h))
 refine Tt.dec (fun hn=>?_) (fun hn=>?_)
 ·refine Tt.ite (by omega) ?_
  refine Tt.cnd (fun _=>?_) (fun _=>?_)
  ·exact Tt.pure ⟨rfl,by simp only; omega,by simp only; omega,fun d hd=>.inl hd⟩
  ·refine Tt.ite (by omega) ?_
   refine Tt.ite (by simp only [List.length_take,List.length_drop,List.length_nil]; omega) ?_
   refine Tt.ite (by simp only [List.nil_append,List.length_take,List.length_drop,List.length_cons,List.length_nil]; omega) ?_
   refine Tt.ite (by omega) ?_
   refine Tt.ite (by simp only [List.nil_append,List.length_append,List.length_take,List.length_drop,List.length_cons,List.length_nil]; omega) ?_
   exact app
 ·refine Tt.ite (by omega) ?_
  refine Tt.ite (by simp only [List.length_take,List.length_drop,List.length_nil]; omega) ?_
  refine Tt.ite (by simp only [List.nil_append,List.length_take,List.length_drop,List.length_cons,List.length_nil]; omega) ?_
  refine Tt.ite (by omega) ?_
  refine Tt.ite (by simp only [List.nil_append,List.length_append,List.length_take,List.length_drop,List.length_cons,List.length_nil]; omega) ?_
  exact app
theorem link0_in (C:List D) (u v:Int) (hC:C.length≤100000):∃ y,Z9 C u v=some y∧(y.1=C∧y.2.length≤1∧∀ d∈y.2,d=.node [.int u,.int v]):=by
 have h0:Z7 0 C [] u v=some (0,C,[],u,v):=by
  rw [Z7_fx]
  unfold c_Z7
  simp
 refine ⟨(C,[D.node [D.int u,D.int v]]),?_,rfl,by simp,by simp⟩
 unfold Z9 c_Z9
 simp only [h0,Option.bind_some,own2_eq C [] hC (by simp)]
 simp
def recI (c:List D) (p q:Int) (a b:Nat) (y:List D×List D×List D×Int×Int):Prop:=y.2.2.1=c∧p≤y.2.2.2.1∧y.2.2.2.1≤q∧y.1.length≤a∧y.2.1.length≤b
theorem recL2_in (c:List D) (hc:okC c):∀ (k:Nat) (n m p s:Int) (C R:List D),m.toNat=k→n=C.length→C.length≤100→R.length+k≤1000→InR C R→0≤p→p+6 * k≤1099511627000 →
  ∃ y,Z12 n m c p s C R=some y∧(y.1=c∧p≤y.2.1∧y.2.1≤p+6 * k∧y.2.2.2.1=C∧y.2.2.2.2.length≤R.length+k∧InR C y.2.2.2.2):=by
 intro k
 induction k with
 | zero=>
  intro n m p s C R hm hn hC hR hI h0 h1
  refine Tt.out ?_
  rw [Z12_fx]
  unfold c_Z12
  refine Tt.dec (fun hn=>by exfalso; omega) (fun _=>Tt.pure ⟨rfl,by simp only; omega,by simp only; omega,rfl,by simp only; omega,hI⟩)
 | succ k ih=>
  intro n m p s C R hm hn hC hR hI h0 h1
  refine Tt.out ?_
  rw [Z12_fx]
  unfold c_Z12
  refine Tt.dec (fun hm0=>?_) (fun hm0=>by exfalso; omega)
  have go:∀ (p' s':Int) (R':List D),p≤p'→p'≤p+6→R'.length≤R.length+1→InR C R'→Tt (fun _:Unit=>True) (fun y:List D×Int×Int×List D×List D=>y.1=c∧p≤y.2.1∧y.2.1≤p+6 * ((k+1:Nat):Int)∧y.2.2.2.1=C∧y.2.2.2.2.length≤R.length+(k+1)∧InR C y.2.2.2.2) (fun _=>(Z12 n (IntKind.i64.wrap (m - 1)) c p' s' C R').bind some):=by
   intro p' s' R' g1 g2 g3 g4
   rw [wrap_id (n:=m - 1) (by omega) (by omega)]
   refine Tt.bind (Tt.con (ih n (m - 1) p' s' C R' (by omega) hn hC (by omega) g4 (by omega) (by omega))) ?_
   rintro ⟨c2,p2,s2,C2,R2⟩ ⟨e1,e2,e3,e4,e5,e6⟩
   simp only at e1 e2 e3 e4 e5 e6
   exact Tt.pure ⟨e1,by simp only; omega,by simp only; omega,e4,by simp only; omega,e6⟩
  refine Tt.dec (fun hn1=>?_) (fun _=>Tt.pure ⟨rfl,by simp only; omega,by simp only; omega,rfl,by simp only; omega,hI⟩)
  refine Tt.bind (Tt.con (pick_tot' _ hc _ _ _ (by omega) (by omega))) ?_
  rintro ⟨i,c1,p1,s1⟩ ⟨hi,e1,hp1,hp2⟩
  dsimp only at hi e1 hp1 hp2 ⊢
  rw [e1]
  refine Tt.bind (Tt.con (pick_tot' _ hc _ _ _ (by omega) (by omega))) ?_
  rintro ⟨j,c2,p2,s2⟩ ⟨hj,e2,hp3,hp4⟩
  dsimp only at hj e2 hp3 hp4 ⊢
  rw [e2]
  have linkT:∀ (u v p' s':Int),p≤p'→p'≤p+6→0≤find2 C u→0≤find2 C v→Tt (fun _:Unit=>True) (fun y:List D×Int×Int×List D×List D=>y.1=c∧p≤y.2.1∧y.2.1≤p+6 * ((k+1:Nat):Int)∧y.2.2.2.1=C∧y.2.2.2.2.length≤R.length+(k+1)∧InR C y.2.2.2.2)
    (fun _=>(Z11 C R u v).bind (fun z=>(Z12 n (IntKind.i64.wrap (m - 1)) c p' s' z.1 z.2).bind some)):=by
   intro u v p' s' g1 g2 gu gv
   refine Tt.bind (Tt.con (link_in C R u v (by omega) (by omega))) ?_
   rintro ⟨C3,R3⟩ ⟨rfl,q1,q2,q3⟩
   dsimp only at q1 q2 q3 hI gu gv ⊢
   exact go p' s' R3 g1 g2 q2 (fun d hd=>by
    rcases q3 d hd with h | h
    ·exact hI d h
    ·subst h; exact ⟨gu,gv⟩)
  refine Tt.dec (fun _=>?_) (fun _=>?_)
  ·refine Tt.bind (Tt.con (one_tot' _ hc _ _ _ (by omega) (by omega))) ?_
   rintro ⟨w,c3,p3,s3⟩ ⟨_,e3,hp5,hp6⟩
   dsimp only at e3 hp5 hp6 ⊢
   rw [e3]
   refine Tt.cnd (fun _=>?_) (fun _=>?_)
   ·refine Tt.ndec (fun _=>?_) (fun _=>go _ _ R (by omega) (by omega) (by omega) hI)
    repeat refine Tt.ite (by omega) ?_
    exact linkT _ _ _ _ (by omega) (by omega) (num_in (by omega) (by omega)) (num_in (by omega) (by omega))
   ·refine Tt.ndec (fun _=>?_) (fun _=>go _ _ R (by omega) (by omega) (by omega) hI)
    repeat refine Tt.ite (by omega) ?_
    exact linkT _ _ _ _ (by omega) (by omega) (num_in (by omega) (by omega)) (num_in (by omega) (by omega))
  ·refine Tt.ndec (fun _=>?_) (fun _=>go _ _ R (by omega) (by omega) (by omega) hI)
   repeat refine Tt.ite (by omega) ?_
   exact linkT _ _ _ _ (by omega) (by omega) (num_in (by omega) (by omega)) (num_in (by omega) (by omega))
theorem recL_in (c:List D) (hc:okC c):∀ (k:Nat) (n m p s:Int) (C:List D),m.toNat=k→n=C.length→C.length≤100→k≤100→0≤p→p+6 * k≤1099511627000 →
  ∃ y,Z13 n m c p s C=some y∧(match y with
   | .inl y=>y.1=c∧p≤y.2.1∧y.2.1≤p+6 * k∧y.2.2.2.1=C∧y.2.2.2.2.length≤k∧InR C y.2.2.2.2
   | .inr y=>y.1=c∧p≤y.2.1∧y.2.1≤p+6 * k∧y.2.2.2=C):=by
 intro k
 induction k with
 | zero=>
  intro n m p s C hm hn hC hR h0 h1
  refine Tt.out ?_
  rw [Z13_fx]
  unfold c_Z13
  refine Tt.dec (fun hn=>by exfalso; omega) (fun _=>Tt.pure ⟨rfl,by simp only; omega,by simp only; omega,rfl⟩)
 | succ k ih=>
  intro n m p s C hm hn hC hR h0 h1
  refine Tt.out ?_
  rw [Z13_fx]
  unfold c_Z13
  refine Tt.dec (fun hm0=>?_) (fun hm0=>by exfalso; omega)
  let PP':(List D×Int×Int×List D×List D)⊕(List D×Int×Int×List D)→Prop:=fun y=>match y with
   | .inl y=>y.1=c∧p≤y.2.1∧y.2.1≤p+6 * ((k+1:Nat):Int)∧y.2.2.2.1=C∧y.2.2.2.2.length≤k+1∧InR C y.2.2.2.2
   | .inr y=>y.1=c∧p≤y.2.1∧y.2.1≤p+6 * ((k+1:Nat):Int)∧y.2.2.2=C
  have go:∀ (p' s':Int),p≤p'→p'≤p+6→Tt (fun _:Unit=>True) PP' (fun _=>(Z13 n (IntKind.i64.wrap (m - 1)) c p' s' C).bind some):=by
   intro p' s' g1 g2
   rw [wrap_id (n:=m - 1) (by omega) (by omega)]
   refine Tt.bind (Tt.con (ih n (m - 1) p' s' C (by omega) hn hC (by omega) (by omega) (by omega))) ?_
   rintro (⟨c2,p2,s2,C2,R2⟩ | ⟨c2,p2,s2,C2⟩) h
   ·obtain ⟨e1,e2,e3,e4,e5,e6⟩:=h
    simp only at e1 e2 e3 e4 e5 e6
    exact Tt.pure ⟨e1,by simp only; omega,by simp only; omega,e4,by simp only; omega,e6⟩
   ·obtain ⟨e1,e2,e3,e4⟩:=h
    simp only at e1 e2 e3 e4
    exact Tt.pure ⟨e1,by simp only; omega,by simp only; omega,e4⟩
  refine Tt.dec (fun hn1=>?_) (fun _=>Tt.pure ⟨rfl,by simp only; omega,by simp only; omega,rfl⟩)
  refine Tt.bind (Tt.con (pick_tot' _ hc _ _ _ (by omega) (by omega))) ?_
  rintro ⟨i,c1,p1,s1⟩ ⟨hi,e1,hp1,hp2⟩
  dsimp only at hi e1 hp1 hp2 ⊢
  rw [e1]
  refine Tt.bind (Tt.con (pick_tot' _ hc _ _ _ (by omega) (by omega))) ?_
  rintro ⟨j,c2,p2,s2⟩ ⟨hj,e2,hp3,hp4⟩
  dsimp only at hj e2 hp3 hp4 ⊢
  rw [e2]
  have linkT:∀ (u v p' s':Int),p≤p'→p'≤p+6→0≤find2 C u→0≤find2 C v→Tt (fun _:Unit=>True) PP'
    (fun _=>(Z9 C u v).bind (fun z=>(Z12 n (IntKind.i64.wrap (m - 1)) c p' s' z.1 z.2).bind (fun w=>some (.inl (w.1,w.2.1,w.2.2.1,w.2.2.2.1,w.2.2.2.2))))):=by
   intro u v p' s' g1 g2 gu gv
   refine Tt.bind (Tt.con (link0_in C u v (by omega))) ?_
   rintro ⟨C3,R3⟩ ⟨rfl,q1,q3⟩
   dsimp only at q1 q3 gu gv ⊢
   rw [wrap_id (n:=m - 1) (by omega) (by omega)]
   refine Tt.bind (Tt.con (recL2_in c hc k n (m - 1) p' s' C3 R3 (by omega) hn hC (by omega) (fun d hd=>by rw [q3 d hd]; exact ⟨gu,gv⟩) (by omega) (by omega))) ?_
   rintro ⟨c2,p2,s2,C2,R2⟩ ⟨e1,e2,e3,e4,e5,e6⟩
   simp only at e1 e2 e3 e4 e5 e6
   exact Tt.pure ⟨e1,by simp only; omega,by simp only; omega,e4,by simp only; omega,e6⟩
  refine Tt.dec (fun _=>?_) (fun _=>?_)
  ·refine Tt.bind (Tt.con (one_tot' _ hc _ _ _ (by omega) (by omega))) ?_
   rintro ⟨w,c3,p3,s3⟩ ⟨_,e3,hp5,hp6⟩
   dsimp only at e3 hp5 hp6 ⊢
   rw [e3]
   refine Tt.cnd (fun _=>?_) (fun _=>?_)
   ·refine Tt.ndec (fun _=>?_) (fun _=>go _ _ (by omega) (by omega))
    repeat refine Tt.ite (by omega) ?_
    exact linkT _ _ _ _ (by omega) (by omega) (num_in (by omega) (by omega)) (num_in (by omega) (by omega))
   ·refine Tt.ndec (fun _=>?_) (fun _=>go _ _ (by omega) (by omega))
    repeat refine Tt.ite (by omega) ?_
    exact linkT _ _ _ _ (by omega) (by omega) (num_in (by omega) (by omega)) (num_in (by omega) (by omega))
  ·refine Tt.ndec (fun _=>?_) (fun _=>go _ _ (by omega) (by omega))
   repeat refine Tt.ite (by omega) ?_
   exact linkT _ _ _ _ (by omega) (by omega) (num_in (by omega) (by omega)) (num_in (by omega) (by omega))
theorem record_in (c:List D) (hc:okC c) (p s:Int) (hp:0≤p∧p≤1099511619000):∃ y,Z14 c p s=some y∧(recI c p (p+200) 10 20 y∧InR y.1 y.2.1):=by
 refine Tt.out ?_
 unfold Z14 c_Z14
 (refine Tt.bind (Tt.con (pick_tot' _ hc _ _ _ (by omega) (by omega))) ?_; rintro ⟨v,c',p',s'⟩ ⟨hv,rfl,hp1,hp2⟩; dsimp only at hv hp1 hp2 ⊢)
 refine Tt.bind (Tt.con (ctxs_tot _ hc _ _ _ (by omega) (by omega))) ?_
 rintro ⟨C,c2,p2,s2⟩ ⟨rfl,e2,e3,e4⟩
 dsimp only at e2 e3 e4 ⊢
 (refine Tt.bind (Tt.con (pick_tot' _ hc _ _ _ (by omega) (by omega))) ?_; rintro ⟨v,c',p',s'⟩ ⟨hv,rfl,hp1,hp2⟩; dsimp only at hv hp1 hp2 ⊢)
 refine Tt.bind (Tt.con (recL_in _ hc _ _ _ _ _ C rfl rfl (by omega) (by omega) (by omega) (by omega))) ?_
 rintro (⟨c5,p5,s5,C5,R5⟩ | ⟨c5,p5,s5,C5⟩) h
 ·obtain ⟨g1,g2,g3,g4,g5,g6⟩:=h
  simp only at g1 g2 g3 g4 g5 g6
  subst g4
  exact Tt.pure ⟨⟨g1,by simp only; omega,by simp only; omega,by simp only; omega,by simp only; omega⟩,g6⟩
 ·obtain ⟨g1,g2,g3,g4⟩:=h
  simp only at g1 g2 g3 g4
  subst g4
  exact Tt.pure ⟨⟨g1,by simp only; omega,by simp only; omega,by simp only; omega,by simp only [List.length_nil]; omega⟩,fun d hd=>by cases hd⟩
theorem link_tot (C R:List D) (u v:Int) (hC:C.length≤100000) (hR:R.length≤99999):∃ y,Z11 C R u v=some y∧(y.1=C∧R.length≤y.2.length∧y.2.length≤R.length+1):=by
 obtain ⟨y,h1,h2,h3,h4,_⟩:=link_in C R u v hC hR
 exact ⟨y,h1,h2,h3,h4⟩
theorem record_tot (c:List D) (hc:okC c) (p s:Int) (hp:0≤p∧p≤1099511619000):∃ y,Z14 c p s=some y∧recI c p (p+200) 10 20 y:=by
 obtain ⟨y,h1,h2,_⟩:=record_in c hc p s hp
 exact ⟨y,h1,h2⟩
theorem anyL17v_tot (c:List D) (hc:okC c):∀ (k:Nat) (n p s:Int) (R C:List D),(12 - n).toNat=k→0≤n→n≤12→C.length+k≤1000→0≤p→p+2 * (k+1)≤1099511627000 →
  ∃ y,Z16 n c p s R C=some y∧(y.1=c∧p≤y.2.1∧y.2.1≤p+2 * (k+1)∧y.2.2.2.1=R∧y.2.2.2.2.length≤C.length+k):=by
 intro k
 induction k with
 | zero=>
  intro n p s R C hk h0 h1 h2 h3 h4
  refine Tt.out ?_
  rw [Z16_fx]
  unfold c_Z16
  (refine Tt.bind (Tt.con (pick_tot' _ hc _ _ _ (by omega) (by omega))) ?_; rintro ⟨v,c',p',s'⟩ ⟨hv,rfl,hp1,hp2⟩; dsimp only at hv hp1 hp2 ⊢)
  refine Tt.dec (fun _=>?_) (fun _=>Tt.pure ⟨rfl,by simp only; omega,by simp only; omega,rfl,by simp only; omega⟩)
  refine Tt.dec (fun _=>by exfalso; omega) (fun _=>Tt.pure ⟨rfl,by simp only; omega,by simp only; omega,rfl,by simp only; omega⟩)
 | succ k ih=>
  intro n p s R C hk h0 h1 h2 h3 h4
  refine Tt.out ?_
  rw [Z16_fx]
  unfold c_Z16
  (refine Tt.bind (Tt.con (pick_tot' _ hc _ _ _ (by omega) (by omega))) ?_; rintro ⟨v,c',p',s'⟩ ⟨hv,rfl,hp1,hp2⟩; dsimp only at hv hp1 hp2 ⊢)
  refine Tt.dec (fun _=>?_) (fun _=>Tt.pure ⟨rfl,by simp only; omega,by simp only; omega,rfl,by simp only; omega⟩)
  refine Tt.dec (fun _=>?_) (fun _=>Tt.pure ⟨rfl,by simp only; omega,by simp only; omega,rfl,by simp only; omega⟩)
  refine Tt.ite (by simp only [List.length_cons,List.length_nil]; omega) ?_
  rw [wrap_id (n:=n+1) (by omega) (by omega)]
  refine Tt.bind (Tt.con (ih (n+1) _ _ R _ (by omega) (by omega) (by omega) (by simp only [List.length_append,List.length_cons,List.length_nil]; omega) (by omega) (by omega))) ?_
  rintro ⟨c2,p2,s2,R2,C2⟩ ⟨e1,e2,e3,e4,e5⟩
  simp only [List.length_append,List.length_cons,List.length_nil] at e1 e2 e3 e4 e5
  exact Tt.pure ⟨e1,by simp only; omega,by simp only; omega,e4,by simp only; omega⟩
theorem anyL17_tot (c:List D) (hc:okC c) (p s:Int) (C R:List D) (hp:0≤p∧p≤1099511620000) (hC:C.length≤100):∃ y,Z17 0 c p s C R=some y∧(match y with
   | .inl y=>y.1=c∧p≤y.2.1∧y.2.1≤p+100∧y.2.2.2.1=R∧y.2.2.2.2.length≤C.length+12
   | .inr y=>y.1=c∧p≤y.2.1∧y.2.1≤p+100∧y.2.2.2.1=C∧y.2.2.2.2=R):=by
 refine Tt.out ?_
 rw [Z17_fx]
 unfold c_Z17
 (refine Tt.bind (Tt.con (pick_tot' _ hc _ _ _ (by omega) (by omega))) ?_; rintro ⟨v,c',p',s'⟩ ⟨hv,rfl,hp1,hp2⟩; dsimp only at hv hp1 hp2 ⊢)
 refine Tt.dec (fun _=>?_) (fun _=>Tt.pure ⟨rfl,by simp only; omega,by simp only; omega,rfl,rfl⟩)
 refine Tt.dec (fun _=>?_) (fun _=>Tt.pure ⟨rfl,by simp only; omega,by simp only; omega,rfl,rfl⟩)
 refine Tt.ite (by simp only [List.length_cons,List.length_nil]; omega) ?_
 refine Tt.bind (Tt.con (anyL17v_tot _ hc 11 1 _ _ R _ (by decide) (by omega) (by omega) (by simp only [List.length_append,List.length_cons,List.length_nil]; omega) (by omega) (by omega))) ?_
 rintro ⟨c2,p2,s2,R2,C2⟩ ⟨e1,e2,e3,e4,e5⟩
 simp only [List.length_append,List.length_cons,List.length_nil] at e1 e2 e3 e4 e5
 exact Tt.pure ⟨e1,by simp only; omega,by simp only; omega,e4,by simp only; omega⟩
def rowN (r a b:Nat):Nat:=min 25 (r+(7 - b) - (if b≤a then 1 else 0))
theorem anyL28v_tot (c:List D) (p s:Int) (C:List D) (hC:C.length=7) (a:Nat) (ha:a<7):∀ (m b:Nat) (R:List D),b+m=7→R.length≤25 →
  ∃ R',Z18 a b c p s C R=some ((a:Int),c,p,s,C,R')∧R'.length=rowN R.length a b:=by
 intro m
 induction m with
 | zero=>
  intro b R hb hR
  refine ⟨R,?_,?_⟩
  ·rw [Z18_fx]
   unfold c_Z18
   have h1:¬ (b:Int)<7:=by omega
   simp only [h1,decide_false,cond_false]
  ·unfold rowN; split <;> omega
 | succ m ih=>
  intro b R hb hR
  rw [Z18_fx]
  unfold c_Z18
  have h1:(b:Int)<7:=by omega
  simp only [h1,decide_true,cond_true]
  by_cases h25:R.length<25
  ·have h2:(R.length:Int)<25:=by omega
   simp only [h2,decide_true,cond_true,succ_wrap (show b<4611686018427387904 by omega)]
   by_cases hab:a=b
   ·have h3:(a:Int)=(b:Int):=by omega
    simp only [h3,decide_true,Bool.not_true,cond_false]
    obtain ⟨R',e1,e2⟩:=ih (b+1) R (by omega) hR
    rw [hab] at e1
    refine ⟨R',by rw [e1]; rfl,?_⟩
    rw [e2]
    unfold rowN
    rw [if_neg (by omega),if_pos (by omega)]
    omega
   ·have h3:¬ (a:Int)=(b:Int):=by omega
    have g1:(0:Int)≤(a:Int)∧(a:Int)<C.length:=by omega
    have g2:a+1≤C.length:=by omega
    have g3:(0:Int)≤(b:Int)∧(b:Int)<C.length:=by omega
    have g4:b+1≤C.length:=by omega
    have g5:R.length+[D.node [D.int ((C.getD a (.int 0)).fld 0).toInt,D.int ((C.getD b (.int 0)).fld 0).toInt]].length≤4294967296:=by
     simp only [List.length_cons,List.length_nil]; omega
    simp only [h3,decide_false,Bool.not_false,cond_true,if_pos g1,Int.toNat_natCast,if_pos g2,if_pos g3,if_pos g4,if_pos g5]
    obtain ⟨R',e1,e2⟩:=ih (b+1) (R++[D.node [D.int ((C.getD a (.int 0)).fld 0).toInt,D.int ((C.getD b (.int 0)).fld 0).toInt]]) (by omega) (by simp; omega)
    refine ⟨R',by rw [e1]; rfl,?_⟩
    rw [e2]
    unfold rowN
    simp only [List.length_append,List.length_cons,List.length_nil]
    by_cases hle:b≤a
    ·rw [if_pos (by omega),if_pos hle]; omega
    ·rw [if_neg (by omega),if_neg hle]; omega
  ·have h2:¬ (R.length:Int)<25:=by omega
   simp only [h2,decide_false,cond_false]
   refine ⟨R,rfl,?_⟩
   unfold rowN
   split <;> omega
theorem anyL28_tot (c:List D) (p s:Int) (C:List D) (hC:C.length=7) (a:Nat) (ha:a<7):∀ (m b:Nat) (R:List D),b+m=7→R.length≤25 →
  ∃ R',(Z19 a b c p s C R=some (.inl ((a:Int),c,p,s,C,R'))∨Z19 a b c p s C R=some (.inr ((a:Int),c,p,s,C,R')))∧R'.length=rowN R.length a b:=by
 intro m
 induction m with
 | zero=>
  intro b R hb hR
  refine ⟨R,.inr ?_,?_⟩
  ·rw [Z19_fx]
   unfold c_Z19
   have h1:¬ (b:Int)<7:=by omega
   simp only [h1,decide_false,cond_false]
  ·unfold rowN; split <;> omega
 | succ m ih=>
  intro b R hb hR
  rw [Z19_fx]
  unfold c_Z19
  have h1:(b:Int)<7:=by omega
  simp only [h1,decide_true,cond_true]
  by_cases h25:R.length<25
  ·have h2:(R.length:Int)<25:=by omega
   simp only [h2,decide_true,cond_true,succ_wrap (show b<4611686018427387904 by omega)]
   by_cases hab:a=b
   ·have h3:(a:Int)=(b:Int):=by omega
    simp only [h3,decide_true,Bool.not_true,cond_false]
    obtain ⟨R',e1,e2⟩:=ih (b+1) R (by omega) hR
    rw [hab] at e1
    refine ⟨R',by rcases e1 with e1 | e1 <;> rw [e1] <;> simp,?_⟩
    rw [e2]
    unfold rowN
    rw [if_neg (by omega),if_pos (by omega)]
    omega
   ·have h3:¬ (a:Int)=(b:Int):=by omega
    have g1:(0:Int)≤(a:Int)∧(a:Int)<C.length:=by omega
    have g2:a+1≤C.length:=by omega
    have g3:(0:Int)≤(b:Int)∧(b:Int)<C.length:=by omega
    have g4:b+1≤C.length:=by omega
    have g5:R.length+[D.node [D.int ((C.getD a (.int 0)).fld 0).toInt,D.int ((C.getD b (.int 0)).fld 0).toInt]].length≤4294967296:=by
     simp only [List.length_cons,List.length_nil]; omega
    simp only [h3,decide_false,Bool.not_false,cond_true,if_pos g1,Int.toNat_natCast,if_pos g2,if_pos g3,if_pos g4,if_pos g5]
    obtain ⟨R',e1,e2⟩:=anyL28v_tot c p s C hC a ha m (b+1) (R++[D.node [D.int ((C.getD a (.int 0)).fld 0).toInt,D.int ((C.getD b (.int 0)).fld 0).toInt]]) (by omega) (by simp; omega)
    refine ⟨R',.inl (by rw [e1]; rfl),?_⟩
    rw [e2]
    unfold rowN
    simp only [List.length_append,List.length_cons,List.length_nil]
    by_cases hle:b≤a
    ·rw [if_pos (by omega),if_pos hle]; omega
    ·rw [if_neg (by omega),if_neg hle]; omega
  ·have h2:¬ (R.length:Int)<25:=by omega
   simp only [h2,decide_false,cond_false]
   refine ⟨R,.inr rfl,?_⟩
   unfold rowN
   split <;> omega
theorem rowN0 {r a:Nat}:rowN r a 0=min 25 (r+6):=by unfold rowN; rw [if_pos (by omega)]; omega
theorem anyL25v_tot (c:List D) (p s:Int) (C:List D) (hC:C.length=7):∀ (m a:Nat) (R:List D),a+m=7→R.length≤25 →
  ∃ R',Z20 a c p s C R=some (c,p,s,C,R')∧R'.length=min 25 (R.length+6 * m):=by
 intro m
 induction m with
 | zero=>
  intro a R ha hR
  refine ⟨R,?_,by omega⟩
  rw [Z20_fx]
  unfold c_Z20
  have h1:¬ (a:Int)<7:=by omega
  simp only [h1,decide_false,cond_false]
 | succ m ih=>
  intro a R ha hR
  obtain ⟨R1,e1,e2⟩:=anyL28v_tot c p s C hC a (by omega) 7 0 R (by omega) hR
  have e1':Z18 a 0 c p s C R=_:=e1
  rw [rowN0] at e2
  obtain ⟨R2,f1,f2⟩:=ih (a+1) R1 (by omega) (by omega)
  refine ⟨R2,?_,by omega⟩
  rw [Z20_fx]
  unfold c_Z20
  have h1:(a:Int)<7:=by omega
  simp only [h1,decide_true,cond_true,e1',Option.bind_some,succ_wrap (show a<4611686018427387904 by omega),f1]
theorem anyL25_tot (c:List D) (p s:Int) (C:List D) (hC:C.length=7):∀ (m a:Nat) (R:List D),a+m=7→R.length≤25 →
  ∃ R',(Z21 a c p s C R=some (.inl (c,p,s,C,R'))∨Z21 a c p s C R=some (.inr (c,p,s,C,R')))∧R'.length=min 25 (R.length+6 * m):=by
 intro m
 induction m with
 | zero=>
  intro a R ha hR
  refine ⟨R,.inr ?_,by omega⟩
  rw [Z21_fx]
  unfold c_Z21
  have h1:¬ (a:Int)<7:=by omega
  simp only [h1,decide_false,cond_false]
 | succ m ih=>
  intro a R ha hR
  obtain ⟨R1,e1,e2⟩:=anyL28_tot c p s C hC a (by omega) 7 0 R (by omega) hR
  rw [rowN0] at e2
  have h1:(a:Int)<7:=by omega
  rcases e1 with e1 | e1
  ·have e1':Z19 a 0 c p s C R=_:=e1
   obtain ⟨R2,f1,f2⟩:=anyL25v_tot c p s C hC m (a+1) R1 (by omega) (by omega)
   refine ⟨R2,.inl ?_,by omega⟩
   rw [Z21_fx]
   unfold c_Z21
   simp only [h1,decide_true,cond_true,e1',Option.bind_some,Sum.elim_inl,succ_wrap (show a<4611686018427387904 by omega),f1]
  ·have e1':Z19 a 0 c p s C R=_:=e1
   obtain ⟨R2,f1,f2⟩:=ih (a+1) R1 (by omega) (by omega)
   refine ⟨R2,?_,by omega⟩
   rw [Z21_fx]
   unfold c_Z21
   simp only [h1,decide_true,cond_true,e1',Option.bind_some,Sum.elim_inr,succ_wrap (show a<4611686018427387904 by omega)]
   rcases f1 with f1 | f1 <;> rw [f1] <;> simp
theorem any_tot (c:List D) (hc:okC c) (p s:Int) (hp:0≤p∧p≤1099511610000):∃ y,Z22 c p s=some y∧recI c p (p+500) 100 100 y:=by
 refine Tt.out ?_
 unfold Z22 c_Z22
 refine Tt.bind (Tt.con (record_tot _ hc _ _ (by omega))) ?_
 rintro ⟨C,R,c1,p1,s1⟩ ⟨rfl,q1,q2,q3,q4⟩
 dsimp only at q1 q2 q3 q4 ⊢
 refine Tt.dec (fun _=>Tt.pure ⟨rfl,by simp only; omega,by simp only; omega,by simp only; omega,by simp only; omega⟩) (fun hne=>?_)
 refine Tt.bind (Tt.con (pick_tot' _ hc _ _ _ (by omega) (by omega))) ?_
 rintro ⟨i,c2,p2,s2⟩ ⟨hi,rfl,hp1,hp2⟩
 dsimp only at hi hp1 hp2 ⊢
 refine Tt.ite (by omega) ?_
 refine Tt.ite (by omega) ?_
 refine Tt.bind (Tt.con (pick_tot' _ hc _ _ _ (by omega) (by omega))) ?_
 rintro ⟨w,c3,p3,s3⟩ ⟨hw,rfl,hp3,hp4⟩
 dsimp only at hw hp3 hp4 ⊢
 refine Tt.dec (fun _=>?_) (fun _=>?_)
 ·(refine Tt.bind (Tt.con (among_tot _ hc _ _ _ (by omega) (by simp))) ?_; rintro ⟨v,c',p',s'⟩ ⟨hv,rfl,hp1,hp2⟩; dsimp only at hv hp1 hp2 ⊢)
  refine Tt.ite (by omega) ?_
  refine Tt.ite (by omega) ?_
  exact Tt.pure ⟨rfl,by simp only; omega,by simp only; omega,by simp only [List.length_set]; omega,by simp only; omega⟩
 ·refine Tt.dec (fun _=>?_) (fun _=>?_)
  ·(refine Tt.bind (Tt.con (pick_tot' _ hc _ _ _ (by omega) (by omega))) ?_; rintro ⟨v,c',p',s'⟩ ⟨hv,rfl,hp1,hp2⟩; dsimp only at hv hp1 hp2 ⊢)
   refine Tt.ite (by omega) ?_
   refine Tt.ite (by omega) ?_
   exact Tt.pure ⟨rfl,by simp only; omega,by simp only; omega,by simp only [List.length_set]; omega,by simp only; omega⟩
  ·refine Tt.dec (fun _=>?_) (fun _=>?_)
   ·refine Tt.ite (by simp only [List.length_cons,List.length_nil]; omega) ?_
    refine Tt.ite (by omega) ?_
    refine Tt.ite (by omega) ?_
    exact Tt.pure ⟨rfl,by simp only; omega,by simp only; omega,by simp only [List.length_set]; omega,by simp only [List.length_append,List.length_cons,List.length_nil]; omega⟩
   ·refine Tt.dec (fun _=>?_) (fun _=>?_)
    ·(refine Tt.bind (Tt.con (pick_tot' _ hc _ _ _ (by omega) (by omega))) ?_; rintro ⟨v,c',p',s'⟩ ⟨hv,rfl,hp1,hp2⟩; dsimp only at hv hp1 hp2 ⊢)
     (refine Tt.bind (Tt.con (pick_tot' _ hc _ _ _ (by omega) (by omega))) ?_; rintro ⟨v,c',p',s'⟩ ⟨hv,rfl,hp1,hp2⟩; dsimp only at hv hp1 hp2 ⊢)
     refine Tt.ite (by simp only [List.length_cons,List.length_nil]; omega) ?_
     refine Tt.ite (by omega) ?_
     refine Tt.ite (by omega) ?_
     exact Tt.pure ⟨rfl,by simp only; omega,by simp only; omega,by simp only [List.length_set]; omega,by simp only [List.length_append,List.length_cons,List.length_nil]; omega⟩
    ·refine Tt.dec (fun _=>?_) (fun _=>?_)
     ·refine Tt.bind (Tt.con (anyL17_tot _ hc _ _ C R (by omega) (by omega))) ?_
      rintro (⟨c5,p5,s5,R5,C5⟩ | ⟨c5,p5,s5,C5,R5⟩) h
      ·obtain ⟨g1,g2,g3,g4,g5⟩:=h
       simp only at g1 g2 g3 g4 g5
       exact Tt.pure ⟨g1,by simp only; omega,by simp only; omega,by simp only; omega,by simp only [g4]; omega⟩
      ·obtain ⟨g1,g2,g3,g4,g5⟩:=h
       simp only at g1 g2 g3 g4 g5
       exact Tt.pure ⟨g1,by simp only; omega,by simp only; omega,by simp only [g4]; omega,by simp only [g5]; omega⟩
     ·refine Tt.dec (fun _=>?_) (fun _=>?_)
      ·refine Tt.bind (Tt.con (ctxs_tot _ hc _ _ _ (by omega) (by omega))) ?_
       rintro ⟨C6,c6,p6,s6⟩ ⟨rfl,e2,e3,e4⟩
       dsimp only at e2 e3 e4 ⊢
       obtain ⟨R7,f1,f2⟩:=anyL25_tot c6 p6 s6 C6 (by omega) 7 0 [] (by omega) (by simp)
       simp only [List.length_nil] at f2
       have fin:Tt (fun _:Unit=>True) (recI c6 p (p+500) 100 100) (fun _=>(Z2 c6 p6 s6 2).bind (fun y11=>if (0:Int)≤0∧0≤IntKind.i64.wrap (24+y11.1)∧IntKind.i64.wrap (24+y11.1)≤R7.length then (if 0+((IntKind.i64.wrap (24+y11.1)).toNat - 0)≤R7.length then some (C6,List.take ((IntKind.i64.wrap (24+y11.1)).toNat - 0) (List.drop 0 R7),y11.2.1,y11.2.2.1,y11.2.2.2) else none) else none)):=by
        refine Tt.bind (Tt.con (pick_tot' _ hc _ _ _ (by omega) (by omega))) ?_
        rintro ⟨x,c8,p8,s8⟩ ⟨hx,rfl,r1,r2⟩
        dsimp only at hx r1 r2 ⊢
        rw [wrap_id (n:=24+x) (by omega) (by omega)]
        refine Tt.ite (by omega) ?_
        refine Tt.ite (by omega) ?_
        exact Tt.pure ⟨rfl,by simp only; omega,by simp only; omega,by simp only; omega,by simp only [List.length_take,List.length_drop]; omega⟩
       rcases f1 with f1 | f1
       ·have f1':Z21 0 c6 p6 s6 C6 []=_:=f1
        rw [f1']
        exact fin
       ·have f1':Z21 0 c6 p6 s6 C6 []=_:=f1
        rw [f1']
        exact fin
      ·refine Tt.ite (by omega) ?_
       refine Tt.ite (by omega) ?_
       exact Tt.pure ⟨rfl,by simp only; omega,by simp only; omega,by simp only [List.length_set]; omega,by simp only; omega⟩
def at2 (M:List D) (i k:Nat):Bool:=((M.getD i (.int 0)).items.getD k (.int 0)).toBool
def set2 (M:List D) (i k:Nat) (b:Bool):List D:=M.set i (.node ((M.getD i (.int 0)).items.set k (.bool b)))
structure Sq (n:Nat) (M:List D):Prop where
 len:M.length=n
 row:∀ i,i<n→(M.getD i (.int 0)).items.length=n
theorem getD_set {l:List D} {i j:Nat} {x:D} (h:i<l.length):(l.set i x).getD j (.int 0)=if i=j then x else l.getD j (.int 0):=by
 rw [List.getD_eq_getElem?_getD,List.getD_eq_getElem?_getD,List.getElem?_set]
 by_cases e:i=j
 ·subst e; simp [h]
 ·simp [e]
theorem Sq.set {n:Nat} {M:List D} (h:Sq n M) {i k:Nat} (hi:i<n) (b:Bool):Sq n (set2 M i k b):=by
 refine ⟨by simp [set2,h.len],fun j hj=>?_⟩
 unfold set2
 rw [getD_set (by rw [h.len]; exact hi)]
 split
 ·simp only [items_node,List.length_set]; exact h.row i hi
 ·exact h.row j hj
theorem at2_set {n:Nat} {M:List D} (h:Sq n M) {i k a c:Nat} (hi:i<n) (hk:k<n) (b:Bool):at2 (set2 M i k b) a c=if a=i∧c=k then b else at2 M a c:=by
 unfold at2 set2
 rw [getD_set (by rw [h.len]; exact hi)]
 by_cases e:i=a
 ·subst e
  rw [if_pos rfl]
  simp only [items_node]
  rw [getD_set (by rw [h.row i hi]; exact hk)]
  by_cases e2:k=c
  ·subst e2; simp [toBool_bool]
  ·have:¬ c=k:=fun e=>e2 e.symm
   simp [e2,this]
 ·have:¬ a=i:=fun e'=>e e'.symm
  rw [if_neg e]
  simp [this]
theorem at2_lt {n:Nat} {M:List D} (h:Sq n M) {a c:Nat} (hv:at2 M a c=true):a<n∧c<n:=by
 unfold at2 at hv
 by_cases ha:a<n
 ·refine ⟨ha,?_⟩
  by_cases hc:c<n
  ·exact hc
  ·rw [List.getD_eq_getElem?_getD (l:=(M.getD a (.int 0)).items),List.getElem?_eq_none (by rw [h.row a ha]; omega)] at hv
   cases hv
 ·rw [List.getD_eq_getElem?_getD (l:=M),List.getElem?_eq_none (by rw [h.len]; omega)] at hv
  simp [D.items] at hv
  cases hv
structure Clo (n:Nat) (M M':List D):Prop where
 sq:Sq n M'
 mono:∀ a b,at2 M a b=true→at2 M' a b=true
 sound:∀ T:Nat→Nat→Prop,(∀ a b c,T a b→T b c→T a c)→(∀ a b,at2 M a b=true→T a b)→∀ a b,at2 M' a b=true→T a b
theorem Clo.refl {n:Nat} {M:List D} (h:Sq n M):Clo n M M:=⟨h,fun _ _ h=>h,fun _ _ h=>h⟩
theorem Clo.trans {n:Nat} {M M' M'':List D} (h:Clo n M M') (k:Clo n M' M''):Clo n M M'':=
 ⟨k.sq,fun a b q=>k.mono a b (h.mono a b q),fun T hT hb=>k.sound T hT (h.sound T hT hb)⟩
theorem Clo.step {n:Nat} {M:List D} (h:Sq n M) {i j k:Nat} (hi:i<n) (hk:k<n) {v:Bool} (h1:at2 M i k=true→v=true) (h2:v=true→at2 M i k=true∨(at2 M i j=true∧at2 M j k=true)):Clo n M (set2 M i k v):=by
 refine ⟨h.set hi v,fun a b q=>?_,fun T hT hb a b q=>?_⟩
 ·rw [at2_set h hi hk]
  split
  ·rename_i e; rw [e.1,e.2] at q; exact h1 q
  ·exact q
 ·rw [at2_set h hi hk] at q
  split at q
  ·rename_i e
   rw [e.1,e.2]
   rcases h2 q with h2 | h2
   ·exact hb _ _ h2
   ·exact hT _ _ _ (hb _ _ h2.1) (hb _ _ h2.2)
  ·exact hb a b q
theorem squareL_eq (n:Nat) (hn:n≤100000):∀ (m i:Nat) (M:List D),i+m=n→M.length=n→(∀ j,j<i→M.getD j (.int 0)=.node (List.replicate n (.bool false))) →
  ∃ M',Z50 n n i M=some M'∧M'.length=n∧∀ j,j<n→M'.getD j (.int 0)=.node (List.replicate n (.bool false)):=by
 intro m
 induction m with
 | zero=>
  intro i M hi hl hj
  have:i=n:=by omega
  subst this
  refine ⟨M,?_,hl,hj⟩
  rw [Z50_fx]
  unfold c_Z50
  simp
 | succ m ih=>
  intro i M hi hl hj
  rw [Z50_fx]
  unfold c_Z50
  have h1:(i:Int)<n:=by omega
  have h2:(0:Int)≤n∧(n:Int)≤n∧(n:Int)≤4294967296:=by omega
  have h3:(0:Int)≤(i:Int)∧(i:Int)<M.length:=by omega
  have h4:i+1≤M.length:=by omega
  obtain ⟨M',e1,e2,e3⟩:=ih (i+1) (M.set i (.node (List.replicate n (.bool false)))) (by omega) (by simp [hl]) (fun j hj'=>by
   rw [getD_set (by omega)]
   split
   ·rfl
   ·exact hj j (by omega))
  refine ⟨M',?_,e2,e3⟩
  simp only [h1,decide_true,cond_true,if_pos h2,if_pos h3,if_pos h4,succ_wrap (show i<4611686018427387904 by omega),Int.toNat_natCast,e1,Option.bind_some]
theorem square_eq (n:Nat) (hn:n≤100000):∃ M,Z51 n=some M∧Sq n M∧∀ a b,at2 M a b=false:=by
 obtain ⟨M,e1,e2,e3⟩:=squareL_eq n hn n 0 (List.replicate n (.node [])) (by omega) (by simp) (fun j hj=>by omega)
 have e1':Z50 n n 0 (List.replicate n (.node []))=some M:=e1
 have h2:(0:Int)≤n∧(n:Int)≤n∧(n:Int)≤4294967296:=by omega
 have hs:Sq n M:=⟨e2,fun i hi=>by rw [e3 i hi]; simp [items_node]⟩
 refine ⟨M,?_,hs,fun a b=>?_⟩
 ·simp only [Z51,c_Z51,if_pos h2,Int.toNat_natCast,List.length_replicate,e1',Option.bind_some]
 ·cases hq:at2 M a b with
  | false=>rfl
  | true=>
   obtain ⟨ha,hb⟩:=at2_lt hs hq
   unfold at2 at hq
   rw [e3 a ha,items_node,List.getD_eq_getElem?_getD,List.getElem?_replicate,if_pos hb] at hq
   cases hq
def nums (C:List D):List D:=C.map (fun d=>.int (d.fld 0).toInt)
theorem numsL_eq (C R A L:List D) (x0:Int) (hC:C.length≤100000):∀ (m i:Nat) (acc:List D),i+m=C.length→acc.length=i →
  Z52 x0 C C.length i C R acc A L=some (x0,C,R,acc++nums (C.drop i),A,L):=by
 intro m
 induction m with
 | zero=>
  intro i acc hi ha
  have:i=C.length:=by omega
  subst this
  rw [Z52_fx]
  unfold c_Z52
  simp [nums]
 | succ m ih=>
  intro i acc hi ha
  rw [Z52_fx]
  unfold c_Z52
  have h1:(i:Int)<C.length:=by omega
  have h3:(0:Int)≤(i:Int)∧(i:Int)<C.length:=by omega
  have h4:acc.length+[D.int ((C.getD i (.int 0)).fld 0).toInt].length≤4294967296:=by
   simp only [List.length_cons,List.length_nil]; omega
  simp only [h1,decide_true,cond_true,if_pos h3,if_pos h4,succ_wrap (show i<4611686018427387904 by omega),Int.toNat_natCast]
  rw [ih (i+1) _ (by omega) (by simp [ha])]
  rw [drop_cons (show i<C.length by omega)]
  simp [nums]
def edgeAt (C R:List D) (j a b:Nat):Prop:=j<R.length∧find2 C ((R[j]?.getD (.int 0)).fld 0).toInt=a∧find2 C ((R[j]?.getD (.int 0)).fld 1).toInt=b
def edge (C R:List D) (a b:Nat):Prop:=∃ j,edgeAt C R j a b
theorem rOk_at {C R:List D} (h:validB C R=true) {j:Nat} (hj:j<R.length):∃ a b,a<C.length∧b<C.length∧a≠b∧find2 C ((R[j]?.getD (.int 0)).fld 0).toInt=(a:Int)∧find2 C ((R[j]?.getD (.int 0)).fld 1).toInt=(b:Int) ∧
  ((C[a]?.getD (.int 0)).fld 0).toInt=((R[j]?.getD (.int 0)).fld 0).toInt∧((C[b]?.getD (.int 0)).fld 0).toInt=((R[j]?.getD (.int 0)).fld 1).toInt:=by
 simp only [validB,Bool.and_eq_true] at h
 have:=allN_iff.1 h.2.2.2 j hj
 simp only [rOk,Bool.and_eq_true,Bool.not_eq_true',decide_eq_true_eq,decide_eq_false_iff_not] at this
 obtain ⟨h0,h1,h2,_⟩:=this
 obtain ⟨a,a1,a2,a3⟩:=find2_some h1
 obtain ⟨b,b1,b2,b3⟩:=find2_some h2
 refine ⟨a,b,a1,b1,fun e=>h0 ?_,a2,b2,a3,b3⟩
 rw [← a3,← b3,e]
theorem edge_lt {C R:List D} (h:validB C R=true) {a b:Nat} (he:edge C R a b):a<C.length∧b<C.length∧a≠b:=by
 obtain ⟨j,hj,e1,e2⟩:=he
 obtain ⟨a',b',q1,q2,q3,q4,q5,_⟩:=rOk_at h hj
 rw [q4] at e1; rw [q5] at e2
 have e1':a'=a:=by omega
 have e2':b'=b:=by omega
 subst e1'; subst e2'
 exact ⟨q1,q2,q3⟩
theorem relsL_eq (C R nm:List D) (n:Nat) (hv:validB C R=true) (hC:C.length=n) (hR:R.length≤24) (hn:n≤10):∀ (m j:Nat) (A L:List D),j+m=R.length→Sq n A→Sq n L →
  ∃ A' L',Z54 n R R.length j C R nm A L=some ((n:Int),nm,A',L')∧Sq n A'∧Sq n L' ∧
   (∀ a b,at2 A' a b=true↔at2 A a b=true∨∃ k,j≤k∧edgeAt C R k a b)∧(∀ a b,at2 L' a b=true↔at2 L a b=true∨∃ k,j≤k∧edgeAt C R k a b):=by
 intro m
 induction m with
 | zero=>
  intro j A L hj hA hL
  have:j=R.length:=by omega
  subst this
  refine ⟨A,L,?_,hA,hL,fun a b=>⟨.inl,?_⟩,fun a b=>⟨.inl,?_⟩⟩
  ·rw [Z54_fx]
   unfold c_Z54
   simp
  ·rintro (h | ⟨k,h1,h2⟩)
   ·exact h
   ·have:=h2.1; omega
  ·rintro (h | ⟨k,h1,h2⟩)
   ·exact h
   ·have:=h2.1; omega
 | succ m ih=>
  intro j A L hj hA hL
  obtain ⟨a,b,q1,q2,q3,q4,q5,_⟩:=rOk_at hv (show j<R.length by omega)
  rw [hC] at q1 q2
  obtain ⟨A',L',e1,e2,e3,e4,e5⟩:=ih (j+1) (set2 A a b true) (set2 L a b true) (by omega) (hA.set q1 true) (hL.set q1 true)
  have key:∀ (X X':List D),Sq n X→(∀ c d,at2 X' c d=true↔at2 (set2 X a b true) c d=true∨∃ k,j+1≤k∧edgeAt C R k c d)→∀ c d,at2 X' c d=true↔at2 X c d=true∨∃ k,j≤k∧edgeAt C R k c d:=by
   intro X X' hX h c d
   rw [h,at2_set hX q1 q2]
   constructor
   ·rintro (h | ⟨k,h1,h2⟩)
    ·split at h
     ·rename_i e
      exact .inr ⟨j,Nat.le_refl _,by omega,by rw [e.1]; exact q4,by rw [e.2]; exact q5⟩
     ·exact .inl h
    ·exact .inr ⟨k,by omega,h2⟩
   ·rintro (h | ⟨k,h1,h2⟩)
    ·left
     split
     ·rfl
     ·exact h
    ·by_cases hk:k=j
     ·subst hk
      left
      obtain ⟨_,g1,g2⟩:=h2
      rw [q4] at g1; rw [q5] at g2
      rw [if_pos ⟨by omega,by omega⟩]
     ·exact .inr ⟨k,by omega,h2⟩
  refine ⟨A',L',?_,e2,e3,key A A' hA e4,key L L' hL e5⟩
  rw [Z54_fx]
  unfold c_Z54
  have h1:(j:Int)<R.length:=by omega
  have h3:(0:Int)≤(j:Int)∧(j:Int)<R.length:=by omega
  have g1:(0:Int)≤(a:Int)∧(a:Int)<A.length:=by rw [hA.len]; omega
  have g2:a+1≤A.length:=by rw [hA.len]; omega
  have g3:(0:Int)≤(b:Int)∧(b:Int)<(A.getD a (.int 0)).items.length:=by rw [hA.row a q1]; omega
  have g4:b+1≤(A.getD a (.int 0)).items.length:=by rw [hA.row a q1]; omega
  have k1:(0:Int)≤(a:Int)∧(a:Int)<L.length:=by rw [hL.len]; omega
  have k2:a+1≤L.length:=by rw [hL.len]; omega
  have k3:(0:Int)≤(b:Int)∧(b:Int)<(L.getD a (.int 0)).items.length:=by rw [hL.row a q1]; omega
  have k4:b+1≤(L.getD a (.int 0)).items.length:=by rw [hL.row a q1]; omega
  rw [← List.getD_eq_getElem?_getD] at q4 q5
  simp only [h1,decide_true,cond_true,if_pos h3,Int.toNat_natCast,indexOf_eq C R _ (show C.length≤100000 by omega),q4,q5,Option.bind_some,if_pos g1,if_pos g2,if_pos g3,if_pos g4,if_pos k1,if_pos k2,if_pos k3,if_pos k4,succ_wrap (show j<4611686018427387904 by omega)]
  rw [show Z54 n R R.length ((j+1:Nat):Int) C R nm (A.set a (.node ((A.getD a (.int 0)).items.set b (.bool true)))) (L.set a (.node ((L.getD a (.int 0)).items.set b (.bool true))))=some ((n:Int),nm,A',L') from e1]
  rfl
theorem clK (n i j:Nat) (hn:n≤10) (hi:i<n) (hj:j<n) (a3 a4 a5 a6:Int) (nm A:List D):∀ (m k:Nat) (M:List D),k+m=n→Sq n M →
  ∃ M',Z55 n j i a3 a4 a5 a6 n k nm A M=some ((n:Int),(j:Int),a3,a4,a5,a6,nm,A,M')∧Clo n M M'∧∀ b,k≤b→b<n→at2 M i j=true→at2 M j b=true→at2 M' i b=true:=by
 intro m
 induction m with
 | zero=>
  intro k M hk hM
  have:k=n:=by omega
  subst this
  refine ⟨M,?_,Clo.refl hM,fun b h1 h2=>by omega⟩
  rw [Z55_fx]
  unfold c_Z55
  simp
 | succ m ih=>
  intro k M hk hM
  have hkn:k<n:=by omega
  let v:Bool:=at2 M i k||(at2 M i j&&at2 M j k)
  have hc:Clo n M (set2 M i k v):=Clo.step (j:=j) hM hi hkn (fun h=>by simp [v,h]) (fun h=>by
   simp only [v,Bool.or_eq_true,Bool.and_eq_true] at h; exact h)
  obtain ⟨M',e1,e2,e3⟩:=ih (k+1) (set2 M i k v) (by omega) hc.sq
  refine ⟨M',?_,hc.trans e2,fun b h1 h2 h3 h4=>?_⟩
  ·rw [Z55_fx]
   unfold c_Z55
   have h1:(k:Int)<n:=by omega
   have g1:(0:Int)≤(i:Int)∧(i:Int)<M.length:=by rw [hM.len]; omega
   have g2:i+1≤M.length:=by rw [hM.len]; omega
   have g3:(0:Int)≤(k:Int)∧(k:Int)<(M.getD i (.int 0)).items.length:=by rw [hM.row i hi]; omega
   have g4:k+1≤(M.getD i (.int 0)).items.length:=by rw [hM.row i hi]; omega
   have g5:(0:Int)≤(j:Int)∧(j:Int)<(M.getD i (.int 0)).items.length:=by rw [hM.row i hi]; omega
   have g6:j+1≤(M.getD i (.int 0)).items.length:=by rw [hM.row i hi]; omega
   have k1:(0:Int)≤(j:Int)∧(j:Int)<M.length:=by rw [hM.len]; omega
   have k2:j+1≤M.length:=by rw [hM.len]; omega
   have k3:(0:Int)≤(k:Int)∧(k:Int)<(M.getD j (.int 0)).items.length:=by rw [hM.row j hj]; omega
   have k4:k+1≤(M.getD j (.int 0)).items.length:=by rw [hM.row j hj]; omega
   have r1:((M.getD i (.int 0)).items.getD k (.int 0)).toBool=at2 M i k:=rfl
   have r2:((M.getD i (.int 0)).items.getD j (.int 0)).toBool=at2 M i j:=rfl
   have r3:((M.getD j (.int 0)).items.getD k (.int 0)).toBool=at2 M j k:=rfl
   simp only [h1,decide_true,cond_true,Int.toNat_natCast,if_pos g1,if_pos g2,if_pos g3,if_pos g4,if_pos g5,if_pos g6,if_pos k1,if_pos k2,if_pos k3,if_pos k4,r1,r2,r3,succ_wrap (show k<4611686018427387904 by omega)]
   have fin:∀ u:Bool,v=u→(Z55 n j i a3 a4 a5 a6 n ((k+1:Nat):Int) nm A (M.set i (.node ((M.getD i (.int 0)).items.set k (.bool u))))).bind some=some ((n:Int),(j:Int),a3,a4,a5,a6,nm,A,M'):=fun u hu=>by
    subst hu
    rw [show Z55 n j i a3 a4 a5 a6 n ((k+1:Nat):Int) nm A (M.set i (.node ((M.getD i (.int 0)).items.set k (.bool v))))=_ from e1]
    rfl
   cases hik:at2 M i k with
   | true=>exact fin true (by simp [v,hik])
   | false=>
    cases hij:at2 M i j with
    | true=>exact fin (at2 M j k) (by simp [v,hik,hij])
    | false=>exact fin false (by simp [v,hik,hij])
  ·by_cases hbk:b=k
   ·subst hbk
    refine e2.mono _ _ ?_
    rw [at2_set hM hi hkn,if_pos ⟨rfl,rfl⟩]
    simp [v,h3,h4]
   ·exact e3 b (by omega) h2 (hc.mono _ _ h3) (hc.mono _ _ h4)
theorem clI (n j:Nat) (hn:n≤10) (hj:j<n) (nm A:List D):∀ (m i:Nat) (M:List D),i+m=n→Sq n M →
  ∃ M',Z56 n j n j n i nm A M=some ((n:Int),(n:Int),(j:Int),nm,A,M')∧Clo n M M'∧∀ a b,i≤a→a<n→b<n→at2 M a j=true→at2 M j b=true→at2 M' a b=true:=by
 intro m
 induction m with
 | zero=>
  intro i M hi hM
  have:i=n:=by omega
  subst this
  refine ⟨M,?_,Clo.refl hM,fun a b h1 h2=>by omega⟩
  rw [Z56_fx]
  unfold c_Z56
  simp
 | succ m ih=>
  intro i M hi hM
  obtain ⟨M1,d1,d2,d3⟩:=clK n i j hn (by omega) hj n j n i nm A n 0 M (by omega) hM
  have d1':Z55 n j i n j n i n 0 nm A M=_:=d1
  obtain ⟨M2,e1,e2,e3⟩:=ih (i+1) M1 (by omega) d2.sq
  refine ⟨M2,?_,d2.trans e2,fun a b h1 h2 h3 h4 h5=>?_⟩
  ·rw [Z56_fx]
   unfold c_Z56
   have h1:(i:Int)<n:=by omega
   simp only [h1,decide_true,cond_true,d1',Option.bind_some,succ_wrap (show i<4611686018427387904 by omega),e1]
  ·by_cases hai:a=i
   ·subst hai
    exact e2.mono _ _ (d3 b (by omega) h3 h4 h5)
   ·exact e3 a b (by omega) h2 h3 (d2.mono _ _ h4) (d2.mono _ _ h5)
def PP (E:Nat→Nat→Prop):Nat→Nat→Nat→Prop
 | 0,a,b=>E a b
 | j+1,a,b=>PP E j a b∨(PP E j a j∧PP E j j b)
theorem PP_trans {E:Nat→Nat→Prop}:∀ {j k a b:Nat},k<j→PP E j a k→PP E j k b→PP E j a b
 | 0,k,a,b,h,_,_=>by omega
 | j+1,k,a,b,h,h1,h2=>by
  have left:∀ {x:Nat},PP E (j+1) x j→PP E j x j:=fun h=>h.elim id (fun h=>h.1)
  have right:∀ {x:Nat},PP E (j+1) j x→PP E j j x:=fun h=>h.elim id (fun h=>h.2)
  by_cases hk:k=j
  ·subst hk
   exact .inr ⟨left h1,right h2⟩
  ·have hk':k<j:=by omega
   rcases h1 with h1 | ⟨h1,h1'⟩
   ·rcases h2 with h2 | ⟨h2,h2'⟩
    ·exact .inl (PP_trans hk' h1 h2)
    ·exact .inr ⟨PP_trans hk' h1 h2,h2'⟩
   ·rcases h2 with h2 | ⟨h2,h2'⟩
    ·exact .inr ⟨h1,PP_trans hk' h1' h2⟩
    ·exact .inr ⟨h1,h2'⟩
theorem PP_base {E:Nat→Nat→Prop}:∀ {j a b:Nat},E a b→PP E j a b
 | 0,_,_,h=>h
 | j+1,_,_,h=>.inl (PP_base h)
theorem clJ (n:Nat) (hn:n≤10) (E:Nat→Nat→Prop) (nm A:List D):∀ (m j:Nat) (M:List D),j+m=n→Sq n M→(∀ a b,a<n→b<n→PP E j a b→at2 M a b=true) →
  ∃ M',Z57 n n j nm A M=some (nm,A,M')∧Clo n M M'∧∀ a b,a<n→b<n→PP E n a b→at2 M' a b=true:=by
 intro m
 induction m with
 | zero=>
  intro j M hj hM hP
  have:j=n:=by omega
  subst this
  refine ⟨M,?_,Clo.refl hM,hP⟩
  rw [Z57_fx]
  unfold c_Z57
  simp
 | succ m ih=>
  intro j M hj hM hP
  have hjn:j<n:=by omega
  obtain ⟨M1,d1,d2,d3⟩:=clI n j hn hjn nm A n 0 M (by omega) hM
  have d1':Z56 n j n j n 0 nm A M=_:=d1
  obtain ⟨M2,e1,e2,e3⟩:=ih (j+1) M1 (by omega) d2.sq (fun a b ha hb h=>by
   rcases h with h | ⟨h1,h2⟩
   ·exact d2.mono _ _ (hP a b ha hb h)
   ·exact d3 a b (by omega) ha hb (hP a j ha hjn h1) (hP j b hjn hb h2))
  refine ⟨M2,?_,d2.trans e2,e3⟩
  rw [Z57_fx]
  unfold c_Z57
  have h1:(j:Int)<n:=by omega
  simp only [h1,decide_true,cond_true,d1',Option.bind_some,succ_wrap (show j<4611686018427387904 by omega),e1]
structure Later (n:Nat) (E:Nat→Nat→Prop) (L:List D):Prop where
 sq:Sq n L
 base:∀ a b,E a b→at2 L a b=true
 trans:∀ a b c,at2 L a b=true→at2 L b c=true→at2 L a c=true
 min:∀ T:Nat→Nat→Prop,(∀ a b c,T a b→T b c→T a c)→(∀ a b,E a b→T a b)→∀ a b,at2 L a b=true→T a b
theorem order_eq (C R:List D) (hv:validB C R=true):∃ A L,Z62 C R=some (nums C,A,L)∧Sq C.length A∧(∀ a b,at2 A a b=true↔edge C R a b)∧Later C.length (edge C R) L:=by
 have hv':=hv
 simp only [validB,Bool.and_eq_true,decide_eq_true_eq] at hv'
 obtain ⟨hC,hR,_,_⟩:=hv'
 obtain ⟨M0,s1,s2,s3⟩:=square_eq C.length (by omega)
 obtain ⟨A,L0,r1,r2,r3,r4,r5⟩:=relsL_eq C R (nums C) C.length hv rfl hR hC R.length 0 M0 M0 (by omega) s2 s2
 have r1':Z54 C.length R R.length 0 C R (nums C) M0 M0=_:=r1
 have hA:∀ X:List D,(∀ a b,at2 X a b=true↔at2 M0 a b=true∨∃ k,0≤k∧edgeAt C R k a b)→∀ a b,at2 X a b=true↔edge C R a b:=by
  intro X h a b
  rw [h]
  constructor
  ·rintro (h | ⟨k,_,h⟩)
   ·rw [s3] at h; cases h
   ·exact ⟨k,h⟩
  ·rintro ⟨k,h⟩
   exact .inr ⟨k,Nat.zero_le _,h⟩
 obtain ⟨L,c1,c2,c3⟩:=clJ C.length hC (edge C R) (nums C) A C.length 0 L0 (by omega) r3 (fun a b _ _ h=>(hA L0 r5 a b).2 h)
 have c1':Z57 C.length C.length 0 (nums C) A L0=_:=c1
 have lt:∀ a b,at2 L a b=true→a<C.length∧b<C.length∧PP (edge C R) C.length a b:=by
  refine c2.sound (fun a b=>a<C.length∧b<C.length∧PP (edge C R) C.length a b) (fun a b c h1 h2=>⟨h1.1,h2.2.1,PP_trans h1.2.1 h1.2.2 h2.2.2⟩) (fun a b h=>?_)
  have he:=(hA L0 r5 a b).1 h
  have:=edge_lt hv he
  exact ⟨this.1,this.2.1,PP_base he⟩
 have hLater:Later C.length (edge C R) L:=by
  refine ⟨c2.sq,fun a b h=>c2.mono _ _ ((hA L0 r5 a b).2 h),fun a b c h1 h2=>?_,fun T hT hb=>c2.sound T hT (fun a b h=>hb a b ((hA L0 r5 a b).1 h))⟩
  have q1:=lt a b h1
  have q2:=lt b c h2
  exact c3 a c q1.1 q2.2.1 (PP_trans q1.2.1 q1.2.2 q2.2.2)
 refine ⟨A,L,?_,r2,hA A r4,hLater⟩
 unfold Z62 c_Z62
 simp only [s1,Option.bind_some]
 cases hl:C with
 | nil=>
  subst hl
  have hR0:R=[]:=by
   cases R with
   | nil=>rfl
   | cons d R=>
    obtain ⟨a,b,q1,_⟩:=rOk_at hv (show 0<(d::R).length by simp)
    simp at q1
  subst hR0
  have hM0:M0=[]:=List.eq_nil_of_length_eq_zero s2.len
  subst hM0
  have x1:Z53 0 [] 0 0 [] [] [] [] []=some (.inr (0,[],[],[],[],[])):=by
   rw [Z53_fx]; unfold c_Z53; simp
  have x2:Z58 0 [] 0 0 [] [] [] [] []=some (0,[],[],[]):=by
   rw [Z58_fx]; unfold c_Z58; simp
  have x3:Z61 0 0 0 [] [] []=some ([],[],[]):=by
   rw [Z61_fx]; unfold c_Z61; simp
  have hAe:A=[]:=List.eq_nil_of_length_eq_zero r2.len
  have hLe:L=[]:=List.eq_nil_of_length_eq_zero c2.sq.len
  simp only [List.length_nil,Int.natCast_zero] at x1 x2 x3 ⊢
  rw [hAe,hLe]
  simp only [Int.ofNat_zero,Int.natCast_zero,x1,x2,x3,Option.bind_some,Sum.elim_inr,nums,List.map_nil,List.length_nil]
 | cons d C'=>
  rw [← hl]
  have hpos:0<C.length:=by rw [hl]; simp
  have x1:Z53 C.length C C.length 0 C R [] M0 M0=some (.inl (C.length,C,R,nums C,M0,M0)):=by
   rw [Z53_fx]
   unfold c_Z53
   have h1:(0:Int)<C.length:=by omega
   have h3:(0:Int)≤0∧(0:Int)<C.length:=by omega
   have:=numsL_eq C R M0 M0 C.length (by omega) (C.length - 1) 1 [.int ((C.getD 0 (.int 0)).fld 0).toInt] (by omega) rfl
   have w1:IntKind.i64.wrap (0+1)=((1:Nat):Int):=by decide
   have hd:[D.int ((C.getD 0 (.int 0)).fld 0).toInt]++nums (C.drop 1)=nums C:=by rw [hl]; simp [nums]
   rw [hd] at this
   simp only [h1,decide_true,cond_true,if_pos h3,Int.toNat_zero,List.nil_append,List.length_cons,List.length_nil,w1,this,Option.bind_some]
   rfl
  simp only [x1,Option.bind_some,Sum.elim_inl,r1',c1']
def numAt (C:List D) (i:Nat):Int:=((C[i]?.getD (.int 0)).fld 0).toInt
theorem nums_at {C:List D} {i:Nat} (h:i<C.length):((nums C).getD i (.int 0)).toInt=numAt C i:=by
 unfold nums numAt
 rw [List.getD_eq_getElem?_getD,List.getElem?_map,List.getElem?_eq_getElem h]
 rfl
theorem numAt_lt {C R:List D} (hv:validB C R=true):∀ (k i:Nat),i+k<C.length→0<k→numAt C i<numAt C (i+k):=by
 simp only [validB,Bool.and_eq_true] at hv
 have step:∀ i,i+1<C.length→numAt C i<numAt C (i+1):=by
  intro i hi
  have:=allN_iff.1 hv.2.2.1 (i+1) hi
  simp only [cOk,Bool.and_eq_true,Bool.or_eq_true,decide_eq_true_eq] at this
  rcases this.2.2 with h | h
  ·omega
  ·exact h
 intro k
 induction k with
 | zero=>intro i _ h; omega
 | succ k ih=>
  intro i hi _
  by_cases hk:k=0
  ·subst hk; exact step i hi
  ·have:=ih i (by omega) (by omega)
   have:=step (i+k) (by omega)
   rw [show i+(k+1)=i+k+1 by omega]
   omega
theorem numAt_inj {C R:List D} (hv:validB C R=true) {i j:Nat} (hi:i<C.length) (hj:j<C.length) (h:numAt C i=numAt C j):i=j:=by
 by_cases h1:i<j
 ·have:=numAt_lt hv (j - i) i (by omega) (by omega)
  rw [show i+(j - i)=j by omega] at this
  omega
 ·by_cases h2:j<i
  ·have:=numAt_lt hv (i - j) j (by omega) (by omega)
   rw [show j+(i - j)=i by omega] at this
   omega
  ·omega
theorem uw (n:Int) (h:0≤n∧n<1000):IntKind.u64.wrap n=n:=by
 rw [uwrap]; omega
theorem bv_nat (n:Nat) (h:n<18446744073709551616):(BitVec.ofInt IntKind.i64.bits (n:Int)).toNat=n:=by
 simp only [IntKind.bits,BitVec.toNat_ofInt]
 omega
theorem or_bits (a b:Nat) (ha:a<1024) (hb:b<1024):IntKind.i64.wrap (((BitVec.ofInt IntKind.i64.bits (a:Int) ||| BitVec.ofInt IntKind.i64.bits (b:Int)).toNat:Nat):Int)=((a ||| b:Nat):Int)∧a ||| b<1024:=by
 have h:a ||| b<2 ^ 10:=Nat.or_lt_two_pow (by omega) (by omega)
 rw [BitVec.toNat_or,bv_nat a (by omega),bv_nat b (by omega),wrap_id (by omega) (by omega)]
 exact ⟨rfl,by omega⟩
theorem shl_bit (k:Nat) (hk:k<10):IntKind.i64.wrap (1 * 2 ^ Min.min ((k:Int)).toNat IntKind.i64.bits)=((2 ^ k:Nat):Int)∧2 ^ k<1024:=by
 have h1:Min.min ((k:Int)).toNat IntKind.i64.bits=k:=by simp only [Int.toNat_natCast,IntKind.bits]; omega
 have h2:2 ^ k<2 ^ 10:=Nat.pow_lt_pow_right (by omega) hk
 have h3:(1:Int) * 2 ^ k=((2 ^ k:Nat):Int):=by simp
 have key:∀ x:Nat,x<1024→IntKind.i64.wrap (x:Int)=x∧x<1024:=fun x hx=>⟨wrap_id (by omega) (by omega),hx⟩
 rw [h1,h3]
 exact key _ (Nat.lt_of_lt_of_le h2 (by decide))
theorem and_bit (v k:Nat) (hv:v<1024) (hk:k<10):decide (IntKind.i64.wrap (((BitVec.ofInt IntKind.i64.bits ((v:Int).fdiv (2 ^ Min.min ((k:Int)).toNat IntKind.i64.bits)) &&& BitVec.ofInt IntKind.i64.bits 1).toNat:Nat):Int)=1)=v.testBit k:=by
 have h1:Min.min ((k:Int)).toNat IntKind.i64.bits=k:=by simp only [Int.toNat_natCast,IntKind.bits]; omega
 have h2:(v:Int).fdiv (2 ^ k)=((v / 2 ^ k:Nat):Int):=by
  rw [Int.fdiv_eq_ediv_of_nonneg _ (by exact Int.le_of_lt (Int.pow_pos (by decide)))]
  simp
 have h3:v / 2 ^ k≤v:=Nat.div_le_self _ _
 have h4:(BitVec.ofInt IntKind.i64.bits 1).toNat=1:=by decide
 rw [h1,h2,BitVec.toNat_and,bv_nat _ (by omega),h4,Nat.and_one_is_mod,Nat.testBit_eq_decide_div_mod_eq,wrap_id (by omega) (by omega)]
 by_cases h:v / 2 ^ k % 2=1
 ·rw [decide_eq_true h,decide_eq_true (by omega)]
 ·rw [decide_eq_false h,decide_eq_false (by omega)]
def b2 (B:List D) (i k:Nat):Bool:=(B.getD i (.int 0)).toInt.toNat.testBit k
structure Bq (n:Nat) (B:List D):Prop where
 len:B.length=n
 rng:∀ i,i<n→∃ v:Nat,(B.getD i (.int 0)).toInt=v∧v<1024
theorem b2_set {n:Nat} {B:List D} (h:Bq n B) {i a c v:Nat} (hi:i<n):b2 (B.set i (.int (v:Nat))) a c=if a=i then v.testBit c else b2 B a c:=by
 unfold b2
 rw [getD_set (by rw [h.len]; exact hi)]
 by_cases e:i=a
 ·subst e; simp [toInt_int]
 ·have:¬ a=i:=fun e'=>e e'.symm
  simp [e,this]
theorem Bq.set {n:Nat} {B:List D} (h:Bq n B) {i v:Nat} (hi:i<n) (hv:v<1024):Bq n (B.set i (.int (v:Nat))):=by
 refine ⟨by simp [h.len],fun j hj=>?_⟩
 rw [getD_set (by rw [h.len]; exact hi)]
 split
 ·exact ⟨v,rfl,hv⟩
 ·exact h.rng j hj
theorem b2_lt {n:Nat} {B:List D} (h:Bq n B) {a c:Nat} (hv:b2 B a c=true):a<n∧c<10:=by
 unfold b2 at hv
 by_cases ha:a<n
 ·refine ⟨ha,?_⟩
  obtain ⟨v,e1,e2⟩:=h.rng a ha
  rw [e1,Int.toNat_natCast] at hv
  by_cases hc:c<10
  ·exact hc
  ·rw [Nat.testBit_lt_two_pow (Nat.lt_of_lt_of_le (show v<2 ^ 10 by omega) (Nat.pow_le_pow_right (by omega) (by omega)))] at hv
   cases hv
 ·rw [List.getD_eq_getElem?_getD,List.getElem?_eq_none (by rw [h.len]; omega)] at hv
  simp [toInt_int] at hv
theorem rOk_in {C R:List D} (h:InR C R) {j:Nat} (hj:j<R.length):∃ a b,a<C.length∧b<C.length∧True∧find2 C ((R[j]?.getD (.int 0)).fld 0).toInt=(a:Int)∧find2 C ((R[j]?.getD (.int 0)).fld 1).toInt=(b:Int)∧True:=by
 obtain ⟨h1,h2⟩:=h _ (get_mem hj)
 obtain ⟨a,a1,a2,_⟩:=find2_some h1
 obtain ⟨b,b1,b2,_⟩:=find2_some h2
 exact ⟨a,b,a1,b1,trivial,a2,b2,trivial⟩
theorem inR_of {C R:List D} (hv:validB C R=true):InR C R:=by
 intro d hd
 obtain ⟨j,hj,rfl⟩:=List.getElem_of_mem hd
 obtain ⟨a,b,q1,q2,q3,q4,q5,_⟩:=rOk_at hv hj
 have e:R[j]?.getD (.int 0)=R[j]:=by simp [hj]
 rw [e] at q4 q5
 rw [q4,q5]
 exact ⟨by omega,by omega⟩
theorem bitsR_in (C R:List D) (n:Nat) (hv:InR C R) (hC:C.length=n) (hn:n≤10) (hR:R.length≤24):∀ (m j:Nat) (B:List D),j+m=R.length→Bq n B →
  ∃ B',Z25 j C R B=some B'∧Bq n B'∧∀ a b,b2 B' a b=true↔b2 B a b=true∨∃ k,j≤k∧edgeAt C R k a b:=by
 intro m
 induction m with
 | zero=>
  intro j B hj hB
  have:j=R.length:=by omega
  subst this
  refine ⟨B,?_,hB,fun a b=>⟨.inl,?_⟩⟩
  ·rw [Z25_fx]
   unfold c_Z25
   simp
  ·rintro (h | ⟨k,h1,h2⟩)
   ·exact h
   ·have:=h2.1; omega
 | succ m ih=>
  intro j B hj hB
  obtain ⟨a,b,q1,q2,q3,q4,q5,_⟩:=rOk_in hv (show j<R.length by omega)
  rw [hC] at q1 q2
  obtain ⟨v,v1,v2⟩:=hB.rng a q1
  obtain ⟨s1,s2⟩:=shl_bit b (by omega)
  obtain ⟨o1,o2⟩:=or_bits v (2 ^ b) v2 s2
  obtain ⟨B',e1,e2,e3⟩:=ih (j+1) (B.set a (.int ((v ||| 2 ^ b:Nat):Int))) (by omega) (hB.set q1 o2)
  refine ⟨B',?_,e2,fun c d=>?_⟩
  ·rw [Z25_fx]
   unfold c_Z25
   have h1:(j:Int)<R.length:=by omega
   have g1:(a:Int)<B.length:=by rw [hB.len]; omega
   have g2:a+1≤B.length:=by rw [hB.len]; omega
   rw [← List.getD_eq_getElem?_getD] at q4 q5
   simp only [h1,g1,decide_true,cond_true,Int.natCast_nonneg,and_self,if_true,Int.toNat_natCast,l2Find_eq C R _ (show C.length≤100000 by omega),q4,q5,Option.bind_some,if_pos g2,uw (b:Int) (by omega),v1]
   rw [show IntKind.i64.wrap (1 * 2 ^ Min.min b IntKind.i64.bits)=((2 ^ b:Nat):Int) from s1,o1,succ_wrap (show j<4611686018427387904 by omega),e1]
   rfl
  ·rw [e3,b2_set hB q1]
   have hb:∀ d,(v ||| 2 ^ b).testBit d=true↔v.testBit d=true∨d=b:=by
    intro d
    rw [Nat.testBit_or,Bool.or_eq_true,Nat.testBit_two_pow,decide_eq_true_eq]
    exact ⟨fun h=>h.imp id (fun h=>h.symm),fun h=>h.imp id (fun h=>h.symm)⟩
   have hv':∀ d,b2 B a d=v.testBit d:=fun d=>by unfold b2; rw [v1,Int.toNat_natCast]
   constructor
   ·rintro (h | ⟨k,h1,h2⟩)
    ·split at h
     ·rename_i e
      rw [hb] at h
      rcases h with h | h
      ·left; rw [e,hv']; exact h
      ·exact .inr ⟨j,Nat.le_refl _,by omega,by rw [e]; exact q4,by rw [h]; exact q5⟩
     ·exact .inl h
    ·exact .inr ⟨k,by omega,h2⟩
   ·rintro (h | ⟨k,h1,h2⟩)
    ·left
     split
     ·rename_i e; rw [hb]; left; rw [e,hv'] at h; exact h
     ·exact h
    ·by_cases hk:k=j
     ·subst hk
      left
      obtain ⟨_,g1,g2⟩:=h2
      rw [q4] at g1; rw [q5] at g2
      rw [if_pos (by omega),hb]
      right; omega
     ·exact .inr ⟨k,by omega,h2⟩
structure CloB (n:Nat) (M M':List D):Prop where
 sq:Bq n M'
 mono:∀ a b,b2 M a b=true→b2 M' a b=true
 sound:∀ T:Nat→Nat→Prop,(∀ a b c,T a b→T b c→T a c)→(∀ a b,b2 M a b=true→T a b)→∀ a b,b2 M' a b=true→T a b
theorem CloB.refl {n:Nat} {M:List D} (h:Bq n M):CloB n M M:=⟨h,fun _ _ h=>h,fun _ _ h=>h⟩
theorem CloB.trans {n:Nat} {M M' M'':List D} (h:CloB n M M') (k:CloB n M' M''):CloB n M M'':=
 ⟨k.sq,fun a b q=>k.mono a b (h.mono a b q),fun T hT hb=>k.sound T hT (h.sound T hT hb)⟩
theorem bitsI_eq (n j:Nat) (hn:n≤10) (hj:j<n):∀ (m i:Nat) (B:List D),i+m=n→Bq n B →
  ∃ B',Z26 j i B=some ((j:Int),B')∧CloB n B B'∧∀ a b,i≤a→a<n→b2 B a j=true→b2 B j b=true→b2 B' a b=true:=by
 intro m
 induction m with
 | zero=>
  intro i B hi hB
  have:i=n:=by omega
  subst this
  refine ⟨B,?_,CloB.refl hB,fun a b h1 h2=>by omega⟩
  rw [Z26_fx]
  unfold c_Z26
  simp [hB.len]
 | succ m ih=>
  intro i B hi hB
  have hin:i<n:=by omega
  obtain ⟨v,v1,v2⟩:=hB.rng i hin
  obtain ⟨u,u1,u2⟩:=hB.rng j hj
  obtain ⟨o1,o2⟩:=or_bits v u v2 u2
  have hbit:b2 B i j=v.testBit j:=by unfold b2; rw [v1,Int.toNat_natCast]
  rw [Z26_fx]
  unfold c_Z26
  have g1:(i:Int)<B.length:=by rw [hB.len]; omega
  have g2:i+1≤B.length:=by rw [hB.len]; omega
  have g3:(j:Int)<B.length:=by rw [hB.len]; omega
  have g4:j+1≤B.length:=by rw [hB.len]; omega
  have ab:=and_bit v j v2 (by omega)
  simp only [Int.toNat_natCast] at ab
  simp only [g1,g3,decide_true,cond_true,Int.natCast_nonneg,and_self,if_true,Int.toNat_natCast,if_pos g2,if_pos g4,uw (j:Int) (by omega),v1,u1,o1,ab,succ_wrap (show i<4611686018427387904 by omega)]
  cases hq:v.testBit j with
  | false=>
   obtain ⟨B',e1,e2,e3⟩:=ih (i+1) B (by omega) hB
   refine ⟨B',by simp only [cond_false,e1,Option.bind_some],e2,fun a b h1 h2 h3 h4=>?_⟩
   by_cases e:a=i
   ·subst e; rw [hbit,hq] at h3; cases h3
   ·exact e3 a b (by omega) h2 h3 h4
  | true=>
   have hc:CloB n B (B.set i (.int ((v ||| u:Nat):Int))):=by
    refine ⟨hB.set hin o2,fun a b h=>?_,fun T hT hb a b h=>?_⟩
    ·rw [b2_set hB hin]
     split
     ·rename_i e
      rw [e] at h
      rw [Nat.testBit_or,Bool.or_eq_true]
      left; unfold b2 at h; rw [v1,Int.toNat_natCast] at h; exact h
     ·exact h
    ·rw [b2_set hB hin] at h
     split at h
     ·rename_i e
      rw [e]
      rw [Nat.testBit_or,Bool.or_eq_true] at h
      rcases h with h | h
      ·exact hb i b (by unfold b2; rw [v1,Int.toNat_natCast]; exact h)
      ·exact hT i j b (hb i j (by rw [hbit,hq])) (hb j b (by unfold b2; rw [u1,Int.toNat_natCast]; exact h))
     ·exact hb a b h
   obtain ⟨B',e1,e2,e3⟩:=ih (i+1) (B.set i (.int ((v ||| u:Nat):Int))) (by omega) hc.sq
   refine ⟨B',by simp only [cond_true,e1,Option.bind_some],hc.trans e2,fun a b h1 h2 h3 h4=>?_⟩
   by_cases e:a=i
   ·subst e
    refine e2.mono _ _ ?_
    rw [b2_set hB hin,if_pos rfl,Nat.testBit_or,Bool.or_eq_true]
    right; unfold b2 at h4; rw [u1,Int.toNat_natCast] at h4; exact h4
   ·exact e3 a b (by omega) h2 (hc.mono _ _ h3) (hc.mono _ _ h4)
theorem bitsJ_eq (n:Nat) (hn:n≤10) (E:Nat→Nat→Prop):∀ (m j:Nat) (B:List D),j+m=n→Bq n B→(∀ a b,a<n→b<n→PP E j a b→b2 B a b=true) →
  ∃ B',Z27 j B=some B'∧CloB n B B'∧∀ a b,a<n→b<n→PP E n a b→b2 B' a b=true:=by
 intro m
 induction m with
 | zero=>
  intro j B hj hB hP
  have:j=n:=by omega
  subst this
  refine ⟨B,?_,CloB.refl hB,hP⟩
  rw [Z27_fx]
  unfold c_Z27
  simp [hB.len]
 | succ m ih=>
  intro j B hj hB hP
  have hjn:j<n:=by omega
  obtain ⟨B1,d1,d2,d3⟩:=bitsI_eq n j hn hjn n 0 B (by omega) hB
  have d1':Z26 j 0 B=_:=d1
  obtain ⟨B2,e1,e2,e3⟩:=ih (j+1) B1 (by omega) d2.sq (fun a b ha hb h=>by
   rcases h with h | ⟨h1,h2⟩
   ·exact d2.mono _ _ (hP a b ha hb h)
   ·exact d3 a b (by omega) ha (hP a j ha hjn h1) (hP j b hjn hb h2))
  refine ⟨B2,?_,d2.trans e2,e3⟩
  rw [Z27_fx]
  unfold c_Z27
  have g1:(j:Int)<B.length:=by rw [hB.len]; omega
  simp only [g1,decide_true,cond_true,d1',Option.bind_some,succ_wrap (show j<4611686018427387904 by omega),e1]
theorem bits_eq (C R:List D) (hv:validB C R=true):∃ B,Z28 C R=some B∧Bq C.length B∧(∀ L,Later C.length (edge C R) L→∀ a b,b2 B a b=at2 L a b):=by
 have hv':=hv
 simp only [validB,Bool.and_eq_true,decide_eq_true_eq] at hv'
 obtain ⟨hC,hR,_,_⟩:=hv'
 have hB0:Bq C.length (List.replicate C.length (D.int 0)):=⟨by simp,fun i hi=>⟨0,by rw [List.getD_eq_getElem?_getD,List.getElem?_replicate,if_pos hi]; rfl,by omega⟩⟩
 have hz:∀ a b,b2 (List.replicate C.length (D.int 0)) a b=false:=by
  intro a b
  unfold b2
  rw [List.getD_eq_getElem?_getD,List.getElem?_replicate]
  split <;> simp [toInt_int]
 obtain ⟨B0,r1,r2,r3⟩:=bitsR_in C R C.length (inR_of hv) rfl hC hR R.length 0 _ (by omega) hB0
 have r1':Z25 0 C R (List.replicate C.length (D.int 0))=_:=r1
 have hE:∀ a b,b2 B0 a b=true↔edge C R a b:=by
  intro a b
  rw [r3,hz]
  constructor
  ·rintro (h | ⟨k,_,h⟩)
   ·cases h
   ·exact ⟨k,h⟩
  ·rintro ⟨k,h⟩
   exact .inr ⟨k,Nat.zero_le _,h⟩
 obtain ⟨B,c1,c2,c3⟩:=bitsJ_eq C.length hC (edge C R) C.length 0 B0 (by omega) r2 (fun a b _ _ h=>(hE a b).2 h)
 have c1':Z27 0 B0=_:=c1
 have lt:∀ a b,b2 B a b=true→a<C.length∧b<C.length∧PP (edge C R) C.length a b:=by
  refine c2.sound (fun a b=>a<C.length∧b<C.length∧PP (edge C R) C.length a b) (fun a b c h1 h2=>⟨h1.1,h2.2.1,PP_trans h1.2.1 h1.2.2 h2.2.2⟩) (fun a b h=>?_)
  have he:=(hE a b).1 h
  have:=edge_lt hv he
  exact ⟨this.1,this.2.1,PP_base he⟩
 have h2:(0:Int)≤C.length∧(C.length:Int)≤C.length∧(C.length:Int)≤4294967296:=by omega
 refine ⟨B,?_,c2.sq,fun L hL a b=>?_⟩
 ·simp only [Z28,c_Z28,if_pos h2,Int.toNat_natCast,r1',c1',Option.bind_some]
 ·cases hq:at2 L a b with
  | true=>
   refine hL.min (fun a b=>b2 B a b=true) (fun a b c h1 h2=>?_) (fun a b h=>c2.mono _ _ ((hE a b).2 h)) a b hq
   have q1:=lt a b h1
   have q2:=lt b c h2
   exact c3 a c q1.1 q2.2.1 (PP_trans q1.2.1 q1.2.2 q2.2.2)
  | false=>
   cases hb:b2 B a b with
   | false=>rfl
   | true=>
    have:=c2.sound (fun a b=>at2 L a b=true) hL.trans (fun a b h=>hL.base a b ((hE a b).1 h)) a b hb
    rw [hq] at this; cases this
theorem l4Bit_eq (v k:Nat) (hv:v<1024) (hk:k<10):Z29 v k=some (v.testBit k):=by
 unfold Z29 c_Z29
 have h:=and_bit v k hv hk
 rw [uw (k:Int) (by omega),if_pos (by omega)]
 rw [← h]
theorem cons_tot {C R:List D} (hC:C.length≤10) (hR:R.length≤24) (hI:InR C R):∃ b,Z31 C R=some b:=by
 have hB0:Bq C.length (List.replicate C.length (D.int 0)):=⟨by simp,fun i hi=>⟨0,by rw [List.getD_eq_getElem?_getD,List.getElem?_replicate,if_pos hi]; rfl,by omega⟩⟩
 obtain ⟨B0,r1,r2,r3⟩:=bitsR_in C R C.length hI rfl hC hR R.length 0 _ (by omega) hB0
 have r1':Z25 0 C R (List.replicate C.length (D.int 0))=_:=r1
 obtain ⟨B,c1,c2,c3⟩:=bitsJ_eq C.length hC (fun a b=>b2 B0 a b=true) C.length 0 B0 (by omega) r2 (fun a b _ _ h=>h)
 have c1':Z27 0 B0=_:=c1
 have hB:=c2.sq
 have h2:(0:Int)≤C.length∧(C.length:Int)≤C.length∧(C.length:Int)≤4294967296:=by omega
 have hl:Z28 C R=some B:=by simp only [Z28,c_Z28,if_pos h2,Int.toNat_natCast,r1',c1',Option.bind_some]
 have h:=fxAll (F:=fun i=>Z30 i B) (len:=C.length) (fun i=>!b2 B i i) (.inl false) (fin:=.inr ()) (fun i hi=>by
  show Z30 i B=_
  rw [Z30_fx]
  unfold c_Z30
  have g1:(i:Int)<B.length:=by rw [hB.len]; omega
  have g2:i+1≤B.length:=by rw [hB.len]; omega
  obtain ⟨v,e1,e2⟩:=hB.rng i hi
  have e3:v.testBit i=b2 B i i:=by rw [b2,e1]; rfl
  simp only [g1,g2,decide_true,cond_true,Int.natCast_nonneg,and_self,if_true,Int.toNat_natCast,e1,l4Bit_eq v i e2 (by omega),Option.bind_some,e3,succ_wrap (show i<4611686018427387904 by omega),Option.bind_fun_some]
  cases b2 B i i <;> rfl)
  (by
   show Z30 (C.length:Int) B=_
   rw [Z30_fx]; unfold c_Z30; simp [hB.len])
 have h:Z30 0 B=_:=h
 unfold Z31 c_Z31
 simp only [hl,h,Option.bind_some]
 cases allN (fun i=>!b2 B i i) C.length <;> exact ⟨_,rfl⟩
theorem consistent_tot (c:List D) (hc:okC c) (p s:Int) (hp:0≤p∧p≤1099511619000):∃ y,Z32 c p s=some y∧recI c p (p+200) 10 20 y:=by
 refine Tt.out ?_
 unfold Z32 c_Z32
 refine Tt.bind (Tt.con (record_in _ hc _ _ (by omega))) ?_
 rintro ⟨C,R,c1,p1,s1⟩ ⟨⟨g1,g2,g3,g4,g5⟩,g6⟩
 simp only at g1 g2 g3 g4 g5 g6
 obtain ⟨b,hb⟩:=cons_tot (C:=C) (R:=R) (by omega) (by omega) g6
 dsimp only
 rw [hb]
 cases b with
 | false=>exact Tt.pure ⟨g1,by simp only; omega,by simp only; omega,by simp only; omega,by simp only [List.length_nil]; omega⟩
 | true=>exact Tt.pure ⟨g1,by simp only; omega,by simp only; omega,by simp only; omega,by simp only; omega⟩
theorem ordered_tot (c:List D) (hc:okC c) (p s:Int) (hp:0≤p∧p≤1099511600000):∃ y,Z33 c p s=some y∧recI c p (p+600) 100 100 y:=by
 refine Tt.out ?_
 unfold Z33 c_Z33
 (refine Tt.bind (Tt.con (one_tot' _ hc _ _ _ (by omega) (by omega))) ?_; rintro ⟨v,c',p',s'⟩ ⟨hv,rfl,hp1,hp2⟩; dsimp only at hv hp1 hp2 ⊢)
 refine Tt.cnd (fun _=>?_) (fun _=>?_)
 ·refine Tt.bind (Tt.con (any_tot _ hc _ _ (by omega))) ?_
  rintro ⟨C,R,c1,p1,s1⟩ ⟨g1,g2,g3,g4,g5⟩
  simp only at g1 g2 g3 g4 g5
  exact Tt.pure ⟨g1,by simp only; omega,by simp only; omega,by simp only; omega,by simp only; omega⟩
 ·refine Tt.bind (Tt.con (consistent_tot _ hc _ _ (by omega))) ?_
  rintro ⟨C,R,c1,p1,s1⟩ ⟨g1,g2,g3,g4,g5⟩
  simp only at g1 g2 g3 g4 g5
  exact Tt.pure ⟨g1,by simp only; omega,by simp only; omega,by simp only; omega,by simp only; omega⟩
theorem consistent_eq (C A L:List D) (hL:Sq C.length L) (hC:C.length≤10):Z64 (nums C) A L=some (allN (fun i=>!at2 L i i) C.length):=by
 have hn:(nums C).length=C.length:=by simp [nums]
 have h:=fxAll (F:=fun i=>Z63 (nums C) A L C.length i) (len:=C.length) (fun i=>!at2 L i i) (.inl false) (fin:=.inr ()) (fun i hi=>by
  show Z63 (nums C) A L C.length i=_
  rw [Z63_fx]
  unfold c_Z63
  have h1:(i:Int)<C.length:=by omega
  have g1:(0:Int)≤(i:Int)∧(i:Int)<L.length:=by rw [hL.len]; omega
  have g2:(0:Int)≤(i:Int)∧(i:Int)<(L.getD i (.int 0)).items.length:=by rw [hL.row i hi]; omega
  have r1:((L.getD i (.int 0)).items.getD i (.int 0)).toBool=at2 L i i:=rfl
  simp only [h1,decide_true,cond_true,Int.toNat_natCast,if_pos g1,if_pos g2,r1,succ_wrap (show i<4611686018427387904 by omega),Option.bind_fun_some]
  cases at2 L i i <;> rfl)
  (by
   show Z63 (nums C) A L C.length C.length=_
   rw [Z63_fx]; unfold c_Z63; simp)
 have h':Z63 (nums C) A L C.length 0=_:=h
 simp only [Z64,c_Z64,hn,h',Option.bind_some]
 cases allN (fun i=>!at2 L i i) C.length <;> rfl
def rdy (L:List D) (n s i:Nat):Bool:=!s.testBit i&&allN (fun k=>!at2 L k i||s.testBit k) n
theorem andnot_eq (v s:Nat) (hv:v<1024) (hs:s<1024):decide (IntKind.i64.wrap (((BitVec.ofInt IntKind.i64.bits (v:Int) &&& ~~~BitVec.ofInt IntKind.i64.bits (s:Int)).toNat:Nat):Int)=0)=allN (fun k=>!v.testBit k||s.testBit k) 10:=by
 have hle:(BitVec.ofInt IntKind.i64.bits (v:Int) &&& ~~~BitVec.ofInt IntKind.i64.bits (s:Int)).toNat≤v:=by
  rw [BitVec.toNat_and,bv_nat v (by omega)]; exact Nat.and_le_left
 rw [wrap_id (by omega) (by omega),Bool.eq_iff_iff,decide_eq_true_eq,allN_iff]
 have hz:(((BitVec.ofInt IntKind.i64.bits (v:Int) &&& ~~~BitVec.ofInt IntKind.i64.bits (s:Int)).toNat:Nat):Int)=0↔(BitVec.ofInt IntKind.i64.bits (v:Int) &&& ~~~BitVec.ofInt IntKind.i64.bits (s:Int)).toNat=0:=by omega
 rw [hz]
 have hbit:∀ k,(BitVec.ofInt IntKind.i64.bits (v:Int) &&& ~~~BitVec.ofInt IntKind.i64.bits (s:Int)).toNat.testBit k=(v.testBit k&&(decide (k<64)&&!s.testBit k)):=by
  intro k
  rw [← BitVec.getLsbD,BitVec.getLsbD_and,BitVec.getLsbD_not,BitVec.getLsbD,BitVec.getLsbD,bv_nat v (by omega),bv_nat s (by omega)]
  rfl
 constructor
 ·intro h k hk
  have:=hbit k
  rw [h,Nat.zero_testBit] at this
  have hk':decide (k<64)=true:=by simp; omega
  rw [hk'] at this
  revert this
  generalize v.testBit k=x
  generalize s.testBit k=y
  cases x <;> cases y <;> simp
 ·intro h
  apply Nat.eq_of_testBit_eq
  intro k
  rw [hbit,Nat.zero_testBit]
  by_cases hk:k<10
  ·have:=h k hk
   revert this
   generalize v.testBit k=x
   generalize s.testBit k=y
   cases x <;> cases y <;> simp
  ·rw [Nat.testBit_lt_two_pow (Nat.lt_of_lt_of_le (show v<2 ^ 10 by omega) (Nat.pow_le_pow_right (by omega) (by omega)))]
   rfl
theorem and_bit0 (v k:Nat) (hv:v<1024) (hk:k<10):decide (IntKind.i64.wrap (((BitVec.ofInt IntKind.i64.bits ((v:Int).fdiv (2 ^ Min.min ((k:Int)).toNat IntKind.i64.bits)) &&& BitVec.ofInt IntKind.i64.bits 1).toNat:Nat):Int)=0)=!v.testBit k:=by
 have h1:Min.min ((k:Int)).toNat IntKind.i64.bits=k:=by simp only [Int.toNat_natCast,IntKind.bits]; omega
 have h2:(v:Int).fdiv (2 ^ k)=((v / 2 ^ k:Nat):Int):=by
  rw [Int.fdiv_eq_ediv_of_nonneg _ (by exact Int.le_of_lt (Int.pow_pos (by decide)))]
  simp
 have h3:v / 2 ^ k≤v:=Nat.div_le_self _ _
 have h4:(BitVec.ofInt IntKind.i64.bits 1).toNat=1:=by decide
 rw [h1,h2,BitVec.toNat_and,bv_nat _ (by omega),h4,Nat.and_one_is_mod,Nat.testBit_eq_decide_div_mod_eq,wrap_id (by omega) (by omega)]
 by_cases h:v / 2 ^ k % 2=1
 ·rw [decide_eq_true h,decide_eq_false (by omega)]; rfl
 ·rw [decide_eq_false h,decide_eq_true (by omega)]; rfl
theorem needs_eq {n:Nat} {L nm A:List D} (hL:Sq n L) (hn:n≤10) (hnm:nm.length=n) (i:Nat) (hi:i<n):∃ v:Nat,Z67 nm A L i=some (v:Int)∧v<1024∧∀ k,v.testBit k=(decide (k<n)&&at2 L k i):=by
 have key:∀ (m j v:Nat),j+m=n→v<1024→(∀ k,v.testBit k=(decide (k<j)&&at2 L k i))→∃ v':Nat,Z66 nm A L i v n j=some (v':Int)∧v'<1024∧∀ k,v'.testBit k=(decide (k<n)&&at2 L k i):=by
  intro m
  induction m with
  | zero=>
   intro j v hj hv hb
   have:j=n:=by omega
   subst this
   refine ⟨v,?_,hv,hb⟩
   rw [Z66_fx]; unfold c_Z66; simp
  | succ m ih=>
   intro j v hj hv hb
   have hjn:j<n:=by omega
   rw [Z66_fx]
   unfold c_Z66
   have h1:(j:Int)<n:=by omega
   have g1:(j:Int)<L.length:=by rw [hL.len]; omega
   have g2:(i:Int)<(L.getD j (.int 0)).items.length:=by rw [hL.row j hjn]; omega
   have r1:((L.getD j (.int 0)).items.getD i (.int 0)).toBool=at2 L j i:=rfl
   obtain ⟨s1,s2⟩:=shl_bit j (by omega)
   have s1':IntKind.i64.wrap (1 * 2 ^ Min.min j IntKind.i64.bits)=((2 ^ j:Nat):Int):=by simpa using s1
   obtain ⟨o1,o2⟩:=or_bits v (2 ^ j) hv s2
   simp only [h1,decide_true,cond_true,Int.natCast_nonneg,g1,g2,and_self,if_true,Int.toNat_natCast,r1,s1',o1,succ_wrap (show j<4611686018427387904 by omega),Option.bind_fun_some]
   cases hq:at2 L j i with
   | true=>
    simp only [cond_true]
    refine ih (j+1) (v ||| 2 ^ j) (by omega) o2 (fun k=>?_)
    rw [Nat.testBit_or,hb,Nat.testBit_two_pow]
    by_cases hk:j=k
    ·subst hk; simp [hq]
    ·have e1:decide (k<j+1)=decide (k<j):=by
      rw [Bool.eq_iff_iff,decide_eq_true_eq,decide_eq_true_eq]; omega
     rw [e1]; simp [hk]
   | false=>
    simp only [cond_false]
    refine ih (j+1) v (by omega) hv (fun k=>?_)
    rw [hb]
    by_cases hk:k=j
    ·subst hk; simp [hq]
    ·have e1:decide (k<j+1)=decide (k<j):=by
      rw [Bool.eq_iff_iff,decide_eq_true_eq,decide_eq_true_eq]; omega
     rw [e1]
 obtain ⟨v,v1,v2,v3⟩:=key n 0 0 (by omega) (by omega) (fun k=>by simp)
 have v1:Z66 nm A L i 0 n 0=some (v:Int):=v1
 refine ⟨v,?_,v2,v3⟩
 simp only [Z67,c_Z67,hnm,v1,Option.bind_some]
theorem free_eq {n:Nat} {L nm A:List D} (hL:Sq n L) (hn:n≤10) (hnm:nm.length=n) (s i:Nat) (hs:s<1024) (hi:i<n):Z68 nm A L s i=some (rdy L n s i):=by
 obtain ⟨v,v1,v2,v3⟩:=needs_eq (A:=A) hL hn hnm i hi
 unfold Z68 c_Z68 rdy
 rw [if_pos (by omega),and_bit0 s i hs (by omega),v1]
 cases s.testBit i with
 | true=>rfl
 | false=>
  simp only [Bool.not_false,cond_true,Option.bind_some,andnot_eq v s v2 hs,Bool.true_and]
  congr 1
  rw [Bool.eq_iff_iff,allN_iff,allN_iff]
  constructor
  ·intro h k hk
   have:=h k (by omega)
   rw [v3] at this
   simpa [hk] using this
  ·intro h k hk
   rw [v3]
   by_cases hkn:k<n
   ·have:=h k hkn
    simpa [hkn] using this
   ·simp [hkn]
theorem ready_eq {n:Nat} {L B:List D} (hB:Bq n B) (hb:∀ a b,b2 B a b=at2 L a b) (hn:n≤10) (s i:Nat) (hs:s<1024) (hi:i<n):Z85 B s i=some (rdy L n s i):=by
 have h:=fxAll (F:=fun k=>Z84 B s i k) (len:=n) (fun k=>!at2 L k i||s.testBit k) (.inl false) (fin:=.inr ()) (fun k hk=>by
  show Z84 B s i k=_
  rw [Z84_fx]
  unfold c_Z84
  have g1:(k:Int)<B.length:=by rw [hB.len]; omega
  obtain ⟨v,e1,e2⟩:=hB.rng k hk
  have e3:v.testBit i=at2 L k i:=by rw [← hb,b2,e1]; rfl
  simp only [g1,decide_true,cond_true,Int.natCast_nonneg,and_self,if_true,Int.toNat_natCast,e1,l4Bit_eq v i e2 (by omega),l4Bit_eq s k hs (by omega),Option.bind_some,e3,succ_wrap (show k<4611686018427387904 by omega),Option.bind_fun_some]
  cases at2 L k i <;> cases s.testBit k <;> rfl)
  (by
   show Z84 B s i (n:Int)=_
   rw [Z84_fx]; unfold c_Z84; simp [hB.len])
 have h:Z84 B s i 0=_:=h
 unfold Z85 c_Z85 rdy
 simp only [l4Bit_eq s i hs (by omega),h,Option.bind_some]
 cases s.testBit i with
 | true=>rfl
 | false=>
  simp only [cond_false,Bool.not_false,Bool.true_and]
  cases allN (fun k=>!at2 L k i||s.testBit k) n <;> rfl
def nv (F:List D) (i:Nat):Int:=(F.getD i (.int 0)).toInt
def stepC (L:List D) (n s:Nat) (cur:List D) (i:Nat):List D:=bif rdy L n s i then cur.set s (.int (IntKind.i64.wrap (nv cur s+nv cur (s ||| 2 ^ i)))) else cur
def innerC (L:List D) (n s:Nat):Nat→Nat→List D→List D
 | 0,_,cur=>cur
 | m+1,i,cur=>innerC L n s m (i+1) (stepC L n s cur i)
def outerC (L:List D) (n:Nat):Nat→List D→List D
 | 0,cur=>cur
 | s+1,cur=>outerC L n s (innerC L n s n 0 cur)
theorem stepC_len {L:List D} {n s i:Nat} {cur:List D}:(stepC L n s cur i).length=cur.length:=by unfold stepC; cases rdy L n s i <;> simp
theorem innerC_len {L:List D} {n s:Nat}:∀ {m i:Nat} {cur:List D},(innerC L n s m i cur).length=cur.length
 | 0,_,_=>rfl
 | m+1,i,cur=>by rw [innerC,innerC_len,stepC_len]
theorem outerC_len {L:List D} {n:Nat}:∀ {s:Nat} {cur:List D},(outerC L n s cur).length=cur.length
 | 0,_=>rfl
 | s+1,cur=>by rw [outerC,outerC_len,innerC_len]
def countsC (L:List D) (n:Nat):List D:=outerC L n (2 ^ n - 1) ((List.replicate (2 ^ n) (.int 0)).set (2 ^ n - 1) (.int 1))
theorem pow_le {n:Nat} (hn:n≤10):2 ^ n≤1024:=Nat.le_trans (Nat.pow_le_pow_right (by omega) hn) (by decide)
theorem or_lt {n s i:Nat} (hs:s<2 ^ n) (hi:i<n):s ||| 2 ^ i<2 ^ n:=Nat.or_lt_two_pow hs (Nat.pow_lt_pow_right (by omega) hi)
section
variable {n:Nat} {L nm A B:List D} (hL:Sq n L) (hn:n≤10) (hnm:nm.length=n)
include hL hn hnm in
theorem iL22 (s:Nat) (hs:s<2 ^ n) (bef:List D):∀ (m i:Nat) (cur:List D),i+m=n→cur.length=2 ^ n→Z71 s n i nm A L bef cur=some ((s:Int),nm,A,L,bef,innerC L n s m i cur):=by
 have hp:=pow_le hn
 intro m
 induction m with
 | zero=>
  intro i cur hi hc
  have:i=n:=by omega
  subst this
  rw [Z71_fx]; unfold c_Z71; simp [innerC]
 | succ m ih=>
  intro i cur hi hc
  have hin:i<n:=by omega
  rw [Z71_fx]
  unfold c_Z71
  have h1:(i:Int)<n:=by omega
  obtain ⟨s1,s2⟩:=shl_bit i (by omega)
  have s1':IntKind.i64.wrap (1 * 2 ^ Min.min i IntKind.i64.bits)=((2 ^ i:Nat):Int):=by simpa using s1
  obtain ⟨o1,o2⟩:=or_bits s (2 ^ i) (by omega) s2
  have ho:=or_lt hs hin
  have g1:(s:Int)<cur.length:=by omega
  have g2:s+1≤cur.length:=by omega
  have g3:((s ||| 2 ^ i:Nat):Int)<cur.length:=by omega
  have g4:(s ||| 2 ^ i)+1≤cur.length:=by omega
  rw [innerC,stepC]
  simp only [h1,decide_true,cond_true,Int.natCast_nonneg,free_eq hL hn hnm s i (by omega) hin,Option.bind_some,g1,g2,g3,g4,and_self,if_true,Int.toNat_natCast,s1',o1,succ_wrap (show i<4611686018427387904 by omega),Option.bind_fun_some]
  cases rdy L n s i with
  | true=>
   simp only [cond_true]
   exact ih (i+1) _ (by omega) (by simpa using hc)
  | false=>
   simp only [cond_false]
   exact ih (i+1) cur (by omega) hc
include hL hn hnm in
theorem iL19 (bef:List D):∀ (s:Nat) (cur:List D),s≤2 ^ n→cur.length=2 ^ n→Z72 ((s:Int) - 1) nm A L bef cur=some (nm,A,L,bef,outerC L n s cur):=by
 have hp:=pow_le hn
 intro s
 induction s with
 | zero=>
  intro cur _ hc
  rw [Z72_fx]; unfold c_Z72; simp [outerC]
 | succ s ih=>
  intro cur hs hc
  rw [Z72_fx]
  unfold c_Z72
  have e1:((s+1:Nat):Int) - 1=(s:Int):=by omega
  have e2:IntKind.i64.wrap ((s:Int) - 1)=(s:Int) - 1:=wrap_id (by omega) (by omega)
  have h:=iL22 (A:=A) hL hn hnm s (by omega) bef n 0 cur (by omega) hc
  have h:Z71 s n 0 nm A L bef cur=_:=h
  rw [e1]
  simp only [Int.natCast_nonneg,decide_true,cond_true,hnm,h,Option.bind_some,e2,Option.bind_fun_some]
  exact ih _ (by omega) (by rw [innerC_len]; exact hc)
def stepF (L:List D) (n s:Nat) (cur:List D) (i:Nat):List D:=bif decide (0<nv cur s)&&rdy L n s i then cur.set (s ||| 2 ^ i) (.int (IntKind.i64.wrap (nv cur (s ||| 2 ^ i)+nv cur s))) else cur
def innerF (L:List D) (n s:Nat):Nat→Nat→List D→List D
 | 0,_,cur=>cur
 | m+1,i,cur=>innerF L n s m (i+1) (stepF L n s cur i)
def outerF (L:List D) (n:Nat):Nat→Nat→List D→List D
 | 0,_,cur=>cur
 | m+1,s,cur=>outerF L n m (s+1) (innerF L n s n 0 cur)
theorem stepF_len {L:List D} {n s i:Nat} {cur:List D}:(stepF L n s cur i).length=cur.length:=by unfold stepF; cases (decide (0<nv cur s)&&rdy L n s i) <;> simp
theorem innerF_len {L:List D} {n s:Nat}:∀ {m i:Nat} {cur:List D},(innerF L n s m i cur).length=cur.length
 | 0,_,_=>rfl
 | m+1,i,cur=>by rw [innerF,innerF_len,stepF_len]
theorem outerF_len {L:List D} {n:Nat}:∀ {m s:Nat} {cur:List D},(outerF L n m s cur).length=cur.length
 | 0,_,_=>rfl
 | m+1,s,cur=>by rw [outerF,outerF_len,innerF_len]
def firstF (L:List D) (n:Nat):List D:=outerF L n (2 ^ n) 0 ((List.replicate (2 ^ n) (.int 0)).set 0 (.int 1))
include hL hn hnm in
theorem iL11 (s:Nat) (hs:s<2 ^ n) (x0 x2 x3:Int) (beh:List D):∀ (m i:Nat) (cur:List D),i+m=n→cur.length=2 ^ n→Z69 x0 s x2 x3 n i nm A L cur beh=some (x0,x2,x3,nm,A,L,innerF L n s m i cur,beh):=by
 have hp:=pow_le hn
 intro m
 induction m with
 | zero=>
  intro i cur hi hc
  have:i=n:=by omega
  subst this
  rw [Z69_fx]; unfold c_Z69; simp [innerF]
 | succ m ih=>
  intro i cur hi hc
  have hin:i<n:=by omega
  rw [Z69_fx]
  unfold c_Z69
  have h1:(i:Int)<n:=by omega
  obtain ⟨s1,s2⟩:=shl_bit i (by omega)
  have s1':IntKind.i64.wrap (1 * 2 ^ Min.min i IntKind.i64.bits)=((2 ^ i:Nat):Int):=by simpa using s1
  obtain ⟨o1,o2⟩:=or_bits s (2 ^ i) (by omega) s2
  have ho:=or_lt hs hin
  have g1:(s:Int)<cur.length:=by omega
  have g2:s+1≤cur.length:=by omega
  have g3:((s ||| 2 ^ i:Nat):Int)<cur.length:=by omega
  have g4:(s ||| 2 ^ i)+1≤cur.length:=by omega
  have hz:(cur.getD s (.int 0)).toInt=nv cur s:=rfl
  rw [innerF,stepF]
  simp only [h1,decide_true,cond_true,Int.natCast_nonneg,free_eq hL hn hnm s i (by omega) hin,Option.bind_some,g1,g2,g3,g4,and_self,if_true,Int.toNat_natCast,s1',o1,succ_wrap (show i<4611686018427387904 by omega),Option.bind_fun_some,hz]
  cases decide (0<nv cur s) with
  | true=>
   cases rdy L n s i with
   | true=>
    simp only [cond_true,Bool.and_self]
    exact ih (i+1) _ (by omega) (by simpa using hc)
   | false=>
    simp only [cond_false,cond_true,Bool.and_false]
    exact ih (i+1) cur (by omega) hc
  | false=>
   simp only [cond_false,Bool.false_and]
   exact ih (i+1) cur (by omega) hc
include hL hn hnm in
theorem iL8 (x0:Int) (beh:List D):∀ (m s:Nat) (cur:List D),s+m=2 ^ n→cur.length=2 ^ n→Z70 x0 ((2 ^ n:Nat):Int) s nm A L cur beh=some (x0,nm,A,L,outerF L n m s cur,beh):=by
 have hp:=pow_le hn
 intro m
 induction m with
 | zero=>
  intro s cur hs hc
  have:s=2 ^ n:=by omega
  subst this
  rw [Z70_fx]; unfold c_Z70; simp [outerF]
 | succ m ih=>
  intro s cur hs hc
  rw [Z70_fx]
  unfold c_Z70
  have h1:(s:Int)<((2 ^ n:Nat):Int):=by omega
  have h:=iL11 (A:=A) hL hn hnm s (by omega) x0 ((2 ^ n:Nat):Int) s beh n 0 cur (by omega) hc
  have h:Z69 x0 s ((2 ^ n:Nat):Int) s n 0 nm A L cur beh=_:=h
  simp only [h1,decide_true,cond_true,hnm,h,Option.bind_some,succ_wrap (show s<4611686018427387904 by omega),Option.bind_fun_some]
  exact ih (s+1) _ (by omega) (by rw [innerF_len]; exact hc)
variable (hB:Bq n B) (hb:∀ a b,b2 B a b=at2 L a b)
include hB hb hn in
theorem sL9 (s:Nat) (hs:s<2 ^ n):∀ (m i:Nat) (cur:List D),i+m=n→cur.length=2 ^ n→Z86 B n s i cur=some (B,(n:Int),(s:Int),innerC L n s m i cur):=by
 have hp:=pow_le hn
 intro m
 induction m with
 | zero=>
  intro i cur hi hc
  have:i=n:=by omega
  subst this
  rw [Z86_fx]; unfold c_Z86; simp [innerC]
 | succ m ih=>
  intro i cur hi hc
  have hin:i<n:=by omega
  rw [Z86_fx]
  unfold c_Z86
  have h1:(i:Int)<n:=by omega
  obtain ⟨s1,s2⟩:=shl_bit i (by omega)
  have s1':IntKind.i64.wrap (1 * 2 ^ Min.min i IntKind.i64.bits)=((2 ^ i:Nat):Int):=by simpa using s1
  obtain ⟨o1,o2⟩:=or_bits s (2 ^ i) (by omega) s2
  have ho:=or_lt hs hin
  have g1:(s:Int)<cur.length:=by omega
  have g2:s+1≤cur.length:=by omega
  have g3:((s ||| 2 ^ i:Nat):Int)<cur.length:=by omega
  have g4:(s ||| 2 ^ i)+1≤cur.length:=by omega
  rw [innerC,stepC]
  simp only [h1,decide_true,cond_true,Int.natCast_nonneg,ready_eq hB hb hn s i (by omega) hin,Option.bind_some,g1,g2,g3,g4,and_self,if_true,uw (i:Int) (by omega),Int.toNat_natCast,s1',o1,succ_wrap (show i<4611686018427387904 by omega),Option.bind_fun_some]
  cases rdy L n s i with
  | true=>
   simp only [cond_true]
   exact ih (i+1) _ (by omega) (by simpa using hc)
  | false=>
   simp only [cond_false]
   exact ih (i+1) cur (by omega) hc
include hB hb hn in
theorem sL6:∀ (s:Nat) (cur:List D),s≤2 ^ n→cur.length=2 ^ n→Z87 B n ((s:Int) - 1) cur=some (outerC L n s cur):=by
 have hp:=pow_le hn
 intro s
 induction s with
 | zero=>
  intro cur _ hc
  rw [Z87_fx]; unfold c_Z87; simp [outerC]
 | succ s ih=>
  intro cur hs hc
  rw [Z87_fx]
  unfold c_Z87
  have e1:((s+1:Nat):Int) - 1=(s:Int):=by omega
  have e2:IntKind.i64.wrap ((s:Int) - 1)=(s:Int) - 1:=wrap_id (by omega) (by omega)
  have h:=sL9 hn hB hb s (by omega) n 0 cur (by omega) hc
  have h:Z86 B n s 0 cur=_:=h
  rw [e1]
  simp only [Int.natCast_nonneg,decide_true,cond_true,h,Option.bind_some,e2,Option.bind_fun_some]
  exact ih _ (by omega) (by rw [innerC_len]; exact hc)
include hB hb hn in
theorem sCounts:Z88 B=some (countsC L n):=by
 have hp:=pow_le hn
 have h2:1≤2 ^ n:=Nat.one_le_two_pow
 have hpw:IntKind.i64.wrap (1 * 2 ^ Min.min n IntKind.i64.bits)=((2 ^ n:Nat):Int):=by
  have h1:Min.min n IntKind.i64.bits=n:=by simp only [IntKind.bits]; omega
  have h3:(1:Int) * 2 ^ n=((2 ^ n:Nat):Int):=by simp
  rw [h1,h3]
  have key:∀ x:Nat,x≤1024→IntKind.i64.wrap (x:Int)=x:=fun x hx=>wrap_id (by omega) (by omega)
  exact key _ hp
 have w1:IntKind.i64.wrap (((2 ^ n:Nat):Int) - 1)=((2 ^ n - 1:Nat):Int):=pred_wrap (by omega) (by omega)
 have w2:IntKind.i64.wrap (((2 ^ n - 1:Nat):Int)+1)=((2 ^ n:Nat):Int):=by rw [succ_wrap (by omega)]; congr 1; omega
 have w3:IntKind.i64.wrap (((2 ^ n - 1:Nat):Int) - 1)=((2 ^ n - 1:Nat):Int) - 1:=wrap_id (by omega) (by omega)
 have c1:((2 ^ n:Nat):Int)≤4294967296:=by omega
 have c2:((2 ^ n - 1:Nat):Int)<((List.replicate (2 ^ n) (D.int 0)).length:Int):=by rw [List.length_replicate]; omega
 have c3:2 ^ n - 1+1≤(List.replicate (2 ^ n) (D.int 0)).length:=by rw [List.length_replicate]; omega
 have h:=sL6 hn hB hb (2 ^ n - 1) ((List.replicate (2 ^ n) (.int 0)).set (2 ^ n - 1) (.int 1)) (by omega) (by simp)
 unfold Z88 c_Z88
 simp only [hB.len,uw (n:Int) (by omega),Int.natCast_nonneg,if_true,Int.toNat_natCast,hpw,w1,w2,w3,Int.le_refl,c1,c2,c3,and_self,h,Option.bind_some]
 rfl
end
structure Good8 (C R A L B:List D):Prop where
 l5:Z83 C R=some true
 cons:Z65 C R=some (.inr (nums C,A,L,true))
 cnt:Z73 C R=some (.inr (nums C,A,L,firstF L C.length,countsC L C.length,true))
 later:Z28 C R=some B
 bq:Bq C.length B
 hb:∀ a b,b2 B a b=at2 L a b
 sq:Sq C.length L
 hn:C.length≤10
 trans:∀ a b c,at2 L a b=true→at2 L b c=true→at2 L a c=true
 irr:∀ a,at2 L a a=false
 v:validB C R=true
theorem l4Consistent_eq {C R B L:List D} (h1:Z28 C R=some B) (hB:Bq C.length B) (hb:∀ a b,b2 B a b=at2 L a b) (hn:C.length≤10):Z31 C R=some (allN (fun i=>!at2 L i i) C.length):=by
 have h:=fxAll (F:=fun i=>Z30 i B) (len:=C.length) (fun i=>!at2 L i i) (.inl false) (fin:=.inr ()) (fun i hi=>by
  show Z30 i B=_
  rw [Z30_fx]
  unfold c_Z30
  have g1:(i:Int)<B.length:=by rw [hB.len]; omega
  have g2:i+1≤B.length:=by rw [hB.len]; omega
  obtain ⟨v,e1,e2⟩:=hB.rng i hi
  have e3:v.testBit i=at2 L i i:=by rw [← hb,b2,e1]; rfl
  simp only [g1,g2,decide_true,cond_true,Int.natCast_nonneg,and_self,if_true,Int.toNat_natCast,e1,l4Bit_eq v i e2 (by omega),Option.bind_some,e3,succ_wrap (show i<4611686018427387904 by omega),Option.bind_fun_some]
  cases at2 L i i <;> rfl)
  (by
   show Z30 (C.length:Int) B=_
   rw [Z30_fx]; unfold c_Z30; simp [hB.len])
 have h:Z30 0 B=_:=h
 unfold Z31 c_Z31
 simp only [h1,h,Option.bind_some]
 cases allN (fun i=>!at2 L i i) C.length <;> rfl
theorem pow_wrap {n:Nat} (hn:n≤10):IntKind.i64.wrap (1 * 2 ^ Min.min n IntKind.i64.bits)=((2 ^ n:Nat):Int):=by
 have hp:=pow_le hn
 have h1:Min.min n IntKind.i64.bits=n:=by simp only [IntKind.bits]; omega
 have h3:(1:Int) * 2 ^ n=((2 ^ n:Nat):Int):=by simp
 rw [h1,h3]
 have key:∀ x:Nat,x≤1024→IntKind.i64.wrap (x:Int)=x:=fun x hx=>wrap_id (by omega) (by omega)
 exact key _ hp
theorem counting_good {C R A L:List D} (hc:Z65 C R=some (.inr (nums C,A,L,true))) (hL:Sq C.length L) (hn:C.length≤10):Z73 C R=some (.inr (nums C,A,L,firstF L C.length,countsC L C.length,true)):=by
 have hp:=pow_le hn
 have h2:1≤2 ^ C.length:=Nat.one_le_two_pow
 have hnm:(nums C).length=C.length:=by simp [nums]
 have hpw:=pow_wrap hn
 have c1:((2 ^ C.length:Nat):Int)≤4294967296:=by omega
 have hr:(List.replicate (2 ^ C.length) (D.int 0)).length=2 ^ C.length:=List.length_replicate
 have c2:(0:Int)<((2 ^ C.length:Nat):Int):=by omega
 have c3:0+1≤2 ^ C.length:=by omega
 have h8:=iL8 (A:=A) hL hn hnm ((2 ^ C.length:Nat):Int) (List.replicate (2 ^ C.length) (.int 0)) (2 ^ C.length) 0 ((List.replicate (2 ^ C.length) (.int 0)).set 0 (.int 1)) (by omega) (by simp)
 have h8:Z70 ((2 ^ C.length:Nat):Int) ((2 ^ C.length:Nat):Int) 0 (nums C) A L ((List.replicate (2 ^ C.length) (.int 0)).set 0 (.int 1)) (List.replicate (2 ^ C.length) (.int 0))=_:=h8
 have w1:IntKind.i64.wrap (((2 ^ C.length:Nat):Int) - 1)=((2 ^ C.length - 1:Nat):Int):=pred_wrap (by omega) (by omega)
 have w2:IntKind.i64.wrap (((2 ^ C.length:Nat):Int) - 2)=((2 ^ C.length - 1:Nat):Int) - 1:=by rw [wrap_id (by omega) (by omega)]; omega
 have c4:((2 ^ C.length - 1:Nat):Int)<((2 ^ C.length:Nat):Int):=by omega
 have c5:2 ^ C.length - 1+1≤2 ^ C.length:=by omega
 have h19:=iL19 (A:=A) hL hn hnm (firstF L C.length) (2 ^ C.length - 1) ((List.replicate (2 ^ C.length) (.int 0)).set (2 ^ C.length - 1) (.int 1)) (by omega) (by simp)
 unfold Z73 c_Z73
 have z0:(0:Int).toNat=0:=rfl
 simp only [hc,Option.bind_some,Sum.elim_inr,Bool.not_true,cond_false,hnm,Int.natCast_nonneg,if_true,Int.toNat_natCast,hpw,Int.le_refl,c1,and_self,hr,c2,z0,c3,h8]
 simp only [w1,w2,hr,Int.natCast_nonneg,c4,and_self,if_true,Int.toNat_natCast,c5]
 have h19:Z72 (((2 ^ C.length - 1:Nat):Int) - 1) (nums C) A L (outerF L C.length (2 ^ C.length) 0 ((List.replicate (2 ^ C.length) (.int 0)).set 0 (.int 1))) ((List.replicate (2 ^ C.length) (.int 0)).set (2 ^ C.length - 1) (.int 1))=_:=h19
 rw [h19]
 rfl
theorem cases8 (C R:List D):(Z83 C R=some false∧Z73 C R=some (.inl false))∨∃ A L B,Good8 C R A L B:=by
 have hl:=l2Good_eq C R
 have hv:=valid_eq C R
 cases hb:validB C R with
 | false=>
  left
  rw [hb] at hl hv
  constructor
  ·simp only [Z83,c_Z83,hl,Option.bind_some,cond_false]
  ·simp only [Z73,c_Z73,Z65,c_Z65,hv,Option.bind_some,Bool.not_false,cond_true,Sum.elim_inl]
 | true=>
  rw [hb] at hl hv
  have hC:C.length≤10:=by
   have h:=hb
   simp only [validB,Bool.and_eq_true,decide_eq_true_eq] at h
   exact h.1
  obtain ⟨A,L,o1,o2,o3,o4⟩:=order_eq C R hb
  obtain ⟨B,b1,b2',b3⟩:=bits_eq C R hb
  have hbb:=b3 L o4
  have hcons:=consistent_eq C A L o4.sq hC
  have hs:=l4Consistent_eq b1 b2' hbb hC
  cases hq:allN (fun i=>!at2 L i i) C.length with
  | false=>
   left
   rw [hq] at hcons hs
   constructor
   ·simp only [Z83,c_Z83,hl,Option.bind_some,cond_true,hs]
   ·simp only [Z73,c_Z73,Z65,c_Z65,hv,Option.bind_some,Bool.not_true,cond_false,o1,hcons,Sum.elim_inr,Bool.not_false,cond_true]
  | true=>
   right
   rw [hq] at hcons hs
   have hc:Z65 C R=some (.inr (nums C,A,L,true)):=by
    simp only [Z65,c_Z65,hv,Option.bind_some,Bool.not_true,cond_false,o1,hcons]
   refine ⟨A,L,B,⟨?_,hc,counting_good hc o4.sq hC,b1,b2',hbb,o4.sq,hC,o4.trans,?_,hb⟩⟩
   ·simp only [Z83,c_Z83,hl,Option.bind_some,cond_true,hs]
   ·intro a
    by_cases ha:a<C.length
    ·have:=allN_iff.1 hq a ha
     simpa using this
    ·cases h:at2 L a a with
     | false=>rfl
     | true=>exact absurd (at2_lt o4.sq h).1 ha
theorem countSeq_eq {C R A L B:List D} (h:Good8 C R A L B):Z78 C R=some (nv (countsC L C.length) 0,true)∧Z89 C R=some (nv (countsC L C.length) 0,true):=by
 have hlen:(countsC L C.length).length=2 ^ C.length:=by unfold countsC; rw [outerC_len]; simp
 have h2:1≤2 ^ C.length:=Nat.one_le_two_pow
 have c1:(0:Int)<((countsC L C.length).length:Int):=by rw [hlen]; omega
 have c2:(0:Int).toNat+1≤(countsC L C.length).length:=by rw [hlen]; exact h2
 constructor
 ·simp only [Z78,c_Z78,h.cnt,Option.bind_some,Sum.elim_inr,Bool.not_true,cond_false,Int.le_refl,c1,and_self,if_true,c2]
  rfl
 ·simp only [Z89,c_Z89,h.l5,Option.bind_some,Bool.not_true,cond_false,h.later,sCounts h.hn h.bq h.hb,Int.le_refl,c1,and_self,if_true,c2]
  rfl
theorem countSeq_no {C R:List D} (h1:Z83 C R=some false) (h2:Z73 C R=some (.inl false)):Z78 C R=some (0,false)∧Z89 C R=some (0,false):=by
 constructor
 ·simp only [Z78,c_Z78,h2,Option.bind_some,Sum.elim_inl,Bool.not_false,cond_true]
 ·simp only [Z89,c_Z89,h1,Option.bind_some,Bool.not_false,cond_true]
def zer (n s:Nat):Nat:=((List.range n).filter (fun i=>!s.testBit i)).length
def cntW (L:List D) (n:Nat):Nat→Nat→Nat
 | 0,_=>1
 | m+1,s=>((List.range n).map (fun i=>if rdy L n s i then cntW L n m (s ||| 2 ^ i) else 0)).sum
def cnt (L:List D) (n s:Nat):Nat:=cntW L n (zer n s) s
theorem test_or (s i k:Nat):(s ||| 2 ^ i).testBit k=(s.testBit k||decide (i=k)):=by rw [Nat.testBit_or,Nat.testBit_two_pow]
theorem zer_or {n s i:Nat} (hi:i<n) (h:s.testBit i=false):zer n (s ||| 2 ^ i)+1=zer n s:=by
 unfold zer
 have key:∀ l:List Nat,l.Nodup→i∈l→(l.filter (fun k=>!(s ||| 2 ^ i).testBit k)).length+1=(l.filter (fun k=>!s.testBit k)).length:=by
  intro l
  induction l with
  | nil=>intro _ h; cases h
  | cons a l ih=>
   intro hn hm
   rw [List.nodup_cons] at hn
   rw [List.filter_cons,List.filter_cons,test_or]
   by_cases ha:i=a
   ·subst ha
    have same:l.filter (fun k=>!(s ||| 2 ^ i).testBit k)=l.filter (fun k=>!s.testBit k):=by
     apply List.filter_congr
     intro k hk
     have:¬ i=k:=fun e=>hn.1 (by rw [e]; exact hk)
     rw [test_or]; simp [this]
    rw [same]; simp [h]
   ·have hm':i∈l:=by
     rcases List.mem_cons.1 hm with e | e
     ·exact absurd e ha
     ·exact e
    have ih':=ih hn.2 hm'
    generalize l.filter (fun k=>!(s ||| 2 ^ i).testBit k)=X at ih' ⊢
    generalize l.filter (fun k=>!s.testBit k)=Y at ih' ⊢
    cases s.testBit a <;> simp [ha] <;> omega
 exact key _ List.nodup_range (List.mem_range.2 hi)
theorem zer_full {n s:Nat} (h:zer n s=0):∀ i,i<n→s.testBit i=true:=by
 intro i hi
 unfold zer at h
 rw [List.length_eq_zero_iff,List.filter_eq_nil_iff] at h
 have:=h i (List.mem_range.2 hi)
 simpa using this
theorem zer_le (n s:Nat):zer n s≤n:=by
 unfold zer
 have:=List.length_filter_le (fun i=>!s.testBit i) (List.range n)
 rwa [List.length_range] at this
theorem rdy_not {L:List D} {n s i:Nat} (h:rdy L n s i=true):s.testBit i=false:=by
 unfold rdy at h
 rw [Bool.and_eq_true] at h
 simpa using h.1
theorem cnt_step {L:List D} {n s:Nat} (h:zer n s≠0):cnt L n s=((List.range n).map (fun i=>if rdy L n s i then cnt L n (s ||| 2 ^ i) else 0)).sum:=by
 unfold cnt
 obtain ⟨m,hm⟩:∃ m,zer n s=m+1:=⟨zer n s - 1,by omega⟩
 rw [hm,cntW]
 congr 1
 apply List.map_congr_left
 intro i hi
 rw [List.mem_range] at hi
 split
 ·rename_i hr
  have:=zer_or hi (rdy_not hr)
  have e:zer n (s ||| 2 ^ i)=m:=by omega
  rw [e]
 ·rfl
theorem sum_le {l:List Nat} {f:Nat→Nat} {b:Nat} (h:∀ i∈l,f i≤b):(l.map f).sum≤l.length * b:=by
 induction l with
 | nil=>simp
 | cons a l ih=>
  have h1:=h a (by simp)
  have h2:=ih (fun i hi=>h i (by simp [hi]))
  rw [List.map_cons,List.sum_cons,List.length_cons,Nat.succ_mul]; omega
theorem cntW_le {L:List D} {n:Nat}:∀ m s,cntW L n m s≤n ^ m
 | 0,s=>by simp [cntW]
 | m+1,s=>by
  rw [cntW]
  have:=sum_le (l:=List.range n) (f:=fun i=>if rdy L n s i then cntW L n m (s ||| 2 ^ i) else 0) (b:=n ^ m) (fun i _=>by
   split
   ·exact cntW_le m _
   ·omega)
  rw [List.length_range] at this
  rw [Nat.pow_succ,Nat.mul_comm]; exact this
theorem cnt_le {L:List D} {n s:Nat} (hn:n≤10):cnt L n s≤10000000000:=by
 refine Nat.le_trans (cntW_le _ _) ?_
 have h1:n ^ zer n s≤10 ^ zer n s:=Nat.pow_le_pow_left hn _
 have h2:10 ^ zer n s≤10 ^ 10:=Nat.pow_le_pow_right (by omega) (Nat.le_trans (zer_le n s) hn)
 exact Nat.le_trans h1 h2
theorem some_rdy {L:List D} {n s:Nat} (hL:Sq n L) (tr:∀ a b c,at2 L a b=true→at2 L b c=true→at2 L a c=true) (ir:∀ a,at2 L a a=false) (h:zer n s≠0):∃ i,i<n∧rdy L n s i=true:=by
 have key:∀ (m i:Nat),i<n→s.testBit i=false→((List.range n).filter (fun k=>at2 L k i)).length≤m→∃ j,j<n∧rdy L n s j=true:=by
  intro m
  induction m with
  | zero=>
   intro i hi hs hm
   refine ⟨i,hi,?_⟩
   have h0:(List.range n).filter (fun k=>at2 L k i)=[]:=List.length_eq_zero_iff.1 (by omega)
   rw [List.filter_eq_nil_iff] at h0
   unfold rdy
   rw [hs,Bool.not_false,Bool.true_and,allN_iff]
   intro k hk
   have:=h0 k (List.mem_range.2 hk)
   simp only [Bool.not_eq_true] at this
   simp [this]
  | succ m ih=>
   intro i hi hs hm
   by_cases hr:rdy L n s i=true
   ·exact ⟨i,hi,hr⟩
   ·unfold rdy at hr
    rw [hs,Bool.not_false,Bool.true_and,allN_iff] at hr
    have hr':∃ k,k<n∧(!at2 L k i||s.testBit k)=false:=Classical.byContradiction fun hx=>hr fun k hk=>by
     cases hc:(!at2 L k i||s.testBit k) with
     | true=>rfl
     | false=>exact absurd ⟨k,hk,hc⟩ hx
    obtain ⟨k,hk,hc⟩:=hr'
    simp only [Bool.or_eq_false_iff,Bool.not_eq_false'] at hc
    refine ih k hk hc.2 ?_
    have hlt:((List.range n).filter (fun x=>at2 L x k)).length<((List.range n).filter (fun x=>at2 L x i)).length:=by
     rw [← List.countP_eq_length_filter,← List.countP_eq_length_filter]
     have strict:∀ l:List Nat,k∈l→l.countP (fun x=>at2 L x k)<l.countP (fun x=>at2 L x i):=by
      intro l
      induction l with
      | nil=>intro h; cases h
      | cons a l ihl=>
       intro hm
       have mono:l.countP (fun x=>at2 L x k)≤l.countP (fun x=>at2 L x i):=List.countP_mono_left (fun x _ hx=>tr x k i hx hc.1)
       rw [List.countP_cons,List.countP_cons]
       by_cases ha:k=a
       ·subst ha
        rw [ir k,hc.1]; simp; omega
       ·have hm':k∈l:=by
         rcases List.mem_cons.1 hm with e | e
         ·exact absurd e ha
         ·exact e
        have:=ihl hm'
        cases hx:at2 L a k with
        | true=>rw [tr a k i hx hc.1]; simp; omega
        | false=>cases at2 L a i <;> simp <;> omega
     exact strict _ (List.mem_range.2 hk)
    omega
 have hne:(List.range n).filter (fun i=>!s.testBit i)≠[]:=fun e=>h (by unfold zer; rw [e]; rfl)
 obtain ⟨i,hi⟩:=List.exists_mem_of_ne_nil _ hne
 rw [List.mem_filter,List.mem_range] at hi
 exact key _ i hi.1 (by simpa using hi.2) (Nat.le_refl _)
theorem cnt_pos {L:List D} {n:Nat} (hL:Sq n L) (tr:∀ a b c,at2 L a b=true→at2 L b c=true→at2 L a c=true) (ir:∀ a,at2 L a a=false):∀ (m s:Nat),zer n s=m→0<cnt L n s:=by
 intro m
 induction m with
 | zero=>intro s hs; unfold cnt; rw [hs,cntW]; omega
 | succ m ih=>
  intro s hs
  obtain ⟨i,hi,hr⟩:=some_rdy hL tr ir (s:=s) (by omega)
  rw [cnt_step (by omega)]
  have hz:=zer_or hi (rdy_not hr)
  have h1:=ih (s ||| 2 ^ i) (by omega)
  have pos:∀ l:List Nat,i∈l→0<(l.map (fun i=>if rdy L n s i then cnt L n (s ||| 2 ^ i) else 0)).sum:=by
   intro l
   induction l with
   | nil=>intro h; cases h
   | cons a l ihl=>
    intro hm
    rw [List.map_cons,List.sum_cons]
    rcases List.mem_cons.1 hm with e | e
    ·subst e; rw [if_pos hr]; omega
    ·have:=ihl e; omega
  exact pos _ (List.mem_range.2 hi)
theorem nv_set {F:List D} {s t:Nat} {v:Int} (h:s<F.length):nv (F.set s (.int v)) t=if s=t then v else nv F t:=by
 unfold nv
 rw [getD_set h]
 split <;> rfl
theorem or_gt {s i:Nat} (h:s.testBit i=false):s<s ||| 2 ^ i:=by
 refine Nat.lt_of_le_of_ne Nat.left_le_or (fun e=>?_)
 have h1:=test_or s i i
 rw [← e,h] at h1
 simp at h1
theorem full_eq {n s:Nat} (hs:s<2 ^ n) (h:zer n s=0):s=2 ^ n - 1:=by
 apply Nat.eq_of_testBit_eq
 intro k
 rw [Nat.testBit_two_pow_sub_one]
 by_cases hk:k<n
 ·rw [zer_full h k hk]; simp [hk]
 ·rw [Nat.testBit_lt_two_pow (Nat.lt_of_lt_of_le hs (Nat.pow_le_pow_right (by omega) (by omega)))]; simp [hk]
theorem zer_top (n:Nat):zer n (2 ^ n - 1)=0:=by
 unfold zer
 rw [List.length_eq_zero_iff,List.filter_eq_nil_iff]
 intro i hi
 rw [Nat.testBit_two_pow_sub_one]
 simp [List.mem_range.1 hi]
section
variable {n:Nat} {L:List D} (hn:n≤10)
include hn in
theorem innerC_ok (s:Nat) (hs:s<2 ^ n):∀ (m i p:Nat) (cur:List D),i+m=n→cur.length=2 ^ n→(∀ t,s<t→t<2 ^ n→nv cur t=(cnt L n t:Int))→nv cur s=(p:Int)→p+m * 10000000000≤200000000000 →
  (∀ t,t≠s→nv (innerC L n s m i cur) t=nv cur t)∧nv (innerC L n s m i cur) s=((p+((List.range' i m).map (fun i=>if rdy L n s i then cnt L n (s ||| 2 ^ i) else 0)).sum:Nat):Int):=by
 intro m
 induction m with
 | zero=>intro i p cur hi hc ht hp hb; exact ⟨fun _ _=>rfl,by
   show nv cur s=((p+0:Nat):Int)
   rw [hp,Nat.add_zero]⟩
 | succ m ih=>
  intro i p cur hi hc ht hp hb
  rw [Nat.succ_mul] at hb
  have hin:i<n:=by omega
  rw [innerC,List.range'_succ,List.map_cons,List.sum_cons]
  cases hr:rdy L n s i with
  | false=>
   have e:stepC L n s cur i=cur:=by unfold stepC; rw [hr]; rfl
   rw [e]
   obtain ⟨h1,h2⟩:=ih (i+1) p cur (by omega) hc ht hp (Nat.le_trans (Nat.add_le_add_left (Nat.le_add_right _ _) p) hb)
   refine ⟨h1,?_⟩
   rw [h2]; simp
  | true=>
   have hg:=or_gt (rdy_not hr)
   have hl:=or_lt hs hin
   have hq:=ht _ hg hl
   have hcl:=cnt_le (L:=L) (s:=s ||| 2 ^ i) hn
   have hv:IntKind.i64.wrap (nv cur s+nv cur (s ||| 2 ^ i))=((p+cnt L n (s ||| 2 ^ i):Nat):Int):=by
    rw [hp,hq,wrap_id (by omega) (by omega)]; omega
   have e:stepC L n s cur i=cur.set s (.int ((p+cnt L n (s ||| 2 ^ i):Nat):Int)):=by unfold stepC; rw [hr,hv]; rfl
   rw [e]
   obtain ⟨h1,h2⟩:=ih (i+1) (p+cnt L n (s ||| 2 ^ i)) (cur.set s (.int ((p+cnt L n (s ||| 2 ^ i):Nat):Int))) (by omega) (by simpa using hc) (fun t h1 h2=>by rw [nv_set (by omega),if_neg (by omega)]; exact ht t h1 h2) (by rw [nv_set (by omega),if_pos rfl]) (by omega)
   refine ⟨fun t htn=>?_,?_⟩
   ·rw [h1 t htn,nv_set (by omega),if_neg (fun e=>htn e.symm)]
   ·rw [h2]; simp [Nat.add_assoc]
include hn in
theorem outerC_ok:∀ (s:Nat) (cur:List D),s<2 ^ n→cur.length=2 ^ n→(∀ t,s≤t→t<2 ^ n→nv cur t=(cnt L n t:Int))→(∀ t,t<s→nv cur t=0)→∀ t,t<2 ^ n→nv (outerC L n s cur) t=(cnt L n t:Int):=by
 intro s
 induction s with
 | zero=>intro cur _ hc h1 _ t ht; exact h1 t (by omega) ht
 | succ s ih=>
  intro cur hs hc h1 h2 t ht
  rw [outerC]
  have hm:n * 10000000000≤10 * 10000000000:=Nat.mul_le_mul_right _ hn
  obtain ⟨k1,k2⟩:=innerC_ok hn (L:=L) s (by omega) n 0 0 cur (by omega) hc (fun t h3 h4=>h1 t (by omega) h4) (h2 s (by omega)) (by omega)
  refine ih _ (by omega) (by rw [innerC_len]; exact hc) (fun t h3 h4=>?_) (fun t h3=>?_) t ht
  ·by_cases e:t=s
   ·subst e
    have hz:zer n t≠0:=fun hz=>by have:=full_eq h4 hz; omega
    rw [k2,cnt_step hz,Nat.zero_add,List.range_eq_range']
   ·rw [k1 t e]; exact h1 t (by omega) h4
  ·rw [k1 t (by omega)]; exact h2 t (by omega)
include hn in
theorem countsC_eq (s:Nat) (hs:s<2 ^ n):nv (countsC L n) s=(cnt L n s:Int):=by
 have h2:1≤2 ^ n:=Nat.one_le_two_pow
 have hz:∀ t,nv (List.replicate (2 ^ n) (.int 0)) t=0:=by
  intro t
  unfold nv
  rw [List.getD_eq_getElem?_getD,List.getElem?_replicate]
  split <;> rfl
 refine outerC_ok hn (2 ^ n - 1) _ (by omega) (by simp) (fun t h3 h4=>?_) (fun t h3=>?_) s hs
 ·have e:t=2 ^ n - 1:=by omega
  subst e
  rw [nv_set (by simp; omega),if_pos rfl]
  unfold cnt
  rw [zer_top,cntW]; rfl
 ·rw [nv_set (by simp; omega),if_neg (by omega)]; exact hz t
end
def pickA (L:List D) (n s:Nat):Nat→Nat→Nat→Option (Nat×Nat)
 | 0,_,_=>none
 | m+1,i,r=>if rdy L n s i then (if cnt L n (s ||| 2 ^ i)≤r then pickA L n s m (i+1) (r - cnt L n (s ||| 2 ^ i)) else some (i,r)) else pickA L n s m (i+1) r
def seqA (L:List D) (n:Nat):Nat→Nat→Nat→List Nat
 | 0,_,_=>[]
 | m+1,s,r=>match pickA L n s n 0 r with
  | some (i,r')=>i::seqA L n m (s ||| 2 ^ i) r'
  | none=>seqA L n m s r
def below (L:List D) (n s i:Nat):Nat:=((List.range' 0 i).map (fun k=>if rdy L n s k then cnt L n (s ||| 2 ^ k) else 0)).sum
def rankA (L:List D) (n:Nat):Nat→List Nat→Nat
 | _,[]=>0
 | s,i::l=>below L n s i+rankA L n (s ||| 2 ^ i) l
def isA (L:List D) (n:Nat):Nat→List Nat→Prop
 | _,[]=>True
 | s,i::l=>i<n∧rdy L n s i=true∧isA L n (s ||| 2 ^ i) l
theorem below_succ {L:List D} {n s i:Nat}:below L n s (i+1)=below L n s i+if rdy L n s i then cnt L n (s ||| 2 ^ i) else 0:=by
 unfold below
 rw [List.range'_1_concat,List.map_append,List.sum_append]
 simp
theorem below_all {L:List D} {n s:Nat} (h:zer n s≠0):below L n s n=cnt L n s:=by
 rw [cnt_step h,List.range_eq_range']; rfl
theorem pickA_ok {L:List D} {n s:Nat}:∀ (m i r:Nat),i+m=n→r+below L n s i<below L n s n→∃ j r',pickA L n s m i r=some (j,r')∧j<n∧rdy L n s j=true∧r'<cnt L n (s ||| 2 ^ j)∧below L n s j+r'=r+below L n s i:=by
 intro m
 induction m with
 | zero=>
  intro i r hi h
  have:i=n:=by omega
  subst this
  omega
 | succ m ih=>
  intro i r hi h
  have hb:=below_succ (L:=L) (n:=n) (s:=s) (i:=i)
  rw [pickA]
  by_cases hr:rdy L n s i=true
  ·rw [if_pos hr] at hb ⊢
   by_cases hc:cnt L n (s ||| 2 ^ i)≤r
   ·rw [if_pos hc]
    obtain ⟨j,r',h1,h2,h3,h4,h5⟩:=ih (i+1) (r - cnt L n (s ||| 2 ^ i)) (by omega) (by omega)
    exact ⟨j,r',h1,h2,h3,h4,by omega⟩
   ·rw [if_neg hc]
    exact ⟨i,r,rfl,by omega,hr,by omega,by omega⟩
  ·rw [if_neg hr] at hb ⊢
   obtain ⟨j,r',h1,h2,h3,h4,h5⟩:=ih (i+1) r (by omega) (by omega)
   exact ⟨j,r',h1,h2,h3,h4,by omega⟩
theorem seqA_ok {L:List D} {n:Nat}:∀ (m s r:Nat),zer n s=m→r<cnt L n s→isA L n s (seqA L n m s r)∧(seqA L n m s r).length=m∧rankA L n s (seqA L n m s r)=r:=by
 intro m
 induction m with
 | zero=>
  intro s r hz hr
  have:r=0:=by
   unfold cnt at hr
   rw [hz,cntW] at hr; omega
  subst this
  exact ⟨trivial,rfl,rfl⟩
 | succ m ih=>
  intro s r hz hr
  have hz':zer n s≠0:=by omega
  have h0:below L n s 0=0:=rfl
  obtain ⟨j,r',h1,h2,h3,h4,h5⟩:=pickA_ok (L:=L) (n:=n) (s:=s) n 0 r (by omega) (by rw [below_all hz',h0]; omega)
  have hzj:=zer_or h2 (rdy_not h3)
  obtain ⟨k1,k2,k3⟩:=ih (s ||| 2 ^ j) r' (by omega) h4
  rw [seqA,h1]
  refine ⟨⟨h2,h3,k1⟩,by simp [k2],?_⟩
  show below L n s j+rankA L n (s ||| 2 ^ j) (seqA L n m (s ||| 2 ^ j) r')=r
  rw [k3]; omega
def numL (C:List D) (l:List Nat):List D:=l.map (fun j=>.int (numAt C j))
theorem numL_len {C:List D} {l:List Nat}:(numL C l).length=l.length:=by simp [numL]
theorem countsC_len {L:List D} {n:Nat}:(countsC L n).length=2 ^ n:=by unfold countsC; rw [outerC_len]; simp
theorem zer_zero (n:Nat):zer n 0=n:=by rw [zer,List.filter_eq_self.2 (by simp),List.length_range]
section
variable {C R A L B:List D} (g:Good8 C R A L B)
include g
theorem atL6 (bef:List D) (x7 x8:Int) (out:List D) (ho:out.length≤1000) (s:Nat) (hs:s<2 ^ C.length):∀ (m i r j r':Nat),i+m=C.length→r≤10000000000→pickA L C.length s m i r=some (j,r') →
  Z74 (nums C) A L bef (countsC L C.length) r s x7 x8 (nums C) C.length i out=some (nums C,A,L,bef,countsC L C.length,(r':Int),((s ||| 2 ^ j:Nat):Int),x7,x8,out++[D.int (numAt C j)]):=by
 have hn:=g.hn
 have hp:=pow_le hn
 have hnm:(nums C).length=C.length:=by simp [nums]
 intro m
 induction m with
 | zero=>intro i r j r' hi hr h; simp [pickA] at h
 | succ m ih=>
  intro i r j r' hi hr h
  have hin:i<C.length:=by omega
  rw [Z74_fx]
  unfold c_Z74
  have h1:(i:Int)<C.length:=by omega
  obtain ⟨s1,s2⟩:=shl_bit i (by omega)
  have s1':IntKind.i64.wrap (1 * 2 ^ Min.min i IntKind.i64.bits)=((2 ^ i:Nat):Int):=by simpa using s1
  obtain ⟨o1,o2⟩:=or_bits s (2 ^ i) (by omega) s2
  have hol:=or_lt hs hin
  have g1:((s ||| 2 ^ i:Nat):Int)<(countsC L C.length).length:=by rw [countsC_len]; omega
  have hc:((countsC L C.length).getD (s ||| 2 ^ i) (.int 0)).toInt=(cnt L C.length (s ||| 2 ^ i):Int):=countsC_eq hn _ hol
  have ha:((nums C).getD i (.int 0)).toInt=numAt C i:=nums_at hin
  have hlen:out.length+[D.int (numAt C i)].length≤4294967296:=by simp; omega
  have hcl:=cnt_le (L:=L) (s:=s ||| 2 ^ i) hn
  rw [pickA] at h
  simp only [h1,hnm,decide_true,cond_true,Int.natCast_nonneg,and_self,if_true,free_eq g.sq hn hnm s i (by omega) hin,Option.bind_some,Int.toNat_natCast,s1',o1,g1,hc,ha,hlen,succ_wrap (show i<4611686018427387904 by omega),Option.bind_fun_some]
  cases hr':rdy L C.length s i with
  | false=>
   rw [hr',if_neg (by simp)] at h
   simp only [Bool.not_false,cond_true]
   exact ih (i+1) r j r' (by omega) hr h
  | true=>
   rw [hr',if_pos rfl] at h
   simp only [Bool.not_true,cond_false]
   by_cases hle:cnt L C.length (s ||| 2 ^ i)≤r
   ·rw [if_pos hle] at h
    have e1:(cnt L C.length (s ||| 2 ^ i):Int)≤(r:Int):=by omega
    have e2:IntKind.i64.wrap ((r:Int) - (cnt L C.length (s ||| 2 ^ i):Int))=((r - cnt L C.length (s ||| 2 ^ i):Nat):Int):=by rw [wrap_id (by omega) (by omega)]; omega
    simp only [e1,decide_true,cond_true,e2]
    exact ih (i+1) _ j r' (by omega) (by omega) h
   ·rw [if_neg hle] at h
    have e1:¬ (cnt L C.length (s ||| 2 ^ i):Int)≤(r:Int):=by omega
    cases h
    simp only [e1,decide_false,cond_false]
theorem atL4 (bef:List D):∀ (m s r i:Nat) (out:List D),zer C.length s=m→s<2 ^ C.length→r<cnt L C.length s→i+m=C.length→out.length≤i →
  Z75 (nums C) A L bef (countsC L C.length) r s C.length i out=some (out++numL C (seqA L C.length m s r)):=by
 have hn:=g.hn
 have hnm:(nums C).length=C.length:=by simp [nums]
 intro m
 induction m with
 | zero=>
  intro s r i out hz hs hr hi ho
  have:i=C.length:=by omega
  subst this
  rw [Z75_fx]; unfold c_Z75; simp [seqA,numL]
 | succ m ih=>
  intro s r i out hz hs hr hi ho
  have hz':zer C.length s≠0:=by omega
  have h0:below L C.length s 0=0:=rfl
  obtain ⟨j,r',h1,h2,h3,h4,h5⟩:=pickA_ok (L:=L) (n:=C.length) (s:=s) C.length 0 r (by omega) (by rw [below_all hz',h0]; omega)
  have hzj:=zer_or h2 (rdy_not h3)
  have hcl:=cnt_le (L:=L) (s:=s) hn
  have h6:=atL6 g bef C.length i out (by omega) s hs C.length 0 r j r' (by omega) (by omega) h1
  have h6:Z74 (nums C) A L bef (countsC L C.length) r s C.length i (nums C) C.length 0 out=_:=h6
  rw [Z75_fx]
  unfold c_Z75
  have b1:(i:Int)<C.length:=by omega
  simp only [b1,hnm,decide_true,cond_true,h6,Option.bind_some,succ_wrap (show i<4611686018427387904 by omega),Option.bind_fun_some]
  rw [ih (s ||| 2 ^ j) r' (i+1) _ (by omega) (or_lt hs h2) h4 (by omega) (by simp; omega),seqA,h1]
  simp [numL]
theorem at_eq (bef:List D) (r:Nat) (hr:r<cnt L C.length 0):Z76 (nums C) A L bef (countsC L C.length) r=some (numL C (seqA L C.length C.length 0 r)):=by
 have hnm:(nums C).length=C.length:=by simp [nums]
 have h:=atL4 g bef C.length 0 r 0 [] (zer_zero _) (Nat.two_pow_pos _) hr (by omega) (by simp)
 have h:Z75 (nums C) A L bef (countsC L C.length) r 0 C.length 0 []=_:=h
 simp only [Z76,c_Z76,hnm,h,Option.bind_some,List.nil_append]
theorem index_eq {j:Nat} (hj:j<C.length):Z93 (nums C) (numAt C j)=some (j:Int):=by
 have hnm:(nums C).length=C.length:=by simp [nums]
 have hn:=g.hn
 have h:=fxScan (F:=fun i=>Z92 (nums C) (numAt C j) C.length i) (len:=C.length) (fun i=>decide (numAt C j=numAt C i)) (fun i=>.inl (i:Int)) (fin:=.inr ()) (fun i hi=>by
  show Z92 (nums C) (numAt C j) C.length i=_
  rw [Z92_fx]
  unfold c_Z92
  have h1:(i:Int)<C.length:=by omega
  have ha:((nums C).getD i (.int 0)).toInt=numAt C i:=nums_at hi
  simp only [h1,hnm,decide_true,cond_true,Int.natCast_nonneg,and_self,if_true,Int.toNat_natCast,ha,succ_wrap (show i<4611686018427387904 by omega),Option.bind_fun_some])
  (by
   show Z92 (nums C) (numAt C j) C.length (C.length:Int)=_
   rw [Z92_fx]; unfold c_Z92; simp)
 have h:Z92 (nums C) (numAt C j) C.length 0=_:=h
 simp only [Z93,c_Z93,hnm,h,Option.bind_some]
 cases hf:firstN (fun i=>decide (numAt C j=numAt C i)) C.length with
 | none=>have:=firstN_none hf j hj; simp at this
 | some i=>
  obtain ⟨h1,h2,_⟩:=firstN_some hf
  have:=numAt_inj g.v hj h1 (of_decide_eq_true h2)
  subst this
  rfl
theorem isL3 (bef:List D) (l:List Nat) (hl:l.length≤1000):∀ (m i s:Nat),i+m=l.length→s<2 ^ C.length→isA L C.length s (l.drop i) →
  Z94 (nums C) A L bef (countsC L C.length) (numL C l) s (numL C l) l.length i=some (.inr (nums C,A,L,bef,countsC L C.length,numL C l)):=by
 have hn:=g.hn
 have hp:=pow_le hn
 have hnm:(nums C).length=C.length:=by simp [nums]
 intro m
 induction m with
 | zero=>
  intro i s hi hs h
  have:i=l.length:=by omega
  subst this
  rw [Z94_fx]; unfold c_Z94; simp
 | succ m ih=>
  intro i s hi hs h
  have hil:i<l.length:=by omega
  rw [List.drop_eq_getElem_cons hil] at h
  obtain ⟨h1,h2,h3⟩:=h
  rw [Z94_fx]
  unfold c_Z94
  have b1:(i:Int)<l.length:=by omega
  have ha:((numL C l).getD i (.int 0)).toInt=numAt C l[i]:=by simp [numL,hil,toInt_int]
  obtain ⟨s1,s2⟩:=shl_bit l[i] (by omega)
  have s1':IntKind.i64.wrap (1 * 2 ^ Min.min l[i] IntKind.i64.bits)=((2 ^ l[i]:Nat):Int):=by simpa using s1
  obtain ⟨o1,o2⟩:=or_bits s (2 ^ l[i]) (by omega) s2
  have b2:¬ ((l[i]:Nat):Int)<0:=by omega
  simp only [b1,numL_len,decide_true,cond_true,Int.natCast_nonneg,and_self,if_true,Int.toNat_natCast,ha,index_eq g h1,Option.bind_some,b2,decide_false,cond_false,free_eq g.sq hn hnm s l[i] (by omega) h1,h2,Bool.not_true,s1',o1,succ_wrap (show i<4611686018427387904 by omega),Option.bind_fun_some]
  exact ih (i+1) _ (by omega) (or_lt hs h1) h3
theorem is_eq (bef:List D) (l:List Nat) (h:isA L C.length 0 l) (hl:l.length=C.length):Z95 (nums C) A L bef (countsC L C.length) (numL C l)=some true:=by
 have hn:=g.hn
 have h3:=isL3 g bef l (by omega) l.length 0 0 (by omega) (Nat.two_pow_pos _) h
 have h3:Z94 (nums C) A L bef (countsC L C.length) (numL C l) 0 (numL C l) l.length 0=_:=h3
 rw [hl] at h3
 have hnm:(nums C).length=C.length:=by simp [nums]
 simp only [Z95,c_Z95,numL_len,h3,Option.bind_some,Sum.elim_inr,hnm,hl,decide_true]
theorem rankL7 (bef ls:List D) (s own:Nat) (hs:s<2 ^ C.length) (ho:own≤C.length) (x9 x10:Int):∀ (m k p:Nat),k+m=own→p+m * 10000000000≤400000000000 →
  Z99 (nums C) A L bef (countsC L C.length) p s own ls x9 x10 own k=some (nums C,A,L,bef,countsC L C.length,((p+((List.range' k m).map (fun k=>if rdy L C.length s k then cnt L C.length (s ||| 2 ^ k) else 0)).sum:Nat):Int),(s:Int),(own:Int),ls,x9,x10):=by
 have hn:=g.hn
 have hp:=pow_le hn
 have hnm:(nums C).length=C.length:=by simp [nums]
 intro m
 induction m with
 | zero=>
  intro k p hk hb
  have:k=own:=by omega
  subst this
  rw [Z99_fx]; unfold c_Z99; simp
 | succ m ih=>
  intro k p hk hb
  rw [Nat.succ_mul] at hb
  have hko:k<own:=by omega
  rw [Z99_fx]
  unfold c_Z99
  have h1:(k:Int)<own:=by omega
  obtain ⟨s1,s2⟩:=shl_bit k (by omega)
  have s1':IntKind.i64.wrap (1 * 2 ^ Min.min k IntKind.i64.bits)=((2 ^ k:Nat):Int):=by simpa using s1
  obtain ⟨o1,o2⟩:=or_bits s (2 ^ k) (by omega) s2
  have hol:=or_lt hs (show k<C.length by omega)
  have g1:((s ||| 2 ^ k:Nat):Int)<(countsC L C.length).length:=by rw [countsC_len]; omega
  have hc:((countsC L C.length).getD (s ||| 2 ^ k) (.int 0)).toInt=(cnt L C.length (s ||| 2 ^ k):Int):=countsC_eq hn _ hol
  have hcl:=cnt_le (L:=L) (s:=s ||| 2 ^ k) hn
  have hw:IntKind.i64.wrap ((p:Int)+(cnt L C.length (s ||| 2 ^ k):Int))=((p+cnt L C.length (s ||| 2 ^ k):Nat):Int):=by rw [wrap_id (by omega) (by omega)]; omega
  rw [List.range'_succ,List.map_cons,List.sum_cons]
  simp only [h1,decide_true,cond_true,Int.natCast_nonneg,and_self,if_true,free_eq g.sq hn hnm s k (by omega) (show k<C.length by omega),Option.bind_some,Int.toNat_natCast,s1',o1,g1,hc,hw,succ_wrap (show k<4611686018427387904 by omega),Option.bind_fun_some]
  cases hr:rdy L C.length s k with
  | true=>
   simp only [cond_true,if_true]
   rw [ih (k+1) _ (by omega) (by omega),Nat.add_assoc]
  | false=>
   simp only [cond_false]
   rw [ih (k+1) p (by omega) (Nat.le_trans (Nat.add_le_add_left (Nat.le_add_right _ _) p) hb)]
   simp
theorem rankL3 (bef:List D) (l:List Nat) (hl:l.length≤1000):∀ (m i s p:Nat),i+m=l.length→s<2 ^ C.length→isA L C.length s (l.drop i)→p+rankA L C.length s (l.drop i)≤10000000000 →
  Z100 (nums C) A L bef (countsC L C.length) p s (numL C l) l.length i=some ((p+rankA L C.length s (l.drop i):Nat):Int):=by
 have hn:=g.hn
 have hp:=pow_le hn
 intro m
 induction m with
 | zero=>
  intro i s p hi hs h hb
  have:i=l.length:=by omega
  subst this
  rw [Z100_fx]; unfold c_Z100; simp [rankA]
 | succ m ih=>
  intro i s p hi hs h hb
  have hil:i<l.length:=by omega
  rw [List.drop_eq_getElem_cons hil] at h hb ⊢
  obtain ⟨h1,h2,h3⟩:=h
  rw [rankA] at hb ⊢
  rw [Z100_fx]
  unfold c_Z100
  have b1:(i:Int)<l.length:=by omega
  have ha:((numL C l).getD i (.int 0)).toInt=numAt C l[i]:=by simp [numL,hil,toInt_int]
  obtain ⟨s1,s2⟩:=shl_bit l[i] (by omega)
  have s1':IntKind.i64.wrap (1 * 2 ^ Min.min l[i] IntKind.i64.bits)=((2 ^ l[i]:Nat):Int):=by simpa using s1
  obtain ⟨o1,o2⟩:=or_bits s (2 ^ l[i]) (by omega) s2
  have hm:l[i] * 10000000000≤10 * 10000000000:=Nat.mul_le_mul_right _ (by omega)
  have h7:=rankL7 g bef (numL C l) s l[i] hs (by omega) l.length i l[i] 0 p (by omega) (by omega)
  have h7:Z99 (nums C) A L bef (countsC L C.length) p s (l[i]:Int) (numL C l) l.length i (l[i]:Int) 0=some (nums C,A,L,bef,countsC L C.length,((p+below L C.length s l[i]:Nat):Int),(s:Int),(l[i]:Int),numL C l,(l.length:Int),(i:Int)):=h7
  simp only [b1,numL_len,decide_true,cond_true,Int.natCast_nonneg,and_self,if_true,Int.toNat_natCast,ha,index_eq g h1,Option.bind_some,h7,s1',o1,succ_wrap (show i<4611686018427387904 by omega),Option.bind_fun_some]
  rw [ih (i+1) _ _ (by omega) (or_lt hs h1) h3 (by omega),Nat.add_assoc]
theorem rank_eq (bef:List D) (l:List Nat) (hl:l.length≤1000) (h:isA L C.length 0 l) (hb:rankA L C.length 0 l≤10000000000):Z101 (nums C) A L bef (countsC L C.length) (numL C l)=some (rankA L C.length 0 l:Int):=by
 have h3:=rankL3 g bef l hl l.length 0 0 0 (by omega) (Nat.two_pow_pos _) h (by simpa using hb)
 have h3:Z100 (nums C) A L bef (countsC L C.length) 0 0 (numL C l) l.length 0=_:=h3
 simp only [Z101,c_Z101,numL_len,h3,Option.bind_some,List.drop_zero,Nat.zero_add]
end
def Dn (n s:Nat) (F:List D):Prop:=F.length=n∧∀ k,k<n→(F.getD k (.int 0)).toBool=s.testBit k
theorem Dn.set {n s j:Nat} {F:List D} (h:Dn n s F) (hj:j<n):Dn n (s ||| 2 ^ j) (F.set j (.bool true)):=by
 refine ⟨by simp [h.1],fun k hk=>?_⟩
 rw [getD_set (by rw [h.1]; exact hj),test_or]
 by_cases e:j=k
 ·subst e; simp [D.toBool]
 ·rw [if_neg e,h.2 k hk]; simp [e]
theorem isA_nodup {L:List D} {n:Nat}:∀ (l:List Nat) (s:Nat),isA L n s l→l.Nodup∧∀ x∈l,x<n∧s.testBit x=false
 | [],s,_=>⟨List.nodup_nil,fun x h=>by cases h⟩
 | i::l,s,⟨h1,h2,h3⟩=>by
  obtain ⟨k1,k2⟩:=isA_nodup l _ h3
  have hs:=rdy_not h2
  have ne:∀ x∈l,x<n∧s.testBit x=false∧x≠i:=by
   intro x hx
   obtain ⟨q1,q2⟩:=k2 x hx
   rw [test_or,Bool.or_eq_false_iff] at q2
   exact ⟨q1,q2.1,fun e=>by simp [e] at q2⟩
  refine ⟨List.nodup_cons.2 ⟨fun hm=>(ne i hm).2.2 rfl,k1⟩,fun x hx=>?_⟩
  rcases List.mem_cons.1 hx with e | e
  ·rw [e]; exact ⟨h1,hs⟩
  ·exact ⟨(ne x e).1,(ne x e).2.1⟩
section
variable {C R A L B:List D} (g:Good8 C R A L B)
include g
theorem coL13 (s i:Nat) (hi:i<C.length) (F out:List D) (hF:Dn C.length s F) (x2 x3 x4 x5:Int):∀ (m k:Nat) (b:Bool),k+m=C.length →
  Z107 i b x2 x3 x4 x5 C.length k (nums C) A L F out=some ((i:Int),b&&(List.range' k m).all (fun k=>!at2 L k i||s.testBit k),x2,x3,x4,x5,nums C,A,L,F,out):=by
 have hn:=g.hn
 intro m
 induction m with
 | zero=>
  intro k b hk
  have:k=C.length:=by omega
  subst this
  rw [Z107_fx]; unfold c_Z107; simp
 | succ m ih=>
  intro k b hk
  have hkn:k<C.length:=by omega
  rw [Z107_fx]
  unfold c_Z107
  have h1:(k:Int)<C.length:=by omega
  have g1:(k:Int)<F.length:=by rw [hF.1]; omega
  have g2:k+1≤F.length:=by rw [hF.1]; omega
  have g3:(k:Int)<L.length:=by rw [g.sq.len]; omega
  have g4:k+1≤L.length:=by rw [g.sq.len]; omega
  have g5:(i:Int)<(L.getD k (.int 0)).items.length:=by rw [g.sq.row k hkn]; omega
  have g6:i+1≤(L.getD k (.int 0)).items.length:=by rw [g.sq.row k hkn]; omega
  have r1:((L.getD k (.int 0)).items.getD i (.int 0)).toBool=at2 L k i:=rfl
  rw [List.range'_succ,List.all_cons]
  simp only [h1,decide_true,cond_true,Int.natCast_nonneg,g1,g2,g3,g4,g5,g6,and_self,if_true,Int.toNat_natCast,hF.2 k hkn,r1,succ_wrap (show k<4611686018427387904 by omega),Option.bind_fun_some]
  cases b with
  | false=>simp only [cond_false,Bool.false_and]; rw [ih (k+1) false (by omega)]; rfl
  | true=>
   simp only [cond_true]
   cases s.testBit k with
   | true=>simp only [cond_true,Bool.or_true,Bool.true_and]; rw [ih (k+1) true (by omega)]; rfl
   | false=>
    simp only [cond_false,Bool.or_false,Bool.true_and]
    rw [ih (k+1) (!at2 L k i) (by omega)]
theorem coL9 (s:Nat) (F out:List D) (hF:Dn C.length s F) (ho:out.length≤1000) (x1:Int):∀ (m i j r':Nat),i+m=C.length→pickA L C.length s m i 0=some (j,r') →
  Z108 C.length x1 C.length i (nums C) A L F out=some ((C.length:Int),x1,nums C,A,L,F.set j (.bool true),out++[D.int (numAt C j)]):=by
 have hn:=g.hn
 have hnm:(nums C).length=C.length:=by simp [nums]
 intro m
 induction m with
 | zero=>intro i j r' hi h; simp [pickA] at h
 | succ m ih=>
  intro i j r' hi h
  have hin:i<C.length:=by omega
  rw [Z108_fx]
  unfold c_Z108
  have h1:(i:Int)<C.length:=by omega
  have g1:(i:Int)<F.length:=by rw [hF.1]; omega
  have g2:i+1≤F.length:=by rw [hF.1]; omega
  have g3:i+1≤C.length:=by omega
  have ha:((nums C).getD i (.int 0)).toInt=numAt C i:=nums_at hin
  have hlen:out.length+[D.int (numAt C i)].length≤4294967296:=by simp; omega
  have h13:=coL13 g s i hin F out hF C.length x1 C.length i C.length 0 (!s.testBit i) (by omega)
  have h13:Z107 i (!s.testBit i) C.length x1 C.length i C.length 0 (nums C) A L F out=_:=h13
  have hr:(!s.testBit i&&(List.range' 0 C.length).all (fun k=>!at2 L k i||s.testBit k))=rdy L C.length s i:=by
   unfold rdy
   congr 1
   rw [Bool.eq_iff_iff,List.all_eq_true,allN_iff]
   constructor
   ·intro h k hk; exact h k (by rw [List.mem_range'_1]; omega)
   ·intro h k hk; rw [List.mem_range'_1] at hk; exact h k (by omega)
  rw [hr] at h13
  rw [pickA] at h
  simp only [h1,hnm,decide_true,cond_true,Int.natCast_nonneg,g1,g2,and_self,if_true,Int.toNat_natCast,hF.2 i hin,h13,Option.bind_some,succ_wrap (show i<4611686018427387904 by omega),Option.bind_fun_some,g3,ha,hlen]
  cases hr':rdy L C.length s i with
  | true=>
   rw [hr',if_pos rfl,if_neg (by have:=cnt_pos g.sq g.trans g.irr _ (s ||| 2 ^ i) rfl; omega)] at h
   cases h
   rfl
  | false=>
   rw [hr',if_neg (by simp)] at h
   simp only [cond_false]
   exact ih (i+1) j r' (by omega) h
theorem coL7:∀ (m s i:Nat) (F out:List D),zer C.length s=m→s<2 ^ C.length→i+m=C.length→out.length≤i→Dn C.length s F →
  Z109 C.length i (nums C) A L F out=some (out++numL C (seqA L C.length m s 0)):=by
 have hn:=g.hn
 have hnm:(nums C).length=C.length:=by simp [nums]
 intro m
 induction m with
 | zero=>
  intro s i F out hz hs hi ho hF
  have:i=C.length:=by omega
  subst this
  rw [Z109_fx]; unfold c_Z109; simp [seqA,numL]
 | succ m ih=>
  intro s i F out hz hs hi ho hF
  have hz':zer C.length s≠0:=by omega
  have h0:below L C.length s 0=0:=rfl
  have hpos:=cnt_pos g.sq g.trans g.irr _ s rfl
  obtain ⟨j,r',h1,h2,h3,h4,h5⟩:=pickA_ok (L:=L) (n:=C.length) (s:=s) C.length 0 0 (by omega) (by rw [below_all hz',h0]; omega)
  have hr0:r'=0:=by omega
  subst hr0
  have hzj:=zer_or h2 (rdy_not h3)
  have h6:=coL9 g s F out hF (by omega) i C.length 0 j 0 (by omega) h1
  have h6:Z108 C.length i C.length 0 (nums C) A L F out=_:=h6
  rw [Z109_fx]
  unfold c_Z109
  have b1:(i:Int)<C.length:=by omega
  simp only [b1,hnm,decide_true,cond_true,h6,Option.bind_some,succ_wrap (show i<4611686018427387904 by omega),Option.bind_fun_some]
  rw [ih (s ||| 2 ^ j) (i+1) _ _ (by omega) (or_lt hs h2) (by omega) (by simp; omega) (hF.set h2),seqA,h1]
  simp [numL]
theorem order8_eq:Z110 C R=some (numL C (seqA L C.length C.length 0 0),true):=by
 have hn:=g.hn
 have hnm:(nums C).length=C.length:=by simp [nums]
 have h:=coL7 g C.length 0 0 (List.replicate C.length (.bool false)) [] (zer_zero _) (Nat.two_pow_pos _) (by omega) (by simp) ⟨by simp,fun k hk=>by
  rw [List.getD_eq_getElem?_getD,List.getElem?_replicate,if_pos hk]; simp [D.toBool]⟩
 have h:Z109 C.length 0 (nums C) A L (List.replicate C.length (.bool false)) []=_:=h
 have c1:(C.length:Int)≤4294967296:=by omega
 simp only [Z110,c_Z110,g.cons,Option.bind_some,Sum.elim_inr,Bool.not_true,cond_false,hnm,Int.natCast_nonneg,Int.le_refl,c1,and_self,if_true,Int.toNat_natCast,h,List.nil_append]
theorem indexL_eq {l:List Nat} (h:isA L C.length 0 l) (hl:l.length≤1000) {i:Nat} (hi:i<l.length):Z93 (numL C l) (numAt C l[i])=some (i:Int):=by
 obtain ⟨nd,hb⟩:=isA_nodup l 0 h
 have hf:=fxScan (F:=fun k=>Z92 (numL C l) (numAt C l[i]) l.length k) (len:=l.length) (fun k=>decide (numAt C l[i]=numAt C (l[k]?.getD 0))) (fun k=>.inl (k:Int)) (fin:=.inr ()) (fun k hk=>by
  show Z92 (numL C l) (numAt C l[i]) l.length k=_
  rw [Z92_fx]
  unfold c_Z92
  have h1:(k:Int)<l.length:=by omega
  have ha:((numL C l).getD k (.int 0)).toInt=numAt C (l[k]?.getD 0):=by simp [numL,hk,toInt_int]
  simp only [h1,numL_len,decide_true,cond_true,Int.natCast_nonneg,and_self,if_true,Int.toNat_natCast,ha,succ_wrap (show k<4611686018427387904 by omega),Option.bind_fun_some])
  (by
   show Z92 (numL C l) (numAt C l[i]) l.length (l.length:Int)=_
   rw [Z92_fx]; unfold c_Z92; simp)
 have hf:Z92 (numL C l) (numAt C l[i]) l.length 0=_:=hf
 simp only [Z93,c_Z93,numL_len,hf,Option.bind_some]
 cases hx:firstN (fun k=>decide (numAt C l[i]=numAt C (l[k]?.getD 0))) l.length with
 | none=>have:=firstN_none hx i hi; simp [hi] at this
 | some k=>
  obtain ⟨h1,h2,_⟩:=firstN_some hx
  have e:numAt C l[i]=numAt C l[k]:=by simpa [h1] using h2
  have e2:=numAt_inj g.v (hb _ (List.getElem_mem hi)).1 (hb _ (List.getElem_mem h1)).1 e
  have e3:i=k:=(List.getElem_inj nd).1 e2
  subst e3
  rfl
theorem dist_eq {l:List Nat} (h:isA L C.length 0 l) (hl:l.length=C.length):Z106 C R (numL C l) (numL C l)=some (0,true):=by
 have hn:=g.hn
 have hl':l.length≤1000:=by omega
 have d9:∀ (i:Nat) (hi:i<l.length) (m k:Nat),k+m=l.length - (i+1) →
   Z104 (numL C l) (numL C l) 0 (numAt C l[i]) (numL C l) l.length i ((numL C l).drop (i+1)) ((l.length - (i+1):Nat):Int) k=some (numL C l,numL C l,0,numL C l,(l.length:Int),(i:Int)):=by
  intro i hi m
  induction m with
  | zero=>
   intro k hk
   have:k=l.length - (i+1):=by omega
   subst this
   rw [Z104_fx]; unfold c_Z104; simp
  | succ m ih=>
   intro k hk
   rw [Z104_fx]
   unfold c_Z104
   have h1:(k:Int)<((l.length - (i+1):Nat):Int):=by omega
   have g1:(k:Int)<((numL C l).drop (i+1)).length:=by rw [List.length_drop,numL_len]; omega
   have hk':i+1+k<l.length:=by omega
   have ha:(((numL C l).drop (i+1)).getD k (.int 0)).toInt=numAt C l[i+1+k]:=by simp [numL,hk',toInt_int]
   have hlt:¬ ((i+1+k:Nat):Int)<(i:Int):=by omega
   simp only [h1,g1,decide_true,cond_true,Int.natCast_nonneg,and_self,if_true,Int.toNat_natCast,ha,indexL_eq g h hl' hi,indexL_eq g h hl' hk',Option.bind_some,hlt,decide_false,cond_false,succ_wrap (show k<4611686018427387904 by omega),Option.bind_fun_some]
   exact ih (k+1) (by omega)
 have d6:∀ (m i:Nat),i+m=l.length→Z105 (numL C l) (numL C l) 0 (numL C l) l.length i=some 0:=by
  intro m
  induction m with
  | zero=>
   intro i hi
   have:i=l.length:=by omega
   subst this
   rw [Z105_fx]; unfold c_Z105; simp
  | succ m ih=>
   intro i hi
   have hil:i<l.length:=by omega
   rw [Z105_fx]
   unfold c_Z105
   have h1:(i:Int)<l.length:=by omega
   have ha:((numL C l).getD i (.int 0)).toInt=numAt C l[i]:=by simp [numL,hil,toInt_int]
   have g2:((i+1:Nat):Int)≤l.length:=by omega
   have e:((numL C l).drop (i+1)).take (l.length - (i+1))=(numL C l).drop (i+1):=List.take_of_length_le (by rw [List.length_drop,numL_len]; exact Nat.le_refl _)
   have e2:((numL C l).drop (i+1)).length=l.length - (i+1):=by rw [List.length_drop,numL_len]
   have h9:=d9 i hil (l.length - (i+1)) 0 (by omega)
   have h9:Z104 (numL C l) (numL C l) 0 (numAt C l[i]) (numL C l) l.length i ((numL C l).drop (i+1)) ((l.length - (i+1):Nat):Int) 0=_:=h9
   simp only [h1,numL_len,decide_true,cond_true,Int.natCast_nonneg,and_self,if_true,Int.toNat_natCast,ha,succ_wrap (show i<4611686018427387904 by omega),g2,Int.le_refl,e,e2,h9,Option.bind_some,Option.bind_fun_some]
   exact ih (i+1) (by omega)
 have h6:=d6 l.length 0 (by omega)
 have h6:Z105 (numL C l) (numL C l) 0 (numL C l) l.length 0=some 0:=h6
 simp only [Z106,c_Z106,g.cnt,Option.bind_some,Sum.elim_inr,Bool.not_true,cond_false,is_eq g _ l h hl,numL_len,h6]
end
theorem draw_tot (c:List D) (hc:okC c):∃ y,Z34 c=some y∧(-1≤y.2.2∧y.2.2≤10000):=by
 refine Tt.out ?_
 unfold Z34 c_Z34
 refine Tt.bind (Tt.con (ordered_tot _ hc _ _ (by omega))) ?_
 rintro ⟨C,R,c1,p1,s1⟩ ⟨rfl,g2,g3,g4,g5⟩
 dsimp only at g2 g3 g4 g5 ⊢
 (refine Tt.bind (Tt.con (among_tot _ hc _ _ _ (by omega) (by simp))) ?_; rintro ⟨v,c',p',s'⟩ ⟨hv,rfl,hp1,hp2⟩; dsimp only at hv hp1 hp2 ⊢)
 simp [toInt_int] at hv
 exact Tt.pure ⟨by simp only; omega,by simp only; omega⟩
theorem vInts_self (l:List D) (hl:l.length≤1000000):Z112 l l=some true:=by
 have h:=fxAll (F:=fun i=>Z111 l l i) (len:=l.length) (fun _=>true) (.inl false) (fin:=.inr ()) (fun i hi=>by
  show Z111 l l i=_
  rw [Z111_fx]
  unfold c_Z111
  have h1:(i:Int)<l.length:=by omega
  simp only [h1,decide_true,cond_true,Int.natCast_nonneg,and_self,if_true,Bool.not_true,cond_false,succ_wrap (show i<4611686018427387904 by omega),Option.bind_fun_some])
  (by
   show Z111 l l (l.length:Int)=_
   rw [Z111_fx]; unfold c_Z111; simp)
 have h:Z111 l l 0=_:=h
 have ha:allN (fun _=>true) l.length=true:=allN_iff.2 (fun _ _=>rfl)
 rw [ha] at h
 simp only [Z112,c_Z112,decide_true,Bool.not_true,cond_false,h,Option.bind_some,cond_true,Sum.elim_inr]
section
variable {C R A L B:List D} (g:Good8 C R A L B)
include g
theorem n0_eq:nv (countsC L C.length) 0=(cnt L C.length 0:Int):=countsC_eq g.hn 0 (Nat.two_pow_pos _)
theorem seqAt_eq (rank:Int) (h:-1≤rank∧rank≤10000):Z77 C R rank=some (bif btw rank 0 ((cnt L C.length 0:Int) - 1) then (numL C (seqA L C.length C.length 0 rank.toNat),true) else ([],false)):=by
 have hp:=pow_le g.hn
 have h2:1≤2 ^ C.length:=Nat.one_le_two_pow
 have c1:(0:Int)<((countsC L C.length).length:Int):=by rw [countsC_len]; omega
 have c2:(0:Int).toNat+1≤(countsC L C.length).length:=by rw [countsC_len]; exact h2
 have hcl:=cnt_le (L:=L) (s:=0) g.hn
 have e0:((countsC L C.length).getD (0:Int).toNat (.int 0)).toInt=(cnt L C.length 0:Int):=n0_eq g
 have hw:IntKind.i64.wrap ((cnt L C.length 0:Int) - 1)=(cnt L C.length 0:Int) - 1:=wrap_id (by omega) (by omega)
 simp only [Z77,c_Z77,g.cnt,Option.bind_some,Sum.elim_inr,Bool.not_true,cond_false,Int.le_refl,c1,and_self,if_true,c2,e0,hw,within_eq]
 cases hb:btw rank 0 ((cnt L C.length 0:Int) - 1) with
 | false=>rfl
 | true=>
  rw [btw_iff] at hb
  have hr:rank.toNat<cnt L C.length 0:=by omega
  have ha:=at_eq g (firstF L C.length) rank.toNat hr
  rw [show ((rank.toNat:Nat):Int)=rank by omega] at ha
  simp only [Bool.not_true,cond_false,ha,Option.bind_some,cond_true]
theorem isSeq_eq {l:List Nat} (h:isA L C.length 0 l) (hl:l.length=C.length):Z96 C R (numL C l)=some (true,true):=by
 simp only [Z96,c_Z96,g.cnt,Option.bind_some,Sum.elim_inr,Bool.not_true,cond_false,is_eq g _ l h hl]
theorem rankSeq_eq {l:List Nat} (h:isA L C.length 0 l) (hl:l.length=C.length) (hb:rankA L C.length 0 l≤10000000000):Z102 C R (numL C l)=some ((rankA L C.length 0 l:Int),true):=by
 have hn:=g.hn
 simp only [Z102,c_Z102,g.cnt,Option.bind_some,Sum.elim_inr,Bool.not_true,cond_false,is_eq g _ l h hl,rank_eq g _ l (by omega) h hb]
theorem rankNil:∃ y,Z102 C R []=some y:=by
 have h3:=isL3 g (firstF L C.length) [] (by simp) 0 0 0 rfl (Nat.two_pow_pos _) trivial
 have h3:Z94 (nums C) A L (firstF L C.length) (countsC L C.length) [] 0 [] 0 0=some (.inr (nums C,A,L,firstF L C.length,countsC L C.length,[])):=h3
 have hi:Z95 (nums C) A L (firstF L C.length) (countsC L C.length) []=some (decide ((([]:List D).length:Int)=(nums C).length)):=by
  simp only [Z95,c_Z95]
  show (Z94 (nums C) A L (firstF L C.length) (countsC L C.length) [] 0 [] 0 0).bind _=_
  rw [h3]; rfl
 have hr:=rank_eq g (firstF L C.length) [] (by simp) trivial (by simp [rankA])
 have hr:Z101 (nums C) A L (firstF L C.length) (countsC L C.length) []=some (0:Int):=hr
 simp only [Z102,c_Z102,g.cnt,Option.bind_some,Sum.elim_inr,Bool.not_true,cond_false,hi]
 cases decide ((([]:List D).length:Int)=(nums C).length) with
 | false=>exact ⟨_,rfl⟩
 | true=>simp only [Bool.not_true,cond_false,hr,Option.bind_some]; exact ⟨_,rfl⟩
theorem nextSeq_eq {l:List Nat} {r:Nat} (h:isA L C.length 0 l) (hl:l.length=C.length) (hr:rankA L C.length 0 l=r) (hlt:r<cnt L C.length 0) :
  Z103 C R (numL C l)=some (bif decide (r+1=cnt L C.length 0) then ([],false,true) else (numL C (seqA L C.length C.length 0 (r+1)),true,true)):=by
 have hn:=g.hn
 have h2:1≤2 ^ C.length:=Nat.one_le_two_pow
 have c1:(0:Int)<((countsC L C.length).length:Int):=by rw [countsC_len]; omega
 have c2:(0:Int).toNat+1≤(countsC L C.length).length:=by rw [countsC_len]; exact h2
 have hcl:=cnt_le (L:=L) (s:=0) g.hn
 have e0:((countsC L C.length).getD (0:Int).toNat (.int 0)).toInt=(cnt L C.length 0:Int):=n0_eq g
 have hrk:=rank_eq g (firstF L C.length) l (by omega) h (by omega)
 rw [hr] at hrk
 have hw:IntKind.i64.wrap ((r:Int)+1)=((r+1:Nat):Int):=succ_wrap (by omega)
 have hd:decide (((r+1:Nat):Int)=(cnt L C.length 0:Int))=decide (r+1=cnt L C.length 0):=by
  rw [Bool.eq_iff_iff,decide_eq_true_eq,decide_eq_true_eq]; omega
 simp only [Z103,c_Z103,g.cnt,Option.bind_some,Sum.elim_inr,Bool.not_true,cond_false,is_eq g _ l h hl,hrk,Int.le_refl,c1,and_self,if_true,c2,e0,hw,hd]
 by_cases hq:r+1=cnt L C.length 0
 ·simp only [hq,decide_true,cond_true]
 ·have ha:=at_eq g (firstF L C.length) (r+1) (by omega)
  simp only [hq,decide_false,cond_false,ha,Option.bind_some]
end
theorem seqAt_no {C R:List D} (h:Z73 C R=some (.inl false)) (rank:Int):Z77 C R rank=some ([],false):=by
 simp only [Z77,c_Z77,h,Option.bind_some,Sum.elim_inl,Bool.not_false,cond_true]
theorem fs_all (x0 C R:List D) (rank:Int) (hd:Z34 x0=some (C,R,rank)) (hrk:-1≤rank∧rank≤10000) (hx:¬ (65536:Int)<x0.length):Z113 x0=some true:=by
 have hv:Z0 x0=some false:=by simp only [Z0,c_Z0,hx,decide_false]
 rcases cases8 C R with ⟨h1,h2⟩ | ⟨A,L,B,g⟩
 ·obtain ⟨k1,k2⟩:=countSeq_no h1 h2
  simp [Z113,c_Z113,hv,hd,k1,k2,seqAt_no h2]
 ·obtain ⟨k1,k2⟩:=countSeq_eq g
  have e0:=n0_eq g
  rw [e0] at k1 k2
  have hcl:=cnt_le (L:=L) (s:=0) g.hn
  have hs:=seqAt_eq g rank hrk
  cases hb:btw rank 0 ((cnt L C.length 0:Int) - 1) with
  | false=>
   rw [hb] at hs
   by_cases h0:0≤rank
   ·have hlt:¬ rank<(cnt L C.length 0:Int):=by
     intro h
     have:btw rank 0 ((cnt L C.length 0:Int) - 1)=true:=by rw [btw_iff]; omega
     rw [hb] at this; cases this
    simp [Z113,c_Z113,hv,hd,k1,k2,hs,h0,hlt]
   ·simp [Z113,c_Z113,hv,hd,k1,k2,hs,h0]
  | true=>
   rw [hb] at hs
   rw [btw_iff] at hb
   obtain ⟨r,rfl⟩:∃ r:Nat,rank=(r:Int):=⟨rank.toNat,by omega⟩
   rw [Int.toNat_natCast,cond_true] at hs
   have hlt:r<cnt L C.length 0:=by omega
   have hlt':(r:Int)<(cnt L C.length 0:Int):=by omega
   have h0:(0:Int)≤r:=by omega
   obtain ⟨a1,a2,a3⟩:=seqA_ok (L:=L) (n:=C.length) C.length 0 r (zer_zero _) hlt
   have b1:=isSeq_eq g a1 a2
   have b2:=rankSeq_eq g a1 a2 (by omega)
   rw [a3] at b2
   have b3:=nextSeq_eq g a1 a2 a3 hlt
   have b4:=dist_eq g a1 a2
   have b5:=order8_eq g
   have hw:IntKind.i64.wrap ((r:Int)+1)=((r+1:Nat):Int):=succ_wrap (by omega)
   have b6:∀ hr0:r=0,Z112 (numL C (seqA L C.length C.length 0 0)) (numL C (seqA L C.length C.length 0 r))=some true:=by
    intro hr0
    subst hr0
    have:=g.hn
    exact vInts_self _ (by rw [numL_len,a2]; omega)
   by_cases hq:r+1=cnt L C.length 0
   ·obtain ⟨y,hy⟩:=rankNil g
    rw [decide_eq_true hq,cond_true] at b3
    have hn1:¬ ((r+1:Nat):Int)<(cnt L C.length 0:Int):=by omega
    by_cases hr0:r=0
    ·have b7:=b6 hr0
     subst hr0
     simp only [Z113,c_Z113,hv,hd,k1,k2,hs,b1,b2,b3,b4,b5,b7,hy,hw,h0,hlt',hn1,Option.bind_some,cond_true,cond_false,decide_true,decide_false,Bool.not_true,Bool.not_false,beq_self_eq_true]
     rfl
    ·have hpos:(0:Int)<r:=by omega
     simp only [Z113,c_Z113,hv,hd,k1,k2,hs,b1,b2,b3,b4,b5,hy,hw,h0,hlt',hn1,hpos,Option.bind_some,cond_true,cond_false,decide_true,decide_false,Bool.not_true,Bool.not_false,beq_self_eq_true]
   ·rw [decide_eq_false hq,cond_false] at b3
    have hlt2:r+1<cnt L C.length 0:=by omega
    have hn1:((r+1:Nat):Int)<(cnt L C.length 0:Int):=by omega
    obtain ⟨c1,c2,c3⟩:=seqA_ok (L:=L) (n:=C.length) C.length 0 (r+1) (zer_zero _) hlt2
    have b8:=rankSeq_eq g c1 c2 (by omega)
    rw [c3] at b8
    by_cases hr0:r=0
    ·have b7:=b6 hr0
     subst hr0
     simp only [Z113,c_Z113,hv,hd,k1,k2,hs,b1,b2,b3,b4,b5,b7,b8,hw,h0,hlt',hn1,Option.bind_some,cond_true,cond_false,decide_true,decide_false,Bool.not_true,Bool.not_false,beq_self_eq_true]
     rfl
    ·have hpos:(0:Int)<r:=by omega
     simp only [Z113,c_Z113,hv,hd,k1,k2,hs,b1,b2,b3,b4,b5,b8,hw,h0,hlt',hn1,hpos,Option.bind_some,cond_true,cond_false,decide_true,decide_false,Bool.not_true,Bool.not_false,beq_self_eq_true]
theorem pure_FnSequences (x0:List D) (h0:x0.length≤maxLen) (w0:∀ d∈x0,wfD (.int .u8) d):Z113 x0=some true:=by
 by_cases hb:(65536:Int)<x0.length
 ·simp only [Z113,c_Z113,Z0,c_Z0,Option.bind_some,hb,decide_true,cond_true]
 ·have hc:okC x0:=⟨by omega,fun d hd=>okB (w0 d hd)⟩
  obtain ⟨⟨C,R,rank⟩,d1,d2,d3⟩:=draw_tot x0 hc
  exact fs_all x0 C R rank d1 ⟨d2,d3⟩ hb
end Go.Proofs.Ytdoaceeakjbgfaa
