/- The law FnCycle over plain values. No condition beside those of the statement. -/
import Derived.Test.YtdoaceeakjbgfaaClMFnCycle
import Derived.Test.YtdoaceeakjbgfaaRaiU6
set_option linter.unusedVariables false
set_option linter.unusedSimpArgs false
set_option maxRecDepth 100000
namespace Go.Proofs.Ytdoaceeakjbgfaa
open Go Go.Rai
theorem Z4_fx (x0 x1 x2:Int) (x3:List D) (x4 x5:Int) (x6:List D):Z4 x0 x1 x2 x3 x4 x5 x6=c_Z4 Z4 x0 x1 x2 x3 x4 x5 x6 some:=
 fix_eq (N:=fun n (p:Int × Int × Int × List D × Int × Int × List D)=>n_Z4 n p.1 p.2.1 p.2.2.1 p.2.2.2.1 p.2.2.2.2.1 p.2.2.2.2.2.1 p.2.2.2.2.2.2) (C:=fun f p=>c_Z4 (fun x0 x1 x2 x3 x4 x5 x6=>f (x0,x1,x2,x3,x4,x5,x6)) p.1 p.2.1 p.2.2.1 p.2.2.2.1 p.2.2.2.2.1 p.2.2.2.2.2.1 p.2.2.2.2.2.2 some) (fun _=>rfl) (fun _ _=>rfl) (fun hD f fs h p=>by
  unfold c_Z4
  repeat' first | exact Lim.const hD | exact h _ | apply Lim.ite | apply Lim.cond | apply Lim.bind hD | apply Lim.sum | intro _) (x0,x1,x2,x3,x4,x5,x6)
theorem Z7_fx (x0:Int) (x1 x2:List D) (x3 x4:Int):Z7 x0 x1 x2 x3 x4=c_Z7 Z7 x0 x1 x2 x3 x4 some:=
 fix_eq (N:=fun n (p:Int × List D × List D × Int × Int)=>n_Z7 n p.1 p.2.1 p.2.2.1 p.2.2.2.1 p.2.2.2.2) (C:=fun f p=>c_Z7 (fun x0 x1 x2 x3 x4=>f (x0,x1,x2,x3,x4)) p.1 p.2.1 p.2.2.1 p.2.2.2.1 p.2.2.2.2 some) (fun _=>rfl) (fun _ _=>rfl) (fun hD f fs h p=>by
  unfold c_Z7
  repeat' first | exact Lim.const hD | exact h _ | apply Lim.ite | apply Lim.cond | apply Lim.bind hD | apply Lim.sum | intro _) (x0,x1,x2,x3,x4)
theorem Z10_fx (x0:Int) (x1 x2:List D) (x3 x4:Int):Z10 x0 x1 x2 x3 x4=c_Z10 Z10 x0 x1 x2 x3 x4 some:=
 fix_eq (N:=fun n (p:Int × List D × List D × Int × Int)=>n_Z10 n p.1 p.2.1 p.2.2.1 p.2.2.2.1 p.2.2.2.2) (C:=fun f p=>c_Z10 (fun x0 x1 x2 x3 x4=>f (x0,x1,x2,x3,x4)) p.1 p.2.1 p.2.2.1 p.2.2.2.1 p.2.2.2.2 some) (fun _=>rfl) (fun _ _=>rfl) (fun hD f fs h p=>by
  unfold c_Z10
  repeat' first | exact Lim.const hD | exact h _ | apply Lim.ite | apply Lim.cond | apply Lim.bind hD | apply Lim.sum | intro _) (x0,x1,x2,x3,x4)
theorem Z12_fx (x0 x1:Int) (x2:List D) (x3 x4:Int) (x5 x6:List D):Z12 x0 x1 x2 x3 x4 x5 x6=c_Z12 Z12 x0 x1 x2 x3 x4 x5 x6 some:=
 fix_eq (N:=fun n (p:Int × Int × List D × Int × Int × List D × List D)=>n_Z12 n p.1 p.2.1 p.2.2.1 p.2.2.2.1 p.2.2.2.2.1 p.2.2.2.2.2.1 p.2.2.2.2.2.2) (C:=fun f p=>c_Z12 (fun x0 x1 x2 x3 x4 x5 x6=>f (x0,x1,x2,x3,x4,x5,x6)) p.1 p.2.1 p.2.2.1 p.2.2.2.1 p.2.2.2.2.1 p.2.2.2.2.2.1 p.2.2.2.2.2.2 some) (fun _=>rfl) (fun _ _=>rfl) (fun hD f fs h p=>by
  unfold c_Z12
  repeat' first | exact Lim.const hD | exact h _ | apply Lim.ite | apply Lim.cond | apply Lim.bind hD | apply Lim.sum | intro _) (x0,x1,x2,x3,x4,x5,x6)
theorem Z13_fx (x0 x1:Int) (x2:List D) (x3 x4:Int) (x5:List D):Z13 x0 x1 x2 x3 x4 x5=c_Z13 Z13 x0 x1 x2 x3 x4 x5 some:=
 fix_eq (N:=fun n (p:Int × Int × List D × Int × Int × List D)=>n_Z13 n p.1 p.2.1 p.2.2.1 p.2.2.2.1 p.2.2.2.2.1 p.2.2.2.2.2) (C:=fun f p=>c_Z13 (fun x0 x1 x2 x3 x4 x5=>f (x0,x1,x2,x3,x4,x5)) p.1 p.2.1 p.2.2.1 p.2.2.2.1 p.2.2.2.2.1 p.2.2.2.2.2 some) (fun _=>rfl) (fun _ _=>rfl) (fun hD f fs h p=>by
  unfold c_Z13
  repeat' first | exact Lim.const hD | exact h _ | apply Lim.ite | apply Lim.cond | apply Lim.bind hD | apply Lim.sum | intro _) (x0,x1,x2,x3,x4,x5)
theorem Z16_fx (x0:Int) (x1:List D) (x2 x3:Int) (x4 x5:List D):Z16 x0 x1 x2 x3 x4 x5=c_Z16 Z16 x0 x1 x2 x3 x4 x5 some:=
 fix_eq (N:=fun n (p:Int × List D × Int × Int × List D × List D)=>n_Z16 n p.1 p.2.1 p.2.2.1 p.2.2.2.1 p.2.2.2.2.1 p.2.2.2.2.2) (C:=fun f p=>c_Z16 (fun x0 x1 x2 x3 x4 x5=>f (x0,x1,x2,x3,x4,x5)) p.1 p.2.1 p.2.2.1 p.2.2.2.1 p.2.2.2.2.1 p.2.2.2.2.2 some) (fun _=>rfl) (fun _ _=>rfl) (fun hD f fs h p=>by
  unfold c_Z16
  repeat' first | exact Lim.const hD | exact h _ | apply Lim.ite | apply Lim.cond | apply Lim.bind hD | apply Lim.sum | intro _) (x0,x1,x2,x3,x4,x5)
theorem Z17_fx (x0:Int) (x1:List D) (x2 x3:Int) (x4 x5:List D):Z17 x0 x1 x2 x3 x4 x5=c_Z17 Z17 x0 x1 x2 x3 x4 x5 some:=
 fix_eq (N:=fun n (p:Int × List D × Int × Int × List D × List D)=>n_Z17 n p.1 p.2.1 p.2.2.1 p.2.2.2.1 p.2.2.2.2.1 p.2.2.2.2.2) (C:=fun f p=>c_Z17 (fun x0 x1 x2 x3 x4 x5=>f (x0,x1,x2,x3,x4,x5)) p.1 p.2.1 p.2.2.1 p.2.2.2.1 p.2.2.2.2.1 p.2.2.2.2.2 some) (fun _=>rfl) (fun _ _=>rfl) (fun hD f fs h p=>by
  unfold c_Z17
  repeat' first | exact Lim.const hD | exact h _ | apply Lim.ite | apply Lim.cond | apply Lim.bind hD | apply Lim.sum | intro _) (x0,x1,x2,x3,x4,x5)
theorem Z18_fx (x0 x1:Int) (x2:List D) (x3 x4:Int) (x5 x6:List D):Z18 x0 x1 x2 x3 x4 x5 x6=c_Z18 Z18 x0 x1 x2 x3 x4 x5 x6 some:=
 fix_eq (N:=fun n (p:Int × Int × List D × Int × Int × List D × List D)=>n_Z18 n p.1 p.2.1 p.2.2.1 p.2.2.2.1 p.2.2.2.2.1 p.2.2.2.2.2.1 p.2.2.2.2.2.2) (C:=fun f p=>c_Z18 (fun x0 x1 x2 x3 x4 x5 x6=>f (x0,x1,x2,x3,x4,x5,x6)) p.1 p.2.1 p.2.2.1 p.2.2.2.1 p.2.2.2.2.1 p.2.2.2.2.2.1 p.2.2.2.2.2.2 some) (fun _=>rfl) (fun _ _=>rfl) (fun hD f fs h p=>by
  unfold c_Z18
  repeat' first | exact Lim.const hD | exact h _ | apply Lim.ite | apply Lim.cond | apply Lim.bind hD | apply Lim.sum | intro _) (x0,x1,x2,x3,x4,x5,x6)
theorem Z19_fx (x0 x1:Int) (x2:List D) (x3 x4:Int) (x5 x6:List D):Z19 x0 x1 x2 x3 x4 x5 x6=c_Z19 Z19 x0 x1 x2 x3 x4 x5 x6 some:=
 fix_eq (N:=fun n (p:Int × Int × List D × Int × Int × List D × List D)=>n_Z19 n p.1 p.2.1 p.2.2.1 p.2.2.2.1 p.2.2.2.2.1 p.2.2.2.2.2.1 p.2.2.2.2.2.2) (C:=fun f p=>c_Z19 (fun x0 x1 x2 x3 x4 x5 x6=>f (x0,x1,x2,x3,x4,x5,x6)) p.1 p.2.1 p.2.2.1 p.2.2.2.1 p.2.2.2.2.1 p.2.2.2.2.2.1 p.2.2.2.2.2.2 some) (fun _=>rfl) (fun _ _=>rfl) (fun hD f fs h p=>by
  unfold c_Z19
  repeat' first | exact Lim.const hD | exact h _ | apply Lim.ite | apply Lim.cond | apply Lim.bind hD | apply Lim.sum | intro _) (x0,x1,x2,x3,x4,x5,x6)
theorem Z20_fx (x0:Int) (x1:List D) (x2 x3:Int) (x4 x5:List D):Z20 x0 x1 x2 x3 x4 x5=c_Z20 Z20 x0 x1 x2 x3 x4 x5 some:=
 fix_eq (N:=fun n (p:Int × List D × Int × Int × List D × List D)=>n_Z20 n p.1 p.2.1 p.2.2.1 p.2.2.2.1 p.2.2.2.2.1 p.2.2.2.2.2) (C:=fun f p=>c_Z20 (fun x0 x1 x2 x3 x4 x5=>f (x0,x1,x2,x3,x4,x5)) p.1 p.2.1 p.2.2.1 p.2.2.2.1 p.2.2.2.2.1 p.2.2.2.2.2 some) (fun _=>rfl) (fun _ _=>rfl) (fun hD f fs h p=>by
  unfold c_Z20
  repeat' first | exact Lim.const hD | exact h _ | apply Lim.ite | apply Lim.cond | apply Lim.bind hD | apply Lim.sum | intro _) (x0,x1,x2,x3,x4,x5)
theorem Z21_fx (x0:Int) (x1:List D) (x2 x3:Int) (x4 x5:List D):Z21 x0 x1 x2 x3 x4 x5=c_Z21 Z21 x0 x1 x2 x3 x4 x5 some:=
 fix_eq (N:=fun n (p:Int × List D × Int × Int × List D × List D)=>n_Z21 n p.1 p.2.1 p.2.2.1 p.2.2.2.1 p.2.2.2.2.1 p.2.2.2.2.2) (C:=fun f p=>c_Z21 (fun x0 x1 x2 x3 x4 x5=>f (x0,x1,x2,x3,x4,x5)) p.1 p.2.1 p.2.2.1 p.2.2.2.1 p.2.2.2.2.1 p.2.2.2.2.2 some) (fun _=>rfl) (fun _ _=>rfl) (fun hD f fs h p=>by
  unfold c_Z21
  repeat' first | exact Lim.const hD | exact h _ | apply Lim.ite | apply Lim.cond | apply Lim.bind hD | apply Lim.sum | intro _) (x0,x1,x2,x3,x4,x5)
theorem Z24_fx (x0:Int) (x1 x2:List D):Z24 x0 x1 x2=c_Z24 Z24 x0 x1 x2 some:=
 fix_eq (N:=fun n (p:Int × List D × List D)=>n_Z24 n p.1 p.2.1 p.2.2) (C:=fun f p=>c_Z24 (fun x0 x1 x2=>f (x0,x1,x2)) p.1 p.2.1 p.2.2 some) (fun _=>rfl) (fun _ _=>rfl) (fun hD f fs h p=>by
  unfold c_Z24
  repeat' first | exact Lim.const hD | exact h _ | apply Lim.ite | apply Lim.cond | apply Lim.bind hD | apply Lim.sum | intro _) (x0,x1,x2)
theorem Z25_fx (x0 x1:Int) (x2 x3:List D):Z25 x0 x1 x2 x3=c_Z25 Z25 x0 x1 x2 x3 some:=
 fix_eq (N:=fun n (p:Int × Int × List D × List D)=>n_Z25 n p.1 p.2.1 p.2.2.1 p.2.2.2) (C:=fun f p=>c_Z25 (fun x0 x1 x2 x3=>f (x0,x1,x2,x3)) p.1 p.2.1 p.2.2.1 p.2.2.2 some) (fun _=>rfl) (fun _ _=>rfl) (fun hD f fs h p=>by
  unfold c_Z25
  repeat' first | exact Lim.const hD | exact h _ | apply Lim.ite | apply Lim.cond | apply Lim.bind hD | apply Lim.sum | intro _) (x0,x1,x2,x3)
theorem Z27_fx (x0:Int) (x1 x2:List D):Z27 x0 x1 x2=c_Z27 Z27 x0 x1 x2 some:=
 fix_eq (N:=fun n (p:Int × List D × List D)=>n_Z27 n p.1 p.2.1 p.2.2) (C:=fun f p=>c_Z27 (fun x0 x1 x2=>f (x0,x1,x2)) p.1 p.2.1 p.2.2 some) (fun _=>rfl) (fun _ _=>rfl) (fun hD f fs h p=>by
  unfold c_Z27
  repeat' first | exact Lim.const hD | exact h _ | apply Lim.ite | apply Lim.cond | apply Lim.bind hD | apply Lim.sum | intro _) (x0,x1,x2)
theorem Z34_fx (x0:List D) (x1 x2:Int) (x3 x4:List D):Z34 x0 x1 x2 x3 x4=c_Z34 Z34 x0 x1 x2 x3 x4 some:=
 fix_eq (N:=fun n (p:List D × Int × Int × List D × List D)=>n_Z34 n p.1 p.2.1 p.2.2.1 p.2.2.2.1 p.2.2.2.2) (C:=fun f p=>c_Z34 (fun x0 x1 x2 x3 x4=>f (x0,x1,x2,x3,x4)) p.1 p.2.1 p.2.2.1 p.2.2.2.1 p.2.2.2.2 some) (fun _=>rfl) (fun _ _=>rfl) (fun hD f fs h p=>by
  unfold c_Z34
  repeat' first | exact Lim.const hD | exact h _ | apply Lim.ite | apply Lim.cond | apply Lim.bind hD | apply Lim.sum | intro _) (x0,x1,x2,x3,x4)
theorem Z36_fx (x0:List D) (x1 x2 x3:Int):Z36 x0 x1 x2 x3=c_Z36 Z36 x0 x1 x2 x3 some:=
 fix_eq (N:=fun n (p:List D × Int × Int × Int)=>n_Z36 n p.1 p.2.1 p.2.2.1 p.2.2.2) (C:=fun f p=>c_Z36 (fun x0 x1 x2 x3=>f (x0,x1,x2,x3)) p.1 p.2.1 p.2.2.1 p.2.2.2 some) (fun _=>rfl) (fun _ _=>rfl) (fun hD f fs h p=>by
  unfold c_Z36
  repeat' first | exact Lim.const hD | exact h _ | apply Lim.ite | apply Lim.cond | apply Lim.bind hD | apply Lim.sum | intro _) (x0,x1,x2,x3)
theorem Z44_fx (x0:List D) (x1 x2:Int) (x3 x4:List D):Z44 x0 x1 x2 x3 x4=c_Z44 Z44 x0 x1 x2 x3 x4 some:=
 fix_eq (N:=fun n (p:List D × Int × Int × List D × List D)=>n_Z44 n p.1 p.2.1 p.2.2.1 p.2.2.2.1 p.2.2.2.2) (C:=fun f p=>c_Z44 (fun x0 x1 x2 x3 x4=>f (x0,x1,x2,x3,x4)) p.1 p.2.1 p.2.2.1 p.2.2.2.1 p.2.2.2.2 some) (fun _=>rfl) (fun _ _=>rfl) (fun hD f fs h p=>by
  unfold c_Z44
  repeat' first | exact Lim.const hD | exact h _ | apply Lim.ite | apply Lim.cond | apply Lim.bind hD | apply Lim.sum | intro _) (x0,x1,x2,x3,x4)
theorem Z46_fx (x0 x1 x2:Int) (x3:List D):Z46 x0 x1 x2 x3=c_Z46 Z46 x0 x1 x2 x3 some:=
 fix_eq (N:=fun n (p:Int × Int × Int × List D)=>n_Z46 n p.1 p.2.1 p.2.2.1 p.2.2.2) (C:=fun f p=>c_Z46 (fun x0 x1 x2 x3=>f (x0,x1,x2,x3)) p.1 p.2.1 p.2.2.1 p.2.2.2 some) (fun _=>rfl) (fun _ _=>rfl) (fun hD f fs h p=>by
  unfold c_Z46
  repeat' first | exact Lim.const hD | exact h _ | apply Lim.ite | apply Lim.cond | apply Lim.bind hD | apply Lim.sum | intro _) (x0,x1,x2,x3)
theorem Z48_fx (x0:Int) (x1:List D) (x2 x3:Int) (x4 x5 x6 x7 x8:List D):Z48 x0 x1 x2 x3 x4 x5 x6 x7 x8=c_Z48 Z48 x0 x1 x2 x3 x4 x5 x6 x7 x8 some:=
 fix_eq (N:=fun n (p:Int × List D × Int × Int × List D × List D × List D × List D × List D)=>n_Z48 n p.1 p.2.1 p.2.2.1 p.2.2.2.1 p.2.2.2.2.1 p.2.2.2.2.2.1 p.2.2.2.2.2.2.1 p.2.2.2.2.2.2.2.1 p.2.2.2.2.2.2.2.2) (C:=fun f p=>c_Z48 (fun x0 x1 x2 x3 x4 x5 x6 x7 x8=>f (x0,x1,x2,x3,x4,x5,x6,x7,x8)) p.1 p.2.1 p.2.2.1 p.2.2.2.1 p.2.2.2.2.1 p.2.2.2.2.2.1 p.2.2.2.2.2.2.1 p.2.2.2.2.2.2.2.1 p.2.2.2.2.2.2.2.2 some) (fun _=>rfl) (fun _ _=>rfl) (fun hD f fs h p=>by
  unfold c_Z48
  repeat' first | exact Lim.const hD | exact h _ | apply Lim.ite | apply Lim.cond | apply Lim.bind hD | apply Lim.sum | intro _) (x0,x1,x2,x3,x4,x5,x6,x7,x8)
theorem Z49_fx (x0:Int) (x1:List D) (x2 x3:Int) (x4 x5 x6 x7 x8:List D):Z49 x0 x1 x2 x3 x4 x5 x6 x7 x8=c_Z49 Z49 x0 x1 x2 x3 x4 x5 x6 x7 x8 some:=
 fix_eq (N:=fun n (p:Int × List D × Int × Int × List D × List D × List D × List D × List D)=>n_Z49 n p.1 p.2.1 p.2.2.1 p.2.2.2.1 p.2.2.2.2.1 p.2.2.2.2.2.1 p.2.2.2.2.2.2.1 p.2.2.2.2.2.2.2.1 p.2.2.2.2.2.2.2.2) (C:=fun f p=>c_Z49 (fun x0 x1 x2 x3 x4 x5 x6 x7 x8=>f (x0,x1,x2,x3,x4,x5,x6,x7,x8)) p.1 p.2.1 p.2.2.1 p.2.2.2.1 p.2.2.2.2.1 p.2.2.2.2.2.1 p.2.2.2.2.2.2.1 p.2.2.2.2.2.2.2.1 p.2.2.2.2.2.2.2.2 some) (fun _=>rfl) (fun _ _=>rfl) (fun hD f fs h p=>by
  unfold c_Z49
  repeat' first | exact Lim.const hD | exact h _ | apply Lim.ite | apply Lim.cond | apply Lim.bind hD | apply Lim.sum | intro _) (x0,x1,x2,x3,x4,x5,x6,x7,x8)
theorem Z50_fx (x0:Int) (x1:List D) (x2 x3:Int) (x4 x5 x6 x7 x8:List D):Z50 x0 x1 x2 x3 x4 x5 x6 x7 x8=c_Z50 Z50 x0 x1 x2 x3 x4 x5 x6 x7 x8 some:=
 fix_eq (N:=fun n (p:Int × List D × Int × Int × List D × List D × List D × List D × List D)=>n_Z50 n p.1 p.2.1 p.2.2.1 p.2.2.2.1 p.2.2.2.2.1 p.2.2.2.2.2.1 p.2.2.2.2.2.2.1 p.2.2.2.2.2.2.2.1 p.2.2.2.2.2.2.2.2) (C:=fun f p=>c_Z50 (fun x0 x1 x2 x3 x4 x5 x6 x7 x8=>f (x0,x1,x2,x3,x4,x5,x6,x7,x8)) p.1 p.2.1 p.2.2.1 p.2.2.2.1 p.2.2.2.2.1 p.2.2.2.2.2.1 p.2.2.2.2.2.2.1 p.2.2.2.2.2.2.2.1 p.2.2.2.2.2.2.2.2 some) (fun _=>rfl) (fun _ _=>rfl) (fun hD f fs h p=>by
  unfold c_Z50
  repeat' first | exact Lim.const hD | exact h _ | apply Lim.ite | apply Lim.cond | apply Lim.bind hD | apply Lim.sum | intro _) (x0,x1,x2,x3,x4,x5,x6,x7,x8)
theorem Z51_fx (x0 x1 x2 x3 x4 x5 x6 x7 x8:Int) (x9 x10 x11:List D):Z51 x0 x1 x2 x3 x4 x5 x6 x7 x8 x9 x10 x11=c_Z51 Z51 x0 x1 x2 x3 x4 x5 x6 x7 x8 x9 x10 x11 some:=
 fix_eq (N:=fun n (p:Int × Int × Int × Int × Int × Int × Int × Int × Int × List D × List D × List D)=>n_Z51 n p.1 p.2.1 p.2.2.1 p.2.2.2.1 p.2.2.2.2.1 p.2.2.2.2.2.1 p.2.2.2.2.2.2.1 p.2.2.2.2.2.2.2.1 p.2.2.2.2.2.2.2.2.1 p.2.2.2.2.2.2.2.2.2.1 p.2.2.2.2.2.2.2.2.2.2.1 p.2.2.2.2.2.2.2.2.2.2.2) (C:=fun f p=>c_Z51 (fun x0 x1 x2 x3 x4 x5 x6 x7 x8 x9 x10 x11=>f (x0,x1,x2,x3,x4,x5,x6,x7,x8,x9,x10,x11)) p.1 p.2.1 p.2.2.1 p.2.2.2.1 p.2.2.2.2.1 p.2.2.2.2.2.1 p.2.2.2.2.2.2.1 p.2.2.2.2.2.2.2.1 p.2.2.2.2.2.2.2.2.1 p.2.2.2.2.2.2.2.2.2.1 p.2.2.2.2.2.2.2.2.2.2.1 p.2.2.2.2.2.2.2.2.2.2.2 some) (fun _=>rfl) (fun _ _=>rfl) (fun hD f fs h p=>by
  unfold c_Z51
  repeat' first | exact Lim.const hD | exact h _ | apply Lim.ite | apply Lim.cond | apply Lim.bind hD | apply Lim.sum | intro _) (x0,x1,x2,x3,x4,x5,x6,x7,x8,x9,x10,x11)
theorem Z52_fx (x0 x1 x2 x3 x4 x5:Int) (x6 x7 x8:List D):Z52 x0 x1 x2 x3 x4 x5 x6 x7 x8=c_Z52 Z52 x0 x1 x2 x3 x4 x5 x6 x7 x8 some:=
 fix_eq (N:=fun n (p:Int × Int × Int × Int × Int × Int × List D × List D × List D)=>n_Z52 n p.1 p.2.1 p.2.2.1 p.2.2.2.1 p.2.2.2.2.1 p.2.2.2.2.2.1 p.2.2.2.2.2.2.1 p.2.2.2.2.2.2.2.1 p.2.2.2.2.2.2.2.2) (C:=fun f p=>c_Z52 (fun x0 x1 x2 x3 x4 x5 x6 x7 x8=>f (x0,x1,x2,x3,x4,x5,x6,x7,x8)) p.1 p.2.1 p.2.2.1 p.2.2.2.1 p.2.2.2.2.1 p.2.2.2.2.2.1 p.2.2.2.2.2.2.1 p.2.2.2.2.2.2.2.1 p.2.2.2.2.2.2.2.2 some) (fun _=>rfl) (fun _ _=>rfl) (fun hD f fs h p=>by
  unfold c_Z52
  repeat' first | exact Lim.const hD | exact h _ | apply Lim.ite | apply Lim.cond | apply Lim.bind hD | apply Lim.sum | intro _) (x0,x1,x2,x3,x4,x5,x6,x7,x8)
theorem Z53_fx (x0 x1 x2:Int) (x3 x4 x5:List D):Z53 x0 x1 x2 x3 x4 x5=c_Z53 Z53 x0 x1 x2 x3 x4 x5 some:=
 fix_eq (N:=fun n (p:Int × Int × Int × List D × List D × List D)=>n_Z53 n p.1 p.2.1 p.2.2.1 p.2.2.2.1 p.2.2.2.2.1 p.2.2.2.2.2) (C:=fun f p=>c_Z53 (fun x0 x1 x2 x3 x4 x5=>f (x0,x1,x2,x3,x4,x5)) p.1 p.2.1 p.2.2.1 p.2.2.2.1 p.2.2.2.2.1 p.2.2.2.2.2 some) (fun _=>rfl) (fun _ _=>rfl) (fun hD f fs h p=>by
  unfold c_Z53
  repeat' first | exact Lim.const hD | exact h _ | apply Lim.ite | apply Lim.cond | apply Lim.bind hD | apply Lim.sum | intro _) (x0,x1,x2,x3,x4,x5)
theorem Z54_fx (x0:Int) (x1:List D) (x2 x3:Int) (x4 x5 x6 x7 x8:List D):Z54 x0 x1 x2 x3 x4 x5 x6 x7 x8=c_Z54 Z54 x0 x1 x2 x3 x4 x5 x6 x7 x8 some:=
 fix_eq (N:=fun n (p:Int × List D × Int × Int × List D × List D × List D × List D × List D)=>n_Z54 n p.1 p.2.1 p.2.2.1 p.2.2.2.1 p.2.2.2.2.1 p.2.2.2.2.2.1 p.2.2.2.2.2.2.1 p.2.2.2.2.2.2.2.1 p.2.2.2.2.2.2.2.2) (C:=fun f p=>c_Z54 (fun x0 x1 x2 x3 x4 x5 x6 x7 x8=>f (x0,x1,x2,x3,x4,x5,x6,x7,x8)) p.1 p.2.1 p.2.2.1 p.2.2.2.1 p.2.2.2.2.1 p.2.2.2.2.2.1 p.2.2.2.2.2.2.1 p.2.2.2.2.2.2.2.1 p.2.2.2.2.2.2.2.2 some) (fun _=>rfl) (fun _ _=>rfl) (fun hD f fs h p=>by
  unfold c_Z54
  repeat' first | exact Lim.const hD | exact h _ | apply Lim.ite | apply Lim.cond | apply Lim.bind hD | apply Lim.sum | intro _) (x0,x1,x2,x3,x4,x5,x6,x7,x8)
theorem Z57_fx (x0 x1 x2:Int) (x3 x4 x5:List D):Z57 x0 x1 x2 x3 x4 x5=c_Z57 Z57 x0 x1 x2 x3 x4 x5 some:=
 fix_eq (N:=fun n (p:Int × Int × Int × List D × List D × List D)=>n_Z57 n p.1 p.2.1 p.2.2.1 p.2.2.2.1 p.2.2.2.2.1 p.2.2.2.2.2) (C:=fun f p=>c_Z57 (fun x0 x1 x2 x3 x4 x5=>f (x0,x1,x2,x3,x4,x5)) p.1 p.2.1 p.2.2.1 p.2.2.2.1 p.2.2.2.2.1 p.2.2.2.2.2 some) (fun _=>rfl) (fun _ _=>rfl) (fun hD f fs h p=>by
  unfold c_Z57
  repeat' first | exact Lim.const hD | exact h _ | apply Lim.ite | apply Lim.cond | apply Lim.bind hD | apply Lim.sum | intro _) (x0,x1,x2,x3,x4,x5)
theorem Z59_fx (x0 x1 x2:List D) (x3 x4 x5 x6 x7 x8:Int) (x9:List D):Z59 x0 x1 x2 x3 x4 x5 x6 x7 x8 x9=c_Z59 Z59 x0 x1 x2 x3 x4 x5 x6 x7 x8 x9 some:=
 fix_eq (N:=fun n (p:List D × List D × List D × Int × Int × Int × Int × Int × Int × List D)=>n_Z59 n p.1 p.2.1 p.2.2.1 p.2.2.2.1 p.2.2.2.2.1 p.2.2.2.2.2.1 p.2.2.2.2.2.2.1 p.2.2.2.2.2.2.2.1 p.2.2.2.2.2.2.2.2.1 p.2.2.2.2.2.2.2.2.2) (C:=fun f p=>c_Z59 (fun x0 x1 x2 x3 x4 x5 x6 x7 x8 x9=>f (x0,x1,x2,x3,x4,x5,x6,x7,x8,x9)) p.1 p.2.1 p.2.2.1 p.2.2.2.1 p.2.2.2.2.1 p.2.2.2.2.2.1 p.2.2.2.2.2.2.1 p.2.2.2.2.2.2.2.1 p.2.2.2.2.2.2.2.2.1 p.2.2.2.2.2.2.2.2.2 some) (fun _=>rfl) (fun _ _=>rfl) (fun hD f fs h p=>by
  unfold c_Z59
  repeat' first | exact Lim.const hD | exact h _ | apply Lim.ite | apply Lim.cond | apply Lim.bind hD | apply Lim.sum | intro _) (x0,x1,x2,x3,x4,x5,x6,x7,x8,x9)
theorem Z60_fx (x0 x1 x2:List D) (x3 x4 x5 x6 x7 x8 x9 x10:Int) (x11:List D):Z60 x0 x1 x2 x3 x4 x5 x6 x7 x8 x9 x10 x11=c_Z60 Z60 x0 x1 x2 x3 x4 x5 x6 x7 x8 x9 x10 x11 some:=
 fix_eq (N:=fun n (p:List D × List D × List D × Int × Int × Int × Int × Int × Int × Int × Int × List D)=>n_Z60 n p.1 p.2.1 p.2.2.1 p.2.2.2.1 p.2.2.2.2.1 p.2.2.2.2.2.1 p.2.2.2.2.2.2.1 p.2.2.2.2.2.2.2.1 p.2.2.2.2.2.2.2.2.1 p.2.2.2.2.2.2.2.2.2.1 p.2.2.2.2.2.2.2.2.2.2.1 p.2.2.2.2.2.2.2.2.2.2.2) (C:=fun f p=>c_Z60 (fun x0 x1 x2 x3 x4 x5 x6 x7 x8 x9 x10 x11=>f (x0,x1,x2,x3,x4,x5,x6,x7,x8,x9,x10,x11)) p.1 p.2.1 p.2.2.1 p.2.2.2.1 p.2.2.2.2.1 p.2.2.2.2.2.1 p.2.2.2.2.2.2.1 p.2.2.2.2.2.2.2.1 p.2.2.2.2.2.2.2.2.1 p.2.2.2.2.2.2.2.2.2.1 p.2.2.2.2.2.2.2.2.2.2.1 p.2.2.2.2.2.2.2.2.2.2.2 some) (fun _=>rfl) (fun _ _=>rfl) (fun hD f fs h p=>by
  unfold c_Z60
  repeat' first | exact Lim.const hD | exact h _ | apply Lim.ite | apply Lim.cond | apply Lim.bind hD | apply Lim.sum | intro _) (x0,x1,x2,x3,x4,x5,x6,x7,x8,x9,x10,x11)
theorem Z61_fx (x0 x1 x2:List D) (x3 x4 x5 x6 x7 x8 x9:Int) (x10:List D):Z61 x0 x1 x2 x3 x4 x5 x6 x7 x8 x9 x10=c_Z61 Z61 x0 x1 x2 x3 x4 x5 x6 x7 x8 x9 x10 some:=
 fix_eq (N:=fun n (p:List D × List D × List D × Int × Int × Int × Int × Int × Int × Int × List D)=>n_Z61 n p.1 p.2.1 p.2.2.1 p.2.2.2.1 p.2.2.2.2.1 p.2.2.2.2.2.1 p.2.2.2.2.2.2.1 p.2.2.2.2.2.2.2.1 p.2.2.2.2.2.2.2.2.1 p.2.2.2.2.2.2.2.2.2.1 p.2.2.2.2.2.2.2.2.2.2) (C:=fun f p=>c_Z61 (fun x0 x1 x2 x3 x4 x5 x6 x7 x8 x9 x10=>f (x0,x1,x2,x3,x4,x5,x6,x7,x8,x9,x10)) p.1 p.2.1 p.2.2.1 p.2.2.2.1 p.2.2.2.2.1 p.2.2.2.2.2.1 p.2.2.2.2.2.2.1 p.2.2.2.2.2.2.2.1 p.2.2.2.2.2.2.2.2.1 p.2.2.2.2.2.2.2.2.2.1 p.2.2.2.2.2.2.2.2.2.2 some) (fun _=>rfl) (fun _ _=>rfl) (fun hD f fs h p=>by
  unfold c_Z61
  repeat' first | exact Lim.const hD | exact h _ | apply Lim.ite | apply Lim.cond | apply Lim.bind hD | apply Lim.sum | intro _) (x0,x1,x2,x3,x4,x5,x6,x7,x8,x9,x10)
theorem Z62_fx (x0 x1 x2:List D) (x3 x4 x5 x6 x7 x8:Int) (x9:List D):Z62 x0 x1 x2 x3 x4 x5 x6 x7 x8 x9=c_Z62 Z62 x0 x1 x2 x3 x4 x5 x6 x7 x8 x9 some:=
 fix_eq (N:=fun n (p:List D × List D × List D × Int × Int × Int × Int × Int × Int × List D)=>n_Z62 n p.1 p.2.1 p.2.2.1 p.2.2.2.1 p.2.2.2.2.1 p.2.2.2.2.2.1 p.2.2.2.2.2.2.1 p.2.2.2.2.2.2.2.1 p.2.2.2.2.2.2.2.2.1 p.2.2.2.2.2.2.2.2.2) (C:=fun f p=>c_Z62 (fun x0 x1 x2 x3 x4 x5 x6 x7 x8 x9=>f (x0,x1,x2,x3,x4,x5,x6,x7,x8,x9)) p.1 p.2.1 p.2.2.1 p.2.2.2.1 p.2.2.2.2.1 p.2.2.2.2.2.1 p.2.2.2.2.2.2.1 p.2.2.2.2.2.2.2.1 p.2.2.2.2.2.2.2.2.1 p.2.2.2.2.2.2.2.2.2 some) (fun _=>rfl) (fun _ _=>rfl) (fun hD f fs h p=>by
  unfold c_Z62
  repeat' first | exact Lim.const hD | exact h _ | apply Lim.ite | apply Lim.cond | apply Lim.bind hD | apply Lim.sum | intro _) (x0,x1,x2,x3,x4,x5,x6,x7,x8,x9)
theorem Z63_fx (x0 x1 x2:List D) (x3 x4 x5 x6 x7 x8:Int) (x9 x10:List D):Z63 x0 x1 x2 x3 x4 x5 x6 x7 x8 x9 x10=c_Z63 Z63 x0 x1 x2 x3 x4 x5 x6 x7 x8 x9 x10 some:=
 fix_eq (N:=fun n (p:List D × List D × List D × Int × Int × Int × Int × Int × Int × List D × List D)=>n_Z63 n p.1 p.2.1 p.2.2.1 p.2.2.2.1 p.2.2.2.2.1 p.2.2.2.2.2.1 p.2.2.2.2.2.2.1 p.2.2.2.2.2.2.2.1 p.2.2.2.2.2.2.2.2.1 p.2.2.2.2.2.2.2.2.2.1 p.2.2.2.2.2.2.2.2.2.2) (C:=fun f p=>c_Z63 (fun x0 x1 x2 x3 x4 x5 x6 x7 x8 x9 x10=>f (x0,x1,x2,x3,x4,x5,x6,x7,x8,x9,x10)) p.1 p.2.1 p.2.2.1 p.2.2.2.1 p.2.2.2.2.1 p.2.2.2.2.2.1 p.2.2.2.2.2.2.1 p.2.2.2.2.2.2.2.1 p.2.2.2.2.2.2.2.2.1 p.2.2.2.2.2.2.2.2.2.1 p.2.2.2.2.2.2.2.2.2.2 some) (fun _=>rfl) (fun _ _=>rfl) (fun hD f fs h p=>by
  unfold c_Z63
  repeat' first | exact Lim.const hD | exact h _ | apply Lim.ite | apply Lim.cond | apply Lim.bind hD | apply Lim.sum | intro _) (x0,x1,x2,x3,x4,x5,x6,x7,x8,x9,x10)
theorem Z64_fx (x0 x1 x2:List D) (x3 x4 x5 x6:Int) (x7 x8:List D):Z64 x0 x1 x2 x3 x4 x5 x6 x7 x8=c_Z64 Z64 x0 x1 x2 x3 x4 x5 x6 x7 x8 some:=
 fix_eq (N:=fun n (p:List D × List D × List D × Int × Int × Int × Int × List D × List D)=>n_Z64 n p.1 p.2.1 p.2.2.1 p.2.2.2.1 p.2.2.2.2.1 p.2.2.2.2.2.1 p.2.2.2.2.2.2.1 p.2.2.2.2.2.2.2.1 p.2.2.2.2.2.2.2.2) (C:=fun f p=>c_Z64 (fun x0 x1 x2 x3 x4 x5 x6 x7 x8=>f (x0,x1,x2,x3,x4,x5,x6,x7,x8)) p.1 p.2.1 p.2.2.1 p.2.2.2.1 p.2.2.2.2.1 p.2.2.2.2.2.1 p.2.2.2.2.2.2.1 p.2.2.2.2.2.2.2.1 p.2.2.2.2.2.2.2.2 some) (fun _=>rfl) (fun _ _=>rfl) (fun hD f fs h p=>by
  unfold c_Z64
  repeat' first | exact Lim.const hD | exact h _ | apply Lim.ite | apply Lim.cond | apply Lim.bind hD | apply Lim.sum | intro _) (x0,x1,x2,x3,x4,x5,x6,x7,x8)
theorem Z66_fx (x0 x1:Int) (x2 x3 x4 x5:List D):Z66 x0 x1 x2 x3 x4 x5=c_Z66 Z66 x0 x1 x2 x3 x4 x5 some:=
 fix_eq (N:=fun n (p:Int × Int × List D × List D × List D × List D)=>n_Z66 n p.1 p.2.1 p.2.2.1 p.2.2.2.1 p.2.2.2.2.1 p.2.2.2.2.2) (C:=fun f p=>c_Z66 (fun x0 x1 x2 x3 x4 x5=>f (x0,x1,x2,x3,x4,x5)) p.1 p.2.1 p.2.2.1 p.2.2.2.1 p.2.2.2.2.1 p.2.2.2.2.2 some) (fun _=>rfl) (fun _ _=>rfl) (fun hD f fs h p=>by
  unfold c_Z66
  repeat' first | exact Lim.const hD | exact h _ | apply Lim.ite | apply Lim.cond | apply Lim.bind hD | apply Lim.sum | intro _) (x0,x1,x2,x3,x4,x5)
theorem Z67_fx (x0 x1:Int) (x2 x3 x4:List D):Z67 x0 x1 x2 x3 x4=c_Z67 Z67 x0 x1 x2 x3 x4 some:=
 fix_eq (N:=fun n (p:Int × Int × List D × List D × List D)=>n_Z67 n p.1 p.2.1 p.2.2.1 p.2.2.2.1 p.2.2.2.2) (C:=fun f p=>c_Z67 (fun x0 x1 x2 x3 x4=>f (x0,x1,x2,x3,x4)) p.1 p.2.1 p.2.2.1 p.2.2.2.1 p.2.2.2.2 some) (fun _=>rfl) (fun _ _=>rfl) (fun hD f fs h p=>by
  unfold c_Z67
  repeat' first | exact Lim.const hD | exact h _ | apply Lim.ite | apply Lim.cond | apply Lim.bind hD | apply Lim.sum | intro _) (x0,x1,x2,x3,x4)
theorem Z68_fx (x0 x1 x2 x3:List D) (x4 x5:Int) (x6:List D):Z68 x0 x1 x2 x3 x4 x5 x6=c_Z68 Z68 x0 x1 x2 x3 x4 x5 x6 some:=
 fix_eq (N:=fun n (p:List D × List D × List D × List D × Int × Int × List D)=>n_Z68 n p.1 p.2.1 p.2.2.1 p.2.2.2.1 p.2.2.2.2.1 p.2.2.2.2.2.1 p.2.2.2.2.2.2) (C:=fun f p=>c_Z68 (fun x0 x1 x2 x3 x4 x5 x6=>f (x0,x1,x2,x3,x4,x5,x6)) p.1 p.2.1 p.2.2.1 p.2.2.2.1 p.2.2.2.2.1 p.2.2.2.2.2.1 p.2.2.2.2.2.2 some) (fun _=>rfl) (fun _ _=>rfl) (fun hD f fs h p=>by
  unfold c_Z68
  repeat' first | exact Lim.const hD | exact h _ | apply Lim.ite | apply Lim.cond | apply Lim.bind hD | apply Lim.sum | intro _) (x0,x1,x2,x3,x4,x5,x6)
theorem Z71_fx (x0 x1 x2:List D) (x3 x4:Int):Z71 x0 x1 x2 x3 x4=c_Z71 Z71 x0 x1 x2 x3 x4 some:=
 fix_eq (N:=fun n (p:List D × List D × List D × Int × Int)=>n_Z71 n p.1 p.2.1 p.2.2.1 p.2.2.2.1 p.2.2.2.2) (C:=fun f p=>c_Z71 (fun x0 x1 x2 x3 x4=>f (x0,x1,x2,x3,x4)) p.1 p.2.1 p.2.2.1 p.2.2.2.1 p.2.2.2.2 some) (fun _=>rfl) (fun _ _=>rfl) (fun hD f fs h p=>by
  unfold c_Z71
  repeat' first | exact Lim.const hD | exact h _ | apply Lim.ite | apply Lim.cond | apply Lim.bind hD | apply Lim.sum | intro _) (x0,x1,x2,x3,x4)
theorem Z76_fx (x0 x1 x2 x3 x4 x5:List D) (x6 x7:Int):Z76 x0 x1 x2 x3 x4 x5 x6 x7=c_Z76 Z76 x0 x1 x2 x3 x4 x5 x6 x7 some:=
 fix_eq (N:=fun n (p:List D × List D × List D × List D × List D × List D × Int × Int)=>n_Z76 n p.1 p.2.1 p.2.2.1 p.2.2.2.1 p.2.2.2.2.1 p.2.2.2.2.2.1 p.2.2.2.2.2.2.1 p.2.2.2.2.2.2.2) (C:=fun f p=>c_Z76 (fun x0 x1 x2 x3 x4 x5 x6 x7=>f (x0,x1,x2,x3,x4,x5,x6,x7)) p.1 p.2.1 p.2.2.1 p.2.2.2.1 p.2.2.2.2.1 p.2.2.2.2.2.1 p.2.2.2.2.2.2.1 p.2.2.2.2.2.2.2 some) (fun _=>rfl) (fun _ _=>rfl) (fun hD f fs h p=>by
  unfold c_Z76
  repeat' first | exact Lim.const hD | exact h _ | apply Lim.ite | apply Lim.cond | apply Lim.bind hD | apply Lim.sum | intro _) (x0,x1,x2,x3,x4,x5,x6,x7)
theorem Z78_fx (x0 x1 x2 x3 x4:List D) (x5 x6:Int) (x7:List D):Z78 x0 x1 x2 x3 x4 x5 x6 x7=c_Z78 Z78 x0 x1 x2 x3 x4 x5 x6 x7 some:=
 fix_eq (N:=fun n (p:List D × List D × List D × List D × List D × Int × Int × List D)=>n_Z78 n p.1 p.2.1 p.2.2.1 p.2.2.2.1 p.2.2.2.2.1 p.2.2.2.2.2.1 p.2.2.2.2.2.2.1 p.2.2.2.2.2.2.2) (C:=fun f p=>c_Z78 (fun x0 x1 x2 x3 x4 x5 x6 x7=>f (x0,x1,x2,x3,x4,x5,x6,x7)) p.1 p.2.1 p.2.2.1 p.2.2.2.1 p.2.2.2.2.1 p.2.2.2.2.2.1 p.2.2.2.2.2.2.1 p.2.2.2.2.2.2.2 some) (fun _=>rfl) (fun _ _=>rfl) (fun hD f fs h p=>by
  unfold c_Z78
  repeat' first | exact Lim.const hD | exact h _ | apply Lim.ite | apply Lim.cond | apply Lim.bind hD | apply Lim.sum | intro _) (x0,x1,x2,x3,x4,x5,x6,x7)
theorem Z82_fx (x0 x1 x2:Int) (x3 x4:List D):Z82 x0 x1 x2 x3 x4=c_Z82 Z82 x0 x1 x2 x3 x4 some:=
 fix_eq (N:=fun n (p:Int × Int × Int × List D × List D)=>n_Z82 n p.1 p.2.1 p.2.2.1 p.2.2.2.1 p.2.2.2.2) (C:=fun f p=>c_Z82 (fun x0 x1 x2 x3 x4=>f (x0,x1,x2,x3,x4)) p.1 p.2.1 p.2.2.1 p.2.2.2.1 p.2.2.2.2 some) (fun _=>rfl) (fun _ _=>rfl) (fun hD f fs h p=>by
  unfold c_Z82
  repeat' first | exact Lim.const hD | exact h _ | apply Lim.ite | apply Lim.cond | apply Lim.bind hD | apply Lim.sum | intro _) (x0,x1,x2,x3,x4)
theorem Z84_fx (x0:Bool) (x1:Int) (x2 x3 x4:List D):Z84 x0 x1 x2 x3 x4=c_Z84 Z84 x0 x1 x2 x3 x4 some:=
 fix_eq (N:=fun n (p:Bool × Int × List D × List D × List D)=>n_Z84 n p.1 p.2.1 p.2.2.1 p.2.2.2.1 p.2.2.2.2) (C:=fun f p=>c_Z84 (fun x0 x1 x2 x3 x4=>f (x0,x1,x2,x3,x4)) p.1 p.2.1 p.2.2.1 p.2.2.2.1 p.2.2.2.2 some) (fun _=>rfl) (fun _ _=>rfl) (fun hD f fs h p=>by
  unfold c_Z84
  repeat' first | exact Lim.const hD | exact h _ | apply Lim.ite | apply Lim.cond | apply Lim.bind hD | apply Lim.sum | intro _) (x0,x1,x2,x3,x4)
def Tt {ι β:Type} (I:ι→Prop) (P:β→Prop) (e:ι→Option β):Prop:=∃ y,P y∧∀ i,I i→e i=some y
theorem Tt.pure {ι β:Type} {I:ι→Prop} {P:β→Prop} {y:β} (h:P y):Tt I P (fun _=>some y):=⟨y,h,fun _ _=>rfl⟩
theorem Tt.bind {ι α β:Type} {I:ι→Prop} {Q:α→Prop} {P:β→Prop} {t:ι→Option α} {f:α→ι→Option β} (h:Tt I Q t) (k:∀ v,Q v→Tt I P (fun i=>f v i)) :
  Tt I P (fun i=>(t i).bind (fun v=>f v i)):=by
 obtain ⟨v,hv,ht⟩:=h
 obtain ⟨y,hy,hk⟩:=k v hv
 exact ⟨y,hy,fun i hi=>by show (t i).bind _=_; rw [ht i hi]; exact hk i hi⟩
theorem Tt.ite {ι β:Type} {I:ι→Prop} {P:β→Prop} {c:Prop} [Decidable c] {x y:ι→Option β} (h:c) (k:Tt I P x):Tt I P (fun i=>if c then x i else y i):=by
 simpa only [if_pos h] using k
theorem Tt.cnd {ι β:Type} {I:ι→Prop} {P:β→Prop} {b:Bool} {x y:ι→Option β} (h1:b=true→Tt I P x) (h2:b=false→Tt I P y):Tt I P (fun i=>bif b then x i else y i):=by
 cases b with
 | true=>exact h1 rfl
 | false=>exact h2 rfl
theorem Tt.dec {ι β:Type} {I:ι→Prop} {P:β→Prop} {p:Prop} [Decidable p] {x y:ι→Option β} (h1:p→Tt I P x) (h2:¬ p→Tt I P y):Tt I P (fun i=>bif decide p then x i else y i):=
 Tt.cnd (fun h=>h1 (of_decide_eq_true h)) (fun h=>h2 (of_decide_eq_false h))
theorem Tt.ndec {ι β:Type} {I:ι→Prop} {P:β→Prop} {p:Prop} [Decidable p] {x y:ι→Option β} (h1:¬ p→Tt I P x) (h2:p→Tt I P y):Tt I P (fun i=>bif !decide p then x i else y i):=by
 by_cases h:p
 ·simpa only [decide_eq_true h,Bool.not_true,cond_false] using h2 h
 ·simpa only [decide_eq_false h,Bool.not_false,cond_true] using h1 h
theorem Tt.con {ι β:Type} {I:ι→Prop} {Q:β→Prop} {t:Option β} (h:∃ y,t=some y∧Q y):Tt I Q (fun _=>t):=by
 obtain ⟨y,h1,h2⟩:=h
 exact ⟨y,h2,fun _ _=>h1⟩
theorem Tt.mono {ι β:Type} {I J:ι→Prop} {P Q:β→Prop} {e:ι→Option β} (h:Tt I P e) (hI:∀ i,J i→I i) (hP:∀ y,P y→Q y):Tt J Q e:=by
 obtain ⟨y,h1,h2⟩:=h
 exact ⟨y,hP y h1,fun i hi=>h2 i (hI i hi)⟩
theorem Tt.out {β:Type} {P:β→Prop} {t:Option β} (h:Tt (fun _:Unit=>True) P (fun _=>t)):∃ y,t=some y∧P y:=by
 obtain ⟨y,h1,h2⟩:=h
 exact ⟨y,h2 () trivial,h1⟩
theorem Tt.loop {X Y:Type} (N:Nat→X→Option Y) (Inv:X→Prop) (μ:X→Nat) (Post:X→Y→Prop)
  (step:∀ x,Inv x→(∀ x',Inv x'→μ x'<μ x→Tt (fun m=>μ x≤m) (Post x') (fun m=>N m x'))→Tt (fun m=>μ x≤m) (Post x) (fun m=>N (m + 1) x)) :
  ∀ x,Inv x→∃ y,ev (fun n=>N n x)=some y∧Post x y:=by
 have key:∀ k x,Inv x→μ x≤k→Tt (fun m=>μ x<m) (Post x) (fun m=>N m x):=by
  intro k
  induction k with
  | zero=>
   intro x hi hk
   obtain ⟨y,h1,h2⟩:=step x hi (fun x' _ h=>absurd h (by omega))
   refine ⟨y,h1,fun m hm=>?_⟩
   obtain ⟨m,rfl⟩:∃ m',m=m' + 1:=⟨m - 1,by omega⟩
   exact h2 m (by omega)
  | succ k ih=>
   intro x hi hk
   obtain ⟨y,h1,h2⟩:=step x hi (fun x' hx' h=>(ih x' hx' (by omega)).mono (fun m hm=>by omega) (fun _ h=>h))
   refine ⟨y,h1,fun m hm=>?_⟩
   obtain ⟨m,rfl⟩:∃ m',m=m' + 1:=⟨m - 1,by omega⟩
   exact h2 m (by omega)
 intro x hi
 obtain ⟨y,h1,h2⟩:=key (μ x) x hi (Nat.le_refl _)
 exact ⟨y,ev_eq (μ x + 1) (fun m hm=>h2 m (by omega)),h1⟩
theorem wq (n:Int):IntKind.i64.wrap n=(n + 9223372036854775808) % 18446744073709551616 - 9223372036854775808:=by
 unfold IntKind.wrap
 simp [IntKind.signed,IntKind.bits]
 omega
def okC (c:List D):Prop:=c.length≤65536∧∀ d ∈ c,0≤d.toInt∧d.toInt≤255
theorem uwrap (n:Int):IntKind.u64.wrap n=n % 18446744073709551616:=by
 unfold IntKind.wrap
 simp [IntKind.signed,IntKind.bits]
theorem and255 (r:Int):0≤IntKind.i64.wrap (IntKind.u64.wrap (((BitVec.ofInt IntKind.u64.bits r &&& BitVec.ofInt IntKind.u64.bits 255).toNat:Nat):Int))∧IntKind.i64.wrap (IntKind.u64.wrap (((BitVec.ofInt IntKind.u64.bits r &&& BitVec.ofInt IntKind.u64.bits 255).toNat:Nat):Int))≤255:=by
 have h2:(BitVec.ofInt IntKind.u64.bits r &&& BitVec.ofInt IntKind.u64.bits 255).toNat≤(BitVec.ofInt IntKind.u64.bits 255).toNat:=by
  rw [BitVec.toNat_and]; exact Nat.and_le_right
 have h3:(BitVec.ofInt IntKind.u64.bits 255).toNat=255:=by decide
 rw [h3] at h2
 rw [uwrap,wq]
 omega
theorem next_tot (c:List D) (h:okC c) (p s:Int) (hp:0≤p∧p≤1099511627776):∃ y,Z1 c p s=some y∧(0≤y.1∧y.1≤255∧y.2.1=c∧y.2.2.1=p + 1):=by
 have hw:IntKind.i64.wrap (p + 1)=p + 1:=wrap_id (by omega) (by omega)
 have a1:=fun r=>and255 r
 refine Tt.out ?_
 unfold Z1 c_Z1
 rw [hw]
 by_cases hpl:p<(c.length:Int)
 ·rw [decide_eq_true hpl,cond_true]
  have hd:=h.2 _ (getD_mem (show p.toNat<c.length by omega))
  have hv:IntKind.i64.wrap (c.getD p.toNat (D.int 0)).toInt=(c.getD p.toNat (D.int 0)).toInt:=wrap_id (by omega) (by omega)
  refine Tt.ite (by omega) ?_
  refine Tt.dec (fun _=>?_) (fun hn=>absurd (show p + 1≤(c.length:Int) by omega) hn)
  refine Tt.pure ?_
  exact ⟨by rw [hv]; exact hd.1,by rw [hv]; exact hd.2,rfl,rfl⟩
 ·rw [decide_eq_false hpl,cond_false]
  refine Tt.dec (fun hn=>by exfalso; omega) (fun _=>?_)
  refine Tt.ite (by decide) ?_
  refine Tt.pure ?_
  exact ⟨(a1 _).1,(a1 _).2,rfl,rfl⟩
attribute [local irreducible] Z1
theorem pick_tot (c:List D) (h:okC c) (p s n:Int) (hp:0≤p∧p≤1099511627770) (hn:n≤65536):∃ y,Z2 c p s n=some y∧(0≤y.1∧(y.1<n ∨ y.1=0)∧y.2.1=c∧p≤y.2.2.1∧y.2.2.1≤p + 2):=by
 refine Tt.out ?_
 unfold Z2 c_Z2
 refine Tt.dec (fun _=>?_) (fun hn1=>?_)
 ·refine Tt.pure ?_
  exact ⟨by simp,.inr rfl,rfl,by simp,by simp only; omega⟩
 ·refine Tt.bind (Tt.con (next_tot c h p s (by omega))) (fun v hv=>?_)
  obtain ⟨v1,v2,v3,v4⟩:=hv
  rw [v3,v4]
  refine Tt.dec (fun _=>?_) (fun _=>?_)
  ·refine Tt.bind (Tt.con (next_tot c h (p + 1) _ (by omega))) (fun w hw=>?_)
   obtain ⟨w1,w2,w3,w4⟩:=hw
   refine Tt.ite (by omega) ?_
   have hq:IntKind.i64.wrap (IntKind.i64.wrap (v.1 * 256) + w.1)=v.1 * 256 + w.1:=by
    rw [wrap_id (n:=v.1 * 256) (by omega) (by omega),wrap_id (by omega) (by omega)]
   have hm:(v.1 * 256 + w.1).tmod n=(v.1 * 256 + w.1) % n:=Int.tmod_eq_emod_of_nonneg (by omega)
   have m1:=Int.emod_nonneg (v.1 * 256 + w.1) (show n ≠ 0 by omega)
   have m2:=Int.emod_lt_of_pos (v.1 * 256 + w.1) (show 0<n by omega)
   refine Tt.pure ?_
   exact ⟨by simp only; rw [hq,hm]; exact m1,.inl (by simp only; rw [hq,hm]; exact m2),w3,by simp only; omega,by simp only; omega⟩
  ·refine Tt.ite (by omega) ?_
   have hm:v.1.tmod n=v.1 % n:=Int.tmod_eq_emod_of_nonneg v1
   have m1:=Int.emod_nonneg v.1 (show n ≠ 0 by omega)
   have m2:=Int.emod_lt_of_pos v.1 (show 0<n by omega)
   refine Tt.pure ?_
   exact ⟨by simp only; rw [hm]; exact m1,.inl (by simp only; rw [hm]; exact m2),rfl,by simp only; omega,by simp only; omega⟩
attribute [local irreducible] Z2
theorem among_tot (c:List D) (h:okC c) (p s:Int) (l:List D) (hp:0≤p∧p≤1099511627770) (hl:1≤l.length∧l.length≤65536):∃ y,Z15 c p s l=some y∧((∃ d ∈ l,y.1=d.toInt)∧y.2.1=c∧p≤y.2.2.1∧y.2.2.1≤p + 2):=by
 refine Tt.out ?_
 unfold Z15 c_Z15
 refine Tt.bind (Tt.con (pick_tot c h p s _ hp (by omega))) (fun v hv=>?_)
 refine Tt.ite (by omega) ?_
 refine Tt.ite (by omega) ?_
 refine Tt.pure ?_
 exact ⟨⟨_,getD_mem (show v.1.toNat<l.length by omega),rfl⟩,hv.2.2.1,hv.2.2.2.1,hv.2.2.2.2⟩
attribute [local irreducible] Z15
theorem okB {d:D} (h:wfD (.int .u8) d):0≤d.toInt∧d.toInt≤255:=by
 obtain ⟨n,rfl,h2⟩:=h
 simp [Lit.wf,IntKind.min,IntKind.max,IntKind.signed,IntKind.bits] at h2
 simp only [toInt_int]; omega
theorem pick_tot' (c:List D) (h:okC c) (p s n:Int) (hp:0≤p∧p≤1099511627770) (hn:n≤65536):∃ y,Z2 c p s n=some y∧((0≤y.1∧(y.1<n ∨ y.1=0))∧y.2.1=c∧p≤y.2.2.1∧y.2.2.1≤p + 2):=by
 obtain ⟨y,h1,h2,h3,h4⟩:=pick_tot c h p s n hp hn
 exact ⟨y,h1,⟨h2,h3⟩,h4⟩
theorem one_tot (c:List D) (h:okC c) (p s n:Int) (hp:0≤p∧p≤1099511627770) (hn:n≤65536):∃ y,Z3 c p s n=some y∧(y.2.1=c∧p≤y.2.2.1∧y.2.2.1≤p + 2):=by
 refine Tt.out ?_
 unfold Z3 c_Z3
 refine Tt.bind (Tt.con (pick_tot c h p s n hp hn)) (fun v hv=>?_)
 refine Tt.pure ?_
 exact ⟨hv.2.2.1,hv.2.2.2.1,hv.2.2.2.2⟩
attribute [local irreducible] Z3
theorem one_tot' (c:List D) (h:okC c) (p s n:Int) (hp:0≤p∧p≤1099511627770) (hn:n≤65536):∃ y,Z3 c p s n=some y∧(True∧y.2.1=c∧p≤y.2.2.1∧y.2.2.1≤p + 2):=by
 obtain ⟨y,h1,h2⟩:=one_tot c h p s n hp hn
 exact ⟨y,h1,trivial,h2⟩
theorem l1In_eq (x a b:Int):Z23 x a b=some (btw x a b):=by
 unfold Z23 c_Z23 btw
 by_cases h:a≤x <;> simp [h]
theorem within_eq (x a b:Int):Z31 x a b=some (btw x a b):=by
 unfold Z31 c_Z31 btw
 by_cases h:a≤x <;> simp [h]
def cmpV (x y:Int):Int:=if x<y then -1 else if y<x then 1 else 0
theorem compare_eq (x y:Int):Z40 x y=some (cmpV x y):=by
 simp only [Z40,c_Z40,Z39,c_Z39,Option.bind_some,decide_true,Bool.not_true,cond_false,cmpV]
 by_cases h:x<y
 ·simp [h]
 ·by_cases h2:y<x <;> simp [h,h2]
theorem or_eq (a b:Int):Z42 [.int a,.int b]=some (if a=0 then b else a):=by
 have w1:IntKind.i64.wrap 1=1:=by decide
 have w2:IntKind.i64.wrap 2=2:=by decide
 have key:∃ y,Z41 0 [.int a,.int b] 2 0=some y∧(match y with | .inl z=>z.1 | .inr z=>z)=(if a=0 then b else a):=by
  by_cases ha:a=0
  ·by_cases hb:b=0
   ·refine ⟨.inr 0,ev_eq (f:=fun m=>n_Z41 m 0 [.int a,.int b] 2 0) 3 (fun m hm=>?_),by simp [ha,hb]⟩
    obtain ⟨m,rfl⟩:∃ m',m=m' + 3:=⟨m - 3,by omega⟩
    simp [n_Z41,c_Z41,ha,hb,toInt_int,w1,w2]
   ·refine ⟨.inl (b,0),ev_eq (f:=fun m=>n_Z41 m 0 [.int a,.int b] 2 0) 2 (fun m hm=>?_),by simp [ha]⟩
    obtain ⟨m,rfl⟩:∃ m',m=m' + 2:=⟨m - 2,by omega⟩
    simp [n_Z41,c_Z41,ha,hb,toInt_int,w1]
  ·refine ⟨.inl (a,0),ev_eq (f:=fun m=>n_Z41 m 0 [.int a,.int b] 2 0) 1 (fun m hm=>?_),by simp [ha]⟩
   obtain ⟨m,rfl⟩:∃ m',m=m' + 1:=⟨m - 1,by omega⟩
   simp [n_Z41,c_Z41,ha,toInt_int]
 obtain ⟨y,h1,h2⟩:=key
 rw [← h2]
 simp only [Z42,c_Z42,show (([D.int a,D.int b]:List D).length:Int)=2 from rfl,h1,Option.bind_some]
 cases y <;> rfl
theorem fxScan {α:Type} {F:Int→Option α} {len:Nat} (p:Nat→Bool) (bad:Nat→α) {fin:α}
  (hs:∀ i:Nat,i<len→F (i:Int)=bif p i then some (bad i) else F ((i + 1:Nat):Int)) (he:F (len:Int)=some fin) :
  F 0=some (match firstN p len with | some i=>bad i | none=>fin):=by
 have key:∀ k (i:Nat),i + k=len→(∀ j,j<i→p j=false)→F (i:Int)=some (match firstN p len with | some i=>bad i | none=>fin):=by
  intro k
  induction k with
  | zero=>
   intro i h1 h3
   have hi:i=len:=by omega
   subst hi
   rw [he]
   cases hf:firstN p i with
   | none=>rfl
   | some j=>
    obtain ⟨q1,q2,_⟩:=firstN_some hf
    rw [h3 j q1] at q2
    cases q2
  | succ k ih=>
   intro i h1 h3
   rw [hs i (by omega)]
   cases hp:p i with
   | true=>
    rw [cond_true]
    have:firstN p len=some i:=by
     unfold firstN
     rw [List.find?_range_eq_some]
     exact ⟨hp,List.mem_range.2 (by omega),fun j hj=>by simp [h3 j hj]⟩
    rw [this]
   | false=>
    rw [cond_false]
    refine ih (i + 1) (by omega) (fun j hj=>?_)
    by_cases hji:j=i
    ·subst hji; exact hp
    ·exact h3 j (by omega)
 exact key len 0 (by omega) (fun j hj=>by omega)
def allN (p:Nat→Bool) (len:Nat):Bool:=(firstN (fun i=>!p i) len).isNone
theorem allN_iff {p:Nat→Bool} {len:Nat}:allN p len=true ↔ ∀ i,i<len→p i=true:=by
 unfold allN
 constructor
 ·intro h i hi
  cases hf:firstN (fun i=>!p i) len with
  | none=>simpa using firstN_none hf i hi
  | some j=>rw [hf] at h; cases h
 ·intro h
  cases hf:firstN (fun i=>!p i) len with
  | none=>rfl
  | some i=>obtain ⟨h1,h2,_⟩:=firstN_some hf; rw [h i h1] at h2; cases h2
theorem fxAll {α:Type} {F:Int→Option α} {len:Nat} (p:Nat→Bool) (bad:α) {fin:α}
  (hs:∀ i:Nat,i<len→F (i:Int)=bif p i then F ((i + 1:Nat):Int) else some bad) (he:F (len:Int)=some fin) :
  F 0=some (bif allN p len then fin else bad):=by
 have:=fxScan (F:=F) (len:=len) (fun i=>!p i) (fun _=>bad) (fin:=fin) (fun i hi=>by rw [hs i hi]; cases p i <;> rfl) he
 rw [this]
 unfold allN
 cases firstN (fun i=>!p i) len <;> rfl
def find2 (C:List D) (n:Int):Int:=match firstN (fun i=>decide (((C[i]?.getD (.int 0)).fld 0).toInt=n)) C.length with | some i=>(i:Int) | none=>-1
theorem l2Find_eq (C R:List D) (n:Int) (hC:C.length≤100000):Z26 C R n=some (find2 C n):=by
 have h:=fxScan (F:=fun i=>Z25 n i C R) (len:=C.length) (fun i=>decide (((C[i]?.getD (.int 0)).fld 0).toInt=n)) (fun i=>.inl (i:Int)) (fin:=.inr ()) (fun i hi=>by
  show Z25 n i C R=_
  rw [Z25_fx]
  unfold c_Z25
  have h1:(i:Int)<C.length:=by omega
  simp only [h1,decide_true,cond_true,Int.natCast_nonneg,and_self,if_true,Int.toNat_natCast,List.getD_eq_getElem?_getD,succ_wrap (show i<4611686018427387904 by omega),Option.bind_fun_some])
  (by
   show Z25 n C.length C R=_
   rw [Z25_fx]; unfold c_Z25; simp)
 have h':Z25 n 0 C R=_:=h
 simp only [Z26,c_Z26,h',Option.bind_some,find2]
 cases firstN (fun i=>decide (((C[i]?.getD (.int 0)).fld 0).toInt=n)) C.length <;> rfl
theorem indexOf_eq (C R:List D) (n:Int) (hC:C.length≤100000):Z38 C R n=some (find2 C n):=by
 have h:=fxScan (F:=fun i=>Z36 C n C.length i) (len:=C.length) (fun i=>decide (((C[i]?.getD (.int 0)).fld 0).toInt=n)) (fun i=>.inl (i:Int)) (fin:=.inr ()) (fun i hi=>by
  show Z36 C n C.length i=_
  rw [Z36_fx]
  unfold c_Z36
  have h1:(i:Int)<C.length:=by omega
  simp only [h1,decide_true,cond_true,Int.natCast_nonneg,and_self,if_true,Int.toNat_natCast,List.getD_eq_getElem?_getD,Z35,c_Z35,Option.bind_some,succ_wrap (show i<4611686018427387904 by omega),Option.bind_fun_some])
  (by
   show Z36 C n C.length C.length=_
   rw [Z36_fx]; unfold c_Z36; simp)
 have h':Z36 C n C.length 0=_:=h
 simp only [Z38,c_Z38,Z37,c_Z37,h',Option.bind_some,find2]
 cases firstN (fun i=>decide (((C[i]?.getD (.int 0)).fld 0).toInt=n)) C.length <;> rfl
theorem find2_some {C:List D} {n:Int} (h:0≤find2 C n):∃ i,i<C.length∧find2 C n=(i:Int)∧((C[i]?.getD (.int 0)).fld 0).toInt=n:=by
 unfold find2 at h ⊢
 cases hf:firstN (fun i=>decide (((C[i]?.getD (.int 0)).fld 0).toInt=n)) C.length with
 | none=>rw [hf] at h; simp at h
 | some i=>
  obtain ⟨h1,h2,_⟩:=firstN_some hf
  exact ⟨i,h1,rfl,of_decide_eq_true h2⟩
def cOk (C:List D) (i:Nat):Bool:=btw ((C[i]?.getD (.int 0)).fld 0).toInt 1 999 && (btw ((C[i]?.getD (.int 0)).fld 1).toInt 1 4 && (decide (i=0) || decide (((C[i - 1]?.getD (.int 0)).fld 0).toInt<((C[i]?.getD (.int 0)).fld 0).toInt)))
def lexB (a b c d:Int):Bool:=decide (a<c) || (decide (a=c) && decide (b<d))
def rOk (C R:List D) (i:Nat):Bool:=!decide (((R[i]?.getD (.int 0)).fld 0).toInt=((R[i]?.getD (.int 0)).fld 1).toInt) && (decide (0≤find2 C ((R[i]?.getD (.int 0)).fld 0).toInt) && (decide (0≤find2 C ((R[i]?.getD (.int 0)).fld 1).toInt) && (decide (i=0) || lexB ((R[i - 1]?.getD (.int 0)).fld 0).toInt ((R[i - 1]?.getD (.int 0)).fld 1).toInt ((R[i]?.getD (.int 0)).fld 0).toInt ((R[i]?.getD (.int 0)).fld 1).toInt)))
def validB (C R:List D):Bool:=decide (C.length≤10) && (decide (R.length≤24) && (allN (cOk C) C.length && allN (rOk C R) R.length))
theorem before_eq (a b c d:Int):Z6 a b c d=some (lexB a b c d):=by
 unfold Z6 c_Z6 lexB
 by_cases h:a<c
 ·simp [h]
 ·by_cases h2:a=c <;> simp [h,h2]
theorem l2Good_eq (C R:List D):Z28 C R=some (validB C R):=by
 unfold Z28 c_Z28 validB
 by_cases hC:C.length≤10
 ·have hC':¬ (10:Int)<C.length:=by omega
  by_cases hR:R.length≤24
  ·have hR':¬ (24:Int)<R.length:=by omega
   have h1:=fxAll (F:=fun i=>Z24 i C R) (len:=C.length) (cOk C) (.inl (false,C,R)) (fin:=.inr (C,R)) (fun i hi=>by
    show Z24 i C R=_
    rw [Z24_fx]
    unfold c_Z24
    have h1:(i:Int)<C.length:=by omega
    simp only [h1,decide_true,cond_true,Int.natCast_nonneg,and_self,if_true,Int.toNat_natCast,List.getD_eq_getElem?_getD,l1In_eq,Option.bind_some,succ_wrap (show i<4611686018427387904 by omega),Option.bind_fun_some,cOk]
    cases btw ((C[i]?.getD (.int 0)).fld 0).toInt 1 999 with
    | false=>rfl
    | true=>
     cases btw ((C[i]?.getD (.int 0)).fld 1).toInt 1 4 with
     | false=>rfl
     | true=>
      by_cases h0:i=0
      ·subst h0; simp
      ·have h2:(0:Int)<i:=by omega
       have h3:((i - 1:Nat):Int)<C.length:=by omega
       simp only [pred_wrap (show i<4611686018427387904 by omega) (show 0<i by omega),h2,h3,h0,Int.natCast_nonneg,and_self,if_true,Int.toNat_natCast,decide_true,decide_false,cond_true,cond_false,Bool.not_true,Bool.true_and,Bool.false_or]
       by_cases h4:((C[i]?.getD (.int 0)).fld 0).toInt≤((C[i - 1]?.getD (.int 0)).fld 0).toInt
       ·have:¬ ((C[i - 1]?.getD (.int 0)).fld 0).toInt<((C[i]?.getD (.int 0)).fld 0).toInt:=by omega
        simp [h4,this]
       ·have:((C[i - 1]?.getD (.int 0)).fld 0).toInt<((C[i]?.getD (.int 0)).fld 0).toInt:=by omega
        simp [h4,this])
    (by
     show Z24 C.length C R=_
     rw [Z24_fx]; unfold c_Z24; simp)
   have h1':Z24 0 C R=_:=h1
   have h2:=fxAll (F:=fun i=>Z27 i C R) (len:=R.length) (rOk C R) (.inl false) (fin:=.inr ()) (fun i hi=>by
    show Z27 i C R=_
    rw [Z27_fx]
    unfold c_Z27
    have h1:(i:Int)<R.length:=by omega
    simp only [h1,decide_true,cond_true,Int.natCast_nonneg,and_self,if_true,Int.toNat_natCast,List.getD_eq_getElem?_getD,l2Find_eq C R _ (show C.length≤100000 by omega),before_eq,Option.bind_some,succ_wrap (show i<4611686018427387904 by omega),Option.bind_fun_some,rOk]
    by_cases e1:((R[i]?.getD (.int 0)).fld 0).toInt=((R[i]?.getD (.int 0)).fld 1).toInt
    ·simp [e1]
    ·by_cases e2:find2 C ((R[i]?.getD (.int 0)).fld 0).toInt<0
     ·have:¬ 0≤find2 C ((R[i]?.getD (.int 0)).fld 0).toInt:=by omega
      simp [e1,e2,this]
     ·have e2':0≤find2 C ((R[i]?.getD (.int 0)).fld 0).toInt:=by omega
      by_cases e3:find2 C ((R[i]?.getD (.int 0)).fld 1).toInt<0
      ·have:¬ 0≤find2 C ((R[i]?.getD (.int 0)).fld 1).toInt:=by omega
       simp [e1,e2,e2',e3,this]
      ·have e3':0≤find2 C ((R[i]?.getD (.int 0)).fld 1).toInt:=by omega
       by_cases h0:i=0
       ·subst h0; simp [e1,e2,e2',e3,e3']
       ·have h2:(0:Int)<i:=by omega
        have h3:((i - 1:Nat):Int)<R.length:=by omega
        simp only [pred_wrap (show i<4611686018427387904 by omega) (show 0<i by omega),e1,e2,e2',e3,e3',h2,h3,h0,Int.natCast_nonneg,and_self,if_true,Int.toNat_natCast,decide_true,decide_false,cond_true,cond_false,Bool.not_true,Bool.not_false,Bool.true_and,Bool.false_or]
        cases lexB ((R[i - 1]?.getD (.int 0)).fld 0).toInt ((R[i - 1]?.getD (.int 0)).fld 1).toInt ((R[i]?.getD (.int 0)).fld 0).toInt ((R[i]?.getD (.int 0)).fld 1).toInt <;> rfl)
    (by
     show Z27 R.length C R=_
     rw [Z27_fx]; unfold c_Z27; simp)
   have h2':Z27 0 C R=_:=h2
   simp only [hC',hR',hC,hR,decide_true,decide_false,cond_false,Bool.true_and,h1',Option.bind_some]
   cases allN (cOk C) C.length with
   | false=>rfl
   | true=>
    simp only [cond_true,Sum.elim_inr,h2',Option.bind_some,Bool.true_and]
    cases allN (rOk C R) R.length <;> rfl
  ·have hR':(24:Int)<R.length:=by omega
   simp only [hC',hR',hR,decide_true,decide_false,cond_true,cond_false,Bool.false_and,Bool.and_false]
 ·have hC':(10:Int)<C.length:=by omega
  simp only [hC',hC,decide_true,decide_false,cond_true,Bool.false_and]
theorem number_eq (n:Int):Z32 n=some (btw n 1 999):=by
 simp only [Z32,c_Z32,within_eq,Option.bind_some]
theorem kind_eq (n:Int):Z33 n=some (btw n 1 4):=by
 simp only [Z33,c_Z33,within_eq,Option.bind_some]
theorem cmpRel_eq (a b c d:Int):∃ v,Z43 a b c d=some v∧decide (0≤v)=!lexB a b c d:=by
 simp only [Z43,c_Z43,compare_eq,or_eq,Option.bind_some]
 refine ⟨_,rfl,?_⟩
 unfold cmpV lexB
 by_cases h1:a<c
 ·simp [h1]
 ·by_cases h2:c<a
  ·have:¬ a=c:=by omega
   simp [h1,h2,this]
  ·have:a=c:=by omega
   subst this
   by_cases h3:b<d
   ·simp [h3]
   ·by_cases h4:d<b <;> simp [h3,h4]
theorem valid_eq (C R:List D):Z45 C R=some (validB C R):=by
 unfold Z45 c_Z45 validB
 by_cases hC:C.length≤10
 ·have hC':¬ (10:Int)<C.length:=by omega
  by_cases hR:R.length≤24
  ·have hR':¬ (24:Int)<R.length:=by omega
   have h1:=fxAll (F:=fun i=>Z34 C C.length i C R) (len:=C.length) (cOk C) (.inl (false,C,R)) (fin:=.inr (C,R)) (fun i hi=>by
    show Z34 C C.length i C R=_
    rw [Z34_fx]
    unfold c_Z34
    have h1:(i:Int)<C.length:=by omega
    simp only [h1,decide_true,cond_true,Int.natCast_nonneg,and_self,if_true,Int.toNat_natCast,List.getD_eq_getElem?_getD,number_eq,kind_eq,Option.bind_some,succ_wrap (show i<4611686018427387904 by omega),Option.bind_fun_some,cOk]
    cases btw ((C[i]?.getD (.int 0)).fld 0).toInt 1 999 with
    | false=>rfl
    | true=>
     cases btw ((C[i]?.getD (.int 0)).fld 1).toInt 1 4 with
     | false=>rfl
     | true=>
      by_cases h0:i=0
      ·subst h0; simp
      ·have h2:(0:Int)<i:=by omega
       have h3:((i - 1:Nat):Int)<C.length:=by omega
       simp only [pred_wrap (show i<4611686018427387904 by omega) (show 0<i by omega),h2,h3,h0,Int.natCast_nonneg,and_self,if_true,Int.toNat_natCast,decide_true,decide_false,cond_true,cond_false,Bool.not_true,Bool.true_and,Bool.false_or]
       by_cases h4:((C[i]?.getD (.int 0)).fld 0).toInt≤((C[i - 1]?.getD (.int 0)).fld 0).toInt
       ·have:¬ ((C[i - 1]?.getD (.int 0)).fld 0).toInt<((C[i]?.getD (.int 0)).fld 0).toInt:=by omega
        simp [h4,this]
       ·have:((C[i - 1]?.getD (.int 0)).fld 0).toInt<((C[i]?.getD (.int 0)).fld 0).toInt:=by omega
        simp [h4,this])
    (by
     show Z34 C C.length C.length C R=_
     rw [Z34_fx]; unfold c_Z34; simp)
   have h1':Z34 C C.length 0 C R=_:=h1
   have h2:=fxAll (F:=fun i=>Z44 R R.length i C R) (len:=R.length) (rOk C R) (.inl false) (fin:=.inr ()) (fun i hi=>by
    show Z44 R R.length i C R=_
    rw [Z44_fx]
    unfold c_Z44
    have h1:(i:Int)<R.length:=by omega
    simp only [h1,decide_true,cond_true,Int.natCast_nonneg,and_self,if_true,Int.toNat_natCast,List.getD_eq_getElem?_getD,indexOf_eq C R _ (show C.length≤100000 by omega),Option.bind_some,succ_wrap (show i<4611686018427387904 by omega),Option.bind_fun_some,rOk]
    by_cases e1:((R[i]?.getD (.int 0)).fld 0).toInt=((R[i]?.getD (.int 0)).fld 1).toInt
    ·simp [e1]
    ·by_cases e2:find2 C ((R[i]?.getD (.int 0)).fld 0).toInt<0
     ·have:¬ 0≤find2 C ((R[i]?.getD (.int 0)).fld 0).toInt:=by omega
      simp [e1,e2,this]
     ·have e2':0≤find2 C ((R[i]?.getD (.int 0)).fld 0).toInt:=by omega
      by_cases e3:find2 C ((R[i]?.getD (.int 0)).fld 1).toInt<0
      ·have:¬ 0≤find2 C ((R[i]?.getD (.int 0)).fld 1).toInt:=by omega
       simp [e1,e2,e2',e3,this]
      ·have e3':0≤find2 C ((R[i]?.getD (.int 0)).fld 1).toInt:=by omega
       by_cases h0:i=0
       ·subst h0; simp [e1,e2,e2',e3,e3']
       ·have h2:(0:Int)<i:=by omega
        have h3:((i - 1:Nat):Int)<R.length:=by omega
        obtain ⟨v,v1,v2⟩:=cmpRel_eq ((R[i - 1]?.getD (.int 0)).fld 0).toInt ((R[i - 1]?.getD (.int 0)).fld 1).toInt ((R[i]?.getD (.int 0)).fld 0).toInt ((R[i]?.getD (.int 0)).fld 1).toInt
        simp only [pred_wrap (show i<4611686018427387904 by omega) (show 0<i by omega),e1,e2,e2',e3,e3',h2,h3,h0,v1,v2,Option.bind_some,Int.natCast_nonneg,and_self,if_true,Int.toNat_natCast,decide_true,decide_false,cond_true,cond_false,Bool.not_true,Bool.not_false,Bool.true_and,Bool.false_or]
        cases lexB ((R[i - 1]?.getD (.int 0)).fld 0).toInt ((R[i - 1]?.getD (.int 0)).fld 1).toInt ((R[i]?.getD (.int 0)).fld 0).toInt ((R[i]?.getD (.int 0)).fld 1).toInt <;> rfl)
    (by
     show Z44 R R.length R.length C R=_
     rw [Z44_fx]; unfold c_Z44; simp)
   have h2':Z44 R R.length 0 C R=_:=h2
   simp only [hC',hR',hC,hR,decide_true,decide_false,cond_false,Bool.true_and,h1',Option.bind_some]
   cases allN (cOk C) C.length with
   | false=>rfl
   | true=>
    simp only [cond_true,Sum.elim_inr,h2',Option.bind_some,Bool.true_and]
    cases allN (rOk C R) R.length <;> rfl
  ·have hR':(24:Int)<R.length:=by omega
   simp only [hC',hR',hR,decide_true,decide_false,cond_true,cond_false,Bool.false_and,Bool.and_false]
 ·have hC':(10:Int)<C.length:=by omega
  simp only [hC',hC,decide_true,decide_false,cond_true,Bool.false_and]
theorem ctxsL_tot (c:List D) (hc:okC c):∀ (k:Nat) (n i num p s:Int) (acc:List D),(n - i).toNat=k→0≤i→i≤n→n≤10→0≤p→p + 4 * k≤1099511627000→(acc.length:Int)=i →
  ∃ y,Z4 n num i c p s acc=some y∧(y.1=c∧p≤y.2.1∧y.2.1≤p + 4 * k∧(y.2.2.2.length:Int)=n):=by
 intro k
 induction k with
 | zero=>
  intro n i num p s acc hk h0 h1 h2 h3 h4 h5
  refine Tt.out ?_
  rw [Z4_fx]
  unfold c_Z4
  refine Tt.dec (fun hn=>by exfalso; omega) (fun _=>Tt.pure ⟨rfl,by simp only; omega,by simp only; omega,by simp only; omega⟩)
 | succ k ih=>
  intro n i num p s acc hk h0 h1 h2 h3 h4 h5
  refine Tt.out ?_
  rw [Z4_fx]
  unfold c_Z4
  refine Tt.dec (fun hn=>?_) (fun hn=>by exfalso; omega)
  (refine Tt.bind (Tt.con (pick_tot' _ hc _ _ _ (by omega) (by omega))) ?_; rintro ⟨v,c',p',s'⟩ ⟨hv,rfl,hp1,hp2⟩; dsimp only at hv hp1 hp2 ⊢)
  (refine Tt.bind (Tt.con (pick_tot' _ hc _ _ _ (by omega) (by omega))) ?_; rintro ⟨v,c',p',s'⟩ ⟨hv,rfl,hp1,hp2⟩; dsimp only at hv hp1 hp2 ⊢)
  refine Tt.ite (by simp only [List.length_cons,List.length_nil]; omega) ?_
  rw [wrap_id (n:=i + 1) (by omega) (by omega)]
  refine Tt.bind (Tt.con (ih n (i + 1) _ _ _ _ (by omega) (by omega) (by omega) (by omega) (by omega) (by omega) (by simp only [List.length_append,List.length_cons,List.length_nil]; omega))) ?_
  rintro ⟨c2,p2,s2,l2⟩ ⟨e1,e2,e3,e4⟩
  simp only at e1 e2 e3 e4
  exact Tt.pure ⟨e1,by simp only; omega,by simp only; omega,by simp only; omega⟩
theorem ctxs_tot (c:List D) (hc:okC c) (p s n:Int) (hn:0≤n∧n≤10) (hp:0≤p∧p≤1099511620000):∃ y,Z5 c p s n=some y∧(y.2.1=c∧p≤y.2.2.1∧y.2.2.1≤p + 40∧(y.1.length:Int)=n):=by
 refine Tt.out ?_
 unfold Z5 c_Z5
 refine Tt.bind (Tt.con (ctxsL_tot c hc _ n 0 0 p s [] rfl (by omega) (by omega) (by omega) (by omega) (by omega) (by simp))) ?_
 rintro ⟨c2,p2,s2,l2⟩ ⟨e1,e2,e3,e4⟩
 simp only at e1 e2 e3 e4
 exact Tt.pure ⟨e1,by simp only; omega,by simp only; omega,by simp only; omega⟩
theorem linkL2_tot (C R:List D) (u v:Int) (hR:R.length≤100000):∀ (m i:Nat),i + m=R.length →
  ∃ y,Z10 i C R u v=some y∧(0≤y.1∧y.1≤R.length∧y.2.1=C∧y.2.2.1=R∧y.2.2.2.1=u∧y.2.2.2.2=v):=by
 intro m
 induction m with
 | zero=>
  intro i hi
  refine Tt.out ?_
  rw [Z10_fx]
  unfold c_Z10
  refine Tt.dec (fun hn=>by exfalso; omega) (fun _=>Tt.pure ⟨by simp only; omega,by simp only; omega,rfl,rfl,rfl,rfl⟩)
 | succ m ih=>
  intro i hi
  refine Tt.out ?_
  rw [Z10_fx]
  unfold c_Z10
  refine Tt.dec (fun hn=>?_) (fun hn=>by exfalso; omega)
  refine Tt.ite (by omega) ?_
  rw [before_eq,succ_wrap (show i<4611686018427387904 by omega)]
  refine Tt.bind (Q:=fun _=>True) (Tt.con ⟨_,rfl,trivial⟩) ?_
  rintro b -
  refine Tt.cnd (fun _=>?_) (fun _=>?_)
  ·refine Tt.bind (Tt.con (ih (i + 1) (by omega))) ?_
   intro y hy
   exact Tt.pure hy
  ·exact Tt.pure ⟨by simp only; omega,by simp only; omega,rfl,rfl,rfl,rfl⟩
theorem own2_eq (C R:List D) (hC:C.length≤100000) (hR:R.length≤100000):Z8 C R=some (C,R):=by
 unfold Z8 c_Z8
 rw [if_pos (by simp; omega),if_pos (by simp; omega)]
 rfl
theorem link_tot (C R:List D) (u v:Int) (hC:C.length≤100000) (hR:R.length≤99999):∃ y,Z11 C R u v=some y∧(y.1=C∧R.length≤y.2.length∧y.2.length≤R.length + 1):=by
 refine Tt.out ?_
 unfold Z11 c_Z11
 refine Tt.bind (Tt.con (linkL2_tot C R u v (by omega) R.length 0 (by omega))) ?_
 rintro ⟨i,C',R',u',v'⟩ ⟨h1,h2,e1,e2,e3,e4⟩
 dsimp only at h1 h2 e1 e2 e3 e4 ⊢
 subst e1 e2 e3 e4
 rw [own2_eq _ _ hC (by omega)]
 refine Tt.bind (Q:=fun y=>y=(C',R')) (Tt.con ⟨_,rfl,rfl⟩) ?_
 rintro y rfl
 dsimp only
 have app:Tt (fun _:Unit=>True) (fun y:List D × List D=>y.1=C'∧R'.length≤y.2.length∧y.2.length≤R'.length + 1) (fun _=>some (C',[] ++ List.take (i.toNat - 0) (List.drop 0 R') ++ [D.node [D.int u',D.int v']] ++ List.take (R'.length - i.toNat) (List.drop i.toNat R'))):=by
  refine Tt.pure ⟨rfl,?_,?_⟩
  ·simp only [List.nil_append,List.length_append,List.length_take,List.length_drop,List.length_cons,List.length_nil]; omega
  ·simp only [List.nil_append,List.length_append,List.length_take,List.length_drop,List.length_cons,List.length_nil]; omega
 refine Tt.dec (fun hn=>?_) (fun hn=>?_)
 ·refine Tt.ite (by omega) ?_
  refine Tt.cnd (fun _=>?_) (fun _=>?_)
  ·exact Tt.pure ⟨rfl,by simp only; omega,by simp only; omega⟩
  ·refine Tt.ite (by omega) ?_
   refine Tt.ite (by simp only [List.length_take,List.length_drop,List.length_nil]; omega) ?_
   refine Tt.ite (by simp only [List.nil_append,List.length_take,List.length_drop,List.length_cons,List.length_nil]; omega) ?_
   refine Tt.ite (by omega) ?_
   refine Tt.ite (by simp only [List.nil_append,List.length_append,List.length_take,List.length_drop,List.length_cons,List.length_nil]; omega) ?_
   exact app
 ·refine Tt.ite (by omega) ?_
  refine Tt.ite (by simp only [List.length_take,List.length_drop,List.length_nil]; omega) ?_
  refine Tt.ite (by simp only [List.nil_append,List.length_take,List.length_drop,List.length_cons,List.length_nil]; omega) ?_
  refine Tt.ite (by omega) ?_
  refine Tt.ite (by simp only [List.nil_append,List.length_append,List.length_take,List.length_drop,List.length_cons,List.length_nil]; omega) ?_
  exact app
theorem link0_tot (C:List D) (u v:Int) (hC:C.length≤100000):∃ y,Z9 C u v=some y∧(y.1=C∧y.2.length≤1):=by
 have h0:Z7 0 C [] u v=some (0,C,[],u,v):=by
  rw [Z7_fx]
  unfold c_Z7
  simp
 refine ⟨(C,[D.node [D.int u,D.int v]]),?_,rfl,by simp⟩
 unfold Z9 c_Z9
 simp only [h0,Option.bind_some,own2_eq C [] hC (by simp)]
 simp
def recI (c:List D) (p q:Int) (a b:Nat) (y:List D × List D × List D × Int × Int):Prop:=y.2.2.1=c∧p≤y.2.2.2.1∧y.2.2.2.1≤q∧y.1.length≤a∧y.2.1.length≤b
theorem recL2_tot (c:List D) (hc:okC c):∀ (k:Nat) (n m p s:Int) (C R:List D),m.toNat=k→n=C.length→C.length≤100→R.length + k≤1000→0≤p→p + 6 * k≤1099511627000 →
  ∃ y,Z12 n m c p s C R=some y∧(y.1=c∧p≤y.2.1∧y.2.1≤p + 6 * k∧y.2.2.2.1.length=C.length∧y.2.2.2.2.length≤R.length + k):=by
 intro k
 induction k with
 | zero=>
  intro n m p s C R hm hn hC hR h0 h1
  refine Tt.out ?_
  rw [Z12_fx]
  unfold c_Z12
  refine Tt.dec (fun hn=>by exfalso; omega) (fun _=>Tt.pure ⟨rfl,by simp only; omega,by simp only; omega,rfl,by simp only; omega⟩)
 | succ k ih=>
  intro n m p s C R hm hn hC hR h0 h1
  refine Tt.out ?_
  rw [Z12_fx]
  unfold c_Z12
  refine Tt.dec (fun hm0=>?_) (fun hm0=>by exfalso; omega)
  have go:∀ (p' s':Int) (R':List D),p≤p'→p'≤p + 6→R'.length≤R.length + 1→Tt (fun _:Unit=>True) (fun y:List D × Int × Int × List D × List D=>y.1=c∧p≤y.2.1∧y.2.1≤p + 6 * ((k + 1:Nat):Int)∧y.2.2.2.1.length=C.length∧y.2.2.2.2.length≤R.length + (k + 1)) (fun _=>(Z12 n (IntKind.i64.wrap (m - 1)) c p' s' C R').bind some):=by
   intro p' s' R' g1 g2 g3
   rw [wrap_id (n:=m - 1) (by omega) (by omega)]
   refine Tt.bind (Tt.con (ih n (m - 1) p' s' C R' (by omega) hn hC (by omega) (by omega) (by omega))) ?_
   rintro ⟨c2,p2,s2,C2,R2⟩ ⟨e1,e2,e3,e4,e5⟩
   simp only at e1 e2 e3 e4 e5
   exact Tt.pure ⟨e1,by simp only; omega,by simp only; omega,e4,by simp only; omega⟩
  refine Tt.dec (fun hn1=>?_) (fun _=>Tt.pure ⟨rfl,by simp only; omega,by simp only; omega,rfl,by simp only; omega⟩)
  refine Tt.bind (Tt.con (pick_tot' _ hc _ _ _ (by omega) (by omega))) ?_
  rintro ⟨i,c1,p1,s1⟩ ⟨hi,e1,hp1,hp2⟩
  dsimp only at hi e1 hp1 hp2 ⊢
  rw [e1]
  refine Tt.bind (Tt.con (pick_tot' _ hc _ _ _ (by omega) (by omega))) ?_
  rintro ⟨j,c2,p2,s2⟩ ⟨hj,e2,hp3,hp4⟩
  dsimp only at hj e2 hp3 hp4 ⊢
  rw [e2]
  have link:∀ (a b p' s':Int),0≤a→a<n→0≤b→b<n→p≤p'→p'≤p + 6→Tt (fun _:Unit=>True) (fun y:List D × Int × Int × List D × List D=>y.1=c∧p≤y.2.1∧y.2.1≤p + 6 * ((k + 1:Nat):Int)∧y.2.2.2.1.length=C.length∧y.2.2.2.2.length≤R.length + (k + 1))
    (fun _=>(Z11 C R a b).bind (fun z=>(Z12 n (IntKind.i64.wrap (m - 1)) c p' s' z.1 z.2).bind some))→True:=fun _ _ _ _ _ _ _ _ _ _ _=>trivial
  have linkT:∀ (u v p' s':Int),p≤p'→p'≤p + 6→Tt (fun _:Unit=>True) (fun y:List D × Int × Int × List D × List D=>y.1=c∧p≤y.2.1∧y.2.1≤p + 6 * ((k + 1:Nat):Int)∧y.2.2.2.1.length=C.length∧y.2.2.2.2.length≤R.length + (k + 1))
    (fun _=>(Z11 C R u v).bind (fun z=>(Z12 n (IntKind.i64.wrap (m - 1)) c p' s' z.1 z.2).bind some)):=by
   intro u v p' s' g1 g2
   refine Tt.bind (Tt.con (link_tot C R u v (by omega) (by omega))) ?_
   rintro ⟨C3,R3⟩ ⟨rfl,q1,q2⟩
   dsimp only at q1 q2 ⊢
   exact go p' s' R3 g1 g2 q2
  refine Tt.dec (fun _=>?_) (fun _=>?_)
  ·refine Tt.bind (Tt.con (one_tot' _ hc _ _ _ (by omega) (by omega))) ?_
   rintro ⟨w,c3,p3,s3⟩ ⟨_,e3,hp5,hp6⟩
   dsimp only at e3 hp5 hp6 ⊢
   rw [e3]
   refine Tt.cnd (fun _=>?_) (fun _=>?_)
   ·refine Tt.ndec (fun _=>?_) (fun _=>go _ _ R (by omega) (by omega) (by omega))
    repeat refine Tt.ite (by omega) ?_
    exact linkT _ _ _ _ (by omega) (by omega)
   ·refine Tt.ndec (fun _=>?_) (fun _=>go _ _ R (by omega) (by omega) (by omega))
    repeat refine Tt.ite (by omega) ?_
    exact linkT _ _ _ _ (by omega) (by omega)
  ·refine Tt.ndec (fun _=>?_) (fun _=>go _ _ R (by omega) (by omega) (by omega))
   repeat refine Tt.ite (by omega) ?_
   exact linkT _ _ _ _ (by omega) (by omega)
theorem recL_tot (c:List D) (hc:okC c):∀ (k:Nat) (n m p s:Int) (C:List D),m.toNat=k→n=C.length→C.length≤100→k≤100→0≤p→p + 6 * k≤1099511627000 →
  ∃ y,Z13 n m c p s C=some y∧(match y with
   | .inl y=>y.1=c∧p≤y.2.1∧y.2.1≤p + 6 * k∧y.2.2.2.1.length=C.length∧y.2.2.2.2.length≤k
   | .inr y=>y.1=c∧p≤y.2.1∧y.2.1≤p + 6 * k∧y.2.2.2.length=C.length):=by
 intro k
 induction k with
 | zero=>
  intro n m p s C hm hn hC hR h0 h1
  refine Tt.out ?_
  rw [Z13_fx]
  unfold c_Z13
  refine Tt.dec (fun hn=>by exfalso; omega) (fun _=>Tt.pure ⟨rfl,by simp only; omega,by simp only; omega,rfl⟩)
 | succ k ih=>
  intro n m p s C hm hn hC hR h0 h1
  refine Tt.out ?_
  rw [Z13_fx]
  unfold c_Z13
  refine Tt.dec (fun hm0=>?_) (fun hm0=>by exfalso; omega)
  let PP':(List D × Int × Int × List D × List D) ⊕ (List D × Int × Int × List D)→Prop:=fun y=>match y with
   | .inl y=>y.1=c∧p≤y.2.1∧y.2.1≤p + 6 * ((k + 1:Nat):Int)∧y.2.2.2.1.length=C.length∧y.2.2.2.2.length≤k + 1
   | .inr y=>y.1=c∧p≤y.2.1∧y.2.1≤p + 6 * ((k + 1:Nat):Int)∧y.2.2.2.length=C.length
  have go:∀ (p' s':Int),p≤p'→p'≤p + 6→Tt (fun _:Unit=>True) PP' (fun _=>(Z13 n (IntKind.i64.wrap (m - 1)) c p' s' C).bind some):=by
   intro p' s' g1 g2
   rw [wrap_id (n:=m - 1) (by omega) (by omega)]
   refine Tt.bind (Tt.con (ih n (m - 1) p' s' C (by omega) hn hC (by omega) (by omega) (by omega))) ?_
   rintro (⟨c2,p2,s2,C2,R2⟩ | ⟨c2,p2,s2,C2⟩) h
   ·obtain ⟨e1,e2,e3,e4,e5⟩:=h
    simp only at e1 e2 e3 e4 e5
    exact Tt.pure ⟨e1,by simp only; omega,by simp only; omega,e4,by simp only; omega⟩
   ·obtain ⟨e1,e2,e3,e4⟩:=h
    simp only at e1 e2 e3 e4
    exact Tt.pure ⟨e1,by simp only; omega,by simp only; omega,e4⟩
  refine Tt.dec (fun hn1=>?_) (fun _=>Tt.pure ⟨rfl,by simp only; omega,by simp only; omega,rfl⟩)
  refine Tt.bind (Tt.con (pick_tot' _ hc _ _ _ (by omega) (by omega))) ?_
  rintro ⟨i,c1,p1,s1⟩ ⟨hi,e1,hp1,hp2⟩
  dsimp only at hi e1 hp1 hp2 ⊢
  rw [e1]
  refine Tt.bind (Tt.con (pick_tot' _ hc _ _ _ (by omega) (by omega))) ?_
  rintro ⟨j,c2,p2,s2⟩ ⟨hj,e2,hp3,hp4⟩
  dsimp only at hj e2 hp3 hp4 ⊢
  rw [e2]
  have linkT:∀ (u v p' s':Int),p≤p'→p'≤p + 6→Tt (fun _:Unit=>True) PP'
    (fun _=>(Z9 C u v).bind (fun z=>(Z12 n (IntKind.i64.wrap (m - 1)) c p' s' z.1 z.2).bind (fun w=>some (.inl (w.1,w.2.1,w.2.2.1,w.2.2.2.1,w.2.2.2.2))))):=by
   intro u v p' s' g1 g2
   refine Tt.bind (Tt.con (link0_tot C u v (by omega))) ?_
   rintro ⟨C3,R3⟩ ⟨rfl,q1⟩
   dsimp only at q1 ⊢
   rw [wrap_id (n:=m - 1) (by omega) (by omega)]
   refine Tt.bind (Tt.con (recL2_tot c hc k n (m - 1) p' s' C3 R3 (by omega) hn hC (by omega) (by omega) (by omega))) ?_
   rintro ⟨c2,p2,s2,C2,R2⟩ ⟨e1,e2,e3,e4,e5⟩
   simp only at e1 e2 e3 e4 e5
   exact Tt.pure ⟨e1,by simp only; omega,by simp only; omega,e4,by simp only; omega⟩
  refine Tt.dec (fun _=>?_) (fun _=>?_)
  ·refine Tt.bind (Tt.con (one_tot' _ hc _ _ _ (by omega) (by omega))) ?_
   rintro ⟨w,c3,p3,s3⟩ ⟨_,e3,hp5,hp6⟩
   dsimp only at e3 hp5 hp6 ⊢
   rw [e3]
   refine Tt.cnd (fun _=>?_) (fun _=>?_)
   ·refine Tt.ndec (fun _=>?_) (fun _=>go _ _ (by omega) (by omega))
    repeat refine Tt.ite (by omega) ?_
    exact linkT _ _ _ _ (by omega) (by omega)
   ·refine Tt.ndec (fun _=>?_) (fun _=>go _ _ (by omega) (by omega))
    repeat refine Tt.ite (by omega) ?_
    exact linkT _ _ _ _ (by omega) (by omega)
  ·refine Tt.ndec (fun _=>?_) (fun _=>go _ _ (by omega) (by omega))
   repeat refine Tt.ite (by omega) ?_
   exact linkT _ _ _ _ (by omega) (by omega)
theorem record_tot (c:List D) (hc:okC c) (p s:Int) (hp:0≤p∧p≤1099511619000):∃ y,Z14 c p s=some y∧recI c p (p + 200) 10 20 y:=by
 refine Tt.out ?_
 unfold Z14 c_Z14
 (refine Tt.bind (Tt.con (pick_tot' _ hc _ _ _ (by omega) (by omega))) ?_; rintro ⟨v,c',p',s'⟩ ⟨hv,rfl,hp1,hp2⟩; dsimp only at hv hp1 hp2 ⊢)
 refine Tt.bind (Tt.con (ctxs_tot _ hc _ _ _ (by omega) (by omega))) ?_
 rintro ⟨C,c2,p2,s2⟩ ⟨rfl,e2,e3,e4⟩
 dsimp only at e2 e3 e4 ⊢
 (refine Tt.bind (Tt.con (pick_tot' _ hc _ _ _ (by omega) (by omega))) ?_; rintro ⟨v,c',p',s'⟩ ⟨hv,rfl,hp1,hp2⟩; dsimp only at hv hp1 hp2 ⊢)
 refine Tt.bind (Tt.con (recL_tot _ hc _ _ _ _ _ C rfl rfl (by omega) (by omega) (by omega) (by omega))) ?_
 rintro (⟨c5,p5,s5,C5,R5⟩ | ⟨c5,p5,s5,C5⟩) h
 ·obtain ⟨g1,g2,g3,g4,g5⟩:=h
  simp only at g1 g2 g3 g4 g5
  exact Tt.pure ⟨g1,by simp only; omega,by simp only; omega,by simp only; omega,by simp only; omega⟩
 ·obtain ⟨g1,g2,g3,g4⟩:=h
  simp only at g1 g2 g3 g4
  exact Tt.pure ⟨g1,by simp only; omega,by simp only; omega,by simp only; omega,by simp only [List.length_nil]; omega⟩
theorem anyL17v_tot (c:List D) (hc:okC c):∀ (k:Nat) (n p s:Int) (R C:List D),(12 - n).toNat=k→0≤n→n≤12→C.length + k≤1000→0≤p→p + 2 * (k + 1)≤1099511627000 →
  ∃ y,Z16 n c p s R C=some y∧(y.1=c∧p≤y.2.1∧y.2.1≤p + 2 * (k + 1)∧y.2.2.2.1=R∧y.2.2.2.2.length≤C.length + k):=by
 intro k
 induction k with
 | zero=>
  intro n p s R C hk h0 h1 h2 h3 h4
  refine Tt.out ?_
  rw [Z16_fx]
  unfold c_Z16
  (refine Tt.bind (Tt.con (pick_tot' _ hc _ _ _ (by omega) (by omega))) ?_; rintro ⟨v,c',p',s'⟩ ⟨hv,rfl,hp1,hp2⟩; dsimp only at hv hp1 hp2 ⊢)
  refine Tt.dec (fun _=>?_) (fun _=>Tt.pure ⟨rfl,by simp only; omega,by simp only; omega,rfl,by simp only; omega⟩)
  refine Tt.dec (fun _=>by exfalso; omega) (fun _=>Tt.pure ⟨rfl,by simp only; omega,by simp only; omega,rfl,by simp only; omega⟩)
 | succ k ih=>
  intro n p s R C hk h0 h1 h2 h3 h4
  refine Tt.out ?_
  rw [Z16_fx]
  unfold c_Z16
  (refine Tt.bind (Tt.con (pick_tot' _ hc _ _ _ (by omega) (by omega))) ?_; rintro ⟨v,c',p',s'⟩ ⟨hv,rfl,hp1,hp2⟩; dsimp only at hv hp1 hp2 ⊢)
  refine Tt.dec (fun _=>?_) (fun _=>Tt.pure ⟨rfl,by simp only; omega,by simp only; omega,rfl,by simp only; omega⟩)
  refine Tt.dec (fun _=>?_) (fun _=>Tt.pure ⟨rfl,by simp only; omega,by simp only; omega,rfl,by simp only; omega⟩)
  refine Tt.ite (by simp only [List.length_cons,List.length_nil]; omega) ?_
  rw [wrap_id (n:=n + 1) (by omega) (by omega)]
  refine Tt.bind (Tt.con (ih (n + 1) _ _ R _ (by omega) (by omega) (by omega) (by simp only [List.length_append,List.length_cons,List.length_nil]; omega) (by omega) (by omega))) ?_
  rintro ⟨c2,p2,s2,R2,C2⟩ ⟨e1,e2,e3,e4,e5⟩
  simp only [List.length_append,List.length_cons,List.length_nil] at e1 e2 e3 e4 e5
  exact Tt.pure ⟨e1,by simp only; omega,by simp only; omega,e4,by simp only; omega⟩
theorem anyL17_tot (c:List D) (hc:okC c) (p s:Int) (C R:List D) (hp:0≤p∧p≤1099511620000) (hC:C.length≤100):∃ y,Z17 0 c p s C R=some y∧(match y with
   | .inl y=>y.1=c∧p≤y.2.1∧y.2.1≤p + 100∧y.2.2.2.1=R∧y.2.2.2.2.length≤C.length + 12
   | .inr y=>y.1=c∧p≤y.2.1∧y.2.1≤p + 100∧y.2.2.2.1=C∧y.2.2.2.2=R):=by
 refine Tt.out ?_
 rw [Z17_fx]
 unfold c_Z17
 (refine Tt.bind (Tt.con (pick_tot' _ hc _ _ _ (by omega) (by omega))) ?_; rintro ⟨v,c',p',s'⟩ ⟨hv,rfl,hp1,hp2⟩; dsimp only at hv hp1 hp2 ⊢)
 refine Tt.dec (fun _=>?_) (fun _=>Tt.pure ⟨rfl,by simp only; omega,by simp only; omega,rfl,rfl⟩)
 refine Tt.dec (fun _=>?_) (fun _=>Tt.pure ⟨rfl,by simp only; omega,by simp only; omega,rfl,rfl⟩)
 refine Tt.ite (by simp only [List.length_cons,List.length_nil]; omega) ?_
 refine Tt.bind (Tt.con (anyL17v_tot _ hc 11 1 _ _ R _ (by decide) (by omega) (by omega) (by simp only [List.length_append,List.length_cons,List.length_nil]; omega) (by omega) (by omega))) ?_
 rintro ⟨c2,p2,s2,R2,C2⟩ ⟨e1,e2,e3,e4,e5⟩
 simp only [List.length_append,List.length_cons,List.length_nil] at e1 e2 e3 e4 e5
 exact Tt.pure ⟨e1,by simp only; omega,by simp only; omega,e4,by simp only; omega⟩
def rowN (r a b:Nat):Nat:=min 25 (r + (7 - b) - (if b≤a then 1 else 0))
theorem anyL28v_tot (c:List D) (p s:Int) (C:List D) (hC:C.length=7) (a:Nat) (ha:a<7):∀ (m b:Nat) (R:List D),b + m=7→R.length≤25 →
  ∃ R',Z18 a b c p s C R=some ((a:Int),c,p,s,C,R')∧R'.length=rowN R.length a b:=by
 intro m
 induction m with
 | zero=>
  intro b R hb hR
  refine ⟨R,?_,?_⟩
  ·rw [Z18_fx]
   unfold c_Z18
   have h1:¬ (b:Int)<7:=by omega
   simp only [h1,decide_false,cond_false]
  ·unfold rowN; split <;> omega
 | succ m ih=>
  intro b R hb hR
  rw [Z18_fx]
  unfold c_Z18
  have h1:(b:Int)<7:=by omega
  simp only [h1,decide_true,cond_true]
  by_cases h25:R.length<25
  ·have h2:(R.length:Int)<25:=by omega
   simp only [h2,decide_true,cond_true,succ_wrap (show b<4611686018427387904 by omega)]
   by_cases hab:a=b
   ·have h3:(a:Int)=(b:Int):=by omega
    simp only [h3,decide_true,Bool.not_true,cond_false]
    obtain ⟨R',e1,e2⟩:=ih (b + 1) R (by omega) hR
    rw [hab] at e1
    refine ⟨R',by rw [e1]; rfl,?_⟩
    rw [e2]
    unfold rowN
    rw [if_neg (by omega),if_pos (by omega)]
    omega
   ·have h3:¬ (a:Int)=(b:Int):=by omega
    have g1:(0:Int)≤(a:Int)∧(a:Int)<C.length:=by omega
    have g2:a + 1≤C.length:=by omega
    have g3:(0:Int)≤(b:Int)∧(b:Int)<C.length:=by omega
    have g4:b + 1≤C.length:=by omega
    have g5:R.length + [D.node [D.int ((C.getD a (.int 0)).fld 0).toInt,D.int ((C.getD b (.int 0)).fld 0).toInt]].length≤4294967296:=by
     simp only [List.length_cons,List.length_nil]; omega
    simp only [h3,decide_false,Bool.not_false,cond_true,if_pos g1,Int.toNat_natCast,if_pos g2,if_pos g3,if_pos g4,if_pos g5]
    obtain ⟨R',e1,e2⟩:=ih (b + 1) (R ++ [D.node [D.int ((C.getD a (.int 0)).fld 0).toInt,D.int ((C.getD b (.int 0)).fld 0).toInt]]) (by omega) (by simp; omega)
    refine ⟨R',by rw [e1]; rfl,?_⟩
    rw [e2]
    unfold rowN
    simp only [List.length_append,List.length_cons,List.length_nil]
    by_cases hle:b≤a
    ·rw [if_pos (by omega),if_pos hle]; omega
    ·rw [if_neg (by omega),if_neg hle]; omega
  ·have h2:¬ (R.length:Int)<25:=by omega
   simp only [h2,decide_false,cond_false]
   refine ⟨R,rfl,?_⟩
   unfold rowN
   split <;> omega
theorem anyL28_tot (c:List D) (p s:Int) (C:List D) (hC:C.length=7) (a:Nat) (ha:a<7):∀ (m b:Nat) (R:List D),b + m=7→R.length≤25 →
  ∃ R',(Z19 a b c p s C R=some (.inl ((a:Int),c,p,s,C,R')) ∨ Z19 a b c p s C R=some (.inr ((a:Int),c,p,s,C,R')))∧R'.length=rowN R.length a b:=by
 intro m
 induction m with
 | zero=>
  intro b R hb hR
  refine ⟨R,.inr ?_,?_⟩
  ·rw [Z19_fx]
   unfold c_Z19
   have h1:¬ (b:Int)<7:=by omega
   simp only [h1,decide_false,cond_false]
  ·unfold rowN; split <;> omega
 | succ m ih=>
  intro b R hb hR
  rw [Z19_fx]
  unfold c_Z19
  have h1:(b:Int)<7:=by omega
  simp only [h1,decide_true,cond_true]
  by_cases h25:R.length<25
  ·have h2:(R.length:Int)<25:=by omega
   simp only [h2,decide_true,cond_true,succ_wrap (show b<4611686018427387904 by omega)]
   by_cases hab:a=b
   ·have h3:(a:Int)=(b:Int):=by omega
    simp only [h3,decide_true,Bool.not_true,cond_false]
    obtain ⟨R',e1,e2⟩:=ih (b + 1) R (by omega) hR
    rw [hab] at e1
    refine ⟨R',by rcases e1 with e1 | e1 <;> rw [e1] <;> simp,?_⟩
    rw [e2]
    unfold rowN
    rw [if_neg (by omega),if_pos (by omega)]
    omega
   ·have h3:¬ (a:Int)=(b:Int):=by omega
    have g1:(0:Int)≤(a:Int)∧(a:Int)<C.length:=by omega
    have g2:a + 1≤C.length:=by omega
    have g3:(0:Int)≤(b:Int)∧(b:Int)<C.length:=by omega
    have g4:b + 1≤C.length:=by omega
    have g5:R.length + [D.node [D.int ((C.getD a (.int 0)).fld 0).toInt,D.int ((C.getD b (.int 0)).fld 0).toInt]].length≤4294967296:=by
     simp only [List.length_cons,List.length_nil]; omega
    simp only [h3,decide_false,Bool.not_false,cond_true,if_pos g1,Int.toNat_natCast,if_pos g2,if_pos g3,if_pos g4,if_pos g5]
    obtain ⟨R',e1,e2⟩:=anyL28v_tot c p s C hC a ha m (b + 1) (R ++ [D.node [D.int ((C.getD a (.int 0)).fld 0).toInt,D.int ((C.getD b (.int 0)).fld 0).toInt]]) (by omega) (by simp; omega)
    refine ⟨R',.inl (by rw [e1]; rfl),?_⟩
    rw [e2]
    unfold rowN
    simp only [List.length_append,List.length_cons,List.length_nil]
    by_cases hle:b≤a
    ·rw [if_pos (by omega),if_pos hle]; omega
    ·rw [if_neg (by omega),if_neg hle]; omega
  ·have h2:¬ (R.length:Int)<25:=by omega
   simp only [h2,decide_false,cond_false]
   refine ⟨R,.inr rfl,?_⟩
   unfold rowN
   split <;> omega
theorem rowN0 {r a:Nat}:rowN r a 0=min 25 (r + 6):=by unfold rowN; rw [if_pos (by omega)]; omega
theorem anyL25v_tot (c:List D) (p s:Int) (C:List D) (hC:C.length=7):∀ (m a:Nat) (R:List D),a + m=7→R.length≤25 →
  ∃ R',Z20 a c p s C R=some (c,p,s,C,R')∧R'.length=min 25 (R.length + 6 * m):=by
 intro m
 induction m with
 | zero=>
  intro a R ha hR
  refine ⟨R,?_,by omega⟩
  rw [Z20_fx]
  unfold c_Z20
  have h1:¬ (a:Int)<7:=by omega
  simp only [h1,decide_false,cond_false]
 | succ m ih=>
  intro a R ha hR
  obtain ⟨R1,e1,e2⟩:=anyL28v_tot c p s C hC a (by omega) 7 0 R (by omega) hR
  have e1':Z18 a 0 c p s C R=_:=e1
  rw [rowN0] at e2
  obtain ⟨R2,f1,f2⟩:=ih (a + 1) R1 (by omega) (by omega)
  refine ⟨R2,?_,by omega⟩
  rw [Z20_fx]
  unfold c_Z20
  have h1:(a:Int)<7:=by omega
  simp only [h1,decide_true,cond_true,e1',Option.bind_some,succ_wrap (show a<4611686018427387904 by omega),f1]
theorem anyL25_tot (c:List D) (p s:Int) (C:List D) (hC:C.length=7):∀ (m a:Nat) (R:List D),a + m=7→R.length≤25 →
  ∃ R',(Z21 a c p s C R=some (.inl (c,p,s,C,R')) ∨ Z21 a c p s C R=some (.inr (c,p,s,C,R')))∧R'.length=min 25 (R.length + 6 * m):=by
 intro m
 induction m with
 | zero=>
  intro a R ha hR
  refine ⟨R,.inr ?_,by omega⟩
  rw [Z21_fx]
  unfold c_Z21
  have h1:¬ (a:Int)<7:=by omega
  simp only [h1,decide_false,cond_false]
 | succ m ih=>
  intro a R ha hR
  obtain ⟨R1,e1,e2⟩:=anyL28_tot c p s C hC a (by omega) 7 0 R (by omega) hR
  rw [rowN0] at e2
  have h1:(a:Int)<7:=by omega
  rcases e1 with e1 | e1
  ·have e1':Z19 a 0 c p s C R=_:=e1
   obtain ⟨R2,f1,f2⟩:=anyL25v_tot c p s C hC m (a + 1) R1 (by omega) (by omega)
   refine ⟨R2,.inl ?_,by omega⟩
   rw [Z21_fx]
   unfold c_Z21
   simp only [h1,decide_true,cond_true,e1',Option.bind_some,Sum.elim_inl,succ_wrap (show a<4611686018427387904 by omega),f1]
  ·have e1':Z19 a 0 c p s C R=_:=e1
   obtain ⟨R2,f1,f2⟩:=ih (a + 1) R1 (by omega) (by omega)
   refine ⟨R2,?_,by omega⟩
   rw [Z21_fx]
   unfold c_Z21
   simp only [h1,decide_true,cond_true,e1',Option.bind_some,Sum.elim_inr,succ_wrap (show a<4611686018427387904 by omega)]
   rcases f1 with f1 | f1 <;> rw [f1] <;> simp
theorem any_tot (c:List D) (hc:okC c) (p s:Int) (hp:0≤p∧p≤1099511610000):∃ y,Z22 c p s=some y∧recI c p (p + 500) 100 100 y:=by
 refine Tt.out ?_
 unfold Z22 c_Z22
 refine Tt.bind (Tt.con (record_tot _ hc _ _ (by omega))) ?_
 rintro ⟨C,R,c1,p1,s1⟩ ⟨rfl,q1,q2,q3,q4⟩
 dsimp only at q1 q2 q3 q4 ⊢
 refine Tt.dec (fun _=>Tt.pure ⟨rfl,by simp only; omega,by simp only; omega,by simp only; omega,by simp only; omega⟩) (fun hne=>?_)
 refine Tt.bind (Tt.con (pick_tot' _ hc _ _ _ (by omega) (by omega))) ?_
 rintro ⟨i,c2,p2,s2⟩ ⟨hi,rfl,hp1,hp2⟩
 dsimp only at hi hp1 hp2 ⊢
 refine Tt.ite (by omega) ?_
 refine Tt.ite (by omega) ?_
 refine Tt.bind (Tt.con (pick_tot' _ hc _ _ _ (by omega) (by omega))) ?_
 rintro ⟨w,c3,p3,s3⟩ ⟨hw,rfl,hp3,hp4⟩
 dsimp only at hw hp3 hp4 ⊢
 refine Tt.dec (fun _=>?_) (fun _=>?_)
 ·(refine Tt.bind (Tt.con (among_tot _ hc _ _ _ (by omega) (by simp))) ?_; rintro ⟨v,c',p',s'⟩ ⟨hv,rfl,hp1,hp2⟩; dsimp only at hv hp1 hp2 ⊢)
  refine Tt.ite (by omega) ?_
  refine Tt.ite (by omega) ?_
  exact Tt.pure ⟨rfl,by simp only; omega,by simp only; omega,by simp only [List.length_set]; omega,by simp only; omega⟩
 ·refine Tt.dec (fun _=>?_) (fun _=>?_)
  ·(refine Tt.bind (Tt.con (pick_tot' _ hc _ _ _ (by omega) (by omega))) ?_; rintro ⟨v,c',p',s'⟩ ⟨hv,rfl,hp1,hp2⟩; dsimp only at hv hp1 hp2 ⊢)
   refine Tt.ite (by omega) ?_
   refine Tt.ite (by omega) ?_
   exact Tt.pure ⟨rfl,by simp only; omega,by simp only; omega,by simp only [List.length_set]; omega,by simp only; omega⟩
  ·refine Tt.dec (fun _=>?_) (fun _=>?_)
   ·refine Tt.ite (by simp only [List.length_cons,List.length_nil]; omega) ?_
    refine Tt.ite (by omega) ?_
    refine Tt.ite (by omega) ?_
    exact Tt.pure ⟨rfl,by simp only; omega,by simp only; omega,by simp only [List.length_set]; omega,by simp only [List.length_append,List.length_cons,List.length_nil]; omega⟩
   ·refine Tt.dec (fun _=>?_) (fun _=>?_)
    ·(refine Tt.bind (Tt.con (pick_tot' _ hc _ _ _ (by omega) (by omega))) ?_; rintro ⟨v,c',p',s'⟩ ⟨hv,rfl,hp1,hp2⟩; dsimp only at hv hp1 hp2 ⊢)
     (refine Tt.bind (Tt.con (pick_tot' _ hc _ _ _ (by omega) (by omega))) ?_; rintro ⟨v,c',p',s'⟩ ⟨hv,rfl,hp1,hp2⟩; dsimp only at hv hp1 hp2 ⊢)
     refine Tt.ite (by simp only [List.length_cons,List.length_nil]; omega) ?_
     refine Tt.ite (by omega) ?_
     refine Tt.ite (by omega) ?_
     exact Tt.pure ⟨rfl,by simp only; omega,by simp only; omega,by simp only [List.length_set]; omega,by simp only [List.length_append,List.length_cons,List.length_nil]; omega⟩
    ·refine Tt.dec (fun _=>?_) (fun _=>?_)
     ·refine Tt.bind (Tt.con (anyL17_tot _ hc _ _ C R (by omega) (by omega))) ?_
      rintro (⟨c5,p5,s5,R5,C5⟩ | ⟨c5,p5,s5,C5,R5⟩) h
      ·obtain ⟨g1,g2,g3,g4,g5⟩:=h
       simp only at g1 g2 g3 g4 g5
       exact Tt.pure ⟨g1,by simp only; omega,by simp only; omega,by simp only; omega,by simp only [g4]; omega⟩
      ·obtain ⟨g1,g2,g3,g4,g5⟩:=h
       simp only at g1 g2 g3 g4 g5
       exact Tt.pure ⟨g1,by simp only; omega,by simp only; omega,by simp only [g4]; omega,by simp only [g5]; omega⟩
     ·refine Tt.dec (fun _=>?_) (fun _=>?_)
      ·refine Tt.bind (Tt.con (ctxs_tot _ hc _ _ _ (by omega) (by omega))) ?_
       rintro ⟨C6,c6,p6,s6⟩ ⟨rfl,e2,e3,e4⟩
       dsimp only at e2 e3 e4 ⊢
       obtain ⟨R7,f1,f2⟩:=anyL25_tot c6 p6 s6 C6 (by omega) 7 0 [] (by omega) (by simp)
       simp only [List.length_nil] at f2
       have fin:Tt (fun _:Unit=>True) (recI c6 p (p + 500) 100 100) (fun _=>(Z2 c6 p6 s6 2).bind (fun y11=>if (0:Int)≤0∧0≤IntKind.i64.wrap (24 + y11.1)∧IntKind.i64.wrap (24 + y11.1)≤R7.length then (if 0 + ((IntKind.i64.wrap (24 + y11.1)).toNat - 0)≤R7.length then some (C6,List.take ((IntKind.i64.wrap (24 + y11.1)).toNat - 0) (List.drop 0 R7),y11.2.1,y11.2.2.1,y11.2.2.2) else none) else none)):=by
        refine Tt.bind (Tt.con (pick_tot' _ hc _ _ _ (by omega) (by omega))) ?_
        rintro ⟨x,c8,p8,s8⟩ ⟨hx,rfl,r1,r2⟩
        dsimp only at hx r1 r2 ⊢
        rw [wrap_id (n:=24 + x) (by omega) (by omega)]
        refine Tt.ite (by omega) ?_
        refine Tt.ite (by omega) ?_
        exact Tt.pure ⟨rfl,by simp only; omega,by simp only; omega,by simp only; omega,by simp only [List.length_take,List.length_drop]; omega⟩
       rcases f1 with f1 | f1
       ·have f1':Z21 0 c6 p6 s6 C6 []=_:=f1
        rw [f1']
        exact fin
       ·have f1':Z21 0 c6 p6 s6 C6 []=_:=f1
        rw [f1']
        exact fin
      ·refine Tt.ite (by omega) ?_
       refine Tt.ite (by omega) ?_
       exact Tt.pure ⟨rfl,by simp only; omega,by simp only; omega,by simp only [List.length_set]; omega,by simp only; omega⟩
def at2 (M:List D) (i k:Nat):Bool:=((M.getD i (.int 0)).items.getD k (.int 0)).toBool
def set2 (M:List D) (i k:Nat) (b:Bool):List D:=M.set i (.node ((M.getD i (.int 0)).items.set k (.bool b)))
structure Sq (n:Nat) (M:List D):Prop where
 len:M.length=n
 row:∀ i,i<n→(M.getD i (.int 0)).items.length=n
theorem getD_set {l:List D} {i j:Nat} {x:D} (h:i<l.length):(l.set i x).getD j (.int 0)=if i=j then x else l.getD j (.int 0):=by
 rw [List.getD_eq_getElem?_getD,List.getD_eq_getElem?_getD,List.getElem?_set]
 by_cases e:i=j
 ·subst e; simp [h]
 ·simp [e]
theorem Sq.set {n:Nat} {M:List D} (h:Sq n M) {i k:Nat} (hi:i<n) (b:Bool):Sq n (set2 M i k b):=by
 refine ⟨by simp [set2,h.len],fun j hj=>?_⟩
 unfold set2
 rw [getD_set (by rw [h.len]; exact hi)]
 split
 ·simp only [items_node,List.length_set]; exact h.row i hi
 ·exact h.row j hj
theorem at2_set {n:Nat} {M:List D} (h:Sq n M) {i k a c:Nat} (hi:i<n) (hk:k<n) (b:Bool):at2 (set2 M i k b) a c=if a=i∧c=k then b else at2 M a c:=by
 unfold at2 set2
 rw [getD_set (by rw [h.len]; exact hi)]
 by_cases e:i=a
 ·subst e
  rw [if_pos rfl]
  simp only [items_node]
  rw [getD_set (by rw [h.row i hi]; exact hk)]
  by_cases e2:k=c
  ·subst e2; simp [toBool_bool]
  ·have:¬ c=k:=fun e=>e2 e.symm
   simp [e2,this]
 ·have:¬ a=i:=fun e'=>e e'.symm
  rw [if_neg e]
  simp [this]
theorem at2_lt {n:Nat} {M:List D} (h:Sq n M) {a c:Nat} (hv:at2 M a c=true):a<n∧c<n:=by
 unfold at2 at hv
 by_cases ha:a<n
 ·refine ⟨ha,?_⟩
  by_cases hc:c<n
  ·exact hc
  ·rw [List.getD_eq_getElem?_getD (l:=(M.getD a (.int 0)).items),List.getElem?_eq_none (by rw [h.row a ha]; omega)] at hv
   cases hv
 ·rw [List.getD_eq_getElem?_getD (l:=M),List.getElem?_eq_none (by rw [h.len]; omega)] at hv
  simp [D.items] at hv
  cases hv
structure Clo (n:Nat) (M M':List D):Prop where
 sq:Sq n M'
 mono:∀ a b,at2 M a b=true→at2 M' a b=true
 sound:∀ T:Nat→Nat→Prop,(∀ a b c,T a b→T b c→T a c)→(∀ a b,at2 M a b=true→T a b)→∀ a b,at2 M' a b=true→T a b
theorem Clo.refl {n:Nat} {M:List D} (h:Sq n M):Clo n M M:=⟨h,fun _ _ h=>h,fun _ _ h=>h⟩
theorem Clo.trans {n:Nat} {M M' M'':List D} (h:Clo n M M') (k:Clo n M' M''):Clo n M M'':=
 ⟨k.sq,fun a b q=>k.mono a b (h.mono a b q),fun T hT hb=>k.sound T hT (h.sound T hT hb)⟩
theorem Clo.step {n:Nat} {M:List D} (h:Sq n M) {i j k:Nat} (hi:i<n) (hk:k<n) {v:Bool} (h1:at2 M i k=true→v=true) (h2:v=true→at2 M i k=true ∨ (at2 M i j=true∧at2 M j k=true)):Clo n M (set2 M i k v):=by
 refine ⟨h.set hi v,fun a b q=>?_,fun T hT hb a b q=>?_⟩
 ·rw [at2_set h hi hk]
  split
  ·rename_i e; rw [e.1,e.2] at q; exact h1 q
  ·exact q
 ·rw [at2_set h hi hk] at q
  split at q
  ·rename_i e
   rw [e.1,e.2]
   rcases h2 q with h2 | h2
   ·exact hb _ _ h2
   ·exact hT _ _ _ (hb _ _ h2.1) (hb _ _ h2.2)
  ·exact hb a b q
theorem squareL_eq (n:Nat) (hn:n≤100000):∀ (m i:Nat) (M:List D),i + m=n→M.length=n→(∀ j,j<i→M.getD j (.int 0)=.node (List.replicate n (.bool false))) →
  ∃ M',Z46 n n i M=some M'∧M'.length=n∧∀ j,j<n→M'.getD j (.int 0)=.node (List.replicate n (.bool false)):=by
 intro m
 induction m with
 | zero=>
  intro i M hi hl hj
  have:i=n:=by omega
  subst this
  refine ⟨M,?_,hl,hj⟩
  rw [Z46_fx]
  unfold c_Z46
  simp
 | succ m ih=>
  intro i M hi hl hj
  rw [Z46_fx]
  unfold c_Z46
  have h1:(i:Int)<n:=by omega
  have h2:(0:Int)≤n∧(n:Int)≤n∧(n:Int)≤4294967296:=by omega
  have h3:(0:Int)≤(i:Int)∧(i:Int)<M.length:=by omega
  have h4:i + 1≤M.length:=by omega
  obtain ⟨M',e1,e2,e3⟩:=ih (i + 1) (M.set i (.node (List.replicate n (.bool false)))) (by omega) (by simp [hl]) (fun j hj'=>by
   rw [getD_set (by omega)]
   split
   ·rfl
   ·exact hj j (by omega))
  refine ⟨M',?_,e2,e3⟩
  simp only [h1,decide_true,cond_true,if_pos h2,if_pos h3,if_pos h4,succ_wrap (show i<4611686018427387904 by omega),Int.toNat_natCast,e1,Option.bind_some]
theorem square_eq (n:Nat) (hn:n≤100000):∃ M,Z47 n=some M∧Sq n M∧∀ a b,at2 M a b=false:=by
 obtain ⟨M,e1,e2,e3⟩:=squareL_eq n hn n 0 (List.replicate n (.node [])) (by omega) (by simp) (fun j hj=>by omega)
 have e1':Z46 n n 0 (List.replicate n (.node []))=some M:=e1
 have h2:(0:Int)≤n∧(n:Int)≤n∧(n:Int)≤4294967296:=by omega
 have hs:Sq n M:=⟨e2,fun i hi=>by rw [e3 i hi]; simp [items_node]⟩
 refine ⟨M,?_,hs,fun a b=>?_⟩
 ·simp only [Z47,c_Z47,if_pos h2,Int.toNat_natCast,List.length_replicate,e1',Option.bind_some]
 ·cases hq:at2 M a b with
  | false=>rfl
  | true=>
   obtain ⟨ha,hb⟩:=at2_lt hs hq
   unfold at2 at hq
   rw [e3 a ha,items_node,List.getD_eq_getElem?_getD,List.getElem?_replicate,if_pos hb] at hq
   cases hq
def nums (C:List D):List D:=C.map (fun d=>.int (d.fld 0).toInt)
theorem numsL_eq (C R A L:List D) (x0:Int) (hC:C.length≤100000):∀ (m i:Nat) (acc:List D),i + m=C.length→acc.length=i →
  Z48 x0 C C.length i C R acc A L=some (x0,C,R,acc ++ nums (C.drop i),A,L):=by
 intro m
 induction m with
 | zero=>
  intro i acc hi ha
  have:i=C.length:=by omega
  subst this
  rw [Z48_fx]
  unfold c_Z48
  simp [nums]
 | succ m ih=>
  intro i acc hi ha
  rw [Z48_fx]
  unfold c_Z48
  have h1:(i:Int)<C.length:=by omega
  have h3:(0:Int)≤(i:Int)∧(i:Int)<C.length:=by omega
  have h4:acc.length + [D.int ((C.getD i (.int 0)).fld 0).toInt].length≤4294967296:=by
   simp only [List.length_cons,List.length_nil]; omega
  simp only [h1,decide_true,cond_true,if_pos h3,if_pos h4,succ_wrap (show i<4611686018427387904 by omega),Int.toNat_natCast]
  rw [ih (i + 1) _ (by omega) (by simp [ha])]
  rw [drop_cons (show i<C.length by omega)]
  simp [nums]
def edgeAt (C R:List D) (j a b:Nat):Prop:=j<R.length∧find2 C ((R[j]?.getD (.int 0)).fld 0).toInt=a∧find2 C ((R[j]?.getD (.int 0)).fld 1).toInt=b
def edge (C R:List D) (a b:Nat):Prop:=∃ j,edgeAt C R j a b
theorem rOk_at {C R:List D} (h:validB C R=true) {j:Nat} (hj:j<R.length):∃ a b,a<C.length∧b<C.length∧a ≠ b∧find2 C ((R[j]?.getD (.int 0)).fld 0).toInt=(a:Int)∧find2 C ((R[j]?.getD (.int 0)).fld 1).toInt=(b:Int) ∧
  ((C[a]?.getD (.int 0)).fld 0).toInt=((R[j]?.getD (.int 0)).fld 0).toInt∧((C[b]?.getD (.int 0)).fld 0).toInt=((R[j]?.getD (.int 0)).fld 1).toInt:=by
 simp only [validB,Bool.and_eq_true] at h
 have:=allN_iff.1 h.2.2.2 j hj
 simp only [rOk,Bool.and_eq_true,Bool.not_eq_true',decide_eq_true_eq,decide_eq_false_iff_not] at this
 obtain ⟨h0,h1,h2,_⟩:=this
 obtain ⟨a,a1,a2,a3⟩:=find2_some h1
 obtain ⟨b,b1,b2,b3⟩:=find2_some h2
 refine ⟨a,b,a1,b1,fun e=>h0 ?_,a2,b2,a3,b3⟩
 rw [← a3,← b3,e]
theorem edge_lt {C R:List D} (h:validB C R=true) {a b:Nat} (he:edge C R a b):a<C.length∧b<C.length∧a ≠ b:=by
 obtain ⟨j,hj,e1,e2⟩:=he
 obtain ⟨a',b',q1,q2,q3,q4,q5,_⟩:=rOk_at h hj
 rw [q4] at e1; rw [q5] at e2
 have e1':a'=a:=by omega
 have e2':b'=b:=by omega
 subst e1'; subst e2'
 exact ⟨q1,q2,q3⟩
theorem relsL_eq (C R nm:List D) (n:Nat) (hv:validB C R=true) (hC:C.length=n) (hR:R.length≤24) (hn:n≤10):∀ (m j:Nat) (A L:List D),j + m=R.length→Sq n A→Sq n L →
  ∃ A' L',Z50 n R R.length j C R nm A L=some ((n:Int),nm,A',L')∧Sq n A'∧Sq n L' ∧
   (∀ a b,at2 A' a b=true ↔ at2 A a b=true ∨ ∃ k,j≤k∧edgeAt C R k a b)∧(∀ a b,at2 L' a b=true ↔ at2 L a b=true ∨ ∃ k,j≤k∧edgeAt C R k a b):=by
 intro m
 induction m with
 | zero=>
  intro j A L hj hA hL
  have:j=R.length:=by omega
  subst this
  refine ⟨A,L,?_,hA,hL,fun a b=>⟨.inl,?_⟩,fun a b=>⟨.inl,?_⟩⟩
  ·rw [Z50_fx]
   unfold c_Z50
   simp
  ·rintro (h | ⟨k,h1,h2⟩)
   ·exact h
   ·have:=h2.1; omega
  ·rintro (h | ⟨k,h1,h2⟩)
   ·exact h
   ·have:=h2.1; omega
 | succ m ih=>
  intro j A L hj hA hL
  obtain ⟨a,b,q1,q2,q3,q4,q5,_⟩:=rOk_at hv (show j<R.length by omega)
  rw [hC] at q1 q2
  obtain ⟨A',L',e1,e2,e3,e4,e5⟩:=ih (j + 1) (set2 A a b true) (set2 L a b true) (by omega) (hA.set q1 true) (hL.set q1 true)
  have key:∀ (X X':List D),Sq n X→(∀ c d,at2 X' c d=true ↔ at2 (set2 X a b true) c d=true ∨ ∃ k,j + 1≤k∧edgeAt C R k c d)→∀ c d,at2 X' c d=true ↔ at2 X c d=true ∨ ∃ k,j≤k∧edgeAt C R k c d:=by
   intro X X' hX h c d
   rw [h,at2_set hX q1 q2]
   constructor
   ·rintro (h | ⟨k,h1,h2⟩)
    ·split at h
     ·rename_i e
      exact .inr ⟨j,Nat.le_refl _,by omega,by rw [e.1]; exact q4,by rw [e.2]; exact q5⟩
     ·exact .inl h
    ·exact .inr ⟨k,by omega,h2⟩
   ·rintro (h | ⟨k,h1,h2⟩)
    ·left
     split
     ·rfl
     ·exact h
    ·by_cases hk:k=j
     ·subst hk
      left
      obtain ⟨_,g1,g2⟩:=h2
      rw [q4] at g1; rw [q5] at g2
      rw [if_pos ⟨by omega,by omega⟩]
     ·exact .inr ⟨k,by omega,h2⟩
  refine ⟨A',L',?_,e2,e3,key A A' hA e4,key L L' hL e5⟩
  rw [Z50_fx]
  unfold c_Z50
  have h1:(j:Int)<R.length:=by omega
  have h3:(0:Int)≤(j:Int)∧(j:Int)<R.length:=by omega
  have g1:(0:Int)≤(a:Int)∧(a:Int)<A.length:=by rw [hA.len]; omega
  have g2:a + 1≤A.length:=by rw [hA.len]; omega
  have g3:(0:Int)≤(b:Int)∧(b:Int)<(A.getD a (.int 0)).items.length:=by rw [hA.row a q1]; omega
  have g4:b + 1≤(A.getD a (.int 0)).items.length:=by rw [hA.row a q1]; omega
  have k1:(0:Int)≤(a:Int)∧(a:Int)<L.length:=by rw [hL.len]; omega
  have k2:a + 1≤L.length:=by rw [hL.len]; omega
  have k3:(0:Int)≤(b:Int)∧(b:Int)<(L.getD a (.int 0)).items.length:=by rw [hL.row a q1]; omega
  have k4:b + 1≤(L.getD a (.int 0)).items.length:=by rw [hL.row a q1]; omega
  rw [← List.getD_eq_getElem?_getD] at q4 q5
  simp only [h1,decide_true,cond_true,if_pos h3,Int.toNat_natCast,indexOf_eq C R _ (show C.length≤100000 by omega),q4,q5,Option.bind_some,if_pos g1,if_pos g2,if_pos g3,if_pos g4,if_pos k1,if_pos k2,if_pos k3,if_pos k4,succ_wrap (show j<4611686018427387904 by omega)]
  rw [show Z50 n R R.length ((j + 1:Nat):Int) C R nm (A.set a (.node ((A.getD a (.int 0)).items.set b (.bool true)))) (L.set a (.node ((L.getD a (.int 0)).items.set b (.bool true))))=some ((n:Int),nm,A',L') from e1]
  rfl
theorem clK (n i j:Nat) (hn:n≤10) (hi:i<n) (hj:j<n) (a3 a4 a5 a6:Int) (nm A:List D):∀ (m k:Nat) (M:List D),k + m=n→Sq n M →
  ∃ M',Z51 n j i a3 a4 a5 a6 n k nm A M=some ((n:Int),(j:Int),a3,a4,a5,a6,nm,A,M')∧Clo n M M'∧∀ b,k≤b→b<n→at2 M i j=true→at2 M j b=true→at2 M' i b=true:=by
 intro m
 induction m with
 | zero=>
  intro k M hk hM
  have:k=n:=by omega
  subst this
  refine ⟨M,?_,Clo.refl hM,fun b h1 h2=>by omega⟩
  rw [Z51_fx]
  unfold c_Z51
  simp
 | succ m ih=>
  intro k M hk hM
  have hkn:k<n:=by omega
  let v:Bool:=at2 M i k || (at2 M i j && at2 M j k)
  have hc:Clo n M (set2 M i k v):=Clo.step (j:=j) hM hi hkn (fun h=>by simp [v,h]) (fun h=>by
   simp only [v,Bool.or_eq_true,Bool.and_eq_true] at h; exact h)
  obtain ⟨M',e1,e2,e3⟩:=ih (k + 1) (set2 M i k v) (by omega) hc.sq
  refine ⟨M',?_,hc.trans e2,fun b h1 h2 h3 h4=>?_⟩
  ·rw [Z51_fx]
   unfold c_Z51
   have h1:(k:Int)<n:=by omega
   have g1:(0:Int)≤(i:Int)∧(i:Int)<M.length:=by rw [hM.len]; omega
   have g2:i + 1≤M.length:=by rw [hM.len]; omega
   have g3:(0:Int)≤(k:Int)∧(k:Int)<(M.getD i (.int 0)).items.length:=by rw [hM.row i hi]; omega
   have g4:k + 1≤(M.getD i (.int 0)).items.length:=by rw [hM.row i hi]; omega
   have g5:(0:Int)≤(j:Int)∧(j:Int)<(M.getD i (.int 0)).items.length:=by rw [hM.row i hi]; omega
   have g6:j + 1≤(M.getD i (.int 0)).items.length:=by rw [hM.row i hi]; omega
   have k1:(0:Int)≤(j:Int)∧(j:Int)<M.length:=by rw [hM.len]; omega
   have k2:j + 1≤M.length:=by rw [hM.len]; omega
   have k3:(0:Int)≤(k:Int)∧(k:Int)<(M.getD j (.int 0)).items.length:=by rw [hM.row j hj]; omega
   have k4:k + 1≤(M.getD j (.int 0)).items.length:=by rw [hM.row j hj]; omega
   have r1:((M.getD i (.int 0)).items.getD k (.int 0)).toBool=at2 M i k:=rfl
   have r2:((M.getD i (.int 0)).items.getD j (.int 0)).toBool=at2 M i j:=rfl
   have r3:((M.getD j (.int 0)).items.getD k (.int 0)).toBool=at2 M j k:=rfl
   simp only [h1,decide_true,cond_true,Int.toNat_natCast,if_pos g1,if_pos g2,if_pos g3,if_pos g4,if_pos g5,if_pos g6,if_pos k1,if_pos k2,if_pos k3,if_pos k4,r1,r2,r3,succ_wrap (show k<4611686018427387904 by omega)]
   have fin:∀ u:Bool,v=u→(Z51 n j i a3 a4 a5 a6 n ((k + 1:Nat):Int) nm A (M.set i (.node ((M.getD i (.int 0)).items.set k (.bool u))))).bind some=some ((n:Int),(j:Int),a3,a4,a5,a6,nm,A,M'):=fun u hu=>by
    subst hu
    rw [show Z51 n j i a3 a4 a5 a6 n ((k + 1:Nat):Int) nm A (M.set i (.node ((M.getD i (.int 0)).items.set k (.bool v))))=_ from e1]
    rfl
   cases hik:at2 M i k with
   | true=>exact fin true (by simp [v,hik])
   | false=>
    cases hij:at2 M i j with
    | true=>exact fin (at2 M j k) (by simp [v,hik,hij])
    | false=>exact fin false (by simp [v,hik,hij])
  ·by_cases hbk:b=k
   ·subst hbk
    refine e2.mono _ _ ?_
    rw [at2_set hM hi hkn,if_pos ⟨rfl,rfl⟩]
    simp [v,h3,h4]
   ·exact e3 b (by omega) h2 (hc.mono _ _ h3) (hc.mono _ _ h4)
theorem clI (n j:Nat) (hn:n≤10) (hj:j<n) (nm A:List D):∀ (m i:Nat) (M:List D),i + m=n→Sq n M →
  ∃ M',Z52 n j n j n i nm A M=some ((n:Int),(n:Int),(j:Int),nm,A,M')∧Clo n M M'∧∀ a b,i≤a→a<n→b<n→at2 M a j=true→at2 M j b=true→at2 M' a b=true:=by
 intro m
 induction m with
 | zero=>
  intro i M hi hM
  have:i=n:=by omega
  subst this
  refine ⟨M,?_,Clo.refl hM,fun a b h1 h2=>by omega⟩
  rw [Z52_fx]
  unfold c_Z52
  simp
 | succ m ih=>
  intro i M hi hM
  obtain ⟨M1,d1,d2,d3⟩:=clK n i j hn (by omega) hj n j n i nm A n 0 M (by omega) hM
  have d1':Z51 n j i n j n i n 0 nm A M=_:=d1
  obtain ⟨M2,e1,e2,e3⟩:=ih (i + 1) M1 (by omega) d2.sq
  refine ⟨M2,?_,d2.trans e2,fun a b h1 h2 h3 h4 h5=>?_⟩
  ·rw [Z52_fx]
   unfold c_Z52
   have h1:(i:Int)<n:=by omega
   simp only [h1,decide_true,cond_true,d1',Option.bind_some,succ_wrap (show i<4611686018427387904 by omega),e1]
  ·by_cases hai:a=i
   ·subst hai
    exact e2.mono _ _ (d3 b (by omega) h3 h4 h5)
   ·exact e3 a b (by omega) h2 h3 (d2.mono _ _ h4) (d2.mono _ _ h5)
def PP (E:Nat→Nat→Prop):Nat→Nat→Nat→Prop
 | 0,a,b=>E a b
 | j + 1,a,b=>PP E j a b ∨ (PP E j a j∧PP E j j b)
theorem PP_trans {E:Nat→Nat→Prop}:∀ {j k a b:Nat},k<j→PP E j a k→PP E j k b→PP E j a b
 | 0,k,a,b,h,_,_=>by omega
 | j + 1,k,a,b,h,h1,h2=>by
  have left:∀ {x:Nat},PP E (j + 1) x j→PP E j x j:=fun h=>h.elim id (fun h=>h.1)
  have right:∀ {x:Nat},PP E (j + 1) j x→PP E j j x:=fun h=>h.elim id (fun h=>h.2)
  by_cases hk:k=j
  ·subst hk
   exact .inr ⟨left h1,right h2⟩
  ·have hk':k<j:=by omega
   rcases h1 with h1 | ⟨h1,h1'⟩
   ·rcases h2 with h2 | ⟨h2,h2'⟩
    ·exact .inl (PP_trans hk' h1 h2)
    ·exact .inr ⟨PP_trans hk' h1 h2,h2'⟩
   ·rcases h2 with h2 | ⟨h2,h2'⟩
    ·exact .inr ⟨h1,PP_trans hk' h1' h2⟩
    ·exact .inr ⟨h1,h2'⟩
theorem PP_base {E:Nat→Nat→Prop}:∀ {j a b:Nat},E a b→PP E j a b
 | 0,_,_,h=>h
 | j + 1,_,_,h=>.inl (PP_base h)
theorem clJ (n:Nat) (hn:n≤10) (E:Nat→Nat→Prop) (nm A:List D):∀ (m j:Nat) (M:List D),j + m=n→Sq n M→(∀ a b,a<n→b<n→PP E j a b→at2 M a b=true) →
  ∃ M',Z53 n n j nm A M=some (nm,A,M')∧Clo n M M'∧∀ a b,a<n→b<n→PP E n a b→at2 M' a b=true:=by
 intro m
 induction m with
 | zero=>
  intro j M hj hM hP
  have:j=n:=by omega
  subst this
  refine ⟨M,?_,Clo.refl hM,hP⟩
  rw [Z53_fx]
  unfold c_Z53
  simp
 | succ m ih=>
  intro j M hj hM hP
  have hjn:j<n:=by omega
  obtain ⟨M1,d1,d2,d3⟩:=clI n j hn hjn nm A n 0 M (by omega) hM
  have d1':Z52 n j n j n 0 nm A M=_:=d1
  obtain ⟨M2,e1,e2,e3⟩:=ih (j + 1) M1 (by omega) d2.sq (fun a b ha hb h=>by
   rcases h with h | ⟨h1,h2⟩
   ·exact d2.mono _ _ (hP a b ha hb h)
   ·exact d3 a b (by omega) ha hb (hP a j ha hjn h1) (hP j b hjn hb h2))
  refine ⟨M2,?_,d2.trans e2,e3⟩
  rw [Z53_fx]
  unfold c_Z53
  have h1:(j:Int)<n:=by omega
  simp only [h1,decide_true,cond_true,d1',Option.bind_some,succ_wrap (show j<4611686018427387904 by omega),e1]
structure Later (n:Nat) (E:Nat→Nat→Prop) (L:List D):Prop where
 sq:Sq n L
 base:∀ a b,E a b→at2 L a b=true
 trans:∀ a b c,at2 L a b=true→at2 L b c=true→at2 L a c=true
 min:∀ T:Nat→Nat→Prop,(∀ a b c,T a b→T b c→T a c)→(∀ a b,E a b→T a b)→∀ a b,at2 L a b=true→T a b
theorem order_eq (C R:List D) (hv:validB C R=true):∃ A L,Z58 C R=some (nums C,A,L)∧Sq C.length A∧(∀ a b,at2 A a b=true ↔ edge C R a b)∧Later C.length (edge C R) L:=by
 have hv':=hv
 simp only [validB,Bool.and_eq_true,decide_eq_true_eq] at hv'
 obtain ⟨hC,hR,_,_⟩:=hv'
 obtain ⟨M0,s1,s2,s3⟩:=square_eq C.length (by omega)
 obtain ⟨A,L0,r1,r2,r3,r4,r5⟩:=relsL_eq C R (nums C) C.length hv rfl hR hC R.length 0 M0 M0 (by omega) s2 s2
 have r1':Z50 C.length R R.length 0 C R (nums C) M0 M0=_:=r1
 have hA:∀ X:List D,(∀ a b,at2 X a b=true ↔ at2 M0 a b=true ∨ ∃ k,0≤k∧edgeAt C R k a b)→∀ a b,at2 X a b=true ↔ edge C R a b:=by
  intro X h a b
  rw [h]
  constructor
  ·rintro (h | ⟨k,_,h⟩)
   ·rw [s3] at h; cases h
   ·exact ⟨k,h⟩
  ·rintro ⟨k,h⟩
   exact .inr ⟨k,Nat.zero_le _,h⟩
 obtain ⟨L,c1,c2,c3⟩:=clJ C.length hC (edge C R) (nums C) A C.length 0 L0 (by omega) r3 (fun a b _ _ h=>(hA L0 r5 a b).2 h)
 have c1':Z53 C.length C.length 0 (nums C) A L0=_:=c1
 have lt:∀ a b,at2 L a b=true→a<C.length∧b<C.length∧PP (edge C R) C.length a b:=by
  refine c2.sound (fun a b=>a<C.length∧b<C.length∧PP (edge C R) C.length a b) (fun a b c h1 h2=>⟨h1.1,h2.2.1,PP_trans h1.2.1 h1.2.2 h2.2.2⟩) (fun a b h=>?_)
  have he:=(hA L0 r5 a b).1 h
  have:=edge_lt hv he
  exact ⟨this.1,this.2.1,PP_base he⟩
 have hLater:Later C.length (edge C R) L:=by
  refine ⟨c2.sq,fun a b h=>c2.mono _ _ ((hA L0 r5 a b).2 h),fun a b c h1 h2=>?_,fun T hT hb=>c2.sound T hT (fun a b h=>hb a b ((hA L0 r5 a b).1 h))⟩
  have q1:=lt a b h1
  have q2:=lt b c h2
  exact c3 a c q1.1 q2.2.1 (PP_trans q1.2.1 q1.2.2 q2.2.2)
 refine ⟨A,L,?_,r2,hA A r4,hLater⟩
 unfold Z58 c_Z58
 simp only [s1,Option.bind_some]
 cases hl:C with
 | nil=>
  subst hl
  have hR0:R=[]:=by
   cases R with
   | nil=>rfl
   | cons d R=>
    obtain ⟨a,b,q1,_⟩:=rOk_at hv (show 0<(d :: R).length by simp)
    simp at q1
  subst hR0
  have hM0:M0=[]:=List.eq_nil_of_length_eq_zero s2.len
  subst hM0
  have x1:Z49 0 [] 0 0 [] [] [] [] []=some (.inr (0,[],[],[],[],[])):=by
   rw [Z49_fx]; unfold c_Z49; simp
  have x2:Z54 0 [] 0 0 [] [] [] [] []=some (0,[],[],[]):=by
   rw [Z54_fx]; unfold c_Z54; simp
  have x3:Z57 0 0 0 [] [] []=some ([],[],[]):=by
   rw [Z57_fx]; unfold c_Z57; simp
  have hAe:A=[]:=List.eq_nil_of_length_eq_zero r2.len
  have hLe:L=[]:=List.eq_nil_of_length_eq_zero c2.sq.len
  simp only [List.length_nil,Int.natCast_zero] at x1 x2 x3 ⊢
  rw [hAe,hLe]
  simp only [Int.ofNat_zero,Int.natCast_zero,x1,x2,x3,Option.bind_some,Sum.elim_inr,nums,List.map_nil,List.length_nil]
 | cons d C'=>
  rw [← hl]
  have hpos:0<C.length:=by rw [hl]; simp
  have x1:Z49 C.length C C.length 0 C R [] M0 M0=some (.inl (C.length,C,R,nums C,M0,M0)):=by
   rw [Z49_fx]
   unfold c_Z49
   have h1:(0:Int)<C.length:=by omega
   have h3:(0:Int)≤0∧(0:Int)<C.length:=by omega
   have:=numsL_eq C R M0 M0 C.length (by omega) (C.length - 1) 1 [.int ((C.getD 0 (.int 0)).fld 0).toInt] (by omega) rfl
   have w1:IntKind.i64.wrap (0 + 1)=((1:Nat):Int):=by decide
   have hd:[D.int ((C.getD 0 (.int 0)).fld 0).toInt] ++ nums (C.drop 1)=nums C:=by rw [hl]; simp [nums]
   rw [hd] at this
   simp only [h1,decide_true,cond_true,if_pos h3,Int.toNat_zero,List.nil_append,List.length_cons,List.length_nil,w1,this,Option.bind_some]
   rfl
  simp only [x1,Option.bind_some,Sum.elim_inl,r1',c1']
theorem consistent_eq (C A L:List D) (hL:Sq C.length L) (hC:C.length≤10):Z72 (nums C) A L=some (allN (fun i=>!at2 L i i) C.length):=by
 have hn:(nums C).length=C.length:=by simp [nums]
 have h:=fxAll (F:=fun i=>Z71 (nums C) A L C.length i) (len:=C.length) (fun i=>!at2 L i i) (.inl false) (fin:=.inr ()) (fun i hi=>by
  show Z71 (nums C) A L C.length i=_
  rw [Z71_fx]
  unfold c_Z71
  have h1:(i:Int)<C.length:=by omega
  have g1:(0:Int)≤(i:Int)∧(i:Int)<L.length:=by rw [hL.len]; omega
  have g2:(0:Int)≤(i:Int)∧(i:Int)<(L.getD i (.int 0)).items.length:=by rw [hL.row i hi]; omega
  have r1:((L.getD i (.int 0)).items.getD i (.int 0)).toBool=at2 L i i:=rfl
  simp only [h1,decide_true,cond_true,Int.toNat_natCast,if_pos g1,if_pos g2,r1,succ_wrap (show i<4611686018427387904 by omega),Option.bind_fun_some]
  cases at2 L i i <;> rfl)
  (by
   show Z71 (nums C) A L C.length C.length=_
   rw [Z71_fx]; unfold c_Z71; simp)
 have h':Z71 (nums C) A L C.length 0=_:=h
 simp only [Z72,c_Z72,hn,h',Option.bind_some]
 cases allN (fun i=>!at2 L i i) C.length <;> rfl
def fv (F:List D) (i:Nat):Int:=(F.getD i (.int 0)).toInt
theorem fv_set {F:List D} {i j:Nat} {v:Int} (h:i<F.length):fv (F.set i (.int v)) j=if i=j then v else fv F j:=by
 unfold fv
 rw [getD_set h]
 split <;> rfl
structure Far (n t l:Nat) (A F:List D):Prop where
 len:F.length=n
 zero:fv F t=0
 rng:∀ j,j<n→0≤fv F j∧fv F j≤(n:Int) + 1
 wit:∀ i,i<n→i ≠ t→fv F i≤n→∃ k,l≤k∧k<n∧at2 A i k=true∧fv F k + 1≤fv F i
def RD (n t l:Nat) (A:List D):Nat→Nat→Prop
 | 0,i=>i=t
 | r + 1,i=>RD n t l A r i ∨ (l≤i∧i<n∧∃ k,l≤k∧k<n∧at2 A i k=true∧RD n t l A r k)
theorem RD_mono {n t l:Nat} {A:List D} {r i:Nat} (h:RD n t l A r i):RD n t l A (r + 1) i:=.inl h
theorem RD_lt {n t l:Nat} {A:List D} (ht:t<n):∀ {r i:Nat},RD n t l A r i→i<n
 | 0,i,h=>by have:i=t:=h; omega
 | r + 1,i,h=>h.elim (fun h=>RD_lt ht h) (fun h=>h.2.1)
theorem stab {n:Nat} (P:Nat→Nat→Prop) (h0:∀ r i,P r i→i<n) (mono:∀ r i,P r i→P (r + 1) i) (next:∀ r,(∀ i,P (r + 1) i→P r i)→∀ i,P (r + 2) i→P (r + 1) i):∀ m i,P m i→P n i:=by
 classical
 have up:∀ r s i,r≤s→P r i→P s i:=by
  intro r s i h hp
  induction s with
  | zero=>
   have:r=0:=by omega
   subst this; exact hp
  | succ s ih=>
   by_cases e:r=s + 1
   ·subst e; exact hp
   ·exact mono s i (ih (by omega))
 let c:Nat→Nat:=fun r=>(List.range n).countP (fun i=>decide (P r i))
 have hcle:∀ r,c r≤n:=fun r=>by
  have:=List.countP_le_length (p:=fun i=>decide (P r i)) (l:=List.range n)
  simpa using this
 have hgrow:∀ r,¬ (∀ i,P (r + 1) i→P r i)→c r + 1≤c (r + 1):=by
  intro r hr
  obtain ⟨i,hi⟩:=Classical.not_forall.1 hr
  obtain ⟨h1,h2⟩:=Classical.not_imp.1 hi
  have hin:i ∈ List.range n:=List.mem_range.2 (h0 _ _ h1)
  have key:∀ l:List Nat,i ∈ l→l.countP (fun j=>decide (P r j)) + 1≤l.countP (fun j=>decide (P (r + 1) j)):=by
   intro l
   induction l with
   | nil=>intro h; cases h
   | cons a l ih=>
    intro hm
    have hle:l.countP (fun j=>decide (P r j))≤l.countP (fun j=>decide (P (r + 1) j)):=
     List.countP_mono_left (fun j _ hj=>decide_eq_true (mono r j (of_decide_eq_true hj)))
    rw [List.countP_cons,List.countP_cons]
    by_cases e:a=i
    ·subst e
     simp only [h1,h2,decide_true,decide_false,if_true]
     simp
     omega
    ·have:=ih ((List.mem_cons.1 hm).resolve_left (fun h=>e h.symm))
     by_cases hp:P r a
     ·have hq:=mono r a hp
      simp only [hp,hq,decide_true,if_true]; omega
     ·by_cases hq:P (r + 1) a <;> simp [hp,hq] <;> omega
  exact key _ hin
 have ex:∃ s,s≤n∧∀ i,P (s + 1) i→P s i:=by
  apply Classical.byContradiction
  intro hno
  have hall:∀ s,s≤n→¬ (∀ i,P (s + 1) i→P s i):=fun s hs h=>hno ⟨s,hs,h⟩
  have hc:∀ s,s≤n + 1→s≤c s:=by
   intro s
   induction s with
   | zero=>intro _; omega
   | succ s ih=>
    intro hs
    have:=hgrow s (hall s (by omega))
    have:=ih (by omega)
    omega
  have:=hc (n + 1) (Nat.le_refl _)
  have:=hcle (n + 1)
  omega
 obtain ⟨s,hs,hst⟩:=ex
 have hst2:∀ k i,P (s + k + 1) i→P (s + k) i:=by
  intro k
  induction k with
  | zero=>exact hst
  | succ k ih=>exact next (s + k) ih
 have down:∀ k i,P (s + k) i→P s i:=by
  intro k
  induction k with
  | zero=>intro i h; exact h
  | succ k ih=>intro i h; exact ih i (hst2 k i h)
 intro m i h
 refine up s n i hs ?_
 by_cases hm:m≤s
 ·exact up m s i hm h
 ·have:P (s + (m - s)) i:=by rw [show s + (m - s)=m by omega]; exact h
  exact down (m - s) i this
theorem RD_stab {n t l:Nat} {A:List D} (ht:t<n) {m i:Nat} (h:RD n t l A m i):RD n t l A n i:=by
 refine stab (RD n t l A) (fun r i h=>RD_lt ht h) (fun r i h=>RD_mono h) (fun r hr i h=>?_) m i h
 rcases h with h | ⟨h1,h2,k,h3,h4,h5,h6⟩
 ·exact h
 ·exact .inr ⟨h1,h2,k,h3,h4,h5,hr k h6⟩
section
variable (n t l f:Nat) (A nm L:List D)
theorem farFill (hn:n≤10):∀ (m i:Nat) (F:List D),i + m=n→F.length=n→(∀ j,j<i→fv F j=(n:Int) + 1) →
  ∃ F',Z59 nm A L f t l n n i F=some (nm,A,L,(f:Int),(t:Int),(l:Int),(n:Int),F')∧F'.length=n∧∀ j,j<n→fv F' j=(n:Int) + 1:=by
 intro m
 induction m with
 | zero=>
  intro i F hi hl hj
  have:i=n:=by omega
  subst this
  refine ⟨F,?_,hl,hj⟩
  rw [Z59_fx]
  unfold c_Z59
  simp
 | succ m ih=>
  intro i F hi hl hj
  obtain ⟨F',e1,e2,e3⟩:=ih (i + 1) (F.set i (.int ((n:Int) + 1))) (by omega) (by simp [hl]) (fun j hj'=>by
   rw [fv_set (by omega)]
   split
   ·rfl
   ·exact hj j (by omega))
  refine ⟨F',?_,e2,e3⟩
  rw [Z59_fx]
  unfold c_Z59
  have h1:(i:Int)<n:=by omega
  have h3:(0:Int)≤(i:Int)∧(i:Int)<F.length:=by omega
  have h4:i + 1≤F.length:=by omega
  have h5:IntKind.i64.wrap ((n:Int) + 1)=(n:Int) + 1:=wrap_id (by omega) (by omega)
  simp only [h1,decide_true,cond_true,if_pos h3,Int.toNat_natCast,if_pos h4,h5,succ_wrap (show i<4611686018427387904 by omega),e1,Option.bind_some]
theorem farK (hn:n≤10) (hA:Sq n A) (i:Nat) (hi:i<n) (a b:Int):∀ (m k:Nat) (F:List D),k + m=n→l≤k→Far n t l A F →
  ∃ F',Z60 nm A L f t l n i k a b F=some (nm,A,L,(f:Int),(t:Int),(l:Int),(n:Int),(i:Int),a,b,F')∧Far n t l A F'∧(∀ j,j<n→fv F' j≤fv F j) ∧
   (i ≠ t→∀ k',k≤k'→k'<n→at2 A i k'=true→fv F' i≤fv F k' + 1):=by
 intro m
 induction m with
 | zero=>
  intro k F hk hlk hF
  have:k=n:=by omega
  subst this
  refine ⟨F,?_,hF,fun j _=>Int.le_refl _,fun _ k' h1 h2=>by omega⟩
  rw [Z60_fx]
  unfold c_Z60
  simp
 | succ m ih=>
  intro k F hk hlk hF
  have hkn:k<n:=by omega
  rw [Z60_fx]
  unfold c_Z60
  have h1:(k:Int)<n:=by omega
  have g1:(0:Int)≤(i:Int)∧(i:Int)<A.length:=by rw [hA.len]; omega
  have g2:(0:Int)≤(k:Int)∧(k:Int)<(A.getD i (.int 0)).items.length:=by rw [hA.row i hi]; omega
  have r1:((A.getD i (.int 0)).items.getD k (.int 0)).toBool=at2 A i k:=rfl
  have k1:(0:Int)≤(i:Int)∧(i:Int)<F.length:=by rw [hF.len]; omega
  have k2:i + 1≤F.length:=by rw [hF.len]; omega
  have k3:(0:Int)≤(k:Int)∧(k:Int)<F.length:=by rw [hF.len]; omega
  have k4:k + 1≤F.length:=by rw [hF.len]; omega
  have q1:(F.getD i (.int 0)).toInt=fv F i:=rfl
  have q2:(F.getD k (.int 0)).toInt=fv F k:=rfl
  have b1:=hF.rng i hi
  have b2:=hF.rng k hkn
  have w1:IntKind.i64.wrap (fv F k + 1)=fv F k + 1:=wrap_id (by omega) (by omega)
  simp only [h1,decide_true,cond_true,Int.toNat_natCast,if_pos g1,if_pos g2,r1,if_pos k1,if_pos k2,if_pos k3,if_pos k4,q1,q2,w1,succ_wrap (show k<4611686018427387904 by omega)]
  have same:(i ≠ t→at2 A i k=true→False)→∃ F',(Z60 nm A L f t l n i ((k + 1:Nat):Int) a b F).bind some=some (nm,A,L,(f:Int),(t:Int),(l:Int),(n:Int),(i:Int),a,b,F')∧Far n t l A F'∧(∀ j,j<n→fv F' j≤fv F j) ∧
    (i ≠ t→∀ k',k≤k'→k'<n→at2 A i k'=true→fv F' i≤fv F k' + 1):=by
   intro hno
   obtain ⟨F',e1,e2,e3,e4⟩:=ih (k + 1) F (by omega) (by omega) hF
   refine ⟨F',by rw [e1]; rfl,e2,e3,fun hit k' p1 p2 p3=>?_⟩
   by_cases e:k'=k
   ·subst e; exact (hno hit p3).elim
   ·exact e4 hit k' (by omega) p2 p3
  cases hik:at2 A i k with
  | false=>exact same (fun _ h=>by rw [hik] at h; cases h)
  | true=>
   simp only [cond_true]
   by_cases hit:i=t
   ·subst hit
    simp only [decide_true,Bool.not_true,cond_false]
    exact same (fun h=>absurd rfl h)
   ·have hit':¬ (i:Int)=(t:Int):=by omega
    simp only [hit',decide_false,Bool.not_false,cond_true]
    generalize hv:(if fv F k + 1<fv F i then fv F k + 1 else fv F i)=v
    have v1:v≤fv F k + 1:=by rw [← hv]; split <;> omega
    have v2:v≤fv F i:=by rw [← hv]; split <;> omega
    have v3:0≤v:=by rw [← hv]; split <;> omega
    have le1:∀ j,j<n→fv (F.set i (.int v)) j≤fv F j:=fun j hj=>by
     rw [fv_set (by rw [hF.len]; exact hi)]
     split
     ·rename_i e; subst e; exact v2
     ·exact Int.le_refl _
    have hF1:Far n t l A (F.set i (.int v)):=by
     refine ⟨by simp [hF.len],?_,fun j hj=>?_,fun j hj hjt hjn=>?_⟩
     ·rw [fv_set (by rw [hF.len]; exact hi),if_neg hit]; exact hF.zero
     ·rw [fv_set (by rw [hF.len]; exact hi)]
      split
      ·omega
      ·exact hF.rng j hj
     ·rw [fv_set (by rw [hF.len]; exact hi)] at hjn ⊢
      by_cases e:i=j
      ·subst e
       rw [if_pos rfl] at hjn ⊢
       by_cases hlt:fv F k + 1<fv F i
       ·rw [if_pos hlt] at hv
        have hne:¬ i=k:=fun e=>by subst e; omega
        refine ⟨k,hlk,hkn,hik,?_⟩
        rw [fv_set (by rw [hF.len]; exact hi),if_neg hne]
        omega
       ·rw [if_neg hlt] at hv
        obtain ⟨c,c1,c2,c3,c4⟩:=hF.wit i hi hjt (by omega)
        have:=le1 c c2
        exact ⟨c,c1,c2,c3,by omega⟩
      ·rw [if_neg e] at hjn ⊢
       obtain ⟨c,c1,c2,c3,c4⟩:=hF.wit j hj hjt hjn
       have:=le1 c c2
       exact ⟨c,c1,c2,c3,by omega⟩
    obtain ⟨F',e1,e2,e3,e4⟩:=ih (k + 1) (F.set i (.int v)) (by omega) (by omega) hF1
    refine ⟨F',by rw [e1]; rfl,e2,fun j hj=>Int.le_trans (e3 j hj) (le1 j hj),fun _ k' p1 p2 p3=>?_⟩
    by_cases e:k'=k
    ·subst e
     have:=e3 i hi
     rw [fv_set (by rw [hF.len]; exact hi),if_pos rfl] at this
     omega
    ·have:=e4 hit k' (by omega) p2 p3
     have:=le1 k' p2
     omega
theorem farI (hn:n≤10) (hA:Sq n A) (hl:l≤n) (a b:Int):∀ (m i:Nat) (F:List D),i + m=n→l≤i→Far n t l A F →
  ∃ F',Z61 nm A L f t l n i a b F=some (nm,A,L,(f:Int),(t:Int),(l:Int),(n:Int),a,b,F')∧Far n t l A F'∧(∀ j,j<n→fv F' j≤fv F j) ∧
   (∀ c,i≤c→c<n→c ≠ t→∀ k,l≤k→k<n→at2 A c k=true→fv F' c≤fv F k + 1):=by
 intro m
 induction m with
 | zero=>
  intro i F hi hli hF
  have:i=n:=by omega
  subst this
  refine ⟨F,?_,hF,fun j _=>Int.le_refl _,fun c h1 h2=>by omega⟩
  rw [Z61_fx]
  unfold c_Z61
  simp
 | succ m ih=>
  intro i F hi hli hF
  have hin:i<n:=by omega
  obtain ⟨F1,d1,d2,d3,d4⟩:=farK n t l f A nm L hn hA i hin a b (n - l) l F (by omega) (Nat.le_refl _) hF
  obtain ⟨F2,e1,e2,e3,e4⟩:=ih (i + 1) F1 (by omega) (by omega) d2
  refine ⟨F2,?_,e2,fun j hj=>Int.le_trans (e3 j hj) (d3 j hj),fun c h1 h2 h3 k h4 h5 h6=>?_⟩
  ·rw [Z61_fx]
   unfold c_Z61
   have h1:(i:Int)<n:=by omega
   simp only [h1,decide_true,cond_true,d1,Option.bind_some,succ_wrap (show i<4611686018427387904 by omega),e1]
  ·by_cases e:c=i
   ·subst e
    have:=d4 h3 k h4 h5 h6
    have:=e3 c h2
    omega
   ·have:=e4 c (by omega) h2 h3 k h4 h5 h6
    have:=d3 k h5
    omega
theorem farR (hn:n≤10) (hA:Sq n A) (hl:l≤n):∀ (m r:Nat) (F:List D),r + m=n→Far n t l A F→(∀ i,i<n→RD n t l A r i→fv F i≤r) →
  ∃ F',Z62 nm A L f t l n n r F=some (nm,A,L,(f:Int),(t:Int),(l:Int),(n:Int),F')∧Far n t l A F'∧(∀ i,i<n→RD n t l A n i→fv F' i≤n):=by
 intro m
 induction m with
 | zero=>
  intro r F hr hF hd
  have:r=n:=by omega
  subst this
  refine ⟨F,?_,hF,hd⟩
  rw [Z62_fx]
  unfold c_Z62
  simp
 | succ m ih=>
  intro r F hr hF hd
  obtain ⟨F1,d1,d2,d3,d4⟩:=farI n t l f A nm L hn hA hl n r (n - l) l F (by omega) (Nat.le_refl _) hF
  obtain ⟨F2,e1,e2,e3⟩:=ih (r + 1) F1 (by omega) d2 (fun i hi h=>by
   rcases h with h | ⟨h1,h2,k,h3,h4,h5,h6⟩
   ·have:=hd i hi h
    have:=d3 i hi
    omega
   ·by_cases e:i=t
    ·subst e; rw [d2.zero]; omega
    ·have:=d4 i h1 h2 e k h3 h4 h5
     have:=hd k h4 h6
     omega)
  refine ⟨F2,?_,e2,e3⟩
  rw [Z62_fx]
  unfold c_Z62
  have h1:(r:Int)<n:=by omega
  simp only [h1,decide_true,cond_true,d1,Option.bind_some,succ_wrap (show r<4611686018427387904 by omega),e1]
def Cand (F:List D) (p:Nat) (k0:Nat) (nx:Int):Prop:=
 (nx=-1∧∀ k,l≤k→k<k0→at2 A p k=true→¬ fv F k≤n) ∨
 ∃ c:Nat,nx=c∧l≤c∧c<n∧at2 A p c=true∧fv F c≤n∧∀ k,l≤k→k<k0→at2 A p k=true→fv F k≤n→fv F c≤fv F k
theorem nextL (hn:n≤10) (hA:Sq n A) (F:List D) (hF:F.length=n) (p:Nat) (hp:p<n) (out:List D):∀ (m k:Nat) (nx:Int),k + m=n→l≤k→Cand n l A F p k nx →
  ∃ nx',Z63 nm A L t l n p nx k F out=some (nm,A,L,(t:Int),(l:Int),(n:Int),(p:Int),nx',F,out)∧Cand n l A F p n nx':=by
 intro m
 induction m with
 | zero=>
  intro k nx hk hlk hc
  have:k=n:=by omega
  subst this
  refine ⟨nx,?_,hc⟩
  rw [Z63_fx]
  unfold c_Z63
  simp
 | succ m ih=>
  intro k nx hk hlk hc
  have hkn:k<n:=by omega
  rw [Z63_fx]
  unfold c_Z63
  have h1:(k:Int)<n:=by omega
  have g1:(0:Int)≤(p:Int)∧(p:Int)<A.length:=by rw [hA.len]; omega
  have g2:(0:Int)≤(k:Int)∧(k:Int)<(A.getD p (.int 0)).items.length:=by rw [hA.row p hp]; omega
  have r1:((A.getD p (.int 0)).items.getD k (.int 0)).toBool=at2 A p k:=rfl
  have k1:(0:Int)≤(k:Int)∧(k:Int)<F.length:=by omega
  have k2:k + 1≤F.length:=by omega
  have q1:(F.getD k (.int 0)).toInt=fv F k:=rfl
  simp only [h1,decide_true,cond_true,Int.toNat_natCast,if_pos g1,if_pos g2,r1,if_pos k1,if_pos k2,q1,succ_wrap (show k<4611686018427387904 by omega)]
  have go:∀ nx',Cand n l A F p (k + 1) nx'→∃ nx2,(Z63 nm A L t l n p nx' ((k + 1:Nat):Int) F out).bind some=some (nm,A,L,(t:Int),(l:Int),(n:Int),(p:Int),nx2,F,out)∧Cand n l A F p n nx2:=by
   intro nx' h
   obtain ⟨nx2,e1,e2⟩:=ih (k + 1) nx' (by omega) (by omega) h
   exact ⟨nx2,by rw [e1]; rfl,e2⟩
  have keep:(at2 A p k=true→fv F k≤n→∃ c:Nat,nx=c∧fv F c≤fv F k)→Cand n l A F p (k + 1) nx:=by
   intro h
   rcases hc with ⟨c1,c2⟩ | ⟨c,c1,c2,c3,c4,c5,c6⟩
   ·refine .inl ⟨c1,fun k' p1 p2 p3 p4=>?_⟩
    by_cases e:k'=k
    ·subst e
     obtain ⟨c,hc1,_⟩:=h p3 p4
     omega
    ·exact c2 k' p1 (by omega) p3 p4
   ·refine .inr ⟨c,c1,c2,c3,c4,c5,fun k' p1 p2 p3 p4=>?_⟩
    by_cases e:k'=k
    ·subst e
     obtain ⟨c',hc1,hc2⟩:=h p3 p4
     have:c'=c:=by omega
     subst this
     exact hc2
    ·exact c6 k' p1 (by omega) p3 p4
  cases hpk:at2 A p k with
  | false=>exact go nx (keep (fun h=>by rw [hpk] at h; cases h))
  | true=>
   simp only [cond_true]
   by_cases hfn:fv F k≤n
   ·simp only [hfn,decide_true,cond_true]
    have better:(∀ c:Nat,nx=c→fv F k<fv F c)→Cand n l A F p (k + 1) (k:Int):=by
     intro h
     refine .inr ⟨k,rfl,hlk,hkn,hpk,hfn,fun k' p1 p2 p3 p4=>?_⟩
     by_cases e:k'=k
     ·subst e; exact Int.le_refl _
     ·rcases hc with ⟨c1,c2⟩ | ⟨c,c1,c2,c3,c4,c5,c6⟩
      ·exact absurd p4 (c2 k' p1 (by omega) p3)
      ·have:=h c c1
       have:=c6 k' p1 (by omega) p3 p4
       omega
    by_cases hneg:nx<0
    ·simp only [hneg,decide_true,cond_true]
     exact go _ (better (fun c hc'=>by omega))
    ·simp only [hneg,decide_false,cond_false]
     rcases hc with ⟨c1,c2⟩ | ⟨c,c1,c2,c3,c4,c5,c6⟩
     ·omega
     ·subst c1
      have k3:(0:Int)≤(c:Int)∧(c:Int)<F.length:=by omega
      have k4:c + 1≤F.length:=by omega
      have q2:(F.getD c (.int 0)).toInt=fv F c:=rfl
      simp only [if_pos k3,Int.toNat_natCast,if_pos k4,q2]
      by_cases hlt:fv F k<fv F c
      ·simp only [hlt,decide_true,cond_true]
       exact go _ (better (fun c' hc'=>by
        have:c'=c:=by omega
        subst this; exact hlt))
      ·simp only [hlt,decide_false,cond_false]
       exact go _ (keep (fun _ _=>⟨c,rfl,by omega⟩))
   ·simp only [hfn,decide_false,cond_false]
    exact go nx (keep (fun _ h=>absurd h hfn))
def PathTo:Nat→List Nat→Prop
 | _,[]=>False
 | p,k :: r=>l≤k∧k<n∧at2 A p k=true∧(match r with | []=>k=t | _ :: _=>k ≠ t∧PathTo k r)
theorem walkL (hn:n≤10) (hA:Sq n A) (ht:t<n) (F:List D) (hF:Far n t l A F) (hl:l≤n):∀ (d:Nat) (p:Nat) (out:List D),p<n→p ≠ t→fv F p≤n→fv F p≤d→out.length + d≤1000 →
  ∃ q:List Nat,Z64 nm A L t l n p F out=some (.inr (out ++ q.map (fun i=>D.int (i:Nat))))∧PathTo n t l A p q∧q.length≤d:=by
 intro d
 induction d with
 | zero=>
  intro p out hp hpt h1 h2 h3
  obtain ⟨k,k1,k2,k3,k4⟩:=hF.wit p hp hpt h1
  have:=(hF.rng k k2).1
  omega
 | succ d ih=>
  intro p out hp hpt h1 h2 h3
  obtain ⟨k,k1,k2,k3,k4⟩:=hF.wit p hp hpt h1
  obtain ⟨nx,e1,e2⟩:=nextL n t l A nm L hn hA F hF.len p hp out (n - l) l (-1) (by omega) (Nat.le_refl _) (.inl ⟨rfl,fun k h1 h2=>by omega⟩)
  rcases e2 with ⟨_,e2⟩ | ⟨c,rfl,c2,c3,c4,c5,c6⟩
  ·exact absurd (by omega:fv F k≤n) (e2 k k1 k2 k3)
  ·have c7:=c6 k k1 k2 k3 (by omega)
   rw [Z64_fx]
   unfold c_Z64
   have g1:¬ (c:Int)<0:=by omega
   have g2:out.length + [D.int (c:Int)].length≤4294967296:=by
    simp only [List.length_cons,List.length_nil]; omega
   simp only [e1,Option.bind_some,g1,decide_false,cond_false,if_pos g2]
   by_cases hct:c=t
   ·have g3:(c:Int)=(t:Int):=by omega
    simp only [g3,decide_true,cond_true]
    exact ⟨[c],by rw [hct]; rfl,⟨c2,c3,c4,hct⟩,by simp⟩
   ·have g3:¬ (c:Int)=(t:Int):=by omega
    simp only [g3,decide_false,cond_false]
    obtain ⟨q,f1,f2,f3⟩:=ih c (out ++ [.int (c:Int)]) c3 hct c5 (by omega) (by simp; omega)
    refine ⟨c :: q,?_,?_,by simp; omega⟩
    ·rw [f1]; simp
    ·cases q with
     | nil=>exact f2.elim
     | cons x q=>exact ⟨c2,c3,c4,hct,f2⟩
theorem chain_eq (hn:n≤10) (hA:Sq n A) (hnm:nm.length=n) (hf:f<n) (ht:t<n) (hl:l<n) :
  (Z65 nm A L f t l=some (.inl ())∧∀ k,l≤k→k<n→at2 A f k=true→∀ m,¬ RD n t l A m k) ∨
  ∃ q:List Nat,Z65 nm A L f t l=some (.inr (D.int (f:Nat) :: q.map (fun i=>D.int (i:Nat))))∧PathTo n t l A f q∧q.length≤100:=by
 obtain ⟨F0,a1,a2,a3⟩:=farFill n t l f A nm L hn n 0 (List.replicate n (.int 0)) (by omega) (by simp) (fun j hj=>by omega)
 have a1':Z59 nm A L f t l n n 0 (List.replicate n (.int 0))=_:=a1
 have hF1:Far n t l A (F0.set t (.int 0)):=by
  refine ⟨by simp [a2],by rw [fv_set (by omega),if_pos rfl],fun j hj=>?_,fun i hi hit hin=>?_⟩
  ·rw [fv_set (by omega)]
   split
   ·omega
   ·rw [a3 j hj]; omega
  ·rw [fv_set (by omega),if_neg (fun e=>hit e.symm),a3 i hi] at hin
   omega
 obtain ⟨F,b1,b2,b3⟩:=farR n t l f A nm L hn hA (by omega) n 0 (F0.set t (.int 0)) (by omega) hF1 (fun i hi h=>by
  have:i=t:=h
  subst this
  rw [hF1.zero]; omega)
 have b1':Z62 nm A L f t l n n 0 (F0.set t (.int 0))=_:=b1
 have h2:(0:Int)≤n∧(n:Int)≤n∧(n:Int)≤4294967296:=by omega
 have h3:(0:Int)≤(t:Int)∧(t:Int)<F0.length:=by omega
 have h4:t + 1≤F0.length:=by omega
 have hdo:Z65 nm A L f t l=(Z64 nm A L t l n f F [.int (f:Nat)]).bind (fun z=>some z):=by
  simp only [Z65,c_Z65,hnm,if_pos h2,Int.toNat_natCast,List.length_replicate,a1',Option.bind_some,if_pos h3,if_pos h4,b1']
  congr 1
  funext z
  cases z <;> rfl
 rw [hdo]
 obtain ⟨nx,e1,e2⟩:=nextL n t l A nm L hn hA F b2.len f hf [.int (f:Nat)] (n - l) l (-1) (by omega) (Nat.le_refl _) (.inl ⟨rfl,fun k h1 h2=>by omega⟩)
 rcases e2 with ⟨rfl,e2⟩ | ⟨c,rfl,c2,c3,c4,c5,c6⟩
 ·left
  refine ⟨?_,fun k k1 k2 k3 m hm=>?_⟩
  ·rw [Z64_fx]
   unfold c_Z64
   have g1:(-1:Int)<0:=by omega
   simp only [e1,Option.bind_some,g1,decide_true,cond_true]
  ·exact e2 k k1 k2 k3 (b3 k k2 (RD_stab ht hm))
 ·right
  rw [Z64_fx]
  unfold c_Z64
  have g1:¬ (c:Int)<0:=by omega
  have g2:[D.int (f:Nat)].length + [D.int (c:Int)].length≤4294967296:=by
   simp only [List.length_cons,List.length_nil]; omega
  simp only [e1,Option.bind_some,g1,decide_false,cond_false,if_pos g2]
  by_cases hct:c=t
  ·have g3:(c:Int)=(t:Int):=by omega
   simp only [g3,decide_true,cond_true,Option.bind_some]
   exact ⟨[c],by rw [hct]; rfl,⟨c2,c3,c4,hct⟩,by simp⟩
  ·have g3:¬ (c:Int)=(t:Int):=by omega
   simp only [g3,decide_false,cond_false]
   obtain ⟨q,f1,f2,f3⟩:=walkL n t l A nm L hn hA ht F b2 (by omega) 11 c [.int (f:Nat),.int (c:Int)] c3 hct c5 (by omega) (by simp)
   refine ⟨c :: q,?_,?_,by simp; omega⟩
   ·rw [show [D.int (f:Nat)] ++ [D.int (c:Int)]=[D.int (f:Nat),D.int (c:Int)] from rfl,f1]; simp
   ·cases q with
    | nil=>exact f2.elim
    | cons x q=>exact ⟨c2,c3,c4,hct,f2⟩
end
theorem related_eq (C R:List D) (a b:Int) (hR:R.length≤100000):Z83 C R a b=some (firstN (fun j=>decide (((R[j]?.getD (.int 0)).fld 0).toInt=a) && decide (((R[j]?.getD (.int 0)).fld 1).toInt=b)) R.length).isSome:=by
 have h:=fxScan (F:=fun i=>Z82 a b i C R) (len:=R.length) (fun j=>decide (((R[j]?.getD (.int 0)).fld 0).toInt=a) && decide (((R[j]?.getD (.int 0)).fld 1).toInt=b)) (fun _=>.inl true) (fin:=.inr ()) (fun i hi=>by
  show Z82 a b i C R=_
  rw [Z82_fx]
  unfold c_Z82
  have h1:(i:Int)<R.length:=by omega
  simp only [h1,decide_true,cond_true,Int.natCast_nonneg,and_self,if_true,Int.toNat_natCast,List.getD_eq_getElem?_getD,succ_wrap (show i<4611686018427387904 by omega),Option.bind_fun_some]
  by_cases e1:((R[i]?.getD (.int 0)).fld 0).toInt=a
  ·by_cases e2:((R[i]?.getD (.int 0)).fld 1).toInt=b
   ·simp [e1,e2]
   ·simp [e1,e2]
  ·simp [e1])
  (by
   show Z82 a b R.length C R=_
   rw [Z82_fx]; unfold c_Z82; simp)
 have h':Z82 a b 0 C R=_:=h
 simp only [Z83,c_Z83,h',Option.bind_some]
 cases firstN (fun j=>decide (((R[j]?.getD (.int 0)).fld 0).toInt=a) && decide (((R[j]?.getD (.int 0)).fld 1).toInt=b)) R.length <;> rfl
def numAt (C:List D) (i:Nat):Int:=((C[i]?.getD (.int 0)).fld 0).toInt
theorem nums_at {C:List D} {i:Nat} (h:i<C.length):((nums C).getD i (.int 0)).toInt=numAt C i:=by
 unfold nums numAt
 rw [List.getD_eq_getElem?_getD,List.getElem?_map,List.getElem?_eq_getElem h]
 rfl
theorem numAt_lt {C R:List D} (hv:validB C R=true):∀ (k i:Nat),i + k<C.length→0<k→numAt C i<numAt C (i + k):=by
 simp only [validB,Bool.and_eq_true] at hv
 have step:∀ i,i + 1<C.length→numAt C i<numAt C (i + 1):=by
  intro i hi
  have:=allN_iff.1 hv.2.2.1 (i + 1) hi
  simp only [cOk,Bool.and_eq_true,Bool.or_eq_true,decide_eq_true_eq] at this
  rcases this.2.2 with h | h
  ·omega
  ·exact h
 intro k
 induction k with
 | zero=>intro i _ h; omega
 | succ k ih=>
  intro i hi _
  by_cases hk:k=0
  ·subst hk; exact step i hi
  ·have:=ih i (by omega) (by omega)
   have:=step (i + k) (by omega)
   rw [show i + (k + 1)=i + k + 1 by omega]
   omega
theorem numAt_inj {C R:List D} (hv:validB C R=true) {i j:Nat} (hi:i<C.length) (hj:j<C.length) (h:numAt C i=numAt C j):i=j:=by
 by_cases h1:i<j
 ·have:=numAt_lt hv (j - i) i (by omega) (by omega)
  rw [show i + (j - i)=j by omega] at this
  omega
 ·by_cases h2:j<i
  ·have:=numAt_lt hv (i - j) j (by omega) (by omega)
   rw [show j + (i - j)=i by omega] at this
   omega
  ·omega
theorem edge_rel {C R:List D} (hv:validB C R=true) {a b:Nat} (he:edge C R a b):Z83 C R (numAt C a) (numAt C b)=some true:=by
 have hR:R.length≤24:=by
  simp only [validB,Bool.and_eq_true,decide_eq_true_eq] at hv; exact hv.2.1
 rw [related_eq C R _ _ (by omega)]
 obtain ⟨j,hj,e1,e2⟩:=he
 obtain ⟨a',b',q1,q2,q3,q4,q5,q6,q7⟩:=rOk_at hv hj
 rw [q4] at e1; rw [q5] at e2
 have e1':a'=a:=by omega
 have e2':b'=b:=by omega
 subst e1'; subst e2'
 cases hf:firstN (fun j=>decide (((R[j]?.getD (.int 0)).fld 0).toInt=numAt C a') && decide (((R[j]?.getD (.int 0)).fld 1).toInt=numAt C b')) R.length with
 | some i=>rfl
 | none=>
  have:=firstN_none hf j hj
  have g1:((R[j]?.getD (.int 0)).fld 0).toInt=numAt C a':=q6.symm
  have g2:((R[j]?.getD (.int 0)).fld 1).toInt=numAt C b':=q7.symm
  simp [g1,g2] at this
theorem numbered_eq (C A L:List D) (q:List Nat) (hC:C.length≤100000) (hq:q.length≤100000) (hlt:∀ i ∈ q,i<C.length):Z69 (nums C) A L (q.map (fun i=>D.int (i:Nat)))=some (q.map (fun i=>D.int (numAt C i))):=by
 have hn:(nums C).length=C.length:=by simp [nums]
 have key:∀ (m i:Nat) (acc:List D),i + m=q.length→acc.length=i→Z68 (nums C) A L (q.map (fun i=>D.int (i:Nat))) q.length i acc=some (acc ++ (q.drop i).map (fun i=>D.int (numAt C i))):=by
  intro m
  induction m with
  | zero=>
   intro i acc hi ha
   have:i=q.length:=by omega
   subst this
   rw [Z68_fx]
   unfold c_Z68
   simp
  | succ m ih=>
   intro i acc hi ha
   have hiq:i<q.length:=by omega
   rw [Z68_fx]
   unfold c_Z68
   have h1:(i:Int)<q.length:=by omega
   have h2:(0:Int)≤(i:Int)∧(i:Int)<(q.map (fun i=>D.int (i:Nat))).length:=by
    rw [List.length_map]; omega
   have hget:((q.map (fun i=>D.int (i:Nat))).getD i (.int 0)).toInt=(q[i]:Int):=by
    rw [List.getD_eq_getElem?_getD,List.getElem?_map,List.getElem?_eq_getElem hiq]; rfl
   have hx:=hlt q[i] (List.getElem_mem hiq)
   have h3:(0:Int)≤(q[i]:Int)∧(q[i]:Int)<(nums C).length:=by rw [hn]; omega
   have h4:acc.length + [D.int (numAt C q[i])].length≤4294967296:=by
    simp only [List.length_cons,List.length_nil]; omega
   simp only [h1,decide_true,cond_true,if_pos h2,Int.toNat_natCast,hget,if_pos h3,nums_at hx,if_pos h4,succ_wrap (show i<4611686018427387904 by omega)]
   rw [ih (i + 1) _ (by omega) (by simp [ha])]
   rw [List.drop_eq_getElem_cons hiq,List.map_cons,List.append_assoc]
   rfl
 have:=key q.length 0 [] (by omega) rfl
 have h':Z68 (nums C) A L (q.map (fun i=>D.int (i:Nat))) q.length 0 []=_:=this
 simp only [Z69,c_Z69,List.length_map,h',Option.bind_some,List.drop_zero,List.nil_append]
theorem loop_tot (c:List D) (hc:okC c) (p s:Int) (hp:0≤p∧p≤1099511600000):∃ y,Z29 c p s=some y∧(y.1.length≤1000∧y.2.1.length≤1000):=by
 refine Tt.out ?_
 unfold Z29 c_Z29
 refine Tt.bind (Tt.con (any_tot _ hc _ _ (by omega))) ?_
 rintro ⟨C,R,c1,p1,s1⟩ ⟨rfl,q1,q2,q3,q4⟩
 dsimp only at q1 q2 q3 q4 ⊢
 refine Tt.dec (fun hn=>?_) (fun _=>Tt.pure ⟨by simp only; omega,by simp only; omega⟩)
 rw [l2Good_eq]
 refine Tt.bind (Q:=fun _=>True) (Tt.con ⟨_,rfl,trivial⟩) ?_
 rintro g -
 refine Tt.cnd (fun _=>?_) (fun _=>Tt.pure ⟨by simp only; omega,by simp only; omega⟩)
 (refine Tt.bind (Tt.con (one_tot' _ hc _ _ _ (by omega) (by omega))) ?_; rintro ⟨v,c',p',s'⟩ ⟨hv,rfl,hp1,hp2⟩; dsimp only at hv hp1 hp2 ⊢)
 refine Tt.cnd (fun _=>?_) (fun _=>Tt.pure ⟨by simp only; omega,by simp only; omega⟩)
 refine Tt.dec (fun hR=>?_) (fun _=>Tt.pure ⟨by simp only; omega,by simp only; omega⟩)
 rw [wrap_id (n:=(C.length:Int) - 1) (by omega) (by omega)]
 (refine Tt.bind (Tt.con (pick_tot' _ hc _ _ _ (by omega) (by omega))) ?_; rintro ⟨v,c',p',s'⟩ ⟨hv,rfl,hp1,hp2⟩; dsimp only at hv hp1 hp2 ⊢)
 refine Tt.ite (by omega) ?_
 refine Tt.ite (by omega) ?_
 refine Tt.ite (by omega) ?_
 refine Tt.ite (by omega) ?_
 refine Tt.ite (by omega) ?_
 refine Tt.ite (by omega) ?_
 refine Tt.bind (Tt.con (link_tot C R _ _ (by omega) (by omega))) ?_
 rintro ⟨C2,R2⟩ ⟨e1,e2,e3⟩
 dsimp only at e1 e2 e3 ⊢
 subst e1
 refine Tt.ite (by omega) ?_
 refine Tt.ite (by omega) ?_
 refine Tt.ite (by omega) ?_
 refine Tt.ite (by omega) ?_
 refine Tt.ite (by omega) ?_
 refine Tt.ite (by omega) ?_
 refine Tt.bind (Tt.con (link_tot C2 R2 _ _ (by omega) (by omega))) ?_
 rintro ⟨C3,R3⟩ ⟨e4,e5,e6⟩
 dsimp only at e4 e5 e6 ⊢
 exact Tt.pure ⟨by simp only; rw [e4]; omega,by simp only; omega⟩
theorem draw_tot (c:List D) (hc:okC c):∃ y,Z30 c=some y∧(y.1.length≤1000∧y.2.length≤1000):=by
 refine Tt.out ?_
 unfold Z30 c_Z30
 (refine Tt.bind (Tt.con (one_tot' _ hc _ _ _ (by omega) (by omega))) ?_; rintro ⟨v,c',p',s'⟩ ⟨hv,rfl,hp1,hp2⟩; dsimp only at hv hp1 hp2 ⊢)
 refine Tt.cnd (fun _=>?_) (fun _=>?_)
 ·refine Tt.bind (Tt.con (loop_tot _ hc _ _ (by omega))) ?_
  rintro ⟨C,R,c1,p1,s1⟩ ⟨e1,e2⟩
  exact Tt.pure ⟨e1,e2⟩
 ·refine Tt.bind (Tt.con (any_tot _ hc _ _ (by omega))) ?_
  rintro ⟨C,R,c1,p1,s1⟩ ⟨e1,e2,e3,e4,e5⟩
  simp only at e4 e5
  exact Tt.pure ⟨by simp only; omega,by simp only; omega⟩
theorem isCons_eq (C R:List D):∃ b,Z73 C R=some (b,validB C R)∧(validB C R=true→∃ A L,Z58 C R=some (nums C,A,L)∧Sq C.length A∧(∀ a b,at2 A a b=true ↔ edge C R a b)∧Later C.length (edge C R) L∧b=allN (fun i=>!at2 L i i) C.length):=by
 unfold Z73 c_Z73
 rw [valid_eq]
 cases hv:validB C R with
 | false=>exact ⟨false,rfl,fun h=>by cases h⟩
 | true=>
  obtain ⟨A,L,h1,h2,h3,h4⟩:=order_eq C R hv
  have hC:C.length≤10:=by
   simp only [validB,Bool.and_eq_true,decide_eq_true_eq] at hv; exact hv.1
  simp only [h1,Option.bind_some,Bool.not_true,cond_false,consistent_eq C A L h4.sq hC]
  exact ⟨_,rfl,fun _=>⟨A,L,rfl,h2,h3,h4,rfl⟩⟩
section
variable {C R A L:List D} (hv:validB C R=true) (hA:Sq C.length A) (hE:∀ a b,at2 A a b=true ↔ edge C R a b) (hL:Later C.length (edge C R) L)
include hE hL in
theorem path_later {t l:Nat}:∀ {q:List Nat} {p:Nat},PathTo C.length t l A p q→at2 L p t=true
 | [],p,h=>h.elim
 | [k],p,h=>by
  obtain ⟨_,_,h1,h2⟩:=h
  have h2':k=t:=h2
  subst h2'
  exact hL.base _ _ ((hE _ _).1 h1)
 | k :: k2 :: q,p,h=>by
  obtain ⟨_,_,h1,h2⟩:=h
  have h2':k ≠ t∧PathTo C.length t l A k (k2 :: q):=h2
  exact hL.trans _ _ _ (hL.base _ _ ((hE _ _).1 h1)) (path_later h2'.2)
include hE hL in
theorem RD_later {t l:Nat}:∀ {r i:Nat},RD C.length t l A r i→i=t ∨ at2 L i t=true
 | 0,i,h=>.inl h
 | r + 1,i,h=>by
  rcases h with h | ⟨_,_,k,_,_,h1,h2⟩
  ·exact RD_later h
  ·have e:=hL.base _ _ ((hE _ _).1 h1)
   rcases RD_later h2 with h3 | h3
   ·subst h3; exact .inr e
   ·exact .inr (hL.trans _ _ _ e h3)
include hv hE hL in
theorem cycle_at {s:Nat} (hs:at2 L s s=true) (hmin:∀ x,at2 L x x=true→s≤x):∃ k,s≤k∧k<C.length∧at2 A s k=true∧∃ m,RD C.length s s A m k:=by
 have hsl:=(at2_lt hL.sq hs).1
 have first:∀ a b,at2 L a b=true→∃ k,edge C R a k∧(k=b ∨ at2 L k b=true):=by
  refine hL.min (fun a b=>∃ k,edge C R a k∧(k=b ∨ at2 L k b=true)) (fun a b c h1 h2=>?_) (fun a b h=>⟨b,h,.inl rfl⟩)
  obtain ⟨k,k1,k2⟩:=h1
  obtain ⟨m,m1,m2⟩:=h2
  have hbc:at2 L b c=true:=by
   rcases m2 with rfl | m2
   ·exact hL.base _ _ m1
   ·exact hL.trans _ _ _ (hL.base _ _ m1) m2
  rcases k2 with rfl | k2
  ·exact ⟨k,k1,.inr hbc⟩
  ·exact ⟨k,k1,.inr (hL.trans _ _ _ k2 hbc)⟩
 have back:∀ a b,at2 L a b=true→(at2 L s a=true→(∃ m,RD C.length s s A m b)→∃ m,RD C.length s s A m a):=by
  intro a b hab
  have:=hL.min (fun a b=>at2 L a b=true∧(at2 L s a=true→(∃ m,RD C.length s s A m b)→∃ m,RD C.length s s A m a)) (fun a b c h1 h2=>⟨hL.trans _ _ _ h1.1 h2.1,fun g1 g2=>h1.2 g1 (h2.2 (hL.trans _ _ _ g1 h1.1) g2)⟩) (fun a b h=>⟨hL.base _ _ h,fun g1 g2=>?_⟩) a b hab
  ·exact this.2
  ·obtain ⟨m,hm⟩:=g2
   have e:=hL.base _ _ h
   have lt:=edge_lt hv h
   have hsb:=hL.trans _ _ _ g1 e
   have hbs:b=s ∨ at2 L b s=true:=RD_later hE hL hm
   have has:at2 L a s=true:=by
    rcases hbs with rfl | hbs
    ·exact e
    ·exact hL.trans _ _ _ e hbs
   have ha:s≤a:=hmin a (hL.trans _ _ _ has g1)
   have hb:s≤b:=by
    rcases hbs with rfl | hbs
    ·exact Nat.le_refl _
    ·exact hmin b (hL.trans _ _ _ hbs hsb)
   exact ⟨m + 1,.inr ⟨ha,lt.1,b,hb,lt.2.1,(hE _ _).2 h,hm⟩⟩
 obtain ⟨k,k1,k2⟩:=first s s hs
 have lt:=edge_lt hv k1
 have hsk:=hL.base _ _ k1
 rcases k2 with rfl | k2
 ·exact absurd rfl lt.2.2
 ·have hk:s≤k:=hmin k (hL.trans _ _ _ k2 hsk)
  exact ⟨k,hk,lt.2.1,(hE _ _).2 k1,back k s k2 hsk ⟨0,rfl⟩⟩
end
def cycI (C A:List D) (q:List D):Prop:=∃ (i:Nat) (p:List Nat),i<C.length∧q=D.int (i:Nat) :: p.map (fun i=>D.int (i:Nat))∧PathTo C.length i i A i p∧p.length≤100
theorem cycI_len {C A q:List D} (h:cycI C A q):1≤q.length:=by
 obtain ⟨i,p,_,rfl,_⟩:=h; simp
theorem bestV_eq (C A L:List D) (hC:C.length≤10) (hA:Sq C.length A):∀ (m i:Nat) (b:List D),i + m=C.length→cycI C A b →
  ∃ b',Z66 C.length i (nums C) A L b=some (nums C,A,L,b')∧cycI C A b':=by
 intro m
 induction m with
 | zero=>
  intro i b hi hb
  have:i=C.length:=by omega
  subst this
  refine ⟨b,?_,hb⟩
  rw [Z66_fx]
  unfold c_Z66
  simp
 | succ m ih=>
  intro i b hi hb
  have hin:i<C.length:=by omega
  rw [Z66_fx]
  unfold c_Z66
  have h1:(i:Int)<C.length:=by omega
  simp only [h1,decide_true,cond_true,succ_wrap (show i<4611686018427387904 by omega)]
  have go:∀ b2,cycI C A b2→∃ b',(Z66 C.length ((i + 1:Nat):Int) (nums C) A L b2).bind some=some (nums C,A,L,b')∧cycI C A b':=by
   intro b2 h2
   obtain ⟨b',e1,e2⟩:=ih (i + 1) b2 (by omega) h2
   exact ⟨b',by rw [e1]; rfl,e2⟩
  rcases chain_eq C.length i i i A (nums C) L hC hA (by simp [nums]) hin hin hin with ⟨e1,_⟩ | ⟨p,e1,e2,e3⟩
  ·simp only [e1,Option.bind_some,Sum.elim_inl]
   exact go b hb
  ·have hp:cycI C A (D.int (i:Nat) :: p.map (fun i=>D.int (i:Nat))):=⟨i,p,hin,rfl,e2,e3⟩
   have g1:=cycI_len hp
   have g2:=cycI_len hb
   simp only [e1,Option.bind_some,Sum.elim_inr,if_pos g1,if_pos g2]
   by_cases hlt:((D.int (i:Nat) :: p.map (fun i=>D.int (i:Nat))).length:Int)<b.length
   ·simp only [hlt,decide_true,cond_true]
    exact go _ hp
   ·simp only [hlt,decide_false,cond_false]
    exact go _ hb
theorem best_eq (C A L:List D) (hC:C.length≤10) (hA:Sq C.length A):∀ (m i:Nat),i + m=C.length →
  (∃ b',Z67 C.length i (nums C) A L=some (.inl (nums C,A,L,b'))∧cycI C A b') ∨
  (Z67 C.length i (nums C) A L=some (.inr (nums C,A,L))∧∀ j,i≤j→j<C.length→∀ k,j≤k→k<C.length→at2 A j k=true→∀ m,¬ RD C.length j j A m k):=by
 intro m
 induction m with
 | zero=>
  intro i hi
  have:i=C.length:=by omega
  subst this
  refine .inr ⟨?_,fun j h1 h2=>by omega⟩
  rw [Z67_fx]
  unfold c_Z67
  simp
 | succ m ih=>
  intro i hi
  have hin:i<C.length:=by omega
  rw [Z67_fx]
  unfold c_Z67
  have h1:(i:Int)<C.length:=by omega
  simp only [h1,decide_true,cond_true,succ_wrap (show i<4611686018427387904 by omega)]
  rcases chain_eq C.length i i i A (nums C) L hC hA (by simp [nums]) hin hin hin with ⟨e1,e2⟩ | ⟨p,e1,e2,e3⟩
  ·simp only [e1,Option.bind_some,Sum.elim_inl]
   rcases ih (i + 1) (by omega) with ⟨b',f1,f2⟩ | ⟨f1,f2⟩
   ·exact .inl ⟨b',by rw [f1]; rfl,f2⟩
   ·refine .inr ⟨by rw [f1]; rfl,fun j h1 h2=>?_⟩
    by_cases hj:j=i
    ·subst hj; exact e2
    ·exact f2 j (by omega) h2
  ·have hp:cycI C A (D.int (i:Nat) :: p.map (fun i=>D.int (i:Nat))):=⟨i,p,hin,rfl,e2,e3⟩
   have g1:=cycI_len hp
   simp only [e1,Option.bind_some,Sum.elim_inr,if_pos g1]
   obtain ⟨b',f1,f2⟩:=bestV_eq C A L hC hA m (i + 1) _ (by omega) hp
   exact .inl ⟨b',by rw [f1]; rfl,f2⟩
theorem path_props {n t l:Nat} {A:List D}:∀ {q:List Nat} {p:Nat},PathTo n t l A p q→(∀ x ∈ q,l≤x∧x<n)∧q ≠ []∧q.getLast?=some t∧(∀ j,j + 1<(p :: q).length→at2 A ((p :: q).getD j 0) ((p :: q).getD (j + 1) 0)=true)
 | [],p,h=>h.elim
 | [k],p,h=>by
  obtain ⟨h1,h2,h3,h4⟩:=h
  have h4':k=t:=h4
  refine ⟨fun x hx=>?_,by simp,by simp [h4'],fun j hj=>?_⟩
  ·simp at hx; subst hx; exact ⟨h1,h2⟩
  ·have:j=0:=by simp at hj; omega
   subst this; exact h3
 | k :: k2 :: q,p,h=>by
  obtain ⟨h1,h2,h3,h4⟩:=h
  have h4':k ≠ t∧PathTo n t l A k (k2 :: q):=h4
  obtain ⟨g1,g2,g3,g4⟩:=path_props h4'.2
  refine ⟨fun x hx=>?_,by simp,by rw [← g3]; simp,fun j hj=>?_⟩
  ·rcases List.mem_cons.1 hx with rfl | hx
   ·exact ⟨h1,h2⟩
   ·exact g1 x hx
  ·cases j with
   | zero=>exact h3
   | succ j=>exact g4 j (by simpa using hj)
theorem shortest_eq (C R:List D):∃ q found,Z70 C R=some (q,found,validB C R)∧(validB C R=false→q=[])∧(validB C R=true→∃ A L,Z58 C R=some (nums C,A,L) ∧
    ((found=true∧(∃ i,at2 L i i=true)∧∃ w:List Nat,q=w.map (fun i=>D.int (numAt C i))∧2≤w.length∧w.length≤100∧(∀ j,j<w.length→w.getD j 0<C.length∧w.getD 0 0≤w.getD j 0∧edge C R (w.getD j 0) (w.getD ((j + 1) % w.length) 0))) ∨
     (found=false∧q=[]∧∀ i,at2 L i i=false))):=by
  unfold Z70 c_Z70
  rw [valid_eq]
  cases hv:validB C R with
  | false=>exact ⟨[],false,rfl,fun _=>rfl,fun h=>by cases h⟩
  | true=>
    obtain ⟨A,L,h1,hA,hE,hL⟩:=order_eq C R hv
    have hC:C.length≤10:=by
      simp only [validB,Bool.and_eq_true,decide_eq_true_eq] at hv; exact hv.1
    have hn:(nums C).length=C.length:=by simp [nums]
    simp only [h1,Option.bind_some,Bool.not_true,cond_false,hn]
    rcases best_eq C A L hC hA C.length 0 (by omega) with ⟨b,f1,i,p,hi,rfl,g1,g2⟩ | ⟨f1,f2⟩
    · have f1':Z67 C.length 0 (nums C) A L=_:=f1
      obtain ⟨p1,p2,p3,p4⟩:=path_props g1
      have hlen:1≤p.length:=by
        cases p with
        | nil=>exact absurd rfl p2
        | cons x p=>simp
      have hlast:p.getLast?=some i:=p3
      let w:List Nat:=i :: p.dropLast
      have hwl:w.length=p.length:=by simp [w]; omega
      have hp2:2≤p.length:=by
        cases p with
        | nil=>exact absurd rfl p2
        | cons x p=>
          cases p with
          | nil=>
            have hx:x=i:=by simpa using hlast
            subst hx
            have:=(hE _ _).1 (p4 0 (by simp))
            exact absurd rfl (edge_lt hv this).2.2
          | cons y p=>simp
      have hget:∀ j,j<p.length→w.getD j 0=(i :: p).getD j 0:=by
        intro j hj
        cases j with
        | zero=>rfl
        | succ j=>
          show p.dropLast.getD j 0=p.getD j 0
          rw [List.getD_eq_getElem?_getD,List.getD_eq_getElem?_getD,List.getElem?_dropLast,if_pos (by omega)]
      have hend:(i :: p).getD p.length 0=i:=by
        rw [List.getLast?_eq_getElem?] at hlast
        cases hq:p.length with
        | zero=>omega
        | succ k=>
          rw [hq] at hlast
          simp only [Nat.add_sub_cancel] at hlast
          show p.getD k 0=i
          rw [List.getD_eq_getElem?_getD,hlast]
          rfl
      have hrange:∀ j,j<p.length→i≤(i :: p).getD j 0∧(i :: p).getD j 0<C.length:=by
        intro j hj
        cases j with
        | zero=>exact ⟨Nat.le_refl _,hi⟩
        | succ j=>
          show i≤p.getD j 0∧p.getD j 0<C.length
          rw [List.getD_eq_getElem?_getD,List.getElem?_eq_getElem (show j<p.length by omega),Option.getD_some]
          exact p1 _ (List.getElem_mem _)
      have hwrap:IntKind.i64.wrap (((D.int (i:Nat) :: p.map (fun i=>D.int (i:Nat))).length:Int) - 1)=(p.length:Int):=by
        simp only [List.length_cons,List.length_map]
        rw [wrap_id (by omega) (by omega)]; omega
      have htake:List.take ((p.length:Int).toNat - 0) (List.drop 0 (D.int (i:Nat) :: p.map (fun i=>D.int (i:Nat))))=w.map (fun i=>D.int (i:Nat)):=by
        simp only [Int.toNat_natCast,Nat.sub_zero,List.drop_zero,w,List.map_cons]
        cases hq:p.length with
        | zero=>omega
        | succ k=>
          simp only [List.take_succ_cons,List.cons.injEq,true_and]
          rw [List.dropLast_eq_take,hq,Nat.add_sub_cancel,List.map_take]
      have c1:1≤(D.int (i:Nat) :: p.map (fun i=>D.int (i:Nat))).length:=by simp
      have c2:(0:Int)≤0∧(0:Int)≤(p.length:Int)∧(p.length:Int)≤(D.int (i:Nat) :: p.map (fun i=>D.int (i:Nat))).length:=by
        simp only [List.length_cons,List.length_map]; omega
      have c3:0 + ((p.length:Int).toNat - 0)≤(D.int (i:Nat) :: p.map (fun i=>D.int (i:Nat))).length:=by
        simp only [List.length_cons,List.length_map]; omega
      have hnumb:=numbered_eq C A L w (by omega) (by omega) (fun x hx=>by
        obtain ⟨j,hj,rfl⟩:=List.getElem_of_mem hx
        have:=hget j (by omega)
        rw [List.getD_eq_getElem?_getD,List.getElem?_eq_getElem hj,Option.getD_some] at this
        rw [this]
        exact (hrange j (by omega)).2)
      simp only [f1',Option.bind_some,Sum.elim_inl,if_pos c1,hwrap,if_pos c2,if_pos c3,htake,hnumb]
      refine ⟨_,true,rfl,(fun h=>by cases h),fun _=>⟨A,L,rfl,.inl ⟨rfl,⟨i,path_later hE hL g1⟩,w,rfl,by omega,by omega,fun j hj=>?_⟩⟩⟩
      have hj':j<p.length:=by omega
      have r1:=hrange j hj'
      rw [← hget j hj'] at r1
      refine ⟨r1.2,r1.1,?_⟩
      have e:=(hE _ _).1 (p4 j (by simp; omega))
      rw [← hget j hj'] at e
      by_cases hlastj:j + 1=p.length
      · rw [hlastj,hend] at e
        rw [hwl,hlastj,Nat.mod_self]
        exact e
      · rw [hwl,Nat.mod_eq_of_lt (by omega),hget (j + 1) (by omega)]
        exact e
    · have f1':Z67 C.length 0 (nums C) A L=_:=f1
      simp only [f1',Option.bind_some,Sum.elim_inr]
      refine ⟨[],false,rfl,fun _=>rfl,fun _=>⟨A,L,rfl,.inr ⟨rfl,rfl,fun i=>?_⟩⟩⟩
      cases hq:at2 L i i with
      | false=>rfl
      | true=>
        exfalso
        have hex:∃ s,at2 L s s=true∧∀ x,at2 L x x=true→s≤x:=by
          have:∀ k i,i≤k→at2 L i i=true→∃ s,at2 L s s=true∧∀ x,at2 L x x=true→s≤x:=by
            intro k
            induction k with
            | zero=>intro i hi h; exact ⟨i,h,fun x _=>by omega⟩
            | succ k ih=>
              intro i hi h
              by_cases hx:∃ x,x<i∧at2 L x x=true
              · obtain ⟨x,x1,x2⟩:=hx
                exact ih x (by omega) x2
              · exact ⟨i,h,fun x hx2=>by
                  by_cases hlt:x<i
                  · exact absurd ⟨x,hlt,hx2⟩ hx
                  · omega⟩
          exact this i i (Nat.le_refl _) hq
        obtain ⟨s,hs,hmin⟩:=hex
        obtain ⟨k,k1,k2,k3,m,k4⟩:=cycle_at hv hE hL hs hmin
        exact f2 s (by omega) (at2_lt hL.sq hs).1 k k1 k2 k3 m k4
def goes (C R L:List D) (j:Nat):Bool:=!at2 L (find2 C ((R[j]?.getD (.int 0)).fld 1).toInt).toNat (find2 C ((R[j]?.getD (.int 0)).fld 0).toInt).toNat
theorem contr1_eq {C R A L:List D} (hv:validB C R=true) (hL:Sq C.length L) {j:Nat} (hj:j<R.length):Z75 ((R[j]?.getD (.int 0)).fld 0).toInt ((R[j]?.getD (.int 0)).fld 1).toInt (nums C) A L C R=some (goes C R L j):=by
 have hC:C.length≤10:=by
  have hv':=hv
  simp only [validB,Bool.and_eq_true,decide_eq_true_eq] at hv'; exact hv'.1
 obtain ⟨a,b,q1,q2,q3,q4,q5,_⟩:=rOk_at hv hj
 unfold Z75 c_Z75 goes
 rw [indexOf_eq C R _ (by omega),indexOf_eq C R _ (by omega),q4,q5]
 have g1:(0:Int)≤(b:Int)∧(b:Int)<L.length:=by rw [hL.len]; omega
 have g2:(0:Int)≤(a:Int)∧(a:Int)<(L.getD b (.int 0)).items.length:=by rw [hL.row b q2]; omega
 simp only [Option.bind_some,if_pos g1,Int.toNat_natCast,if_pos g2]
 rfl
theorem delL_eq {C R A L:List D} (hv:validB C R=true) (hL:Sq C.length L) (hR:R.length≤24):∀ (m j i:Nat) (X:List D),j + m=R.length→i≤j→X.length=R.length→(∀ k,j≤k→X[k]?.getD (.int 0)=R[k]?.getD (.int 0)) →
  ∃ (i':Nat) (X':List D),Z78 (nums C) A L C R i j X=some ((i':Int),X')∧X'.length=R.length∧i≤i'∧i'≤R.length∧(i'=i ↔ ∀ k,j≤k→k<R.length→goes C R L k=true):=by
 intro m
 induction m with
 | zero=>
  intro j i X hj hi hX hk
  have:j=R.length:=by omega
  subst this
  refine ⟨i,X,?_,hX,Nat.le_refl _,hi,⟨fun _ k h1 h2=>by omega,fun _=>rfl⟩⟩
  rw [Z78_fx]
  unfold c_Z78
  simp [hX]
 | succ m ih=>
  intro j i X hj hi hX hk
  have hjR:j<R.length:=by omega
  rw [Z78_fx]
  unfold c_Z78
  have h1:(j:Int)<X.length:=by omega
  have h2:(0:Int)≤(j:Int)∧(j:Int)<X.length:=by omega
  have h3:j + 1≤X.length:=by omega
  have h4:(0:Int)≤(i:Int)∧(i:Int)<X.length:=by omega
  have h5:i + 1≤X.length:=by omega
  have hc:=contr1_eq (A:=A) hv hL hjR
  simp only [h1,decide_true,cond_true,if_pos h2,Int.toNat_natCast,if_pos h3,List.getD_eq_getElem?_getD,hk j (Nat.le_refl _),hc,Option.bind_some,if_pos h4,if_pos h5,succ_wrap (show j<4611686018427387904 by omega),succ_wrap (show i<4611686018427387904 by omega)]
  cases hg:goes C R L j with
  | true=>
   simp only [Bool.not_true,cond_false]
   obtain ⟨i',X',e1,e2,e3,e4,e5⟩:=ih (j + 1) i X (by omega) (by omega) hX (fun k h=>hk k (by omega))
   refine ⟨i',X',by rw [e1]; rfl,e2,e3,e4,e5.trans ⟨fun h k k1 k2=>?_,fun h k k1 k2=>h k (by omega) k2⟩⟩
   by_cases e:k=j
   ·subst e; exact hg
   ·exact h k (by omega) k2
  | false=>
   simp only [Bool.not_false,cond_true]
   obtain ⟨i',X',e1,e2,e3,e4,e5⟩:=ih (j + 1) (i + 1) (X.set i (D.node [D.int ((R[j]?.getD (.int 0)).fld 0).toInt,D.int ((R[j]?.getD (.int 0)).fld 1).toInt])) (by omega) (by omega) (by simp [hX]) (fun k h=>by
    rw [List.getElem?_set_ne (by omega)]; exact hk k (by omega))
   refine ⟨i',X',by rw [e1]; rfl,e2,by omega,e4,⟨fun h=>by omega,fun h=>?_⟩⟩
   have:=h j (Nat.le_refl _) hjR
   rw [hg] at this; cases this
theorem clone_eq (l:List D) (h:l.length≤100000):Z74 l=some l:=by
 unfold Z74 c_Z74
 by_cases h1:1≤l.length
 ·rw [if_pos h1,if_pos (by simp; omega)]; rfl
 ·have:l=[]:=List.eq_nil_of_length_eq_zero (by omega)
  subst this
  simp [bothK]
theorem contra_eq (C R:List D):∃ bad,Z80 C R=some (bad,validB C R)∧(validB C R=true→∃ A L,Z58 C R=some (nums C,A,L)∧(bad.length=0 ↔ ∀ k,k<R.length→goes C R L k=true)):=by
 unfold Z80 c_Z80
 rw [valid_eq]
 cases hv:validB C R with
 | false=>exact ⟨[],rfl,fun h=>by cases h⟩
 | true=>
  obtain ⟨A,L,h1,hA,hE,hL⟩:=order_eq C R hv
  have hv':=hv
  simp only [validB,Bool.and_eq_true,decide_eq_true_eq] at hv'
  obtain ⟨hC,hR,_,_⟩:=hv'
  simp only [h1,Option.bind_some,Bool.not_true,cond_false,clone_eq R (by omega)]
  have hs:=fxScan (F:=fun i=>Z76 R (nums C) A L C R R.length i) (len:=R.length) (goes C R L) (fun i=>.inl (i:Int)) (fin:=.inr ()) (fun i hi=>by
   show Z76 R (nums C) A L C R R.length i=_
   rw [Z76_fx]
   unfold c_Z76
   have h1:(i:Int)<R.length:=by omega
   have hc:=contr1_eq (A:=A) hv hL.sq hi
   simp only [h1,decide_true,cond_true,Int.natCast_nonneg,and_self,if_true,Int.toNat_natCast,List.getD_eq_getElem?_getD,hc,Option.bind_some,succ_wrap (show i<4611686018427387904 by omega),Option.bind_fun_some])
   (by
    show Z76 R (nums C) A L C R R.length R.length=_
    rw [Z76_fx]; unfold c_Z76; simp)
  have hs':Z76 R (nums C) A L C R R.length 0=_:=hs
  unfold Z79 c_Z79
  simp only [Z77,c_Z77,hs',Option.bind_some]
  cases hf:firstN (goes C R L) R.length with
  | none=>
   have hno:=firstN_none hf
   simp only [Sum.elim_inr,Option.bind_some,decide_true,cond_true]
   refine ⟨R,rfl,fun _=>⟨A,L,rfl,⟨fun h k hk=>by omega,fun h=>?_⟩⟩⟩
   cases hq:R.length with
   | zero=>rfl
   | succ n=>
    have h1:=h 0 (by omega)
    have h2:=hno 0 (by omega)
    rw [h1] at h2; cases h2
  | some i=>
   obtain ⟨i1,i2,i3⟩:=firstN_some hf
   have hne:¬ (i:Int)=-1:=by omega
   simp only [Sum.elim_inl,Option.bind_some,hne,decide_false,cond_false,succ_wrap (show i<4611686018427387904 by omega)]
   obtain ⟨i',X',e1,e2,e3,e4,e5⟩:=delL_eq (A:=A) hv hL.sq hR (R.length - (i + 1)) (i + 1) i R (by omega) (by omega) rfl (fun k _=>rfl)
   have c1:(0:Int)≤(i':Int)∧(i':Int)≤X'.length∧(X'.length:Int)≤X'.length:=by omega
   have c2:i' + (X'.length - i')≤X'.length:=by omega
   have c3:(0:Int)≤0∧(0:Int)≤(i':Int)∧(i':Int)≤(List.take i' X' ++ List.replicate (X'.length - i') (D.node [D.int 0,D.int 0]) ++ List.drop (i' + (List.replicate (X'.length - i') (D.node [D.int 0,D.int 0])).length) X').length:=by
    simp only [List.length_append,List.length_take,List.length_replicate,List.length_drop]; omega
   have c4:0 + (i' - 0)≤(List.take i' X' ++ List.replicate (X'.length - i') (D.node [D.int 0,D.int 0]) ++ List.drop (i' + (List.replicate (X'.length - i') (D.node [D.int 0,D.int 0])).length) X').length:=by
    simp only [List.length_append,List.length_take,List.length_replicate,List.length_drop]; omega
   simp only [e1,Option.bind_some,Int.toNat_natCast,if_pos c1,if_pos c2,if_pos c3,if_pos c4]
   refine ⟨_,rfl,fun _=>⟨A,L,rfl,?_⟩⟩
   have hlen:(List.take (i' - 0) (List.drop 0 (List.take i' X' ++ List.replicate (X'.length - i') (D.node [D.int 0,D.int 0]) ++ List.drop (i' + (List.replicate (X'.length - i') (D.node [D.int 0,D.int 0])).length) X'))).length=i':=by
    simp only [List.length_take,List.length_append,List.length_replicate,List.length_drop,List.drop_zero]; omega
   rw [hlen]
   constructor
   ·intro h k hk
    have:i'=i:=by omega
    by_cases h1:k=i
    ·subst h1; exact i2
    ·exact e5.1 this k (by omega) hk
   ·intro h
    have h0:i=0:=by
     by_cases hi0:i=0
     ·exact hi0
     ·have h1:=h 0 (by omega)
      have h2:=i3 0 (by omega)
      rw [h1] at h2; cases h2
    have:=e5.2 (fun k _ hk=>h k hk)
    omega
theorem pure_FnCycle (x0:List D) (h0:x0.length≤maxLen) (w0:∀ d ∈ x0,wfD (.int .u8) d):Z85 x0=some true:=by
 simp only [Z85,c_Z85,Z0,c_Z0,Option.bind_some]
 by_cases hb:(65536:Int)<x0.length
 ·simp only [hb,decide_true,cond_true]
 ·have hc:okC x0:=⟨by omega,fun d hd=>okB (w0 d hd)⟩
  obtain ⟨⟨C,R⟩,d1,d2,d3⟩:=draw_tot x0 hc
  obtain ⟨q,found,s1,s2,s3⟩:=shortest_eq C R
  obtain ⟨fine,t1,t2⟩:=isCons_eq C R
  obtain ⟨bad,u1,u2⟩:=contra_eq C R
  have hsv:Z81 C R=some (validB C R):=by
   simp only [Z81,c_Z81,l2Good_eq,Option.bind_some]
  simp only [hb,decide_false,cond_false,d1,s1,t1,u1,hsv,Option.bind_some,beq_self_eq_true,Bool.not_true]
  cases hv:validB C R with
  | false=>
   rw [s2 hv]
   simp
  | true=>
   obtain ⟨A,L,o1,s4⟩:=s3 hv
   obtain ⟨A2,L2,o2,hA,hE,hL,t3⟩:=t2 hv
   obtain ⟨A3,L3,o3,u3⟩:=u2 hv
   rw [o1] at o2 o3
   simp only [Option.some.injEq,Prod.mk.injEq,true_and] at o2 o3
   obtain ⟨rfl,rfl⟩:=o2
   obtain ⟨rfl,rfl⟩:=o3
   have hgo:(∀ k,k<R.length→goes C R L k=true) ↔ ∀ i,at2 L i i=false:=by
    constructor
    ·intro h i
     cases hq:at2 L i i with
     | false=>rfl
     | true=>
      exfalso
      have first:∀ a b,at2 L a b=true→∃ k,edge C R a k∧(k=b ∨ at2 L k b=true):=by
       refine hL.min (fun a b=>∃ k,edge C R a k∧(k=b ∨ at2 L k b=true)) (fun a b c h1 h2=>?_) (fun a b h=>⟨b,h,.inl rfl⟩)
       obtain ⟨k,k1,k2⟩:=h1
       obtain ⟨m,m1,m2⟩:=h2
       have hbc:at2 L b c=true:=by
        rcases m2 with rfl | m2
        ·exact hL.base _ _ m1
        ·exact hL.trans _ _ _ (hL.base _ _ m1) m2
       rcases k2 with rfl | k2
       ·exact ⟨k,k1,.inr hbc⟩
       ·exact ⟨k,k1,.inr (hL.trans _ _ _ k2 hbc)⟩
      obtain ⟨k,k1,k2⟩:=first i i hq
      have lt:=edge_lt hv k1
      rcases k2 with rfl | k2
      ·exact lt.2.2 rfl
      ·obtain ⟨j,hj,e1,e2⟩:=k1
       have:=h j hj
       unfold goes at this
       rw [e1,e2] at this
       simp only [Int.toNat_natCast,k2] at this
       cases this
    ·intro h k hk
     obtain ⟨a,b,q1,q2,q3,q4,q5,_⟩:=rOk_at hv hk
     unfold goes
     rw [q4,q5]
     simp only [Int.toNat_natCast]
     cases hq:at2 L b a with
     | false=>rfl
     | true=>
      have:=hL.trans _ _ _ (hL.base a b ⟨k,hk,q4,q5⟩) hq
      rw [h a] at this; cases this
   have hfine:fine=true ↔ ∀ i,at2 L i i=false:=by
    rw [t3,allN_iff]
    constructor
    ·intro h i
     cases hq:at2 L i i with
     | false=>rfl
     | true=>
      have:=h i (at2_lt hL.sq hq).1
      rw [hq] at this; cases this
    ·intro h i _
     rw [h i]; rfl
   have hbad:decide ((bad.length:Int)=0)=fine:=by
    cases hf:fine with
    | true=>
     have:=u3.2 (hgo.2 (hfine.1 hf))
     exact decide_eq_true (by omega)
    | false=>
     refine decide_eq_false (fun h=>?_)
     have:=hfine.2 (hgo.1 (u3.1 (by omega)))
     rw [hf] at this; cases this
   simp only [hbad,beq_self_eq_true,Bool.not_true,cond_false]
   rcases s4 with ⟨rfl,⟨i,hi⟩,w,rfl,w1,w1',w2⟩ | ⟨rfl,rfl,hno⟩
   ·have hff:fine=false:=by
     cases hf:fine with
     | false=>rfl
     | true=>rw [hfine.1 hf i] at hi; cases hi
    rw [hff]
    simp only [Bool.not_true,cond_false,show (true == false)=false from rfl]
    have hl:=fxAll (F:=fun j=>Z84 true j C R (w.map (fun i=>D.int (numAt C i)))) (len:=w.length) (fun _=>true) (.inl (false,true,w.map (fun i=>D.int (numAt C i)))) (fin:=.inr (true,w.map (fun i=>D.int (numAt C i)))) (fun j hj=>by
     show Z84 true j C R (w.map (fun i=>D.int (numAt C i)))=_
     rw [Z84_fx]
     unfold c_Z84
     have hml:(w.map (fun i=>D.int (numAt C i))).length=w.length:=by simp
     have g1:(j:Int)<w.length:=by omega
     have g2:(0:Int)≤(j:Int)∧(j:Int)<w.length:=by omega
     have g3:j + 1≤w.length:=by omega
     have g4:(w.length:Int) ≠ 0:=by omega
     have g5:((j + 1:Nat):Int).tmod (w.length:Int)=(((j + 1) % w.length:Nat):Int):=tmod_nat
     have hmod:(j + 1) % w.length<w.length:=Nat.mod_lt _ (by omega)
     have g6:(0:Int)≤(((j + 1) % w.length:Nat):Int)∧(((j + 1) % w.length:Nat):Int)<w.length:=by omega
     have g7:(j + 1) % w.length + 1≤w.length:=by omega
     have g8:(0:Int)≤0∧(0:Int)<w.length:=by omega
     have g9:0 + 1≤w.length:=by omega
     have g10:(((j + 1) % w.length:Nat):Int)<w.length:=by omega
     have g11:(0:Int)<w.length:=by omega
     have hat:∀ k,k<w.length→((w.map (fun i=>D.int (numAt C i))).getD k (.int 0)).toInt=numAt C (w.getD k 0):=fun k hk=>by
      rw [List.getD_eq_getElem?_getD,List.getElem?_map,List.getD_eq_getElem?_getD,List.getElem?_eq_getElem hk]; rfl
     obtain ⟨v1,v2,v3⟩:=w2 j hj
     have hrel:=edge_rel hv v3
     have hle:¬ numAt C (w.getD j 0)<numAt C (w.getD 0 0):=by
      by_cases he:w.getD 0 0=w.getD j 0
      ·rw [he]; omega
      ·have:=numAt_lt hv (w.getD j 0 - w.getD 0 0) (w.getD 0 0) (by omega) (by omega)
       rw [show w.getD 0 0 + (w.getD j 0 - w.getD 0 0)=w.getD j 0 by omega] at this
       omega
     simp only [hml,g1,g10,g11,decide_true,cond_true,Int.natCast_nonneg,Int.le_refl,and_self,if_true,Int.toNat_natCast,if_pos g3,if_pos g4,succ_wrap (show j<4611686018427387904 by omega),g5,if_pos g7,hat j hj,hat _ hmod,hrel,Option.bind_some,Bool.not_true,cond_false,Int.toNat_zero,if_pos g9,hat 0 (by omega),hle,decide_false,Option.bind_fun_some])
     (by
      show Z84 true w.length C R (w.map (fun i=>D.int (numAt C i)))=_
      rw [Z84_fx]; unfold c_Z84; simp)
    have hl':Z84 true 0 C R (w.map (fun i=>D.int (numAt C i)))=_:=hl
    have hall:allN (fun _=>true) w.length=true:=allN_iff.2 (fun _ _=>rfl)
    rw [hl',hall]
    have hlen:(1:Int)<(w.map (fun i=>D.int (numAt C i))).length:=by
     rw [List.length_map]; omega
    simp only [cond_true,Option.bind_some,Sum.elim_inr,Bool.not_true,cond_false,hlen,decide_true]
   ·have hff:fine=true:=hfine.2 hno
    rw [hff]
    have hl:Z84 false 0 C R []=some (.inr (false,[])):=by
     rw [Z84_fx]; unfold c_Z84; simp
    simp only [Bool.not_true,cond_false,show (false == true)=false from rfl,hl,Option.bind_some,Sum.elim_inr,Bool.not_false,cond_true]
end Go.Proofs.Ytdoaceeakjbgfaa
