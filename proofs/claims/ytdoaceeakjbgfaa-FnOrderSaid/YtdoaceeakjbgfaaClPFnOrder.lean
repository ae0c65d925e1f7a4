/- The law FnOrder over plain values. No condition beside those of the statement. -/
import Derived.Test.YtdoaceeakjbgfaaClMFnOrder
import Derived.Test.YtdoaceeakjbgfaaRaiU6
set_option linter.unusedVariables false
set_option linter.unusedSimpArgs false
set_option maxRecDepth 100000
namespace Go.Proofs.Ytdoaceeakjbgfaa
open Go Go.Rai
theorem Z3_fx (x0 x1 x2:Int) (x3:List D) (x4 x5:Int) (x6:List D):Z3 x0 x1 x2 x3 x4 x5 x6=c_Z3 Z3 x0 x1 x2 x3 x4 x5 x6 some:=
 fix_eq (N:=fun n (p:Int × Int × Int × List D × Int × Int × List D)=>n_Z3 n p.1 p.2.1 p.2.2.1 p.2.2.2.1 p.2.2.2.2.1 p.2.2.2.2.2.1 p.2.2.2.2.2.2) (C:=fun f p=>c_Z3 (fun x0 x1 x2 x3 x4 x5 x6=>f (x0,x1,x2,x3,x4,x5,x6)) p.1 p.2.1 p.2.2.1 p.2.2.2.1 p.2.2.2.2.1 p.2.2.2.2.2.1 p.2.2.2.2.2.2 some) (fun _=>rfl) (fun _ _=>rfl) (fun hD f fs h p=>by
  unfold c_Z3
  repeat' first | exact Lim.const hD | exact h _ | apply Lim.ite | apply Lim.cond | apply Lim.bind hD | apply Lim.sum | intro _) (x0,x1,x2,x3,x4,x5,x6)
theorem Z7_fx (x0:Int) (x1 x2:List D) (x3 x4:Int):Z7 x0 x1 x2 x3 x4=c_Z7 Z7 x0 x1 x2 x3 x4 some:=
 fix_eq (N:=fun n (p:Int × List D × List D × Int × Int)=>n_Z7 n p.1 p.2.1 p.2.2.1 p.2.2.2.1 p.2.2.2.2) (C:=fun f p=>c_Z7 (fun x0 x1 x2 x3 x4=>f (x0,x1,x2,x3,x4)) p.1 p.2.1 p.2.2.1 p.2.2.2.1 p.2.2.2.2 some) (fun _=>rfl) (fun _ _=>rfl) (fun hD f fs h p=>by
  unfold c_Z7
  repeat' first | exact Lim.const hD | exact h _ | apply Lim.ite | apply Lim.cond | apply Lim.bind hD | apply Lim.sum | intro _) (x0,x1,x2,x3,x4)
theorem Z10_fx (x0:Int) (x1 x2:List D) (x3 x4:Int):Z10 x0 x1 x2 x3 x4=c_Z10 Z10 x0 x1 x2 x3 x4 some:=
 fix_eq (N:=fun n (p:Int × List D × List D × Int × Int)=>n_Z10 n p.1 p.2.1 p.2.2.1 p.2.2.2.1 p.2.2.2.2) (C:=fun f p=>c_Z10 (fun x0 x1 x2 x3 x4=>f (x0,x1,x2,x3,x4)) p.1 p.2.1 p.2.2.1 p.2.2.2.1 p.2.2.2.2 some) (fun _=>rfl) (fun _ _=>rfl) (fun hD f fs h p=>by
  unfold c_Z10
  repeat' first | exact Lim.const hD | exact h _ | apply Lim.ite | apply Lim.cond | apply Lim.bind hD | apply Lim.sum | intro _) (x0,x1,x2,x3,x4)
theorem Z12_fx (x0 x1:Int) (x2:List D) (x3 x4:Int) (x5 x6:List D):Z12 x0 x1 x2 x3 x4 x5 x6=c_Z12 Z12 x0 x1 x2 x3 x4 x5 x6 some:=
 fix_eq (N:=fun n (p:Int × Int × List D × Int × Int × List D × List D)=>n_Z12 n p.1 p.2.1 p.2.2.1 p.2.2.2.1 p.2.2.2.2.1 p.2.2.2.2.2.1 p.2.2.2.2.2.2) (C:=fun f p=>c_Z12 (fun x0 x1 x2 x3 x4 x5 x6=>f (x0,x1,x2,x3,x4,x5,x6)) p.1 p.2.1 p.2.2.1 p.2.2.2.1 p.2.2.2.2.1 p.2.2.2.2.2.1 p.2.2.2.2.2.2 some) (fun _=>rfl) (fun _ _=>rfl) (fun hD f fs h p=>by
  unfold c_Z12
  repeat' first | exact Lim.const hD | exact h _ | apply Lim.ite | apply Lim.cond | apply Lim.bind hD | apply Lim.sum | intro _) (x0,x1,x2,x3,x4,x5,x6)
theorem Z13_fx (x0 x1:Int) (x2:List D) (x3 x4:Int) (x5:List D):Z13 x0 x1 x2 x3 x4 x5=c_Z13 Z13 x0 x1 x2 x3 x4 x5 some:=
 fix_eq (N:=fun n (p:Int × Int × List D × Int × Int × List D)=>n_Z13 n p.1 p.2.1 p.2.2.1 p.2.2.2.1 p.2.2.2.2.1 p.2.2.2.2.2) (C:=fun f p=>c_Z13 (fun x0 x1 x2 x3 x4 x5=>f (x0,x1,x2,x3,x4,x5)) p.1 p.2.1 p.2.2.1 p.2.2.2.1 p.2.2.2.2.1 p.2.2.2.2.2 some) (fun _=>rfl) (fun _ _=>rfl) (fun hD f fs h p=>by
  unfold c_Z13
  repeat' first | exact Lim.const hD | exact h _ | apply Lim.ite | apply Lim.cond | apply Lim.bind hD | apply Lim.sum | intro _) (x0,x1,x2,x3,x4,x5)
theorem Z16_fx (x0:Int) (x1:List D) (x2 x3:Int) (x4 x5:List D):Z16 x0 x1 x2 x3 x4 x5=c_Z16 Z16 x0 x1 x2 x3 x4 x5 some:=
 fix_eq (N:=fun n (p:Int × List D × Int × Int × List D × List D)=>n_Z16 n p.1 p.2.1 p.2.2.1 p.2.2.2.1 p.2.2.2.2.1 p.2.2.2.2.2) (C:=fun f p=>c_Z16 (fun x0 x1 x2 x3 x4 x5=>f (x0,x1,x2,x3,x4,x5)) p.1 p.2.1 p.2.2.1 p.2.2.2.1 p.2.2.2.2.1 p.2.2.2.2.2 some) (fun _=>rfl) (fun _ _=>rfl) (fun hD f fs h p=>by
  unfold c_Z16
  repeat' first | exact Lim.const hD | exact h _ | apply Lim.ite | apply Lim.cond | apply Lim.bind hD | apply Lim.sum | intro _) (x0,x1,x2,x3,x4,x5)
theorem Z17_fx (x0:Int) (x1:List D) (x2 x3:Int) (x4 x5:List D):Z17 x0 x1 x2 x3 x4 x5=c_Z17 Z17 x0 x1 x2 x3 x4 x5 some:=
 fix_eq (N:=fun n (p:Int × List D × Int × Int × List D × List D)=>n_Z17 n p.1 p.2.1 p.2.2.1 p.2.2.2.1 p.2.2.2.2.1 p.2.2.2.2.2) (C:=fun f p=>c_Z17 (fun x0 x1 x2 x3 x4 x5=>f (x0,x1,x2,x3,x4,x5)) p.1 p.2.1 p.2.2.1 p.2.2.2.1 p.2.2.2.2.1 p.2.2.2.2.2 some) (fun _=>rfl) (fun _ _=>rfl) (fun hD f fs h p=>by
  unfold c_Z17
  repeat' first | exact Lim.const hD | exact h _ | apply Lim.ite | apply Lim.cond | apply Lim.bind hD | apply Lim.sum | intro _) (x0,x1,x2,x3,x4,x5)
theorem Z18_fx (x0 x1:Int) (x2:List D) (x3 x4:Int) (x5 x6:List D):Z18 x0 x1 x2 x3 x4 x5 x6=c_Z18 Z18 x0 x1 x2 x3 x4 x5 x6 some:=
 fix_eq (N:=fun n (p:Int × Int × List D × Int × Int × List D × List D)=>n_Z18 n p.1 p.2.1 p.2.2.1 p.2.2.2.1 p.2.2.2.2.1 p.2.2.2.2.2.1 p.2.2.2.2.2.2) (C:=fun f p=>c_Z18 (fun x0 x1 x2 x3 x4 x5 x6=>f (x0,x1,x2,x3,x4,x5,x6)) p.1 p.2.1 p.2.2.1 p.2.2.2.1 p.2.2.2.2.1 p.2.2.2.2.2.1 p.2.2.2.2.2.2 some) (fun _=>rfl) (fun _ _=>rfl) (fun hD f fs h p=>by
  unfold c_Z18
  repeat' first | exact Lim.const hD | exact h _ | apply Lim.ite | apply Lim.cond | apply Lim.bind hD | apply Lim.sum | intro _) (x0,x1,x2,x3,x4,x5,x6)
theorem Z19_fx (x0 x1:Int) (x2:List D) (x3 x4:Int) (x5 x6:List D):Z19 x0 x1 x2 x3 x4 x5 x6=c_Z19 Z19 x0 x1 x2 x3 x4 x5 x6 some:=
 fix_eq (N:=fun n (p:Int × Int × List D × Int × Int × List D × List D)=>n_Z19 n p.1 p.2.1 p.2.2.1 p.2.2.2.1 p.2.2.2.2.1 p.2.2.2.2.2.1 p.2.2.2.2.2.2) (C:=fun f p=>c_Z19 (fun x0 x1 x2 x3 x4 x5 x6=>f (x0,x1,x2,x3,x4,x5,x6)) p.1 p.2.1 p.2.2.1 p.2.2.2.1 p.2.2.2.2.1 p.2.2.2.2.2.1 p.2.2.2.2.2.2 some) (fun _=>rfl) (fun _ _=>rfl) (fun hD f fs h p=>by
  unfold c_Z19
  repeat' first | exact Lim.const hD | exact h _ | apply Lim.ite | apply Lim.cond | apply Lim.bind hD | apply Lim.sum | intro _) (x0,x1,x2,x3,x4,x5,x6)
theorem Z20_fx (x0:Int) (x1:List D) (x2 x3:Int) (x4 x5:List D):Z20 x0 x1 x2 x3 x4 x5=c_Z20 Z20 x0 x1 x2 x3 x4 x5 some:=
 fix_eq (N:=fun n (p:Int × List D × Int × Int × List D × List D)=>n_Z20 n p.1 p.2.1 p.2.2.1 p.2.2.2.1 p.2.2.2.2.1 p.2.2.2.2.2) (C:=fun f p=>c_Z20 (fun x0 x1 x2 x3 x4 x5=>f (x0,x1,x2,x3,x4,x5)) p.1 p.2.1 p.2.2.1 p.2.2.2.1 p.2.2.2.2.1 p.2.2.2.2.2 some) (fun _=>rfl) (fun _ _=>rfl) (fun hD f fs h p=>by
  unfold c_Z20
  repeat' first | exact Lim.const hD | exact h _ | apply Lim.ite | apply Lim.cond | apply Lim.bind hD | apply Lim.sum | intro _) (x0,x1,x2,x3,x4,x5)
theorem Z21_fx (x0:Int) (x1:List D) (x2 x3:Int) (x4 x5:List D):Z21 x0 x1 x2 x3 x4 x5=c_Z21 Z21 x0 x1 x2 x3 x4 x5 some:=
 fix_eq (N:=fun n (p:Int × List D × Int × Int × List D × List D)=>n_Z21 n p.1 p.2.1 p.2.2.1 p.2.2.2.1 p.2.2.2.2.1 p.2.2.2.2.2) (C:=fun f p=>c_Z21 (fun x0 x1 x2 x3 x4 x5=>f (x0,x1,x2,x3,x4,x5)) p.1 p.2.1 p.2.2.1 p.2.2.2.1 p.2.2.2.2.1 p.2.2.2.2.2 some) (fun _=>rfl) (fun _ _=>rfl) (fun hD f fs h p=>by
  unfold c_Z21
  repeat' first | exact Lim.const hD | exact h _ | apply Lim.ite | apply Lim.cond | apply Lim.bind hD | apply Lim.sum | intro _) (x0,x1,x2,x3,x4,x5)
theorem Z29_fx (x0:List D) (x1 x2:Int) (x3 x4:List D):Z29 x0 x1 x2 x3 x4=c_Z29 Z29 x0 x1 x2 x3 x4 some:=
 fix_eq (N:=fun n (p:List D × Int × Int × List D × List D)=>n_Z29 n p.1 p.2.1 p.2.2.1 p.2.2.2.1 p.2.2.2.2) (C:=fun f p=>c_Z29 (fun x0 x1 x2 x3 x4=>f (x0,x1,x2,x3,x4)) p.1 p.2.1 p.2.2.1 p.2.2.2.1 p.2.2.2.2 some) (fun _=>rfl) (fun _ _=>rfl) (fun hD f fs h p=>by
  unfold c_Z29
  repeat' first | exact Lim.const hD | exact h _ | apply Lim.ite | apply Lim.cond | apply Lim.bind hD | apply Lim.sum | intro _) (x0,x1,x2,x3,x4)
theorem Z31_fx (x0:List D) (x1 x2 x3:Int):Z31 x0 x1 x2 x3=c_Z31 Z31 x0 x1 x2 x3 some:=
 fix_eq (N:=fun n (p:List D × Int × Int × Int)=>n_Z31 n p.1 p.2.1 p.2.2.1 p.2.2.2) (C:=fun f p=>c_Z31 (fun x0 x1 x2 x3=>f (x0,x1,x2,x3)) p.1 p.2.1 p.2.2.1 p.2.2.2 some) (fun _=>rfl) (fun _ _=>rfl) (fun hD f fs h p=>by
  unfold c_Z31
  repeat' first | exact Lim.const hD | exact h _ | apply Lim.ite | apply Lim.cond | apply Lim.bind hD | apply Lim.sum | intro _) (x0,x1,x2,x3)
theorem Z39_fx (x0:List D) (x1 x2:Int) (x3 x4:List D):Z39 x0 x1 x2 x3 x4=c_Z39 Z39 x0 x1 x2 x3 x4 some:=
 fix_eq (N:=fun n (p:List D × Int × Int × List D × List D)=>n_Z39 n p.1 p.2.1 p.2.2.1 p.2.2.2.1 p.2.2.2.2) (C:=fun f p=>c_Z39 (fun x0 x1 x2 x3 x4=>f (x0,x1,x2,x3,x4)) p.1 p.2.1 p.2.2.1 p.2.2.2.1 p.2.2.2.2 some) (fun _=>rfl) (fun _ _=>rfl) (fun hD f fs h p=>by
  unfold c_Z39
  repeat' first | exact Lim.const hD | exact h _ | apply Lim.ite | apply Lim.cond | apply Lim.bind hD | apply Lim.sum | intro _) (x0,x1,x2,x3,x4)
theorem Z42_fx (x0 x1 x2:Int) (x3:List D):Z42 x0 x1 x2 x3=c_Z42 Z42 x0 x1 x2 x3 some:=
 fix_eq (N:=fun n (p:Int × Int × Int × List D)=>n_Z42 n p.1 p.2.1 p.2.2.1 p.2.2.2) (C:=fun f p=>c_Z42 (fun x0 x1 x2 x3=>f (x0,x1,x2,x3)) p.1 p.2.1 p.2.2.1 p.2.2.2 some) (fun _=>rfl) (fun _ _=>rfl) (fun hD f fs h p=>by
  unfold c_Z42
  repeat' first | exact Lim.const hD | exact h _ | apply Lim.ite | apply Lim.cond | apply Lim.bind hD | apply Lim.sum | intro _) (x0,x1,x2,x3)
theorem Z44_fx (x0:Int) (x1:List D) (x2 x3:Int) (x4 x5 x6 x7 x8:List D):Z44 x0 x1 x2 x3 x4 x5 x6 x7 x8=c_Z44 Z44 x0 x1 x2 x3 x4 x5 x6 x7 x8 some:=
 fix_eq (N:=fun n (p:Int × List D × Int × Int × List D × List D × List D × List D × List D)=>n_Z44 n p.1 p.2.1 p.2.2.1 p.2.2.2.1 p.2.2.2.2.1 p.2.2.2.2.2.1 p.2.2.2.2.2.2.1 p.2.2.2.2.2.2.2.1 p.2.2.2.2.2.2.2.2) (C:=fun f p=>c_Z44 (fun x0 x1 x2 x3 x4 x5 x6 x7 x8=>f (x0,x1,x2,x3,x4,x5,x6,x7,x8)) p.1 p.2.1 p.2.2.1 p.2.2.2.1 p.2.2.2.2.1 p.2.2.2.2.2.1 p.2.2.2.2.2.2.1 p.2.2.2.2.2.2.2.1 p.2.2.2.2.2.2.2.2 some) (fun _=>rfl) (fun _ _=>rfl) (fun hD f fs h p=>by
  unfold c_Z44
  repeat' first | exact Lim.const hD | exact h _ | apply Lim.ite | apply Lim.cond | apply Lim.bind hD | apply Lim.sum | intro _) (x0,x1,x2,x3,x4,x5,x6,x7,x8)
theorem Z45_fx (x0:Int) (x1:List D) (x2 x3:Int) (x4 x5 x6 x7 x8:List D):Z45 x0 x1 x2 x3 x4 x5 x6 x7 x8=c_Z45 Z45 x0 x1 x2 x3 x4 x5 x6 x7 x8 some:=
 fix_eq (N:=fun n (p:Int × List D × Int × Int × List D × List D × List D × List D × List D)=>n_Z45 n p.1 p.2.1 p.2.2.1 p.2.2.2.1 p.2.2.2.2.1 p.2.2.2.2.2.1 p.2.2.2.2.2.2.1 p.2.2.2.2.2.2.2.1 p.2.2.2.2.2.2.2.2) (C:=fun f p=>c_Z45 (fun x0 x1 x2 x3 x4 x5 x6 x7 x8=>f (x0,x1,x2,x3,x4,x5,x6,x7,x8)) p.1 p.2.1 p.2.2.1 p.2.2.2.1 p.2.2.2.2.1 p.2.2.2.2.2.1 p.2.2.2.2.2.2.1 p.2.2.2.2.2.2.2.1 p.2.2.2.2.2.2.2.2 some) (fun _=>rfl) (fun _ _=>rfl) (fun hD f fs h p=>by
  unfold c_Z45
  repeat' first | exact Lim.const hD | exact h _ | apply Lim.ite | apply Lim.cond | apply Lim.bind hD | apply Lim.sum | intro _) (x0,x1,x2,x3,x4,x5,x6,x7,x8)
theorem Z46_fx (x0:Int) (x1:List D) (x2 x3:Int) (x4 x5 x6 x7 x8:List D):Z46 x0 x1 x2 x3 x4 x5 x6 x7 x8=c_Z46 Z46 x0 x1 x2 x3 x4 x5 x6 x7 x8 some:=
 fix_eq (N:=fun n (p:Int × List D × Int × Int × List D × List D × List D × List D × List D)=>n_Z46 n p.1 p.2.1 p.2.2.1 p.2.2.2.1 p.2.2.2.2.1 p.2.2.2.2.2.1 p.2.2.2.2.2.2.1 p.2.2.2.2.2.2.2.1 p.2.2.2.2.2.2.2.2) (C:=fun f p=>c_Z46 (fun x0 x1 x2 x3 x4 x5 x6 x7 x8=>f (x0,x1,x2,x3,x4,x5,x6,x7,x8)) p.1 p.2.1 p.2.2.1 p.2.2.2.1 p.2.2.2.2.1 p.2.2.2.2.2.1 p.2.2.2.2.2.2.1 p.2.2.2.2.2.2.2.1 p.2.2.2.2.2.2.2.2 some) (fun _=>rfl) (fun _ _=>rfl) (fun hD f fs h p=>by
  unfold c_Z46
  repeat' first | exact Lim.const hD | exact h _ | apply Lim.ite | apply Lim.cond | apply Lim.bind hD | apply Lim.sum | intro _) (x0,x1,x2,x3,x4,x5,x6,x7,x8)
theorem Z47_fx (x0 x1 x2 x3 x4 x5 x6 x7 x8:Int) (x9 x10 x11:List D):Z47 x0 x1 x2 x3 x4 x5 x6 x7 x8 x9 x10 x11=c_Z47 Z47 x0 x1 x2 x3 x4 x5 x6 x7 x8 x9 x10 x11 some:=
 fix_eq (N:=fun n (p:Int × Int × Int × Int × Int × Int × Int × Int × Int × List D × List D × List D)=>n_Z47 n p.1 p.2.1 p.2.2.1 p.2.2.2.1 p.2.2.2.2.1 p.2.2.2.2.2.1 p.2.2.2.2.2.2.1 p.2.2.2.2.2.2.2.1 p.2.2.2.2.2.2.2.2.1 p.2.2.2.2.2.2.2.2.2.1 p.2.2.2.2.2.2.2.2.2.2.1 p.2.2.2.2.2.2.2.2.2.2.2) (C:=fun f p=>c_Z47 (fun x0 x1 x2 x3 x4 x5 x6 x7 x8 x9 x10 x11=>f (x0,x1,x2,x3,x4,x5,x6,x7,x8,x9,x10,x11)) p.1 p.2.1 p.2.2.1 p.2.2.2.1 p.2.2.2.2.1 p.2.2.2.2.2.1 p.2.2.2.2.2.2.1 p.2.2.2.2.2.2.2.1 p.2.2.2.2.2.2.2.2.1 p.2.2.2.2.2.2.2.2.2.1 p.2.2.2.2.2.2.2.2.2.2.1 p.2.2.2.2.2.2.2.2.2.2.2 some) (fun _=>rfl) (fun _ _=>rfl) (fun hD f fs h p=>by
  unfold c_Z47
  repeat' first | exact Lim.const hD | exact h _ | apply Lim.ite | apply Lim.cond | apply Lim.bind hD | apply Lim.sum | intro _) (x0,x1,x2,x3,x4,x5,x6,x7,x8,x9,x10,x11)
theorem Z48_fx (x0 x1 x2 x3 x4 x5:Int) (x6 x7 x8:List D):Z48 x0 x1 x2 x3 x4 x5 x6 x7 x8=c_Z48 Z48 x0 x1 x2 x3 x4 x5 x6 x7 x8 some:=
 fix_eq (N:=fun n (p:Int × Int × Int × Int × Int × Int × List D × List D × List D)=>n_Z48 n p.1 p.2.1 p.2.2.1 p.2.2.2.1 p.2.2.2.2.1 p.2.2.2.2.2.1 p.2.2.2.2.2.2.1 p.2.2.2.2.2.2.2.1 p.2.2.2.2.2.2.2.2) (C:=fun f p=>c_Z48 (fun x0 x1 x2 x3 x4 x5 x6 x7 x8=>f (x0,x1,x2,x3,x4,x5,x6,x7,x8)) p.1 p.2.1 p.2.2.1 p.2.2.2.1 p.2.2.2.2.1 p.2.2.2.2.2.1 p.2.2.2.2.2.2.1 p.2.2.2.2.2.2.2.1 p.2.2.2.2.2.2.2.2 some) (fun _=>rfl) (fun _ _=>rfl) (fun hD f fs h p=>by
  unfold c_Z48
  repeat' first | exact Lim.const hD | exact h _ | apply Lim.ite | apply Lim.cond | apply Lim.bind hD | apply Lim.sum | intro _) (x0,x1,x2,x3,x4,x5,x6,x7,x8)
theorem Z49_fx (x0 x1 x2:Int) (x3 x4 x5:List D):Z49 x0 x1 x2 x3 x4 x5=c_Z49 Z49 x0 x1 x2 x3 x4 x5 some:=
 fix_eq (N:=fun n (p:Int × Int × Int × List D × List D × List D)=>n_Z49 n p.1 p.2.1 p.2.2.1 p.2.2.2.1 p.2.2.2.2.1 p.2.2.2.2.2) (C:=fun f p=>c_Z49 (fun x0 x1 x2 x3 x4 x5=>f (x0,x1,x2,x3,x4,x5)) p.1 p.2.1 p.2.2.1 p.2.2.2.1 p.2.2.2.2.1 p.2.2.2.2.2 some) (fun _=>rfl) (fun _ _=>rfl) (fun hD f fs h p=>by
  unfold c_Z49
  repeat' first | exact Lim.const hD | exact h _ | apply Lim.ite | apply Lim.cond | apply Lim.bind hD | apply Lim.sum | intro _) (x0,x1,x2,x3,x4,x5)
theorem Z50_fx (x0:Int) (x1:List D) (x2 x3:Int) (x4 x5 x6 x7 x8:List D):Z50 x0 x1 x2 x3 x4 x5 x6 x7 x8=c_Z50 Z50 x0 x1 x2 x3 x4 x5 x6 x7 x8 some:=
 fix_eq (N:=fun n (p:Int × List D × Int × Int × List D × List D × List D × List D × List D)=>n_Z50 n p.1 p.2.1 p.2.2.1 p.2.2.2.1 p.2.2.2.2.1 p.2.2.2.2.2.1 p.2.2.2.2.2.2.1 p.2.2.2.2.2.2.2.1 p.2.2.2.2.2.2.2.2) (C:=fun f p=>c_Z50 (fun x0 x1 x2 x3 x4 x5 x6 x7 x8=>f (x0,x1,x2,x3,x4,x5,x6,x7,x8)) p.1 p.2.1 p.2.2.1 p.2.2.2.1 p.2.2.2.2.1 p.2.2.2.2.2.1 p.2.2.2.2.2.2.1 p.2.2.2.2.2.2.2.1 p.2.2.2.2.2.2.2.2 some) (fun _=>rfl) (fun _ _=>rfl) (fun hD f fs h p=>by
  unfold c_Z50
  repeat' first | exact Lim.const hD | exact h _ | apply Lim.ite | apply Lim.cond | apply Lim.bind hD | apply Lim.sum | intro _) (x0,x1,x2,x3,x4,x5,x6,x7,x8)
theorem Z53_fx (x0 x1 x2:Int) (x3 x4 x5:List D):Z53 x0 x1 x2 x3 x4 x5=c_Z53 Z53 x0 x1 x2 x3 x4 x5 some:=
 fix_eq (N:=fun n (p:Int × Int × Int × List D × List D × List D)=>n_Z53 n p.1 p.2.1 p.2.2.1 p.2.2.2.1 p.2.2.2.2.1 p.2.2.2.2.2) (C:=fun f p=>c_Z53 (fun x0 x1 x2 x3 x4 x5=>f (x0,x1,x2,x3,x4,x5)) p.1 p.2.1 p.2.2.1 p.2.2.2.1 p.2.2.2.2.1 p.2.2.2.2.2 some) (fun _=>rfl) (fun _ _=>rfl) (fun hD f fs h p=>by
  unfold c_Z53
  repeat' first | exact Lim.const hD | exact h _ | apply Lim.ite | apply Lim.cond | apply Lim.bind hD | apply Lim.sum | intro _) (x0,x1,x2,x3,x4,x5)
theorem Z55_fx (x0 x1 x2:List D) (x3 x4 x5 x6 x7 x8:Int) (x9:List D):Z55 x0 x1 x2 x3 x4 x5 x6 x7 x8 x9=c_Z55 Z55 x0 x1 x2 x3 x4 x5 x6 x7 x8 x9 some:=
 fix_eq (N:=fun n (p:List D × List D × List D × Int × Int × Int × Int × Int × Int × List D)=>n_Z55 n p.1 p.2.1 p.2.2.1 p.2.2.2.1 p.2.2.2.2.1 p.2.2.2.2.2.1 p.2.2.2.2.2.2.1 p.2.2.2.2.2.2.2.1 p.2.2.2.2.2.2.2.2.1 p.2.2.2.2.2.2.2.2.2) (C:=fun f p=>c_Z55 (fun x0 x1 x2 x3 x4 x5 x6 x7 x8 x9=>f (x0,x1,x2,x3,x4,x5,x6,x7,x8,x9)) p.1 p.2.1 p.2.2.1 p.2.2.2.1 p.2.2.2.2.1 p.2.2.2.2.2.1 p.2.2.2.2.2.2.1 p.2.2.2.2.2.2.2.1 p.2.2.2.2.2.2.2.2.1 p.2.2.2.2.2.2.2.2.2 some) (fun _=>rfl) (fun _ _=>rfl) (fun hD f fs h p=>by
  unfold c_Z55
  repeat' first | exact Lim.const hD | exact h _ | apply Lim.ite | apply Lim.cond | apply Lim.bind hD | apply Lim.sum | intro _) (x0,x1,x2,x3,x4,x5,x6,x7,x8,x9)
theorem Z56_fx (x0 x1 x2:List D) (x3 x4 x5 x6 x7 x8 x9 x10:Int) (x11:List D):Z56 x0 x1 x2 x3 x4 x5 x6 x7 x8 x9 x10 x11=c_Z56 Z56 x0 x1 x2 x3 x4 x5 x6 x7 x8 x9 x10 x11 some:=
 fix_eq (N:=fun n (p:List D × List D × List D × Int × Int × Int × Int × Int × Int × Int × Int × List D)=>n_Z56 n p.1 p.2.1 p.2.2.1 p.2.2.2.1 p.2.2.2.2.1 p.2.2.2.2.2.1 p.2.2.2.2.2.2.1 p.2.2.2.2.2.2.2.1 p.2.2.2.2.2.2.2.2.1 p.2.2.2.2.2.2.2.2.2.1 p.2.2.2.2.2.2.2.2.2.2.1 p.2.2.2.2.2.2.2.2.2.2.2) (C:=fun f p=>c_Z56 (fun x0 x1 x2 x3 x4 x5 x6 x7 x8 x9 x10 x11=>f (x0,x1,x2,x3,x4,x5,x6,x7,x8,x9,x10,x11)) p.1 p.2.1 p.2.2.1 p.2.2.2.1 p.2.2.2.2.1 p.2.2.2.2.2.1 p.2.2.2.2.2.2.1 p.2.2.2.2.2.2.2.1 p.2.2.2.2.2.2.2.2.1 p.2.2.2.2.2.2.2.2.2.1 p.2.2.2.2.2.2.2.2.2.2.1 p.2.2.2.2.2.2.2.2.2.2.2 some) (fun _=>rfl) (fun _ _=>rfl) (fun hD f fs h p=>by
  unfold c_Z56
  repeat' first | exact Lim.const hD | exact h _ | apply Lim.ite | apply Lim.cond | apply Lim.bind hD | apply Lim.sum | intro _) (x0,x1,x2,x3,x4,x5,x6,x7,x8,x9,x10,x11)
theorem Z57_fx (x0 x1 x2:List D) (x3 x4 x5 x6 x7 x8 x9:Int) (x10:List D):Z57 x0 x1 x2 x3 x4 x5 x6 x7 x8 x9 x10=c_Z57 Z57 x0 x1 x2 x3 x4 x5 x6 x7 x8 x9 x10 some:=
 fix_eq (N:=fun n (p:List D × List D × List D × Int × Int × Int × Int × Int × Int × Int × List D)=>n_Z57 n p.1 p.2.1 p.2.2.1 p.2.2.2.1 p.2.2.2.2.1 p.2.2.2.2.2.1 p.2.2.2.2.2.2.1 p.2.2.2.2.2.2.2.1 p.2.2.2.2.2.2.2.2.1 p.2.2.2.2.2.2.2.2.2.1 p.2.2.2.2.2.2.2.2.2.2) (C:=fun f p=>c_Z57 (fun x0 x1 x2 x3 x4 x5 x6 x7 x8 x9 x10=>f (x0,x1,x2,x3,x4,x5,x6,x7,x8,x9,x10)) p.1 p.2.1 p.2.2.1 p.2.2.2.1 p.2.2.2.2.1 p.2.2.2.2.2.1 p.2.2.2.2.2.2.1 p.2.2.2.2.2.2.2.1 p.2.2.2.2.2.2.2.2.1 p.2.2.2.2.2.2.2.2.2.1 p.2.2.2.2.2.2.2.2.2.2 some) (fun _=>rfl) (fun _ _=>rfl) (fun hD f fs h p=>by
  unfold c_Z57
  repeat' first | exact Lim.const hD | exact h _ | apply Lim.ite | apply Lim.cond | apply Lim.bind hD | apply Lim.sum | intro _) (x0,x1,x2,x3,x4,x5,x6,x7,x8,x9,x10)
theorem Z58_fx (x0 x1 x2:List D) (x3 x4 x5 x6 x7 x8:Int) (x9:List D):Z58 x0 x1 x2 x3 x4 x5 x6 x7 x8 x9=c_Z58 Z58 x0 x1 x2 x3 x4 x5 x6 x7 x8 x9 some:=
 fix_eq (N:=fun n (p:List D × List D × List D × Int × Int × Int × Int × Int × Int × List D)=>n_Z58 n p.1 p.2.1 p.2.2.1 p.2.2.2.1 p.2.2.2.2.1 p.2.2.2.2.2.1 p.2.2.2.2.2.2.1 p.2.2.2.2.2.2.2.1 p.2.2.2.2.2.2.2.2.1 p.2.2.2.2.2.2.2.2.2) (C:=fun f p=>c_Z58 (fun x0 x1 x2 x3 x4 x5 x6 x7 x8 x9=>f (x0,x1,x2,x3,x4,x5,x6,x7,x8,x9)) p.1 p.2.1 p.2.2.1 p.2.2.2.1 p.2.2.2.2.1 p.2.2.2.2.2.1 p.2.2.2.2.2.2.1 p.2.2.2.2.2.2.2.1 p.2.2.2.2.2.2.2.2.1 p.2.2.2.2.2.2.2.2.2 some) (fun _=>rfl) (fun _ _=>rfl) (fun hD f fs h p=>by
  unfold c_Z58
  repeat' first | exact Lim.const hD | exact h _ | apply Lim.ite | apply Lim.cond | apply Lim.bind hD | apply Lim.sum | intro _) (x0,x1,x2,x3,x4,x5,x6,x7,x8,x9)
theorem Z59_fx (x0 x1 x2:List D) (x3 x4 x5 x6 x7 x8:Int) (x9 x10:List D):Z59 x0 x1 x2 x3 x4 x5 x6 x7 x8 x9 x10=c_Z59 Z59 x0 x1 x2 x3 x4 x5 x6 x7 x8 x9 x10 some:=
 fix_eq (N:=fun n (p:List D × List D × List D × Int × Int × Int × Int × Int × Int × List D × List D)=>n_Z59 n p.1 p.2.1 p.2.2.1 p.2.2.2.1 p.2.2.2.2.1 p.2.2.2.2.2.1 p.2.2.2.2.2.2.1 p.2.2.2.2.2.2.2.1 p.2.2.2.2.2.2.2.2.1 p.2.2.2.2.2.2.2.2.2.1 p.2.2.2.2.2.2.2.2.2.2) (C:=fun f p=>c_Z59 (fun x0 x1 x2 x3 x4 x5 x6 x7 x8 x9 x10=>f (x0,x1,x2,x3,x4,x5,x6,x7,x8,x9,x10)) p.1 p.2.1 p.2.2.1 p.2.2.2.1 p.2.2.2.2.1 p.2.2.2.2.2.1 p.2.2.2.2.2.2.1 p.2.2.2.2.2.2.2.1 p.2.2.2.2.2.2.2.2.1 p.2.2.2.2.2.2.2.2.2.1 p.2.2.2.2.2.2.2.2.2.2 some) (fun _=>rfl) (fun _ _=>rfl) (fun hD f fs h p=>by
  unfold c_Z59
  repeat' first | exact Lim.const hD | exact h _ | apply Lim.ite | apply Lim.cond | apply Lim.bind hD | apply Lim.sum | intro _) (x0,x1,x2,x3,x4,x5,x6,x7,x8,x9,x10)
theorem Z60_fx (x0 x1 x2:List D) (x3 x4 x5 x6:Int) (x7 x8:List D):Z60 x0 x1 x2 x3 x4 x5 x6 x7 x8=c_Z60 Z60 x0 x1 x2 x3 x4 x5 x6 x7 x8 some:=
 fix_eq (N:=fun n (p:List D × List D × List D × Int × Int × Int × Int × List D × List D)=>n_Z60 n p.1 p.2.1 p.2.2.1 p.2.2.2.1 p.2.2.2.2.1 p.2.2.2.2.2.1 p.2.2.2.2.2.2.1 p.2.2.2.2.2.2.2.1 p.2.2.2.2.2.2.2.2) (C:=fun f p=>c_Z60 (fun x0 x1 x2 x3 x4 x5 x6 x7 x8=>f (x0,x1,x2,x3,x4,x5,x6,x7,x8)) p.1 p.2.1 p.2.2.1 p.2.2.2.1 p.2.2.2.2.1 p.2.2.2.2.2.1 p.2.2.2.2.2.2.1 p.2.2.2.2.2.2.2.1 p.2.2.2.2.2.2.2.2 some) (fun _=>rfl) (fun _ _=>rfl) (fun hD f fs h p=>by
  unfold c_Z60
  repeat' first | exact Lim.const hD | exact h _ | apply Lim.ite | apply Lim.cond | apply Lim.bind hD | apply Lim.sum | intro _) (x0,x1,x2,x3,x4,x5,x6,x7,x8)
theorem Z62_fx (x0 x1 x2 x3:List D) (x4 x5:Int) (x6:List D):Z62 x0 x1 x2 x3 x4 x5 x6=c_Z62 Z62 x0 x1 x2 x3 x4 x5 x6 some:=
 fix_eq (N:=fun n (p:List D × List D × List D × List D × Int × Int × List D)=>n_Z62 n p.1 p.2.1 p.2.2.1 p.2.2.2.1 p.2.2.2.2.1 p.2.2.2.2.2.1 p.2.2.2.2.2.2) (C:=fun f p=>c_Z62 (fun x0 x1 x2 x3 x4 x5 x6=>f (x0,x1,x2,x3,x4,x5,x6)) p.1 p.2.1 p.2.2.1 p.2.2.2.1 p.2.2.2.2.1 p.2.2.2.2.2.1 p.2.2.2.2.2.2 some) (fun _=>rfl) (fun _ _=>rfl) (fun hD f fs h p=>by
  unfold c_Z62
  repeat' first | exact Lim.const hD | exact h _ | apply Lim.ite | apply Lim.cond | apply Lim.bind hD | apply Lim.sum | intro _) (x0,x1,x2,x3,x4,x5,x6)
theorem Z66_fx (x0 x1:Int) (x2 x3:List D):Z66 x0 x1 x2 x3=c_Z66 Z66 x0 x1 x2 x3 some:=
 fix_eq (N:=fun n (p:Int × Int × List D × List D)=>n_Z66 n p.1 p.2.1 p.2.2.1 p.2.2.2) (C:=fun f p=>c_Z66 (fun x0 x1 x2 x3=>f (x0,x1,x2,x3)) p.1 p.2.1 p.2.2.1 p.2.2.2 some) (fun _=>rfl) (fun _ _=>rfl) (fun hD f fs h p=>by
  unfold c_Z66
  repeat' first | exact Lim.const hD | exact h _ | apply Lim.ite | apply Lim.cond | apply Lim.bind hD | apply Lim.sum | intro _) (x0,x1,x2,x3)
theorem Z69_fx (x0:Int) (x1 x2:List D):Z69 x0 x1 x2=c_Z69 Z69 x0 x1 x2 some:=
 fix_eq (N:=fun n (p:Int × List D × List D)=>n_Z69 n p.1 p.2.1 p.2.2) (C:=fun f p=>c_Z69 (fun x0 x1 x2=>f (x0,x1,x2)) p.1 p.2.1 p.2.2 some) (fun _=>rfl) (fun _ _=>rfl) (fun hD f fs h p=>by
  unfold c_Z69
  repeat' first | exact Lim.const hD | exact h _ | apply Lim.ite | apply Lim.cond | apply Lim.bind hD | apply Lim.sum | intro _) (x0,x1,x2)
theorem Z70_fx (x0:Int) (x1 x2:List D):Z70 x0 x1 x2=c_Z70 Z70 x0 x1 x2 some:=
 fix_eq (N:=fun n (p:Int × List D × List D)=>n_Z70 n p.1 p.2.1 p.2.2) (C:=fun f p=>c_Z70 (fun x0 x1 x2=>f (x0,x1,x2)) p.1 p.2.1 p.2.2 some) (fun _=>rfl) (fun _ _=>rfl) (fun hD f fs h p=>by
  unfold c_Z70
  repeat' first | exact Lim.const hD | exact h _ | apply Lim.ite | apply Lim.cond | apply Lim.bind hD | apply Lim.sum | intro _) (x0,x1,x2)
theorem Z72_fx (x0:Int) (x1 x2 x3:List D):Z72 x0 x1 x2 x3=c_Z72 Z72 x0 x1 x2 x3 some:=
 fix_eq (N:=fun n (p:Int × List D × List D × List D)=>n_Z72 n p.1 p.2.1 p.2.2.1 p.2.2.2) (C:=fun f p=>c_Z72 (fun x0 x1 x2 x3=>f (x0,x1,x2,x3)) p.1 p.2.1 p.2.2.1 p.2.2.2 some) (fun _=>rfl) (fun _ _=>rfl) (fun hD f fs h p=>by
  unfold c_Z72
  repeat' first | exact Lim.const hD | exact h _ | apply Lim.ite | apply Lim.cond | apply Lim.bind hD | apply Lim.sum | intro _) (x0,x1,x2,x3)
theorem Z73_fx (x0 x1:Int) (x2:List D):Z73 x0 x1 x2=c_Z73 Z73 x0 x1 x2 some:=
 fix_eq (N:=fun n (p:Int × Int × List D)=>n_Z73 n p.1 p.2.1 p.2.2) (C:=fun f p=>c_Z73 (fun x0 x1 x2=>f (x0,x1,x2)) p.1 p.2.1 p.2.2 some) (fun _=>rfl) (fun _ _=>rfl) (fun hD f fs h p=>by
  unfold c_Z73
  repeat' first | exact Lim.const hD | exact h _ | apply Lim.ite | apply Lim.cond | apply Lim.bind hD | apply Lim.sum | intro _) (x0,x1,x2)
theorem Z74_fx (x0:Int) (x1:List D):Z74 x0 x1=c_Z74 Z74 x0 x1 some:=
 fix_eq (N:=fun n (p:Int × List D)=>n_Z74 n p.1 p.2) (C:=fun f p=>c_Z74 (fun x0 x1=>f (x0,x1)) p.1 p.2 some) (fun _=>rfl) (fun _ _=>rfl) (fun hD f fs h p=>by
  unfold c_Z74
  repeat' first | exact Lim.const hD | exact h _ | apply Lim.ite | apply Lim.cond | apply Lim.bind hD | apply Lim.sum | intro _) (x0,x1)
theorem Z79_fx (x0 x1 x2:List D) (x3:Int) (x4:List D) (x5 x6:Int) (x7:List D):Z79 x0 x1 x2 x3 x4 x5 x6 x7=c_Z79 Z79 x0 x1 x2 x3 x4 x5 x6 x7 some:=
 fix_eq (N:=fun n (p:List D × List D × List D × Int × List D × Int × Int × List D)=>n_Z79 n p.1 p.2.1 p.2.2.1 p.2.2.2.1 p.2.2.2.2.1 p.2.2.2.2.2.1 p.2.2.2.2.2.2.1 p.2.2.2.2.2.2.2) (C:=fun f p=>c_Z79 (fun x0 x1 x2 x3 x4 x5 x6 x7=>f (x0,x1,x2,x3,x4,x5,x6,x7)) p.1 p.2.1 p.2.2.1 p.2.2.2.1 p.2.2.2.2.1 p.2.2.2.2.2.1 p.2.2.2.2.2.2.1 p.2.2.2.2.2.2.2 some) (fun _=>rfl) (fun _ _=>rfl) (fun hD f fs h p=>by
  unfold c_Z79
  repeat' first | exact Lim.const hD | exact h _ | apply Lim.ite | apply Lim.cond | apply Lim.bind hD | apply Lim.sum | intro _) (x0,x1,x2,x3,x4,x5,x6,x7)
theorem Z83_fx (x0 x1 x2:List D) (x3:Int) (x4:List D) (x5 x6:Int) (x7:List D):Z83 x0 x1 x2 x3 x4 x5 x6 x7=c_Z83 Z83 x0 x1 x2 x3 x4 x5 x6 x7 some:=
 fix_eq (N:=fun n (p:List D × List D × List D × Int × List D × Int × Int × List D)=>n_Z83 n p.1 p.2.1 p.2.2.1 p.2.2.2.1 p.2.2.2.2.1 p.2.2.2.2.2.1 p.2.2.2.2.2.2.1 p.2.2.2.2.2.2.2) (C:=fun f p=>c_Z83 (fun x0 x1 x2 x3 x4 x5 x6 x7=>f (x0,x1,x2,x3,x4,x5,x6,x7)) p.1 p.2.1 p.2.2.1 p.2.2.2.1 p.2.2.2.2.1 p.2.2.2.2.2.1 p.2.2.2.2.2.2.1 p.2.2.2.2.2.2.2 some) (fun _=>rfl) (fun _ _=>rfl) (fun hD f fs h p=>by
  unfold c_Z83
  repeat' first | exact Lim.const hD | exact h _ | apply Lim.ite | apply Lim.cond | apply Lim.bind hD | apply Lim.sum | intro _) (x0,x1,x2,x3,x4,x5,x6,x7)
theorem Z86_fx (x0:List D) (x1 x2:Int):Z86 x0 x1 x2=c_Z86 Z86 x0 x1 x2 some:=
 fix_eq (N:=fun n (p:List D × Int × Int)=>n_Z86 n p.1 p.2.1 p.2.2) (C:=fun f p=>c_Z86 (fun x0 x1 x2=>f (x0,x1,x2)) p.1 p.2.1 p.2.2 some) (fun _=>rfl) (fun _ _=>rfl) (fun hD f fs h p=>by
  unfold c_Z86
  repeat' first | exact Lim.const hD | exact h _ | apply Lim.ite | apply Lim.cond | apply Lim.bind hD | apply Lim.sum | intro _) (x0,x1,x2)
theorem Z88_fx (x0 x1 x2:Int) (x3 x4:List D):Z88 x0 x1 x2 x3 x4=c_Z88 Z88 x0 x1 x2 x3 x4 some:=
 fix_eq (N:=fun n (p:Int × Int × Int × List D × List D)=>n_Z88 n p.1 p.2.1 p.2.2.1 p.2.2.2.1 p.2.2.2.2) (C:=fun f p=>c_Z88 (fun x0 x1 x2 x3 x4=>f (x0,x1,x2,x3,x4)) p.1 p.2.1 p.2.2.1 p.2.2.2.1 p.2.2.2.2 some) (fun _=>rfl) (fun _ _=>rfl) (fun hD f fs h p=>by
  unfold c_Z88
  repeat' first | exact Lim.const hD | exact h _ | apply Lim.ite | apply Lim.cond | apply Lim.bind hD | apply Lim.sum | intro _) (x0,x1,x2,x3,x4)
theorem Z90_fx (x0 x1 x2:Int) (x3 x4 x5:List D):Z90 x0 x1 x2 x3 x4 x5=c_Z90 Z90 x0 x1 x2 x3 x4 x5 some:=
 fix_eq (N:=fun n (p:Int × Int × Int × List D × List D × List D)=>n_Z90 n p.1 p.2.1 p.2.2.1 p.2.2.2.1 p.2.2.2.2.1 p.2.2.2.2.2) (C:=fun f p=>c_Z90 (fun x0 x1 x2 x3 x4 x5=>f (x0,x1,x2,x3,x4,x5)) p.1 p.2.1 p.2.2.1 p.2.2.2.1 p.2.2.2.2.1 p.2.2.2.2.2 some) (fun _=>rfl) (fun _ _=>rfl) (fun hD f fs h p=>by
  unfold c_Z90
  repeat' first | exact Lim.const hD | exact h _ | apply Lim.ite | apply Lim.cond | apply Lim.bind hD | apply Lim.sum | intro _) (x0,x1,x2,x3,x4,x5)
def Tt {ι β:Type} (I:ι→Prop) (P:β→Prop) (e:ι→Option β):Prop:=∃ y,P y∧∀ i,I i→e i=some y
theorem Tt.pure {ι β:Type} {I:ι→Prop} {P:β→Prop} {y:β} (h:P y):Tt I P (fun _=>some y):=⟨y,h,fun _ _=>rfl⟩
theorem Tt.bind {ι α β:Type} {I:ι→Prop} {Q:α→Prop} {P:β→Prop} {t:ι→Option α} {f:α→ι→Option β} (h:Tt I Q t) (k:∀ v,Q v→Tt I P (fun i=>f v i)) :
  Tt I P (fun i=>(t i).bind (fun v=>f v i)):=by
 obtain ⟨v,hv,ht⟩:=h
 obtain ⟨y,hy,hk⟩:=k v hv
 exact ⟨y,hy,fun i hi=>by show (t i).bind _=_; rw [ht i hi]; exact hk i hi⟩
theorem Tt.ite {ι β:Type} {I:ι→Prop} {P:β→Prop} {c:Prop} [Decidable c] {x y:ι→Option β} (h:c) (k:Tt I P x):Tt I P (fun i=>if c then x i else y i):=by
 simpa only [if_pos h] using k
theorem Tt.cnd {ι β:Type} {I:ι→Prop} {P:β→Prop} {b:Bool} {x y:ι→Option β} (h1:b=true→Tt I P x) (h2:b=false→Tt I P y):Tt I P (fun i=>bif b then x i else y i):=by
 cases b with
 | true=>exact h1 rfl
 | false=>exact h2 rfl
theorem Tt.dec {ι β:Type} {I:ι→Prop} {P:β→Prop} {p:Prop} [Decidable p] {x y:ι→Option β} (h1:p→Tt I P x) (h2:¬ p→Tt I P y):Tt I P (fun i=>bif decide p then x i else y i):=
 Tt.cnd (fun h=>h1 (of_decide_eq_true h)) (fun h=>h2 (of_decide_eq_false h))
theorem Tt.ndec {ι β:Type} {I:ι→Prop} {P:β→Prop} {p:Prop} [Decidable p] {x y:ι→Option β} (h1:¬ p→Tt I P x) (h2:p→Tt I P y):Tt I P (fun i=>bif !decide p then x i else y i):=by
 by_cases h:p
 ·simpa only [decide_eq_true h,Bool.not_true,cond_false] using h2 h
 ·simpa only [decide_eq_false h,Bool.not_false,cond_true] using h1 h
theorem Tt.con {ι β:Type} {I:ι→Prop} {Q:β→Prop} {t:Option β} (h:∃ y,t=some y∧Q y):Tt I Q (fun _=>t):=by
 obtain ⟨y,h1,h2⟩:=h
 exact ⟨y,h2,fun _ _=>h1⟩
theorem Tt.mono {ι β:Type} {I J:ι→Prop} {P Q:β→Prop} {e:ι→Option β} (h:Tt I P e) (hI:∀ i,J i→I i) (hP:∀ y,P y→Q y):Tt J Q e:=by
 obtain ⟨y,h1,h2⟩:=h
 exact ⟨y,hP y h1,fun i hi=>h2 i (hI i hi)⟩
theorem Tt.out {β:Type} {P:β→Prop} {t:Option β} (h:Tt (fun _:Unit=>True) P (fun _=>t)):∃ y,t=some y∧P y:=by
 obtain ⟨y,h1,h2⟩:=h
 exact ⟨y,h2 () trivial,h1⟩
theorem Tt.loop {X Y:Type} (N:Nat→X→Option Y) (Inv:X→Prop) (μ:X→Nat) (Post:X→Y→Prop)
  (step:∀ x,Inv x→(∀ x',Inv x'→μ x'<μ x→Tt (fun m=>μ x≤m) (Post x') (fun m=>N m x'))→Tt (fun m=>μ x≤m) (Post x) (fun m=>N (m + 1) x)) :
  ∀ x,Inv x→∃ y,ev (fun n=>N n x)=some y∧Post x y:=by
 have key:∀ k x,Inv x→μ x≤k→Tt (fun m=>μ x<m) (Post x) (fun m=>N m x):=by
  intro k
  induction k with
  | zero=>
   intro x hi hk
   obtain ⟨y,h1,h2⟩:=step x hi (fun x' _ h=>absurd h (by omega))
   refine ⟨y,h1,fun m hm=>?_⟩
   obtain ⟨m,rfl⟩:∃ m',m=m' + 1:=⟨m - 1,by omega⟩
   exact h2 m (by omega)
  | succ k ih=>
   intro x hi hk
   obtain ⟨y,h1,h2⟩:=step x hi (fun x' hx' h=>(ih x' hx' (by omega)).mono (fun m hm=>by omega) (fun _ h=>h))
   refine ⟨y,h1,fun m hm=>?_⟩
   obtain ⟨m,rfl⟩:∃ m',m=m' + 1:=⟨m - 1,by omega⟩
   exact h2 m (by omega)
 intro x hi
 obtain ⟨y,h1,h2⟩:=key (μ x) x hi (Nat.le_refl _)
 exact ⟨y,ev_eq (μ x + 1) (fun m hm=>h2 m (by omega)),h1⟩
theorem wq (n:Int):IntKind.i64.wrap n=(n + 9223372036854775808) % 18446744073709551616 - 9223372036854775808:=by
 unfold IntKind.wrap
 simp [IntKind.signed,IntKind.bits]
 omega
def okC (c:List D):Prop:=c.length≤65536∧∀ d ∈ c,0≤d.toInt∧d.toInt≤255
theorem uwrap (n:Int):IntKind.u64.wrap n=n % 18446744073709551616:=by
 unfold IntKind.wrap
 simp [IntKind.signed,IntKind.bits]
theorem and255 (r:Int):0≤IntKind.i64.wrap (IntKind.u64.wrap (((BitVec.ofInt IntKind.u64.bits r &&& BitVec.ofInt IntKind.u64.bits 255).toNat:Nat):Int))∧IntKind.i64.wrap (IntKind.u64.wrap (((BitVec.ofInt IntKind.u64.bits r &&& BitVec.ofInt IntKind.u64.bits 255).toNat:Nat):Int))≤255:=by
 have h2:(BitVec.ofInt IntKind.u64.bits r &&& BitVec.ofInt IntKind.u64.bits 255).toNat≤(BitVec.ofInt IntKind.u64.bits 255).toNat:=by
  rw [BitVec.toNat_and]; exact Nat.and_le_right
 have h3:(BitVec.ofInt IntKind.u64.bits 255).toNat=255:=by decide
 rw [h3] at h2
 rw [uwrap,wq]
 omega
theorem next_tot (c:List D) (h:okC c) (p s:Int) (hp:0≤p∧p≤1099511627776):∃ y,Z1 c p s=some y∧(0≤y.1∧y.1≤255∧y.2.1=c∧y.2.2.1=p + 1):=by
 have hw:IntKind.i64.wrap (p + 1)=p + 1:=wrap_id (by omega) (by omega)
 have a1:=fun r=>and255 r
 refine Tt.out ?_
 unfold Z1 c_Z1
 rw [hw]
 by_cases hpl:p<(c.length:Int)
 ·rw [decide_eq_true hpl,cond_true]
  have hd:=h.2 _ (getD_mem (show p.toNat<c.length by omega))
  have hv:IntKind.i64.wrap (c.getD p.toNat (D.int 0)).toInt=(c.getD p.toNat (D.int 0)).toInt:=wrap_id (by omega) (by omega)
  refine Tt.ite (by omega) ?_
  refine Tt.dec (fun _=>?_) (fun hn=>absurd (show p + 1≤(c.length:Int) by omega) hn)
  refine Tt.pure ?_
  exact ⟨by rw [hv]; exact hd.1,by rw [hv]; exact hd.2,rfl,rfl⟩
 ·rw [decide_eq_false hpl,cond_false]
  refine Tt.dec (fun hn=>by exfalso; omega) (fun _=>?_)
  refine Tt.ite (by decide) ?_
  refine Tt.pure ?_
  exact ⟨(a1 _).1,(a1 _).2,rfl,rfl⟩
attribute [local irreducible] Z1
theorem pick_tot (c:List D) (h:okC c) (p s n:Int) (hp:0≤p∧p≤1099511627770) (hn:n≤65536):∃ y,Z2 c p s n=some y∧(0≤y.1∧(y.1<n ∨ y.1=0)∧y.2.1=c∧p≤y.2.2.1∧y.2.2.1≤p + 2):=by
 refine Tt.out ?_
 unfold Z2 c_Z2
 refine Tt.dec (fun _=>?_) (fun hn1=>?_)
 ·refine Tt.pure ?_
  exact ⟨by simp,.inr rfl,rfl,by simp,by simp only; omega⟩
 ·refine Tt.bind (Tt.con (next_tot c h p s (by omega))) (fun v hv=>?_)
  obtain ⟨v1,v2,v3,v4⟩:=hv
  rw [v3,v4]
  refine Tt.dec (fun _=>?_) (fun _=>?_)
  ·refine Tt.bind (Tt.con (next_tot c h (p + 1) _ (by omega))) (fun w hw=>?_)
   obtain ⟨w1,w2,w3,w4⟩:=hw
   refine Tt.ite (by omega) ?_
   have hq:IntKind.i64.wrap (IntKind.i64.wrap (v.1 * 256) + w.1)=v.1 * 256 + w.1:=by
    rw [wrap_id (n:=v.1 * 256) (by omega) (by omega),wrap_id (by omega) (by omega)]
   have hm:(v.1 * 256 + w.1).tmod n=(v.1 * 256 + w.1) % n:=Int.tmod_eq_emod_of_nonneg (by omega)
   have m1:=Int.emod_nonneg (v.1 * 256 + w.1) (show n ≠ 0 by omega)
   have m2:=Int.emod_lt_of_pos (v.1 * 256 + w.1) (show 0<n by omega)
   refine Tt.pure ?_
   exact ⟨by simp only; rw [hq,hm]; exact m1,.inl (by simp only; rw [hq,hm]; exact m2),w3,by simp only; omega,by simp only; omega⟩
  ·refine Tt.ite (by omega) ?_
   have hm:v.1.tmod n=v.1 % n:=Int.tmod_eq_emod_of_nonneg v1
   have m1:=Int.emod_nonneg v.1 (show n ≠ 0 by omega)
   have m2:=Int.emod_lt_of_pos v.1 (show 0<n by omega)
   refine Tt.pure ?_
   exact ⟨by simp only; rw [hm]; exact m1,.inl (by simp only; rw [hm]; exact m2),rfl,by simp only; omega,by simp only; omega⟩
attribute [local irreducible] Z2
theorem among_tot (c:List D) (h:okC c) (p s:Int) (l:List D) (hp:0≤p∧p≤1099511627770) (hl:1≤l.length∧l.length≤65536):∃ y,Z15 c p s l=some y∧((∃ d ∈ l,y.1=d.toInt)∧y.2.1=c∧p≤y.2.2.1∧y.2.2.1≤p + 2):=by
 refine Tt.out ?_
 unfold Z15 c_Z15
 refine Tt.bind (Tt.con (pick_tot c h p s _ hp (by omega))) (fun v hv=>?_)
 refine Tt.ite (by omega) ?_
 refine Tt.ite (by omega) ?_
 refine Tt.pure ?_
 exact ⟨⟨_,getD_mem (show v.1.toNat<l.length by omega),rfl⟩,hv.2.2.1,hv.2.2.2.1,hv.2.2.2.2⟩
attribute [local irreducible] Z15
theorem okB {d:D} (h:wfD (.int .u8) d):0≤d.toInt∧d.toInt≤255:=by
 obtain ⟨n,rfl,h2⟩:=h
 simp [Lit.wf,IntKind.min,IntKind.max,IntKind.signed,IntKind.bits] at h2
 simp only [toInt_int]; omega
theorem pick_tot' (c:List D) (h:okC c) (p s n:Int) (hp:0≤p∧p≤1099511627770) (hn:n≤65536):∃ y,Z2 c p s n=some y∧((0≤y.1∧(y.1<n ∨ y.1=0))∧y.2.1=c∧p≤y.2.2.1∧y.2.2.1≤p + 2):=by
 obtain ⟨y,h1,h2,h3,h4⟩:=pick_tot c h p s n hp hn
 exact ⟨y,h1,⟨h2,h3⟩,h4⟩
theorem one_tot (c:List D) (h:okC c) (p s n:Int) (hp:0≤p∧p≤1099511627770) (hn:n≤65536):∃ y,Z5 c p s n=some y∧(y.2.1=c∧p≤y.2.2.1∧y.2.2.1≤p + 2):=by
 refine Tt.out ?_
 unfold Z5 c_Z5
 refine Tt.bind (Tt.con (pick_tot c h p s n hp hn)) (fun v hv=>?_)
 refine Tt.pure ?_
 exact ⟨hv.2.2.1,hv.2.2.2.1,hv.2.2.2.2⟩
attribute [local irreducible] Z5
theorem one_tot' (c:List D) (h:okC c) (p s n:Int) (hp:0≤p∧p≤1099511627770) (hn:n≤65536):∃ y,Z5 c p s n=some y∧(True∧y.2.1=c∧p≤y.2.2.1∧y.2.2.1≤p + 2):=by
 obtain ⟨y,h1,h2⟩:=one_tot c h p s n hp hn
 exact ⟨y,h1,trivial,h2⟩
theorem l1In_eq (x a b:Int):Z68 x a b=some (btw x a b):=by
 unfold Z68 c_Z68 btw
 by_cases h:a≤x <;> simp [h]
theorem within_eq (x a b:Int):Z26 x a b=some (btw x a b):=by
 unfold Z26 c_Z26 btw
 by_cases h:a≤x <;> simp [h]
def cmpV (x y:Int):Int:=if x<y then -1 else if y<x then 1 else 0
theorem compare_eq (x y:Int):Z35 x y=some (cmpV x y):=by
 simp only [Z35,c_Z35,Z34,c_Z34,Option.bind_some,decide_true,Bool.not_true,cond_false,cmpV]
 by_cases h:x<y
 ·simp [h]
 ·by_cases h2:y<x <;> simp [h,h2]
theorem or_eq (a b:Int):Z37 [.int a,.int b]=some (if a=0 then b else a):=by
 have w1:IntKind.i64.wrap 1=1:=by decide
 have w2:IntKind.i64.wrap 2=2:=by decide
 have key:∃ y,Z36 0 [.int a,.int b] 2 0=some y∧(match y with | .inl z=>z.1 | .inr z=>z)=(if a=0 then b else a):=by
  by_cases ha:a=0
  ·by_cases hb:b=0
   ·refine ⟨.inr 0,ev_eq (f:=fun m=>n_Z36 m 0 [.int a,.int b] 2 0) 3 (fun m hm=>?_),by simp [ha,hb]⟩
    obtain ⟨m,rfl⟩:∃ m',m=m' + 3:=⟨m - 3,by omega⟩
    simp [n_Z36,c_Z36,ha,hb,toInt_int,w1,w2]
   ·refine ⟨.inl (b,0),ev_eq (f:=fun m=>n_Z36 m 0 [.int a,.int b] 2 0) 2 (fun m hm=>?_),by simp [ha]⟩
    obtain ⟨m,rfl⟩:∃ m',m=m' + 2:=⟨m - 2,by omega⟩
    simp [n_Z36,c_Z36,ha,hb,toInt_int,w1]
  ·refine ⟨.inl (a,0),ev_eq (f:=fun m=>n_Z36 m 0 [.int a,.int b] 2 0) 1 (fun m hm=>?_),by simp [ha]⟩
   obtain ⟨m,rfl⟩:∃ m',m=m' + 1:=⟨m - 1,by omega⟩
   simp [n_Z36,c_Z36,ha,toInt_int]
 obtain ⟨y,h1,h2⟩:=key
 rw [← h2]
 simp only [Z37,c_Z37,show (([D.int a,D.int b]:List D).length:Int)=2 from rfl,h1,Option.bind_some]
 cases y <;> rfl
theorem fxScan {α:Type} {F:Int→Option α} {len:Nat} (p:Nat→Bool) (bad:Nat→α) {fin:α}
  (hs:∀ i:Nat,i<len→F (i:Int)=bif p i then some (bad i) else F ((i + 1:Nat):Int)) (he:F (len:Int)=some fin) :
  F 0=some (match firstN p len with | some i=>bad i | none=>fin):=by
 have key:∀ k (i:Nat),i + k=len→(∀ j,j<i→p j=false)→F (i:Int)=some (match firstN p len with | some i=>bad i | none=>fin):=by
  intro k
  induction k with
  | zero=>
   intro i h1 h3
   have hi:i=len:=by omega
   subst hi
   rw [he]
   cases hf:firstN p i with
   | none=>rfl
   | some j=>
    obtain ⟨q1,q2,_⟩:=firstN_some hf
    rw [h3 j q1] at q2
    cases q2
  | succ k ih=>
   intro i h1 h3
   rw [hs i (by omega)]
   cases hp:p i with
   | true=>
    rw [cond_true]
    have:firstN p len=some i:=by
     unfold firstN
     rw [List.find?_range_eq_some]
     exact ⟨hp,List.mem_range.2 (by omega),fun j hj=>by simp [h3 j hj]⟩
    rw [this]
   | false=>
    rw [cond_false]
    refine ih (i + 1) (by omega) (fun j hj=>?_)
    by_cases hji:j=i
    ·subst hji; exact hp
    ·exact h3 j (by omega)
 exact key len 0 (by omega) (fun j hj=>by omega)
def allN (p:Nat→Bool) (len:Nat):Bool:=(firstN (fun i=>!p i) len).isNone
theorem allN_iff {p:Nat→Bool} {len:Nat}:allN p len=true ↔ ∀ i,i<len→p i=true:=by
 unfold allN
 constructor
 ·intro h i hi
  cases hf:firstN (fun i=>!p i) len with
  | none=>simpa using firstN_none hf i hi
  | some j=>rw [hf] at h; cases h
 ·intro h
  cases hf:firstN (fun i=>!p i) len with
  | none=>rfl
  | some i=>obtain ⟨h1,h2,_⟩:=firstN_some hf; rw [h i h1] at h2; cases h2
theorem fxAll {α:Type} {F:Int→Option α} {len:Nat} (p:Nat→Bool) (bad:α) {fin:α}
  (hs:∀ i:Nat,i<len→F (i:Int)=bif p i then F ((i + 1:Nat):Int) else some bad) (he:F (len:Int)=some fin) :
  F 0=some (bif allN p len then fin else bad):=by
 have:=fxScan (F:=F) (len:=len) (fun i=>!p i) (fun _=>bad) (fin:=fin) (fun i hi=>by rw [hs i hi]; cases p i <;> rfl) he
 rw [this]
 unfold allN
 cases firstN (fun i=>!p i) len <;> rfl
def find2 (C:List D) (n:Int):Int:=match firstN (fun i=>decide (((C[i]?.getD (.int 0)).fld 0).toInt=n)) C.length with | some i=>(i:Int) | none=>-1
theorem l2Find_eq (C R:List D) (n:Int) (hC:C.length≤100000):Z67 C R n=some (find2 C n):=by
 have h:=fxScan (F:=fun i=>Z66 n i C R) (len:=C.length) (fun i=>decide (((C[i]?.getD (.int 0)).fld 0).toInt=n)) (fun i=>.inl (i:Int)) (fin:=.inr ()) (fun i hi=>by
  show Z66 n i C R=_
  rw [Z66_fx]
  unfold c_Z66
  have h1:(i:Int)<C.length:=by omega
  simp only [h1,decide_true,cond_true,Int.natCast_nonneg,and_self,if_true,Int.toNat_natCast,List.getD_eq_getElem?_getD,succ_wrap (show i<4611686018427387904 by omega),Option.bind_fun_some])
  (by
   show Z66 n C.length C R=_
   rw [Z66_fx]; unfold c_Z66; simp)
 have h':Z66 n 0 C R=_:=h
 simp only [Z67,c_Z67,h',Option.bind_some,find2]
 cases firstN (fun i=>decide (((C[i]?.getD (.int 0)).fld 0).toInt=n)) C.length <;> rfl
theorem indexOf_eq (C R:List D) (n:Int) (hC:C.length≤100000):Z33 C R n=some (find2 C n):=by
 have h:=fxScan (F:=fun i=>Z31 C n C.length i) (len:=C.length) (fun i=>decide (((C[i]?.getD (.int 0)).fld 0).toInt=n)) (fun i=>.inl (i:Int)) (fin:=.inr ()) (fun i hi=>by
  show Z31 C n C.length i=_
  rw [Z31_fx]
  unfold c_Z31
  have h1:(i:Int)<C.length:=by omega
  simp only [h1,decide_true,cond_true,Int.natCast_nonneg,and_self,if_true,Int.toNat_natCast,List.getD_eq_getElem?_getD,Z30,c_Z30,Option.bind_some,succ_wrap (show i<4611686018427387904 by omega),Option.bind_fun_some])
  (by
   show Z31 C n C.length C.length=_
   rw [Z31_fx]; unfold c_Z31; simp)
 have h':Z31 C n C.length 0=_:=h
 simp only [Z33,c_Z33,Z32,c_Z32,h',Option.bind_some,find2]
 cases firstN (fun i=>decide (((C[i]?.getD (.int 0)).fld 0).toInt=n)) C.length <;> rfl
theorem find2_some {C:List D} {n:Int} (h:0≤find2 C n):∃ i,i<C.length∧find2 C n=(i:Int)∧((C[i]?.getD (.int 0)).fld 0).toInt=n:=by
 unfold find2 at h ⊢
 cases hf:firstN (fun i=>decide (((C[i]?.getD (.int 0)).fld 0).toInt=n)) C.length with
 | none=>rw [hf] at h; simp at h
 | some i=>
  obtain ⟨h1,h2,_⟩:=firstN_some hf
  exact ⟨i,h1,rfl,of_decide_eq_true h2⟩
def cOk (C:List D) (i:Nat):Bool:=btw ((C[i]?.getD (.int 0)).fld 0).toInt 1 999 && (btw ((C[i]?.getD (.int 0)).fld 1).toInt 1 4 && (decide (i=0) || decide (((C[i - 1]?.getD (.int 0)).fld 0).toInt<((C[i]?.getD (.int 0)).fld 0).toInt)))
def lexB (a b c d:Int):Bool:=decide (a<c) || (decide (a=c) && decide (b<d))
def rOk (C R:List D) (i:Nat):Bool:=!decide (((R[i]?.getD (.int 0)).fld 0).toInt=((R[i]?.getD (.int 0)).fld 1).toInt) && (decide (0≤find2 C ((R[i]?.getD (.int 0)).fld 0).toInt) && (decide (0≤find2 C ((R[i]?.getD (.int 0)).fld 1).toInt) && (decide (i=0) || lexB ((R[i - 1]?.getD (.int 0)).fld 0).toInt ((R[i - 1]?.getD (.int 0)).fld 1).toInt ((R[i]?.getD (.int 0)).fld 0).toInt ((R[i]?.getD (.int 0)).fld 1).toInt)))
def validB (C R:List D):Bool:=decide (C.length≤10) && (decide (R.length≤24) && (allN (cOk C) C.length && allN (rOk C R) R.length))
theorem before_eq (a b c d:Int):Z6 a b c d=some (lexB a b c d):=by
 unfold Z6 c_Z6 lexB
 by_cases h:a<c
 ·simp [h]
 ·by_cases h2:a=c <;> simp [h,h2]
theorem l2Good_eq (C R:List D):Z71 C R=some (validB C R):=by
 unfold Z71 c_Z71 validB
 by_cases hC:C.length≤10
 ·have hC':¬ (10:Int)<C.length:=by omega
  by_cases hR:R.length≤24
  ·have hR':¬ (24:Int)<R.length:=by omega
   have h1:=fxAll (F:=fun i=>Z69 i C R) (len:=C.length) (cOk C) (.inl (false,C,R)) (fin:=.inr (C,R)) (fun i hi=>by
    show Z69 i C R=_
    rw [Z69_fx]
    unfold c_Z69
    have h1:(i:Int)<C.length:=by omega
    simp only [h1,decide_true,cond_true,Int.natCast_nonneg,and_self,if_true,Int.toNat_natCast,List.getD_eq_getElem?_getD,l1In_eq,Option.bind_some,succ_wrap (show i<4611686018427387904 by omega),Option.bind_fun_some,cOk]
    cases btw ((C[i]?.getD (.int 0)).fld 0).toInt 1 999 with
    | false=>rfl
    | true=>
     cases btw ((C[i]?.getD (.int 0)).fld 1).toInt 1 4 with
     | false=>rfl
     | true=>
      by_cases h0:i=0
      ·subst h0; simp
      ·have h2:(0:Int)<i:=by omega
       have h3:((i - 1:Nat):Int)<C.length:=by omega
       simp only [pred_wrap (show i<4611686018427387904 by omega) (show 0<i by omega),h2,h3,h0,Int.natCast_nonneg,and_self,if_true,Int.toNat_natCast,decide_true,decide_false,cond_true,cond_false,Bool.not_true,Bool.true_and,Bool.false_or]
       by_cases h4:((C[i]?.getD (.int 0)).fld 0).toInt≤((C[i - 1]?.getD (.int 0)).fld 0).toInt
       ·have:¬ ((C[i - 1]?.getD (.int 0)).fld 0).toInt<((C[i]?.getD (.int 0)).fld 0).toInt:=by omega
        simp [h4,this]
       ·have:((C[i - 1]?.getD (.int 0)).fld 0).toInt<((C[i]?.getD (.int 0)).fld 0).toInt:=by omega
        simp [h4,this])
    (by
     show Z69 C.length C R=_
     rw [Z69_fx]; unfold c_Z69; simp)
   have h1':Z69 0 C R=_:=h1
   have h2:=fxAll (F:=fun i=>Z70 i C R) (len:=R.length) (rOk C R) (.inl false) (fin:=.inr ()) (fun i hi=>by
    show Z70 i C R=_
    rw [Z70_fx]
    unfold c_Z70
    have h1:(i:Int)<R.length:=by omega
    simp only [h1,decide_true,cond_true,Int.natCast_nonneg,and_self,if_true,Int.toNat_natCast,List.getD_eq_getElem?_getD,l2Find_eq C R _ (show C.length≤100000 by omega),before_eq,Option.bind_some,succ_wrap (show i<4611686018427387904 by omega),Option.bind_fun_some,rOk]
    by_cases e1:((R[i]?.getD (.int 0)).fld 0).toInt=((R[i]?.getD (.int 0)).fld 1).toInt
    ·simp [e1]
    ·by_cases e2:find2 C ((R[i]?.getD (.int 0)).fld 0).toInt<0
     ·have:¬ 0≤find2 C ((R[i]?.getD (.int 0)).fld 0).toInt:=by omega
      simp [e1,e2,this]
     ·have e2':0≤find2 C ((R[i]?.getD (.int 0)).fld 0).toInt:=by omega
      by_cases e3:find2 C ((R[i]?.getD (.int 0)).fld 1).toInt<0
      ·have:¬ 0≤find2 C ((R[i]?.getD (.int 0)).fld 1).toInt:=by omega
       simp [e1,e2,e2',e3,this]
      ·have e3':0≤find2 C ((R[i]?.getD (.int 0)).fld 1).toInt:=by omega
       by_cases h0:i=0
       ·subst h0; simp [e1,e2,e2',e3,e3']
       ·have h2:(0:Int)<i:=by omega
        have h3:((i - 1:Nat):Int)<R.length:=by omega
        simp only [pred_wrap (show i<4611686018427387904 by omega) (show 0<i by omega),e1,e2,e2',e3,e3',h2,h3,h0,Int.natCast_nonneg,and_self,if_true,Int.toNat_natCast,decide_true,decide_false,cond_true,cond_false,Bool.not_true,Bool.not_false,Bool.true_and,Bool.false_or]
        cases lexB ((R[i - 1]?.getD (.int 0)).fld 0).toInt ((R[i - 1]?.getD (.int 0)).fld 1).toInt ((R[i]?.getD (.int 0)).fld 0).toInt ((R[i]?.getD (.int 0)).fld 1).toInt <;> rfl)
    (by
     show Z70 R.length C R=_
     rw [Z70_fx]; unfold c_Z70; simp)
   have h2':Z70 0 C R=_:=h2
   simp only [hC',hR',hC,hR,decide_true,decide_false,cond_false,Bool.true_and,h1',Option.bind_some]
   cases allN (cOk C) C.length with
   | false=>rfl
   | true=>
    simp only [cond_true,Sum.elim_inr,h2',Option.bind_some,Bool.true_and]
    cases allN (rOk C R) R.length <;> rfl
  ·have hR':(24:Int)<R.length:=by omega
   simp only [hC',hR',hR,decide_true,decide_false,cond_true,cond_false,Bool.false_and,Bool.and_false]
 ·have hC':(10:Int)<C.length:=by omega
  simp only [hC',hC,decide_true,decide_false,cond_true,Bool.false_and]
theorem number_eq (n:Int):Z27 n=some (btw n 1 999):=by
 simp only [Z27,c_Z27,within_eq,Option.bind_some]
theorem kind_eq (n:Int):Z28 n=some (btw n 1 4):=by
 simp only [Z28,c_Z28,within_eq,Option.bind_some]
theorem cmpRel_eq (a b c d:Int):∃ v,Z38 a b c d=some v∧decide (0≤v)=!lexB a b c d:=by
 simp only [Z38,c_Z38,compare_eq,or_eq,Option.bind_some]
 refine ⟨_,rfl,?_⟩
 unfold cmpV lexB
 by_cases h1:a<c
 ·simp [h1]
 ·by_cases h2:c<a
  ·have:¬ a=c:=by omega
   simp [h1,h2,this]
  ·have:a=c:=by omega
   subst this
   by_cases h3:b<d
   ·simp [h3]
   ·by_cases h4:d<b <;> simp [h3,h4]
theorem valid_eq (C R:List D):Z40 C R=some (validB C R):=by
 unfold Z40 c_Z40 validB
 by_cases hC:C.length≤10
 ·have hC':¬ (10:Int)<C.length:=by omega
  by_cases hR:R.length≤24
  ·have hR':¬ (24:Int)<R.length:=by omega
   have h1:=fxAll (F:=fun i=>Z29 C C.length i C R) (len:=C.length) (cOk C) (.inl (false,C,R)) (fin:=.inr (C,R)) (fun i hi=>by
    show Z29 C C.length i C R=_
    rw [Z29_fx]
    unfold c_Z29
    have h1:(i:Int)<C.length:=by omega
    simp only [h1,decide_true,cond_true,Int.natCast_nonneg,and_self,if_true,Int.toNat_natCast,List.getD_eq_getElem?_getD,number_eq,kind_eq,Option.bind_some,succ_wrap (show i<4611686018427387904 by omega),Option.bind_fun_some,cOk]
    cases btw ((C[i]?.getD (.int 0)).fld 0).toInt 1 999 with
    | false=>rfl
    | true=>
     cases btw ((C[i]?.getD (.int 0)).fld 1).toInt 1 4 with
     | false=>rfl
     | true=>
      by_cases h0:i=0
      ·subst h0; simp
      ·have h2:(0:Int)<i:=by omega
       have h3:((i - 1:Nat):Int)<C.length:=by omega
       simp only [pred_wrap (show i<4611686018427387904 by omega) (show 0<i by omega),h2,h3,h0,Int.natCast_nonneg,and_self,if_true,Int.toNat_natCast,decide_true,decide_false,cond_true,cond_false,Bool.not_true,Bool.true_and,Bool.false_or]
       by_cases h4:((C[i]?.getD (.int 0)).fld 0).toInt≤((C[i - 1]?.getD (.int 0)).fld 0).toInt
       ·have:¬ ((C[i - 1]?.getD (.int 0)).fld 0).toInt<((C[i]?.getD (.int 0)).fld 0).toInt:=by omega
        simp [h4,this]
       ·have:((C[i - 1]?.getD (.int 0)).fld 0).toInt<((C[i]?.getD (.int 0)).fld 0).toInt:=by omega
        simp [h4,this])
    (by
     show Z29 C C.length C.length C R=_
     rw [Z29_fx]; unfold c_Z29; simp)
   have h1':Z29 C C.length 0 C R=_:=h1
   have h2:=fxAll (F:=fun i=>Z39 R R.length i C R) (len:=R.length) (rOk C R) (.inl false) (fin:=.inr ()) (fun i hi=>by
    show Z39 R R.length i C R=_
    rw [Z39_fx]
    unfold c_Z39
    have h1:(i:Int)<R.length:=by omega
    simp only [h1,decide_true,cond_true,Int.natCast_nonneg,and_self,if_true,Int.toNat_natCast,List.getD_eq_getElem?_getD,indexOf_eq C R _ (show C.length≤100000 by omega),Option.bind_some,succ_wrap (show i<4611686018427387904 by omega),Option.bind_fun_some,rOk]
    by_cases e1:((R[i]?.getD (.int 0)).fld 0).toInt=((R[i]?.getD (.int 0)).fld 1).toInt
    ·simp [e1]
    ·by_cases e2:find2 C ((R[i]?.getD (.int 0)).fld 0).toInt<0
     ·have:¬ 0≤find2 C ((R[i]?.getD (.int 0)).fld 0).toInt:=by omega
      simp [e1,e2,this]
     ·have e2':0≤find2 C ((R[i]?.getD (.int 0)).fld 0).toInt:=by omega
      by_cases e3:find2 C ((R[i]?.getD (.int 0)).fld 1).toInt<0
      ·have:¬ 0≤find2 C ((R[i]?.getD (.int 0)).fld 1).toInt:=by omega
       simp [e1,e2,e2',e3,this]
      ·have e3':0≤find2 C ((R[i]?.getD (.int 0)).fld 1).toInt:=by omega
       by_cases h0:i=0
       ·subst h0; simp [e1,e2,e2',e3,e3']
       ·have h2:(0:Int)<i:=by omega
        have h3:((i - 1:Nat):Int)<R.length:=by omega
        obtain ⟨v,v1,v2⟩:=cmpRel_eq ((R[i - 1]?.getD (.int 0)).fld 0).toInt ((R[i - 1]?.getD (.int 0)).fld 1).toInt ((R[i]?.getD (.int 0)).fld 0).toInt ((R[i]?.getD (.int 0)).fld 1).toInt
        simp only [pred_wrap (show i<4611686018427387904 by omega) (show 0<i by omega),e1,e2,e2',e3,e3',h2,h3,h0,v1,v2,Option.bind_some,Int.natCast_nonneg,and_self,if_true,Int.toNat_natCast,decide_true,decide_false,cond_true,cond_false,Bool.not_true,Bool.not_false,Bool.true_and,Bool.false_or]
        cases lexB ((R[i - 1]?.getD (.int 0)).fld 0).toInt ((R[i - 1]?.getD (.int 0)).fld 1).toInt ((R[i]?.getD (.int 0)).fld 0).toInt ((R[i]?.getD (.int 0)).fld 1).toInt <;> rfl)
    (by
     show Z39 R R.length R.length C R=_
     rw [Z39_fx]; unfold c_Z39; simp)
   have h2':Z39 R R.length 0 C R=_:=h2
   simp only [hC',hR',hC,hR,decide_true,decide_false,cond_false,Bool.true_and,h1',Option.bind_some]
   cases allN (cOk C) C.length with
   | false=>rfl
   | true=>
    simp only [cond_true,Sum.elim_inr,h2',Option.bind_some,Bool.true_and]
    cases allN (rOk C R) R.length <;> rfl
  ·have hR':(24:Int)<R.length:=by omega
   simp only [hC',hR',hR,decide_true,decide_false,cond_true,cond_false,Bool.false_and,Bool.and_false]
 ·have hC':(10:Int)<C.length:=by omega
  simp only [hC',hC,decide_true,decide_false,cond_true,Bool.false_and]
theorem ctxsL_tot (c:List D) (hc:okC c):∀ (k:Nat) (n i num p s:Int) (acc:List D),(n - i).toNat=k→0≤i→i≤n→n≤10→0≤p→p + 4 * k≤1099511627000→(acc.length:Int)=i →
  ∃ y,Z3 n num i c p s acc=some y∧(y.1=c∧p≤y.2.1∧y.2.1≤p + 4 * k∧(y.2.2.2.length:Int)=n):=by
 intro k
 induction k with
 | zero=>
  intro n i num p s acc hk h0 h1 h2 h3 h4 h5
  refine Tt.out ?_
  rw [Z3_fx]
  unfold c_Z3
  refine Tt.dec (fun hn=>by exfalso; omega) (fun _=>Tt.pure ⟨rfl,by simp only; omega,by simp only; omega,by simp only; omega⟩)
 | succ k ih=>
  intro n i num p s acc hk h0 h1 h2 h3 h4 h5
  refine Tt.out ?_
  rw [Z3_fx]
  unfold c_Z3
  refine Tt.dec (fun hn=>?_) (fun hn=>by exfalso; omega)
  (refine Tt.bind (Tt.con (pick_tot' _ hc _ _ _ (by omega) (by omega))) ?_; rintro ⟨v,c',p',s'⟩ ⟨hv,rfl,hp1,hp2⟩; dsimp only at hv hp1 hp2 ⊢)
  (refine Tt.bind (Tt.con (pick_tot' _ hc _ _ _ (by omega) (by omega))) ?_; rintro ⟨v,c',p',s'⟩ ⟨hv,rfl,hp1,hp2⟩; dsimp only at hv hp1 hp2 ⊢)
  refine Tt.ite (by simp only [List.length_cons,List.length_nil]; omega) ?_
  rw [wrap_id (n:=i + 1) (by omega) (by omega)]
  refine Tt.bind (Tt.con (ih n (i + 1) _ _ _ _ (by omega) (by omega) (by omega) (by omega) (by omega) (by omega) (by simp only [List.length_append,List.length_cons,List.length_nil]; omega))) ?_
  rintro ⟨c2,p2,s2,l2⟩ ⟨e1,e2,e3,e4⟩
  simp only at e1 e2 e3 e4
  exact Tt.pure ⟨e1,by simp only; omega,by simp only; omega,by simp only; omega⟩
theorem ctxs_tot (c:List D) (hc:okC c) (p s n:Int) (hn:0≤n∧n≤10) (hp:0≤p∧p≤1099511620000):∃ y,Z4 c p s n=some y∧(y.2.1=c∧p≤y.2.2.1∧y.2.2.1≤p + 40∧(y.1.length:Int)=n):=by
 refine Tt.out ?_
 unfold Z4 c_Z4
 refine Tt.bind (Tt.con (ctxsL_tot c hc _ n 0 0 p s [] rfl (by omega) (by omega) (by omega) (by omega) (by omega) (by simp))) ?_
 rintro ⟨c2,p2,s2,l2⟩ ⟨e1,e2,e3,e4⟩
 simp only at e1 e2 e3 e4
 exact Tt.pure ⟨e1,by simp only; omega,by simp only; omega,by simp only; omega⟩
theorem linkL2_tot (C R:List D) (u v:Int) (hR:R.length≤100000):∀ (m i:Nat),i + m=R.length →
  ∃ y,Z10 i C R u v=some y∧(0≤y.1∧y.1≤R.length∧y.2.1=C∧y.2.2.1=R∧y.2.2.2.1=u∧y.2.2.2.2=v):=by
 intro m
 induction m with
 | zero=>
  intro i hi
  refine Tt.out ?_
  rw [Z10_fx]
  unfold c_Z10
  refine Tt.dec (fun hn=>by exfalso; omega) (fun _=>Tt.pure ⟨by simp only; omega,by simp only; omega,rfl,rfl,rfl,rfl⟩)
 | succ m ih=>
  intro i hi
  refine Tt.out ?_
  rw [Z10_fx]
  unfold c_Z10
  refine Tt.dec (fun hn=>?_) (fun hn=>by exfalso; omega)
  refine Tt.ite (by omega) ?_
  rw [before_eq,succ_wrap (show i<4611686018427387904 by omega)]
  refine Tt.bind (Q:=fun _=>True) (Tt.con ⟨_,rfl,trivial⟩) ?_
  rintro b -
  refine Tt.cnd (fun _=>?_) (fun _=>?_)
  ·refine Tt.bind (Tt.con (ih (i + 1) (by omega))) ?_
   intro y hy
   exact Tt.pure hy
  ·exact Tt.pure ⟨by simp only; omega,by simp only; omega,rfl,rfl,rfl,rfl⟩
theorem own2_eq (C R:List D) (hC:C.length≤100000) (hR:R.length≤100000):Z8 C R=some (C,R):=by
 unfold Z8 c_Z8
 rw [if_pos (by simp; omega),if_pos (by simp; omega)]
 rfl
theorem link_tot (C R:List D) (u v:Int) (hC:C.length≤100000) (hR:R.length≤99999):∃ y,Z11 C R u v=some y∧(y.1=C∧R.length≤y.2.length∧y.2.length≤R.length + 1):=by
 refine Tt.out ?_
 unfold Z11 c_Z11
 refine Tt.bind (Tt.con (linkL2_tot C R u v (by omega) R.length 0 (by omega))) ?_
 rintro ⟨i,C',R',u',v'⟩ ⟨h1,h2,e1,e2,e3,e4⟩
 dsimp only at h1 h2 e1 e2 e3 e4 ⊢
 subst e1 e2 e3 e4
 rw [own2_eq _ _ hC (by omega)]
 refine Tt.bind (Q:=fun y=>y=(C',R')) (Tt.con ⟨_,rfl,rfl⟩) ?_
 rintro y rfl
 dsimp only
 have app:Tt (fun _:Unit=>True) (fun y:List D × List D=>y.1=C'∧R'.length≤y.2.length∧y.2.length≤R'.length + 1) (fun _=>some (C',[] ++ List.take (i.toNat - 0) (List.drop 0 R') ++ [D.node [D.int u',D.int v']] ++ List.take (R'.length - i.toNat) (List.drop i.toNat R'))):=by
  refine Tt.pure ⟨rfl,?_,?_⟩
  ·simp only [List.nil_append,List.length_append,List.length_take,List.length_drop,List.length_cons,List.length_nil]; omega
  ·simp only [List.nil_append,List.length_append,List.length_take,List.length_drop,List.length_cons,List.length_nil]; omega
 refine Tt.dec (fun hn=>?_) (fun hn=>?_)
 ·refine Tt.ite (by omega) ?_
  refine Tt.cnd (fun _=>?_) (fun _=>?_)
  ·exact Tt.pure ⟨rfl,by simp only; omega,by simp only; omega⟩
  ·refine Tt.ite (by omega) ?_
   refine Tt.ite (by simp only [List.length_take,List.length_drop,List.length_nil]; omega) ?_
   refine Tt.ite (by simp only [List.nil_append,List.length_take,List.length_drop,List.length_cons,List.length_nil]; omega) ?_
   refine Tt.ite (by omega) ?_
   refine Tt.ite (by simp only [List.nil_append,List.length_append,List.length_take,List.length_drop,List.length_cons,List.length_nil]; omega) ?_
   exact app
 ·refine Tt.ite (by omega) ?_
  refine Tt.ite (by simp only [List.length_take,List.length_drop,List.length_nil]; omega) ?_
  refine Tt.ite (by simp only [List.nil_append,List.length_take,List.length_drop,List.length_cons,List.length_nil]; omega) ?_
  refine Tt.ite (by omega) ?_
  refine Tt.ite (by simp only [List.nil_append,List.length_append,List.length_take,List.length_drop,List.length_cons,List.length_nil]; omega) ?_
  exact app
theorem link0_tot (C:List D) (u v:Int) (hC:C.length≤100000):∃ y,Z9 C u v=some y∧(y.1=C∧y.2.length≤1):=by
 have h0:Z7 0 C [] u v=some (0,C,[],u,v):=by
  rw [Z7_fx]
  unfold c_Z7
  simp
 refine ⟨(C,[D.node [D.int u,D.int v]]),?_,rfl,by simp⟩
 unfold Z9 c_Z9
 simp only [h0,Option.bind_some,own2_eq C [] hC (by simp)]
 simp
def recI (c:List D) (p q:Int) (a b:Nat) (y:List D × List D × List D × Int × Int):Prop:=y.2.2.1=c∧p≤y.2.2.2.1∧y.2.2.2.1≤q∧y.1.length≤a∧y.2.1.length≤b
theorem recL2_tot (c:List D) (hc:okC c):∀ (k:Nat) (n m p s:Int) (C R:List D),m.toNat=k→n=C.length→C.length≤100→R.length + k≤1000→0≤p→p + 6 * k≤1099511627000 →
  ∃ y,Z12 n m c p s C R=some y∧(y.1=c∧p≤y.2.1∧y.2.1≤p + 6 * k∧y.2.2.2.1.length=C.length∧y.2.2.2.2.length≤R.length + k):=by
 intro k
 induction k with
 | zero=>
  intro n m p s C R hm hn hC hR h0 h1
  refine Tt.out ?_
  rw [Z12_fx]
  unfold c_Z12
  refine Tt.dec (fun hn=>by exfalso; omega) (fun _=>Tt.pure ⟨rfl,by simp only; omega,by simp only; omega,rfl,by simp only; omega⟩)
 | succ k ih=>
  intro n m p s C R hm hn hC hR h0 h1
  refine Tt.out ?_
  rw [Z12_fx]
  unfold c_Z12
  refine Tt.dec (fun hm0=>?_) (fun hm0=>by exfalso; omega)
  have go:∀ (p' s':Int) (R':List D),p≤p'→p'≤p + 6→R'.length≤R.length + 1→Tt (fun _:Unit=>True) (fun y:List D × Int × Int × List D × List D=>y.1=c∧p≤y.2.1∧y.2.1≤p + 6 * ((k + 1:Nat):Int)∧y.2.2.2.1.length=C.length∧y.2.2.2.2.length≤R.length + (k + 1)) (fun _=>(Z12 n (IntKind.i64.wrap (m - 1)) c p' s' C R').bind some):=by
   intro p' s' R' g1 g2 g3
   rw [wrap_id (n:=m - 1) (by omega) (by omega)]
   refine Tt.bind (Tt.con (ih n (m - 1) p' s' C R' (by omega) hn hC (by omega) (by omega) (by omega))) ?_
   rintro ⟨c2,p2,s2,C2,R2⟩ ⟨e1,e2,e3,e4,e5⟩
   simp only at e1 e2 e3 e4 e5
   exact Tt.pure ⟨e1,by simp only; omega,by simp only; omega,e4,by simp only; omega⟩
  refine Tt.dec (fun hn1=>?_) (fun _=>Tt.pure ⟨rfl,by simp only; omega,by simp only; omega,rfl,by simp only; omega⟩)
  refine Tt.bind (Tt.con (pick_tot' _ hc _ _ _ (by omega) (by omega))) ?_
  rintro ⟨i,c1,p1,s1⟩ ⟨hi,e1,hp1,hp2⟩
  dsimp only at hi e1 hp1 hp2 ⊢
  rw [e1]
  refine Tt.bind (Tt.con (pick_tot' _ hc _ _ _ (by omega) (by omega))) ?_
  rintro ⟨j,c2,p2,s2⟩ ⟨hj,e2,hp3,hp4⟩
  dsimp only at hj e2 hp3 hp4 ⊢
  rw [e2]
  have link:∀ (a b p' s':Int),0≤a→a<n→0≤b→b<n→p≤p'→p'≤p + 6→Tt (fun _:Unit=>True) (fun y:List D × Int × Int × List D × List D=>y.1=c∧p≤y.2.1∧y.2.1≤p + 6 * ((k + 1:Nat):Int)∧y.2.2.2.1.length=C.length∧y.2.2.2.2.length≤R.length + (k + 1))
    (fun _=>(Z11 C R a b).bind (fun z=>(Z12 n (IntKind.i64.wrap (m - 1)) c p' s' z.1 z.2).bind some))→True:=fun _ _ _ _ _ _ _ _ _ _ _=>trivial
  have linkT:∀ (u v p' s':Int),p≤p'→p'≤p + 6→Tt (fun _:Unit=>True) (fun y:List D × Int × Int × List D × List D=>y.1=c∧p≤y.2.1∧y.2.1≤p + 6 * ((k + 1:Nat):Int)∧y.2.2.2.1.length=C.length∧y.2.2.2.2.length≤R.length + (k + 1))
    (fun _=>(Z11 C R u v).bind (fun z=>(Z12 n (IntKind.i64.wrap (m - 1)) c p' s' z.1 z.2).bind some)):=by
   intro u v p' s' g1 g2
   refine Tt.bind (Tt.con (link_tot C R u v (by omega) (by omega))) ?_
   rintro ⟨C3,R3⟩ ⟨rfl,q1,q2⟩
   dsimp only at q1 q2 ⊢
   exact go p' s' R3 g1 g2 q2
  refine Tt.dec (fun _=>?_) (fun _=>?_)
  ·refine Tt.bind (Tt.con (one_tot' _ hc _ _ _ (by omega) (by omega))) ?_
   rintro ⟨w,c3,p3,s3⟩ ⟨_,e3,hp5,hp6⟩
   dsimp only at e3 hp5 hp6 ⊢
   rw [e3]
   refine Tt.cnd (fun _=>?_) (fun _=>?_)
   ·refine Tt.ndec (fun _=>?_) (fun _=>go _ _ R (by omega) (by omega) (by omega))
    repeat refine Tt.ite (by omega) ?_
    exact linkT _ _ _ _ (by omega) (by omega)
   ·refine Tt.ndec (fun _=>?_) (fun _=>go _ _ R (by omega) (by omega) (by omega))
    repeat refine Tt.ite (by omega) ?_
    exact linkT _ _ _ _ (by omega) (by omega)
  ·refine Tt.ndec (fun _=>?_) (fun _=>go _ _ R (by omega) (by omega) (by omega))
   repeat refine Tt.ite (by omega) ?_
   exact linkT _ _ _ _ (by omega) (by omega)
theorem recL_tot (c:List D) (hc:okC c):∀ (k:Nat) (n m p s:Int) (C:List D),m.toNat=k→n=C.length→C.length≤100→k≤100→0≤p→p + 6 * k≤1099511627000 →
  ∃ y,Z13 n m c p s C=some y∧(match y with
   | .inl y=>y.1=c∧p≤y.2.1∧y.2.1≤p + 6 * k∧y.2.2.2.1.length=C.length∧y.2.2.2.2.length≤k
   | .inr y=>y.1=c∧p≤y.2.1∧y.2.1≤p + 6 * k∧y.2.2.2.length=C.length):=by
 intro k
 induction k with
 | zero=>
  intro n m p s C hm hn hC hR h0 h1
  refine Tt.out ?_
  rw [Z13_fx]
  unfold c_Z13
  refine Tt.dec (fun hn=>by exfalso; omega) (fun _=>Tt.pure ⟨rfl,by simp only; omega,by simp only; omega,rfl⟩)
 | succ k ih=>
  intro n m p s C hm hn hC hR h0 h1
  refine Tt.out ?_
  rw [Z13_fx]
  unfold c_Z13
  refine Tt.dec (fun hm0=>?_) (fun hm0=>by exfalso; omega)
  let PP':(List D × Int × Int × List D × List D) ⊕ (List D × Int × Int × List D)→Prop:=fun y=>match y with
   | .inl y=>y.1=c∧p≤y.2.1∧y.2.1≤p + 6 * ((k + 1:Nat):Int)∧y.2.2.2.1.length=C.length∧y.2.2.2.2.length≤k + 1
   | .inr y=>y.1=c∧p≤y.2.1∧y.2.1≤p + 6 * ((k + 1:Nat):Int)∧y.2.2.2.length=C.length
  have go:∀ (p' s':Int),p≤p'→p'≤p + 6→Tt (fun _:Unit=>True) PP' (fun _=>(Z13 n (IntKind.i64.wrap (m - 1)) c p' s' C).bind some):=by
   intro p' s' g1 g2
   rw [wrap_id (n:=m - 1) (by omega) (by omega)]
   refine Tt.bind (Tt.con (ih n (m - 1) p' s' C (by omega) hn hC (by omega) (by omega) (by omega))) ?_
   rintro (⟨c2,p2,s2,C2,R2⟩ | ⟨c2,p2,s2,C2⟩) h
   ·obtain ⟨e1,e2,e3,e4,e5⟩:=h
    simp only at e1 e2 e3 e4 e5
    exact Tt.pure ⟨e1,by simp only; omega,by simp only; omega,e4,by simp only; omega⟩
   ·obtain ⟨e1,e2,e3,e4⟩:=h
    simp only at e1 e2 e3 e4
    exact Tt.pure ⟨e1,by simp only; omega,by simp only; omega,e4⟩
  refine Tt.dec (fun hn1=>?_) (fun _=>Tt.pure ⟨rfl,by simp only; omega,by simp only; omega,rfl⟩)
  refine Tt.bind (Tt.con (pick_tot' _ hc _ _ _ (by omega) (by omega))) ?_
  rintro ⟨i,c1,p1,s1⟩ ⟨hi,e1,hp1,hp2⟩
  dsimp only at hi e1 hp1 hp2 ⊢
  rw [e1]
  refine Tt.bind (Tt.con (pick_tot' _ hc _ _ _ (by omega) (by omega))) ?_
  rintro ⟨j,c2,p2,s2⟩ ⟨hj,e2,hp3,hp4⟩
  dsimp only at hj e2 hp3 hp4 ⊢
  rw [e2]
  have linkT:∀ (u v p' s':Int),p≤p'→p'≤p + 6→Tt (fun _:Unit=>True) PP'
    (fun _=>(Z9 C u v).bind (fun z=>(Z12 n (IntKind.i64.wrap (m - 1)) c p' s' z.1 z.2).bind (fun w=>some (.inl (w.1,w.2.1,w.2.2.1,w.2.2.2.1,w.2.2.2.2))))):=by
   intro u v p' s' g1 g2
   refine Tt.bind (Tt.con (link0_tot C u v (by omega))) ?_
   rintro ⟨C3,R3⟩ ⟨rfl,q1⟩
   dsimp only at q1 ⊢
   rw [wrap_id (n:=m - 1) (by omega) (by omega)]
   refine Tt.bind (Tt.con (recL2_tot c hc k n (m - 1) p' s' C3 R3 (by omega) hn hC (by omega) (by omega) (by omega))) ?_
   rintro ⟨c2,p2,s2,C2,R2⟩ ⟨e1,e2,e3,e4,e5⟩
   simp only at e1 e2 e3 e4 e5
   exact Tt.pure ⟨e1,by simp only; omega,by simp only; omega,e4,by simp only; omega⟩
  refine Tt.dec (fun _=>?_) (fun _=>?_)
  ·refine Tt.bind (Tt.con (one_tot' _ hc _ _ _ (by omega) (by omega))) ?_
   rintro ⟨w,c3,p3,s3⟩ ⟨_,e3,hp5,hp6⟩
   dsimp only at e3 hp5 hp6 ⊢
   rw [e3]
   refine Tt.cnd (fun _=>?_) (fun _=>?_)
   ·refine Tt.ndec (fun _=>?_) (fun _=>go _ _ (by omega) (by omega))
    repeat refine Tt.ite (by omega) ?_
    exact linkT _ _ _ _ (by omega) (by omega)
   ·refine Tt.ndec (fun _=>?_) (fun _=>go _ _ (by omega) (by omega))
    repeat refine Tt.ite (by omega) ?_
    exact linkT _ _ _ _ (by omega) (by omega)
  ·refine Tt.ndec (fun _=>?_) (fun _=>go _ _ (by omega) (by omega))
   repeat refine Tt.ite (by omega) ?_
   exact linkT _ _ _ _ (by omega) (by omega)
theorem record_tot (c:List D) (hc:okC c) (p s:Int) (hp:0≤p∧p≤1099511619000):∃ y,Z14 c p s=some y∧recI c p (p + 200) 10 20 y:=by
 refine Tt.out ?_
 unfold Z14 c_Z14
 (refine Tt.bind (Tt.con (pick_tot' _ hc _ _ _ (by omega) (by omega))) ?_; rintro ⟨v,c',p',s'⟩ ⟨hv,rfl,hp1,hp2⟩; dsimp only at hv hp1 hp2 ⊢)
 refine Tt.bind (Tt.con (ctxs_tot _ hc _ _ _ (by omega) (by omega))) ?_
 rintro ⟨C,c2,p2,s2⟩ ⟨rfl,e2,e3,e4⟩
 dsimp only at e2 e3 e4 ⊢
 (refine Tt.bind (Tt.con (pick_tot' _ hc _ _ _ (by omega) (by omega))) ?_; rintro ⟨v,c',p',s'⟩ ⟨hv,rfl,hp1,hp2⟩; dsimp only at hv hp1 hp2 ⊢)
 refine Tt.bind (Tt.con (recL_tot _ hc _ _ _ _ _ C rfl rfl (by omega) (by omega) (by omega) (by omega))) ?_
 rintro (⟨c5,p5,s5,C5,R5⟩ | ⟨c5,p5,s5,C5⟩) h
 ·obtain ⟨g1,g2,g3,g4,g5⟩:=h
  simp only at g1 g2 g3 g4 g5
  exact Tt.pure ⟨g1,by simp only; omega,by simp only; omega,by simp only; omega,by simp only; omega⟩
 ·obtain ⟨g1,g2,g3,g4⟩:=h
  simp only at g1 g2 g3 g4
  exact Tt.pure ⟨g1,by simp only; omega,by simp only; omega,by simp only; omega,by simp only [List.length_nil]; omega⟩
theorem anyL17v_tot (c:List D) (hc:okC c):∀ (k:Nat) (n p s:Int) (R C:List D),(12 - n).toNat=k→0≤n→n≤12→C.length + k≤1000→0≤p→p + 2 * (k + 1)≤1099511627000 →
  ∃ y,Z16 n c p s R C=some y∧(y.1=c∧p≤y.2.1∧y.2.1≤p + 2 * (k + 1)∧y.2.2.2.1=R∧y.2.2.2.2.length≤C.length + k):=by
 intro k
 induction k with
 | zero=>
  intro n p s R C hk h0 h1 h2 h3 h4
  refine Tt.out ?_
  rw [Z16_fx]
  unfold c_Z16
  (refine Tt.bind (Tt.con (pick_tot' _ hc _ _ _ (by omega) (by omega))) ?_; rintro ⟨v,c',p',s'⟩ ⟨hv,rfl,hp1,hp2⟩; dsimp only at hv hp1 hp2 ⊢)
  refine Tt.dec (fun _=>?_) (fun _=>Tt.pure ⟨rfl,by simp only; omega,by simp only; omega,rfl,by simp only; omega⟩)
  refine Tt.dec (fun _=>by exfalso; omega) (fun _=>Tt.pure ⟨rfl,by simp only; omega,by simp only; omega,rfl,by simp only; omega⟩)
 | succ k ih=>
  intro n p s R C hk h0 h1 h2 h3 h4
  refine Tt.out ?_
  rw [Z16_fx]
  unfold c_Z16
  (refine Tt.bind (Tt.con (pick_tot' _ hc _ _ _ (by omega) (by omega))) ?_; rintro ⟨v,c',p',s'⟩ ⟨hv,rfl,hp1,hp2⟩; dsimp only at hv hp1 hp2 ⊢)
  refine Tt.dec (fun _=>?_) (fun _=>Tt.pure ⟨rfl,by simp only; omega,by simp only; omega,rfl,by simp only; omega⟩)
  refine Tt.dec (fun _=>?_) (fun _=>Tt.pure ⟨rfl,by simp only; omega,by simp only; omega,rfl,by simp only; omega⟩)
  refine Tt.ite (by simp only [List.length_cons,List.length_nil]; omega) ?_
  rw [wrap_id (n:=n + 1) (by omega) (by omega)]
  refine Tt.bind (Tt.con (ih (n + 1) _ _ R _ (by omega) (by omega) (by omega) (by simp only [List.length_append,List.length_cons,List.length_nil]; omega) (by omega) (by omega))) ?_
  rintro ⟨c2,p2,s2,R2,C2⟩ ⟨e1,e2,e3,e4,e5⟩
  simp only [List.length_append,List.length_cons,List.length_nil] at e1 e2 e3 e4 e5
  exact Tt.pure ⟨e1,by simp only; omega,by simp only; omega,e4,by simp only; omega⟩
theorem anyL17_tot (c:List D) (hc:okC c) (p s:Int) (C R:List D) (hp:0≤p∧p≤1099511620000) (hC:C.length≤100):∃ y,Z17 0 c p s C R=some y∧(match y with
   | .inl y=>y.1=c∧p≤y.2.1∧y.2.1≤p + 100∧y.2.2.2.1=R∧y.2.2.2.2.length≤C.length + 12
   | .inr y=>y.1=c∧p≤y.2.1∧y.2.1≤p + 100∧y.2.2.2.1=C∧y.2.2.2.2=R):=by
 refine Tt.out ?_
 rw [Z17_fx]
 unfold c_Z17
 (refine Tt.bind (Tt.con (pick_tot' _ hc _ _ _ (by omega) (by omega))) ?_; rintro ⟨v,c',p',s'⟩ ⟨hv,rfl,hp1,hp2⟩; dsimp only at hv hp1 hp2 ⊢)
 refine Tt.dec (fun _=>?_) (fun _=>Tt.pure ⟨rfl,by simp only; omega,by simp only; omega,rfl,rfl⟩)
 refine Tt.dec (fun _=>?_) (fun _=>Tt.pure ⟨rfl,by simp only; omega,by simp only; omega,rfl,rfl⟩)
 refine Tt.ite (by simp only [List.length_cons,List.length_nil]; omega) ?_
 refine Tt.bind (Tt.con (anyL17v_tot _ hc 11 1 _ _ R _ (by decide) (by omega) (by omega) (by simp only [List.length_append,List.length_cons,List.length_nil]; omega) (by omega) (by omega))) ?_
 rintro ⟨c2,p2,s2,R2,C2⟩ ⟨e1,e2,e3,e4,e5⟩
 simp only [List.length_append,List.length_cons,List.length_nil] at e1 e2 e3 e4 e5
 exact Tt.pure ⟨e1,by simp only; omega,by simp only; omega,e4,by simp only; omega⟩
def rowN (r a b:Nat):Nat:=min 25 (r + (7 - b) - (if b≤a then 1 else 0))
theorem anyL28v_tot (c:List D) (p s:Int) (C:List D) (hC:C.length=7) (a:Nat) (ha:a<7):∀ (m b:Nat) (R:List D),b + m=7→R.length≤25 →
  ∃ R',Z18 a b c p s C R=some ((a:Int),c,p,s,C,R')∧R'.length=rowN R.length a b:=by
 intro m
 induction m with
 | zero=>
  intro b R hb hR
  refine ⟨R,?_,?_⟩
  ·rw [Z18_fx]
   unfold c_Z18
   have h1:¬ (b:Int)<7:=by omega
   simp only [h1,decide_false,cond_false]
  ·unfold rowN; split <;> omega
 | succ m ih=>
  intro b R hb hR
  rw [Z18_fx]
  unfold c_Z18
  have h1:(b:Int)<7:=by omega
  simp only [h1,decide_true,cond_true]
  by_cases h25:R.length<25
  ·have h2:(R.length:Int)<25:=by omega
   simp only [h2,decide_true,cond_true,succ_wrap (show b<4611686018427387904 by omega)]
   by_cases hab:a=b
   ·have h3:(a:Int)=(b:Int):=by omega
    simp only [h3,decide_true,Bool.not_true,cond_false]
    obtain ⟨R',e1,e2⟩:=ih (b + 1) R (by omega) hR
    rw [hab] at e1
    refine ⟨R',by rw [e1]; rfl,?_⟩
    rw [e2]
    unfold rowN
    rw [if_neg (by omega),if_pos (by omega)]
    omega
   ·have h3:¬ (a:Int)=(b:Int):=by omega
    have g1:(0:Int)≤(a:Int)∧(a:Int)<C.length:=by omega
    have g2:a + 1≤C.length:=by omega
    have g3:(0:Int)≤(b:Int)∧(b:Int)<C.length:=by omega
    have g4:b + 1≤C.length:=by omega
    have g5:R.length + [D.node [D.int ((C.getD a (.int 0)).fld 0).toInt,D.int ((C.getD b (.int 0)).fld 0).toInt]].length≤4294967296:=by
     simp only [List.length_cons,List.length_nil]; omega
    simp only [h3,decide_false,Bool.not_false,cond_true,if_pos g1,Int.toNat_natCast,if_pos g2,if_pos g3,if_pos g4,if_pos g5]
    obtain ⟨R',e1,e2⟩:=ih (b + 1) (R ++ [D.node [D.int ((C.getD a (.int 0)).fld 0).toInt,D.int ((C.getD b (.int 0)).fld 0).toInt]]) (by omega) (by simp; omega)
    refine ⟨R',by rw [e1]; rfl,?_⟩
    rw [e2]
    unfold rowN
    simp only [List.length_append,List.length_cons,List.length_nil]
    by_cases hle:b≤a
    ·rw [if_pos (by omega),if_pos hle]; omega
    ·rw [if_neg (by omega),if_neg hle]; omega
  ·have h2:¬ (R.length:Int)<25:=by omega
   simp only [h2,decide_false,cond_false]
   refine ⟨R,rfl,?_⟩
   unfold rowN
   split <;> omega
theorem anyL28_tot (c:List D) (p s:Int) (C:List D) (hC:C.length=7) (a:Nat) (ha:a<7):∀ (m b:Nat) (R:List D),b + m=7→R.length≤25 →
  ∃ R',(Z19 a b c p s C R=some (.inl ((a:Int),c,p,s,C,R')) ∨ Z19 a b c p s C R=some (.inr ((a:Int),c,p,s,C,R')))∧R'.length=rowN R.length a b:=by
 intro m
 induction m with
 | zero=>
  intro b R hb hR
  refine ⟨R,.inr ?_,?_⟩
  ·rw [Z19_fx]
   unfold c_Z19
   have h1:¬ (b:Int)<7:=by omega
   simp only [h1,decide_false,cond_false]
  ·unfold rowN; split <;> omega
 | succ m ih=>
  intro b R hb hR
  rw [Z19_fx]
  unfold c_Z19
  have h1:(b:Int)<7:=by omega
  simp only [h1,decide_true,cond_true]
  by_cases h25:R.length<25
  ·have h2:(R.length:Int)<25:=by omega
   simp only [h2,decide_true,cond_true,succ_wrap (show b<4611686018427387904 by omega)]
   by_cases hab:a=b
   ·have h3:(a:Int)=(b:Int):=by omega
    simp only [h3,decide_true,Bool.not_true,cond_false]
    obtain ⟨R',e1,e2⟩:=ih (b + 1) R (by omega) hR
    rw [hab] at e1
    refine ⟨R',by rcases e1 with e1 | e1 <;> rw [e1] <;> simp,?_⟩
    rw [e2]
    unfold rowN
    rw [if_neg (by omega),if_pos (by omega)]
    omega
   ·have h3:¬ (a:Int)=(b:Int):=by omega
    have g1:(0:Int)≤(a:Int)∧(a:Int)<C.length:=by omega
    have g2:a + 1≤C.length:=by omega
    have g3:(0:Int)≤(b:Int)∧(b:Int)<C.length:=by omega
    have g4:b + 1≤C.length:=by omega
    have g5:R.length + [D.node [D.int ((C.getD a (.int 0)).fld 0).toInt,D.int ((C.getD b (.int 0)).fld 0).toInt]].length≤4294967296:=by
     simp only [List.length_cons,List.length_nil]; omega
    simp only [h3,decide_false,Bool.not_false,cond_true,if_pos g1,Int.toNat_natCast,if_pos g2,if_pos g3,if_pos g4,if_pos g5]
    obtain ⟨R',e1,e2⟩:=anyL28v_tot c p s C hC a ha m (b + 1) (R ++ [D.node [D.int ((C.getD a (.int 0)).fld 0).toInt,D.int ((C.getD b (.int 0)).fld 0).toInt]]) (by omega) (by simp; omega)
    refine ⟨R',.inl (by rw [e1]; rfl),?_⟩
    rw [e2]
    unfold rowN
    simp only [List.length_append,List.length_cons,List.length_nil]
    by_cases hle:b≤a
    ·rw [if_pos (by omega),if_pos hle]; omega
    ·rw [if_neg (by omega),if_neg hle]; omega
  ·have h2:¬ (R.length:Int)<25:=by omega
   simp only [h2,decide_false,cond_false]
   refine ⟨R,.inr rfl,?_⟩
   unfold rowN
   split <;> omega
theorem rowN0 {r a:Nat}:rowN r a 0=min 25 (r + 6):=by unfold rowN; rw [if_pos (by omega)]; omega
theorem anyL25v_tot (c:List D) (p s:Int) (C:List D) (hC:C.length=7):∀ (m a:Nat) (R:List D),a + m=7→R.length≤25 →
  ∃ R',Z20 a c p s C R=some (c,p,s,C,R')∧R'.length=min 25 (R.length + 6 * m):=by
 intro m
 induction m with
 | zero=>
  intro a R ha hR
  refine ⟨R,?_,by omega⟩
  rw [Z20_fx]
  unfold c_Z20
  have h1:¬ (a:Int)<7:=by omega
  simp only [h1,decide_false,cond_false]
 | succ m ih=>
  intro a R ha hR
  obtain ⟨R1,e1,e2⟩:=anyL28v_tot c p s C hC a (by omega) 7 0 R (by omega) hR
  have e1':Z18 a 0 c p s C R=_:=e1
  rw [rowN0] at e2
  obtain ⟨R2,f1,f2⟩:=ih (a + 1) R1 (by omega) (by omega)
  refine ⟨R2,?_,by omega⟩
  rw [Z20_fx]
  unfold c_Z20
  have h1:(a:Int)<7:=by omega
  simp only [h1,decide_true,cond_true,e1',Option.bind_some,succ_wrap (show a<4611686018427387904 by omega),f1]
theorem anyL25_tot (c:List D) (p s:Int) (C:List D) (hC:C.length=7):∀ (m a:Nat) (R:List D),a + m=7→R.length≤25 →
  ∃ R',(Z21 a c p s C R=some (.inl (c,p,s,C,R')) ∨ Z21 a c p s C R=some (.inr (c,p,s,C,R')))∧R'.length=min 25 (R.length + 6 * m):=by
 intro m
 induction m with
 | zero=>
  intro a R ha hR
  refine ⟨R,.inr ?_,by omega⟩
  rw [Z21_fx]
  unfold c_Z21
  have h1:¬ (a:Int)<7:=by omega
  simp only [h1,decide_false,cond_false]
 | succ m ih=>
  intro a R ha hR
  obtain ⟨R1,e1,e2⟩:=anyL28_tot c p s C hC a (by omega) 7 0 R (by omega) hR
  rw [rowN0] at e2
  have h1:(a:Int)<7:=by omega
  rcases e1 with e1 | e1
  ·have e1':Z19 a 0 c p s C R=_:=e1
   obtain ⟨R2,f1,f2⟩:=anyL25v_tot c p s C hC m (a + 1) R1 (by omega) (by omega)
   refine ⟨R2,.inl ?_,by omega⟩
   rw [Z21_fx]
   unfold c_Z21
   simp only [h1,decide_true,cond_true,e1',Option.bind_some,Sum.elim_inl,succ_wrap (show a<4611686018427387904 by omega),f1]
  ·have e1':Z19 a 0 c p s C R=_:=e1
   obtain ⟨R2,f1,f2⟩:=ih (a + 1) R1 (by omega) (by omega)
   refine ⟨R2,?_,by omega⟩
   rw [Z21_fx]
   unfold c_Z21
   simp only [h1,decide_true,cond_true,e1',Option.bind_some,Sum.elim_inr,succ_wrap (show a<4611686018427387904 by omega)]
   rcases f1 with f1 | f1 <;> rw [f1] <;> simp
theorem any_tot (c:List D) (hc:okC c) (p s:Int) (hp:0≤p∧p≤1099511610000):∃ y,Z22 c p s=some y∧recI c p (p + 500) 100 100 y:=by
 refine Tt.out ?_
 unfold Z22 c_Z22
 refine Tt.bind (Tt.con (record_tot _ hc _ _ (by omega))) ?_
 rintro ⟨C,R,c1,p1,s1⟩ ⟨rfl,q1,q2,q3,q4⟩
 dsimp only at q1 q2 q3 q4 ⊢
 refine Tt.dec (fun _=>Tt.pure ⟨rfl,by simp only; omega,by simp only; omega,by simp only; omega,by simp only; omega⟩) (fun hne=>?_)
 refine Tt.bind (Tt.con (pick_tot' _ hc _ _ _ (by omega) (by omega))) ?_
 rintro ⟨i,c2,p2,s2⟩ ⟨hi,rfl,hp1,hp2⟩
 dsimp only at hi hp1 hp2 ⊢
 refine Tt.ite (by omega) ?_
 refine Tt.ite (by omega) ?_
 refine Tt.bind (Tt.con (pick_tot' _ hc _ _ _ (by omega) (by omega))) ?_
 rintro ⟨w,c3,p3,s3⟩ ⟨hw,rfl,hp3,hp4⟩
 dsimp only at hw hp3 hp4 ⊢
 refine Tt.dec (fun _=>?_) (fun _=>?_)
 ·(refine Tt.bind (Tt.con (among_tot _ hc _ _ _ (by omega) (by simp))) ?_; rintro ⟨v,c',p',s'⟩ ⟨hv,rfl,hp1,hp2⟩; dsimp only at hv hp1 hp2 ⊢)
  refine Tt.ite (by omega) ?_
  refine Tt.ite (by omega) ?_
  exact Tt.pure ⟨rfl,by simp only; omega,by simp only; omega,by simp only [List.length_set]; omega,by simp only; omega⟩
 ·refine Tt.dec (fun _=>?_) (fun _=>?_)
  ·(refine Tt.bind (Tt.con (pick_tot' _ hc _ _ _ (by omega) (by omega))) ?_; rintro ⟨v,c',p',s'⟩ ⟨hv,rfl,hp1,hp2⟩; dsimp only at hv hp1 hp2 ⊢)
   refine Tt.ite (by omega) ?_
   refine Tt.ite (by omega) ?_
   exact Tt.pure ⟨rfl,by simp only; omega,by simp only; omega,by simp only [List.length_set]; omega,by simp only; omega⟩
  ·refine Tt.dec (fun _=>?_) (fun _=>?_)
   ·refine Tt.ite (by simp only [List.length_cons,List.length_nil]; omega) ?_
    refine Tt.ite (by omega) ?_
    refine Tt.ite (by omega) ?_
    exact Tt.pure ⟨rfl,by simp only; omega,by simp only; omega,by simp only [List.length_set]; omega,by simp only [List.length_append,List.length_cons,List.length_nil]; omega⟩
   ·refine Tt.dec (fun _=>?_) (fun _=>?_)
    ·(refine Tt.bind (Tt.con (pick_tot' _ hc _ _ _ (by omega) (by omega))) ?_; rintro ⟨v,c',p',s'⟩ ⟨hv,rfl,hp1,hp2⟩; dsimp only at hv hp1 hp2 ⊢)
     (refine Tt.bind (Tt.con (pick_tot' _ hc _ _ _ (by omega) (by omega))) ?_; rintro ⟨v,c',p',s'⟩ ⟨hv,rfl,hp1,hp2⟩; dsimp only at hv hp1 hp2 ⊢)
     refine Tt.ite (by simp only [List.length_cons,List.length_nil]; omega) ?_
     refine Tt.ite (by omega) ?_
     refine Tt.ite (by omega) ?_
     exact Tt.pure ⟨rfl,by simp only; omega,by simp only; omega,by simp only [List.length_set]; omega,by simp only [List.length_append,List.length_cons,List.length_nil]; omega⟩
    ·refine Tt.dec (fun _=>?_) (fun _=>?_)
     ·refine Tt.bind (Tt.con (anyL17_tot _ hc _ _ C R (by omega) (by omega))) ?_
      rintro (⟨c5,p5,s5,R5,C5⟩ | ⟨c5,p5,s5,C5,R5⟩) h
      ·obtain ⟨g1,g2,g3,g4,g5⟩:=h
       simp only at g1 g2 g3 g4 g5
       exact Tt.pure ⟨g1,by simp only; omega,by simp only; omega,by simp only; omega,by simp only [g4]; omega⟩
      ·obtain ⟨g1,g2,g3,g4,g5⟩:=h
       simp only at g1 g2 g3 g4 g5
       exact Tt.pure ⟨g1,by simp only; omega,by simp only; omega,by simp only [g4]; omega,by simp only [g5]; omega⟩
     ·refine Tt.dec (fun _=>?_) (fun _=>?_)
      ·refine Tt.bind (Tt.con (ctxs_tot _ hc _ _ _ (by omega) (by omega))) ?_
       rintro ⟨C6,c6,p6,s6⟩ ⟨rfl,e2,e3,e4⟩
       dsimp only at e2 e3 e4 ⊢
       obtain ⟨R7,f1,f2⟩:=anyL25_tot c6 p6 s6 C6 (by omega) 7 0 [] (by omega) (by simp)
       simp only [List.length_nil] at f2
       have fin:Tt (fun _:Unit=>True) (recI c6 p (p + 500) 100 100) (fun _=>(Z2 c6 p6 s6 2).bind (fun y11=>if (0:Int)≤0∧0≤IntKind.i64.wrap (24 + y11.1)∧IntKind.i64.wrap (24 + y11.1)≤R7.length then (if 0 + ((IntKind.i64.wrap (24 + y11.1)).toNat - 0)≤R7.length then some (C6,List.take ((IntKind.i64.wrap (24 + y11.1)).toNat - 0) (List.drop 0 R7),y11.2.1,y11.2.2.1,y11.2.2.2) else none) else none)):=by
        refine Tt.bind (Tt.con (pick_tot' _ hc _ _ _ (by omega) (by omega))) ?_
        rintro ⟨x,c8,p8,s8⟩ ⟨hx,rfl,r1,r2⟩
        dsimp only at hx r1 r2 ⊢
        rw [wrap_id (n:=24 + x) (by omega) (by omega)]
        refine Tt.ite (by omega) ?_
        refine Tt.ite (by omega) ?_
        exact Tt.pure ⟨rfl,by simp only; omega,by simp only; omega,by simp only; omega,by simp only [List.length_take,List.length_drop]; omega⟩
       rcases f1 with f1 | f1
       ·have f1':Z21 0 c6 p6 s6 C6 []=_:=f1
        rw [f1']
        exact fin
       ·have f1':Z21 0 c6 p6 s6 C6 []=_:=f1
        rw [f1']
        exact fin
      ·refine Tt.ite (by omega) ?_
       refine Tt.ite (by omega) ?_
       exact Tt.pure ⟨rfl,by simp only; omega,by simp only; omega,by simp only [List.length_set]; omega,by simp only; omega⟩
def at2 (M:List D) (i k:Nat):Bool:=((M.getD i (.int 0)).items.getD k (.int 0)).toBool
def set2 (M:List D) (i k:Nat) (b:Bool):List D:=M.set i (.node ((M.getD i (.int 0)).items.set k (.bool b)))
structure Sq (n:Nat) (M:List D):Prop where
 len:M.length=n
 row:∀ i,i<n→(M.getD i (.int 0)).items.length=n
theorem getD_set {l:List D} {i j:Nat} {x:D} (h:i<l.length):(l.set i x).getD j (.int 0)=if i=j then x else l.getD j (.int 0):=by
 rw [List.getD_eq_getElem?_getD,List.getD_eq_getElem?_getD,List.getElem?_set]
 by_cases e:i=j
 ·subst e; simp [h]
 ·simp [e]
theorem Sq.set {n:Nat} {M:List D} (h:Sq n M) {i k:Nat} (hi:i<n) (b:Bool):Sq n (set2 M i k b):=by
 refine ⟨by simp [set2,h.len],fun j hj=>?_⟩
 unfold set2
 rw [getD_set (by rw [h.len]; exact hi)]
 split
 ·simp only [items_node,List.length_set]; exact h.row i hi
 ·exact h.row j hj
theorem at2_set {n:Nat} {M:List D} (h:Sq n M) {i k a c:Nat} (hi:i<n) (hk:k<n) (b:Bool):at2 (set2 M i k b) a c=if a=i∧c=k then b else at2 M a c:=by
 unfold at2 set2
 rw [getD_set (by rw [h.len]; exact hi)]
 by_cases e:i=a
 ·subst e
  rw [if_pos rfl]
  simp only [items_node]
  rw [getD_set (by rw [h.row i hi]; exact hk)]
  by_cases e2:k=c
  ·subst e2; simp [toBool_bool]
  ·have:¬ c=k:=fun e=>e2 e.symm
   simp [e2,this]
 ·have:¬ a=i:=fun e'=>e e'.symm
  rw [if_neg e]
  simp [this]
theorem at2_lt {n:Nat} {M:List D} (h:Sq n M) {a c:Nat} (hv:at2 M a c=true):a<n∧c<n:=by
 unfold at2 at hv
 by_cases ha:a<n
 ·refine ⟨ha,?_⟩
  by_cases hc:c<n
  ·exact hc
  ·rw [List.getD_eq_getElem?_getD (l:=(M.getD a (.int 0)).items),List.getElem?_eq_none (by rw [h.row a ha]; omega)] at hv
   cases hv
 ·rw [List.getD_eq_getElem?_getD (l:=M),List.getElem?_eq_none (by rw [h.len]; omega)] at hv
  simp [D.items] at hv
  cases hv
structure Clo (n:Nat) (M M':List D):Prop where
 sq:Sq n M'
 mono:∀ a b,at2 M a b=true→at2 M' a b=true
 sound:∀ T:Nat→Nat→Prop,(∀ a b c,T a b→T b c→T a c)→(∀ a b,at2 M a b=true→T a b)→∀ a b,at2 M' a b=true→T a b
theorem Clo.refl {n:Nat} {M:List D} (h:Sq n M):Clo n M M:=⟨h,fun _ _ h=>h,fun _ _ h=>h⟩
theorem Clo.trans {n:Nat} {M M' M'':List D} (h:Clo n M M') (k:Clo n M' M''):Clo n M M'':=
 ⟨k.sq,fun a b q=>k.mono a b (h.mono a b q),fun T hT hb=>k.sound T hT (h.sound T hT hb)⟩
theorem Clo.step {n:Nat} {M:List D} (h:Sq n M) {i j k:Nat} (hi:i<n) (hk:k<n) {v:Bool} (h1:at2 M i k=true→v=true) (h2:v=true→at2 M i k=true ∨ (at2 M i j=true∧at2 M j k=true)):Clo n M (set2 M i k v):=by
 refine ⟨h.set hi v,fun a b q=>?_,fun T hT hb a b q=>?_⟩
 ·rw [at2_set h hi hk]
  split
  ·rename_i e; rw [e.1,e.2] at q; exact h1 q
  ·exact q
 ·rw [at2_set h hi hk] at q
  split at q
  ·rename_i e
   rw [e.1,e.2]
   rcases h2 q with h2 | h2
   ·exact hb _ _ h2
   ·exact hT _ _ _ (hb _ _ h2.1) (hb _ _ h2.2)
  ·exact hb a b q
theorem squareL_eq (n:Nat) (hn:n≤100000):∀ (m i:Nat) (M:List D),i + m=n→M.length=n→(∀ j,j<i→M.getD j (.int 0)=.node (List.replicate n (.bool false))) →
  ∃ M',Z42 n n i M=some M'∧M'.length=n∧∀ j,j<n→M'.getD j (.int 0)=.node (List.replicate n (.bool false)):=by
 intro m
 induction m with
 | zero=>
  intro i M hi hl hj
  have:i=n:=by omega
  subst this
  refine ⟨M,?_,hl,hj⟩
  rw [Z42_fx]
  unfold c_Z42
  simp
 | succ m ih=>
  intro i M hi hl hj
  rw [Z42_fx]
  unfold c_Z42
  have h1:(i:Int)<n:=by omega
  have h2:(0:Int)≤n∧(n:Int)≤n∧(n:Int)≤4294967296:=by omega
  have h3:(0:Int)≤(i:Int)∧(i:Int)<M.length:=by omega
  have h4:i + 1≤M.length:=by omega
  obtain ⟨M',e1,e2,e3⟩:=ih (i + 1) (M.set i (.node (List.replicate n (.bool false)))) (by omega) (by simp [hl]) (fun j hj'=>by
   rw [getD_set (by omega)]
   split
   ·rfl
   ·exact hj j (by omega))
  refine ⟨M',?_,e2,e3⟩
  simp only [h1,decide_true,cond_true,if_pos h2,if_pos h3,if_pos h4,succ_wrap (show i<4611686018427387904 by omega),Int.toNat_natCast,e1,Option.bind_some]
theorem square_eq (n:Nat) (hn:n≤100000):∃ M,Z43 n=some M∧Sq n M∧∀ a b,at2 M a b=false:=by
 obtain ⟨M,e1,e2,e3⟩:=squareL_eq n hn n 0 (List.replicate n (.node [])) (by omega) (by simp) (fun j hj=>by omega)
 have e1':Z42 n n 0 (List.replicate n (.node []))=some M:=e1
 have h2:(0:Int)≤n∧(n:Int)≤n∧(n:Int)≤4294967296:=by omega
 have hs:Sq n M:=⟨e2,fun i hi=>by rw [e3 i hi]; simp [items_node]⟩
 refine ⟨M,?_,hs,fun a b=>?_⟩
 ·simp only [Z43,c_Z43,if_pos h2,Int.toNat_natCast,List.length_replicate,e1',Option.bind_some]
 ·cases hq:at2 M a b with
  | false=>rfl
  | true=>
   obtain ⟨ha,hb⟩:=at2_lt hs hq
   unfold at2 at hq
   rw [e3 a ha,items_node,List.getD_eq_getElem?_getD,List.getElem?_replicate,if_pos hb] at hq
   cases hq
def nums (C:List D):List D:=C.map (fun d=>.int (d.fld 0).toInt)
theorem numsL_eq (C R A L:List D) (x0:Int) (hC:C.length≤100000):∀ (m i:Nat) (acc:List D),i + m=C.length→acc.length=i →
  Z44 x0 C C.length i C R acc A L=some (x0,C,R,acc ++ nums (C.drop i),A,L):=by
 intro m
 induction m with
 | zero=>
  intro i acc hi ha
  have:i=C.length:=by omega
  subst this
  rw [Z44_fx]
  unfold c_Z44
  simp [nums]
 | succ m ih=>
  intro i acc hi ha
  rw [Z44_fx]
  unfold c_Z44
  have h1:(i:Int)<C.length:=by omega
  have h3:(0:Int)≤(i:Int)∧(i:Int)<C.length:=by omega
  have h4:acc.length + [D.int ((C.getD i (.int 0)).fld 0).toInt].length≤4294967296:=by
   simp only [List.length_cons,List.length_nil]; omega
  simp only [h1,decide_true,cond_true,if_pos h3,if_pos h4,succ_wrap (show i<4611686018427387904 by omega),Int.toNat_natCast]
  rw [ih (i + 1) _ (by omega) (by simp [ha])]
  rw [drop_cons (show i<C.length by omega)]
  simp [nums]
def edgeAt (C R:List D) (j a b:Nat):Prop:=j<R.length∧find2 C ((R[j]?.getD (.int 0)).fld 0).toInt=a∧find2 C ((R[j]?.getD (.int 0)).fld 1).toInt=b
def edge (C R:List D) (a b:Nat):Prop:=∃ j,edgeAt C R j a b
theorem rOk_at {C R:List D} (h:validB C R=true) {j:Nat} (hj:j<R.length):∃ a b,a<C.length∧b<C.length∧a ≠ b∧find2 C ((R[j]?.getD (.int 0)).fld 0).toInt=(a:Int)∧find2 C ((R[j]?.getD (.int 0)).fld 1).toInt=(b:Int) ∧
  ((C[a]?.getD (.int 0)).fld 0).toInt=((R[j]?.getD (.int 0)).fld 0).toInt∧((C[b]?.getD (.int 0)).fld 0).toInt=((R[j]?.getD (.int 0)).fld 1).toInt:=by
 simp only [validB,Bool.and_eq_true] at h
 have:=allN_iff.1 h.2.2.2 j hj
 simp only [rOk,Bool.and_eq_true,Bool.not_eq_true',decide_eq_true_eq,decide_eq_false_iff_not] at this
 obtain ⟨h0,h1,h2,_⟩:=this
 obtain ⟨a,a1,a2,a3⟩:=find2_some h1
 obtain ⟨b,b1,b2,b3⟩:=find2_some h2
 refine ⟨a,b,a1,b1,fun e=>h0 ?_,a2,b2,a3,b3⟩
 rw [← a3,← b3,e]
theorem edge_lt {C R:List D} (h:validB C R=true) {a b:Nat} (he:edge C R a b):a<C.length∧b<C.length∧a ≠ b:=by
 obtain ⟨j,hj,e1,e2⟩:=he
 obtain ⟨a',b',q1,q2,q3,q4,q5,_⟩:=rOk_at h hj
 rw [q4] at e1; rw [q5] at e2
 have e1':a'=a:=by omega
 have e2':b'=b:=by omega
 subst e1'; subst e2'
 exact ⟨q1,q2,q3⟩
theorem relsL_eq (C R nm:List D) (n:Nat) (hv:validB C R=true) (hC:C.length=n) (hR:R.length≤24) (hn:n≤10):∀ (m j:Nat) (A L:List D),j + m=R.length→Sq n A→Sq n L →
  ∃ A' L',Z46 n R R.length j C R nm A L=some ((n:Int),nm,A',L')∧Sq n A'∧Sq n L' ∧
   (∀ a b,at2 A' a b=true ↔ at2 A a b=true ∨ ∃ k,j≤k∧edgeAt C R k a b)∧(∀ a b,at2 L' a b=true ↔ at2 L a b=true ∨ ∃ k,j≤k∧edgeAt C R k a b):=by
 intro m
 induction m with
 | zero=>
  intro j A L hj hA hL
  have:j=R.length:=by omega
  subst this
  refine ⟨A,L,?_,hA,hL,fun a b=>⟨.inl,?_⟩,fun a b=>⟨.inl,?_⟩⟩
  ·rw [Z46_fx]
   unfold c_Z46
   simp
  ·rintro (h | ⟨k,h1,h2⟩)
   ·exact h
   ·have:=h2.1; omega
  ·rintro (h | ⟨k,h1,h2⟩)
   ·exact h
   ·have:=h2.1; omega
 | succ m ih=>
  intro j A L hj hA hL
  obtain ⟨a,b,q1,q2,q3,q4,q5,_⟩:=rOk_at hv (show j<R.length by omega)
  rw [hC] at q1 q2
  obtain ⟨A',L',e1,e2,e3,e4,e5⟩:=ih (j + 1) (set2 A a b true) (set2 L a b true) (by omega) (hA.set q1 true) (hL.set q1 true)
  have key:∀ (X X':List D),Sq n X→(∀ c d,at2 X' c d=true ↔ at2 (set2 X a b true) c d=true ∨ ∃ k,j + 1≤k∧edgeAt C R k c d)→∀ c d,at2 X' c d=true ↔ at2 X c d=true ∨ ∃ k,j≤k∧edgeAt C R k c d:=by
   intro X X' hX h c d
   rw [h,at2_set hX q1 q2]
   constructor
   ·rintro (h | ⟨k,h1,h2⟩)
    ·split at h
     ·rename_i e
      exact .inr ⟨j,Nat.le_refl _,by omega,by rw [e.1]; exact q4,by rw [e.2]; exact q5⟩
     ·exact .inl h
    ·exact .inr ⟨k,by omega,h2⟩
   ·rintro (h | ⟨k,h1,h2⟩)
    ·left
     split
     ·rfl
     ·exact h
    ·by_cases hk:k=j
     ·subst hk
      left
      obtain ⟨_,g1,g2⟩:=h2
      rw [q4] at g1; rw [q5] at g2
      rw [if_pos ⟨by omega,by omega⟩]
     ·exact .inr ⟨k,by omega,h2⟩
  refine ⟨A',L',?_,e2,e3,key A A' hA e4,key L L' hL e5⟩
  rw [Z46_fx]
  unfold c_Z46
  have h1:(j:Int)<R.length:=by omega
  have h3:(0:Int)≤(j:Int)∧(j:Int)<R.length:=by omega
  have g1:(0:Int)≤(a:Int)∧(a:Int)<A.length:=by rw [hA.len]; omega
  have g2:a + 1≤A.length:=by rw [hA.len]; omega
  have g3:(0:Int)≤(b:Int)∧(b:Int)<(A.getD a (.int 0)).items.length:=by rw [hA.row a q1]; omega
  have g4:b + 1≤(A.getD a (.int 0)).items.length:=by rw [hA.row a q1]; omega
  have k1:(0:Int)≤(a:Int)∧(a:Int)<L.length:=by rw [hL.len]; omega
  have k2:a + 1≤L.length:=by rw [hL.len]; omega
  have k3:(0:Int)≤(b:Int)∧(b:Int)<(L.getD a (.int 0)).items.length:=by rw [hL.row a q1]; omega
  have k4:b + 1≤(L.getD a (.int 0)).items.length:=by rw [hL.row a q1]; omega
  rw [← List.getD_eq_getElem?_getD] at q4 q5
  simp only [h1,decide_true,cond_true,if_pos h3,Int.toNat_natCast,indexOf_eq C R _ (show C.length≤100000 by omega),q4,q5,Option.bind_some,if_pos g1,if_pos g2,if_pos g3,if_pos g4,if_pos k1,if_pos k2,if_pos k3,if_pos k4,succ_wrap (show j<4611686018427387904 by omega)]
  rw [show Z46 n R R.length ((j + 1:Nat):Int) C R nm (A.set a (.node ((A.getD a (.int 0)).items.set b (.bool true)))) (L.set a (.node ((L.getD a (.int 0)).items.set b (.bool true))))=some ((n:Int),nm,A',L') from e1]
  rfl
theorem clK (n i j:Nat) (hn:n≤10) (hi:i<n) (hj:j<n) (a3 a4 a5 a6:Int) (nm A:List D):∀ (m k:Nat) (M:List D),k + m=n→Sq n M →
  ∃ M',Z47 n j i a3 a4 a5 a6 n k nm A M=some ((n:Int),(j:Int),a3,a4,a5,a6,nm,A,M')∧Clo n M M'∧∀ b,k≤b→b<n→at2 M i j=true→at2 M j b=true→at2 M' i b=true:=by
 intro m
 induction m with
 | zero=>
  intro k M hk hM
  have:k=n:=by omega
  subst this
  refine ⟨M,?_,Clo.refl hM,fun b h1 h2=>by omega⟩
  rw [Z47_fx]
  unfold c_Z47
  simp
 | succ m ih=>
  intro k M hk hM
  have hkn:k<n:=by omega
  let v:Bool:=at2 M i k || (at2 M i j && at2 M j k)
  have hc:Clo n M (set2 M i k v):=Clo.step (j:=j) hM hi hkn (fun h=>by simp [v,h]) (fun h=>by
   simp only [v,Bool.or_eq_true,Bool.and_eq_true] at h; exact h)
  obtain ⟨M',e1,e2,e3⟩:=ih (k + 1) (set2 M i k v) (by omega) hc.sq
  refine ⟨M',?_,hc.trans e2,fun b h1 h2 h3 h4=>?_⟩
  ·rw [Z47_fx]
   unfold c_Z47
   have h1:(k:Int)<n:=by omega
   have g1:(0:Int)≤(i:Int)∧(i:Int)<M.length:=by rw [hM.len]; omega
   have g2:i + 1≤M.length:=by rw [hM.len]; omega
   have g3:(0:Int)≤(k:Int)∧(k:Int)<(M.getD i (.int 0)).items.length:=by rw [hM.row i hi]; omega
   have g4:k + 1≤(M.getD i (.int 0)).items.length:=by rw [hM.row i hi]; omega
   have g5:(0:Int)≤(j:Int)∧(j:Int)<(M.getD i (.int 0)).items.length:=by rw [hM.row i hi]; omega
   have g6:j + 1≤(M.getD i (.int 0)).items.length:=by rw [hM.row i hi]; omega
   have k1:(0:Int)≤(j:Int)∧(j:Int)<M.length:=by rw [hM.len]; omega
   have k2:j + 1≤M.length:=by rw [hM.len]; omega
   have k3:(0:Int)≤(k:Int)∧(k:Int)<(M.getD j (.int 0)).items.length:=by rw [hM.row j hj]; omega
   have k4:k + 1≤(M.getD j (.int 0)).items.length:=by rw [hM.row j hj]; omega
   have r1:((M.getD i (.int 0)).items.getD k (.int 0)).toBool=at2 M i k:=rfl
   have r2:((M.getD i (.int 0)).items.getD j (.int 0)).toBool=at2 M i j:=rfl
   have r3:((M.getD j (.int 0)).items.getD k (.int 0)).toBool=at2 M j k:=rfl
   simp only [h1,decide_true,cond_true,Int.toNat_natCast,if_pos g1,if_pos g2,if_pos g3,if_pos g4,if_pos g5,if_pos g6,if_pos k1,if_pos k2,if_pos k3,if_pos k4,r1,r2,r3,succ_wrap (show k<4611686018427387904 by omega)]
   have fin:∀ u:Bool,v=u→(Z47 n j i a3 a4 a5 a6 n ((k + 1:Nat):Int) nm A (M.set i (.node ((M.getD i (.int 0)).items.set k (.bool u))))).bind some=some ((n:Int),(j:Int),a3,a4,a5,a6,nm,A,M'):=fun u hu=>by
    subst hu
    rw [show Z47 n j i a3 a4 a5 a6 n ((k + 1:Nat):Int) nm A (M.set i (.node ((M.getD i (.int 0)).items.set k (.bool v))))=_ from e1]
    rfl
   cases hik:at2 M i k with
   | true=>exact fin true (by simp [v,hik])
   | false=>
    cases hij:at2 M i j with
    | true=>exact fin (at2 M j k) (by simp [v,hik,hij])
    | false=>exact fin false (by simp [v,hik,hij])
  ·by_cases hbk:b=k
   ·subst hbk
    refine e2.mono _ _ ?_
    rw [at2_set hM hi hkn,if_pos ⟨rfl,rfl⟩]
    simp [v,h3,h4]
   ·exact e3 b (by omega) h2 (hc.mono _ _ h3) (hc.mono _ _ h4)
theorem clI (n j:Nat) (hn:n≤10) (hj:j<n) (nm A:List D):∀ (m i:Nat) (M:List D),i + m=n→Sq n M →
  ∃ M',Z48 n j n j n i nm A M=some ((n:Int),(n:Int),(j:Int),nm,A,M')∧Clo n M M'∧∀ a b,i≤a→a<n→b<n→at2 M a j=true→at2 M j b=true→at2 M' a b=true:=by
 intro m
 induction m with
 | zero=>
  intro i M hi hM
  have:i=n:=by omega
  subst this
  refine ⟨M,?_,Clo.refl hM,fun a b h1 h2=>by omega⟩
  rw [Z48_fx]
  unfold c_Z48
  simp
 | succ m ih=>
  intro i M hi hM
  obtain ⟨M1,d1,d2,d3⟩:=clK n i j hn (by omega) hj n j n i nm A n 0 M (by omega) hM
  have d1':Z47 n j i n j n i n 0 nm A M=_:=d1
  obtain ⟨M2,e1,e2,e3⟩:=ih (i + 1) M1 (by omega) d2.sq
  refine ⟨M2,?_,d2.trans e2,fun a b h1 h2 h3 h4 h5=>?_⟩
  ·rw [Z48_fx]
   unfold c_Z48
   have h1:(i:Int)<n:=by omega
   simp only [h1,decide_true,cond_true,d1',Option.bind_some,succ_wrap (show i<4611686018427387904 by omega),e1]
  ·by_cases hai:a=i
   ·subst hai
    exact e2.mono _ _ (d3 b (by omega) h3 h4 h5)
   ·exact e3 a b (by omega) h2 h3 (d2.mono _ _ h4) (d2.mono _ _ h5)
def PP (E:Nat→Nat→Prop):Nat→Nat→Nat→Prop
 | 0,a,b=>E a b
 | j + 1,a,b=>PP E j a b ∨ (PP E j a j∧PP E j j b)
theorem PP_trans {E:Nat→Nat→Prop}:∀ {j k a b:Nat},k<j→PP E j a k→PP E j k b→PP E j a b
 | 0,k,a,b,h,_,_=>by omega
 | j + 1,k,a,b,h,h1,h2=>by
  have left:∀ {x:Nat},PP E (j + 1) x j→PP E j x j:=fun h=>h.elim id (fun h=>h.1)
  have right:∀ {x:Nat},PP E (j + 1) j x→PP E j j x:=fun h=>h.elim id (fun h=>h.2)
  by_cases hk:k=j
  ·subst hk
   exact .inr ⟨left h1,right h2⟩
  ·have hk':k<j:=by omega
   rcases h1 with h1 | ⟨h1,h1'⟩
   ·rcases h2 with h2 | ⟨h2,h2'⟩
    ·exact .inl (PP_trans hk' h1 h2)
    ·exact .inr ⟨PP_trans hk' h1 h2,h2'⟩
   ·rcases h2 with h2 | ⟨h2,h2'⟩
    ·exact .inr ⟨h1,PP_trans hk' h1' h2⟩
    ·exact .inr ⟨h1,h2'⟩
theorem PP_base {E:Nat→Nat→Prop}:∀ {j a b:Nat},E a b→PP E j a b
 | 0,_,_,h=>h
 | j + 1,_,_,h=>.inl (PP_base h)
theorem clJ (n:Nat) (hn:n≤10) (E:Nat→Nat→Prop) (nm A:List D):∀ (m j:Nat) (M:List D),j + m=n→Sq n M→(∀ a b,a<n→b<n→PP E j a b→at2 M a b=true) →
  ∃ M',Z49 n n j nm A M=some (nm,A,M')∧Clo n M M'∧∀ a b,a<n→b<n→PP E n a b→at2 M' a b=true:=by
 intro m
 induction m with
 | zero=>
  intro j M hj hM hP
  have:j=n:=by omega
  subst this
  refine ⟨M,?_,Clo.refl hM,hP⟩
  rw [Z49_fx]
  unfold c_Z49
  simp
 | succ m ih=>
  intro j M hj hM hP
  have hjn:j<n:=by omega
  obtain ⟨M1,d1,d2,d3⟩:=clI n j hn hjn nm A n 0 M (by omega) hM
  have d1':Z48 n j n j n 0 nm A M=_:=d1
  obtain ⟨M2,e1,e2,e3⟩:=ih (j + 1) M1 (by omega) d2.sq (fun a b ha hb h=>by
   rcases h with h | ⟨h1,h2⟩
   ·exact d2.mono _ _ (hP a b ha hb h)
   ·exact d3 a b (by omega) ha hb (hP a j ha hjn h1) (hP j b hjn hb h2))
  refine ⟨M2,?_,d2.trans e2,e3⟩
  rw [Z49_fx]
  unfold c_Z49
  have h1:(j:Int)<n:=by omega
  simp only [h1,decide_true,cond_true,d1',Option.bind_some,succ_wrap (show j<4611686018427387904 by omega),e1]
structure Later (n:Nat) (E:Nat→Nat→Prop) (L:List D):Prop where
 sq:Sq n L
 base:∀ a b,E a b→at2 L a b=true
 trans:∀ a b c,at2 L a b=true→at2 L b c=true→at2 L a c=true
 min:∀ T:Nat→Nat→Prop,(∀ a b c,T a b→T b c→T a c)→(∀ a b,E a b→T a b)→∀ a b,at2 L a b=true→T a b
theorem order_eq (C R:List D) (hv:validB C R=true):∃ A L,Z54 C R=some (nums C,A,L)∧Sq C.length A∧(∀ a b,at2 A a b=true ↔ edge C R a b)∧Later C.length (edge C R) L:=by
 have hv':=hv
 simp only [validB,Bool.and_eq_true,decide_eq_true_eq] at hv'
 obtain ⟨hC,hR,_,_⟩:=hv'
 obtain ⟨M0,s1,s2,s3⟩:=square_eq C.length (by omega)
 obtain ⟨A,L0,r1,r2,r3,r4,r5⟩:=relsL_eq C R (nums C) C.length hv rfl hR hC R.length 0 M0 M0 (by omega) s2 s2
 have r1':Z46 C.length R R.length 0 C R (nums C) M0 M0=_:=r1
 have hA:∀ X:List D,(∀ a b,at2 X a b=true ↔ at2 M0 a b=true ∨ ∃ k,0≤k∧edgeAt C R k a b)→∀ a b,at2 X a b=true ↔ edge C R a b:=by
  intro X h a b
  rw [h]
  constructor
  ·rintro (h | ⟨k,_,h⟩)
   ·rw [s3] at h; cases h
   ·exact ⟨k,h⟩
  ·rintro ⟨k,h⟩
   exact .inr ⟨k,Nat.zero_le _,h⟩
 obtain ⟨L,c1,c2,c3⟩:=clJ C.length hC (edge C R) (nums C) A C.length 0 L0 (by omega) r3 (fun a b _ _ h=>(hA L0 r5 a b).2 h)
 have c1':Z49 C.length C.length 0 (nums C) A L0=_:=c1
 have lt:∀ a b,at2 L a b=true→a<C.length∧b<C.length∧PP (edge C R) C.length a b:=by
  refine c2.sound (fun a b=>a<C.length∧b<C.length∧PP (edge C R) C.length a b) (fun a b c h1 h2=>⟨h1.1,h2.2.1,PP_trans h1.2.1 h1.2.2 h2.2.2⟩) (fun a b h=>?_)
  have he:=(hA L0 r5 a b).1 h
  have:=edge_lt hv he
  exact ⟨this.1,this.2.1,PP_base he⟩
 have hLater:Later C.length (edge C R) L:=by
  refine ⟨c2.sq,fun a b h=>c2.mono _ _ ((hA L0 r5 a b).2 h),fun a b c h1 h2=>?_,fun T hT hb=>c2.sound T hT (fun a b h=>hb a b ((hA L0 r5 a b).1 h))⟩
  have q1:=lt a b h1
  have q2:=lt b c h2
  exact c3 a c q1.1 q2.2.1 (PP_trans q1.2.1 q1.2.2 q2.2.2)
 refine ⟨A,L,?_,r2,hA A r4,hLater⟩
 unfold Z54 c_Z54
 simp only [s1,Option.bind_some]
 cases hl:C with
 | nil=>
  subst hl
  have hR0:R=[]:=by
   cases R with
   | nil=>rfl
   | cons d R=>
    obtain ⟨a,b,q1,_⟩:=rOk_at hv (show 0<(d :: R).length by simp)
    simp at q1
  subst hR0
  have hM0:M0=[]:=List.eq_nil_of_length_eq_zero s2.len
  subst hM0
  have x1:Z45 0 [] 0 0 [] [] [] [] []=some (.inr (0,[],[],[],[],[])):=by
   rw [Z45_fx]; unfold c_Z45; simp
  have x2:Z50 0 [] 0 0 [] [] [] [] []=some (0,[],[],[]):=by
   rw [Z50_fx]; unfold c_Z50; simp
  have x3:Z53 0 0 0 [] [] []=some ([],[],[]):=by
   rw [Z53_fx]; unfold c_Z53; simp
  have hAe:A=[]:=List.eq_nil_of_length_eq_zero r2.len
  have hLe:L=[]:=List.eq_nil_of_length_eq_zero c2.sq.len
  simp only [List.length_nil,Int.natCast_zero] at x1 x2 x3 ⊢
  rw [hAe,hLe]
  simp only [Int.ofNat_zero,Int.natCast_zero,x1,x2,x3,Option.bind_some,Sum.elim_inr,nums,List.map_nil,List.length_nil]
 | cons d C'=>
  rw [← hl]
  have hpos:0<C.length:=by rw [hl]; simp
  have x1:Z45 C.length C C.length 0 C R [] M0 M0=some (.inl (C.length,C,R,nums C,M0,M0)):=by
   rw [Z45_fx]
   unfold c_Z45
   have h1:(0:Int)<C.length:=by omega
   have h3:(0:Int)≤0∧(0:Int)<C.length:=by omega
   have:=numsL_eq C R M0 M0 C.length (by omega) (C.length - 1) 1 [.int ((C.getD 0 (.int 0)).fld 0).toInt] (by omega) rfl
   have w1:IntKind.i64.wrap (0 + 1)=((1:Nat):Int):=by decide
   have hd:[D.int ((C.getD 0 (.int 0)).fld 0).toInt] ++ nums (C.drop 1)=nums C:=by rw [hl]; simp [nums]
   rw [hd] at this
   simp only [h1,decide_true,cond_true,if_pos h3,Int.toNat_zero,List.nil_append,List.length_cons,List.length_nil,w1,this,Option.bind_some]
   rfl
  simp only [x1,Option.bind_some,Sum.elim_inl,r1',c1']
def fv (F:List D) (i:Nat):Int:=(F.getD i (.int 0)).toInt
theorem fv_set {F:List D} {i j:Nat} {v:Int} (h:i<F.length):fv (F.set i (.int v)) j=if i=j then v else fv F j:=by
 unfold fv
 rw [getD_set h]
 split <;> rfl
structure Far (n t l:Nat) (A F:List D):Prop where
 len:F.length=n
 zero:fv F t=0
 rng:∀ j,j<n→0≤fv F j∧fv F j≤(n:Int) + 1
 wit:∀ i,i<n→i ≠ t→fv F i≤n→∃ k,l≤k∧k<n∧at2 A i k=true∧fv F k + 1≤fv F i
def RD (n t l:Nat) (A:List D):Nat→Nat→Prop
 | 0,i=>i=t
 | r + 1,i=>RD n t l A r i ∨ (l≤i∧i<n∧∃ k,l≤k∧k<n∧at2 A i k=true∧RD n t l A r k)
theorem RD_mono {n t l:Nat} {A:List D} {r i:Nat} (h:RD n t l A r i):RD n t l A (r + 1) i:=.inl h
theorem RD_lt {n t l:Nat} {A:List D} (ht:t<n):∀ {r i:Nat},RD n t l A r i→i<n
 | 0,i,h=>by have:i=t:=h; omega
 | r + 1,i,h=>h.elim (fun h=>RD_lt ht h) (fun h=>h.2.1)
theorem stab {n:Nat} (P:Nat→Nat→Prop) (h0:∀ r i,P r i→i<n) (mono:∀ r i,P r i→P (r + 1) i) (next:∀ r,(∀ i,P (r + 1) i→P r i)→∀ i,P (r + 2) i→P (r + 1) i):∀ m i,P m i→P n i:=by
 classical
 have up:∀ r s i,r≤s→P r i→P s i:=by
  intro r s i h hp
  induction s with
  | zero=>
   have:r=0:=by omega
   subst this; exact hp
  | succ s ih=>
   by_cases e:r=s + 1
   ·subst e; exact hp
   ·exact mono s i (ih (by omega))
 let c:Nat→Nat:=fun r=>(List.range n).countP (fun i=>decide (P r i))
 have hcle:∀ r,c r≤n:=fun r=>by
  have:=List.countP_le_length (p:=fun i=>decide (P r i)) (l:=List.range n)
  simpa using this
 have hgrow:∀ r,¬ (∀ i,P (r + 1) i→P r i)→c r + 1≤c (r + 1):=by
  intro r hr
  obtain ⟨i,hi⟩:=Classical.not_forall.1 hr
  obtain ⟨h1,h2⟩:=Classical.not_imp.1 hi
  have hin:i ∈ List.range n:=List.mem_range.2 (h0 _ _ h1)
  have key:∀ l:List Nat,i ∈ l→l.countP (fun j=>decide (P r j)) + 1≤l.countP (fun j=>decide (P (r + 1) j)):=by
   intro l
   induction l with
   | nil=>intro h; cases h
   | cons a l ih=>
    intro hm
    have hle:l.countP (fun j=>decide (P r j))≤l.countP (fun j=>decide (P (r + 1) j)):=
     List.countP_mono_left (fun j _ hj=>decide_eq_true (mono r j (of_decide_eq_true hj)))
    rw [List.countP_cons,List.countP_cons]
    by_cases e:a=i
    ·subst e
     simp only [h1,h2,decide_true,decide_false,if_true]
     simp
     omega
    ·have:=ih ((List.mem_cons.1 hm).resolve_left (fun h=>e h.symm))
     by_cases hp:P r a
     ·have hq:=mono r a hp
      simp only [hp,hq,decide_true,if_true]; omega
     ·by_cases hq:P (r + 1) a <;> simp [hp,hq] <;> omega
  exact key _ hin
 have ex:∃ s,s≤n∧∀ i,P (s + 1) i→P s i:=by
  apply Classical.byContradiction
  intro hno
  have hall:∀ s,s≤n→¬ (∀ i,P (s + 1) i→P s i):=fun s hs h=>hno ⟨s,hs,h⟩
  have hc:∀ s,s≤n + 1→s≤c s:=by
   intro s
   induction s with
   | zero=>intro _; omega
   | succ s ih=>
    intro hs
    have:=hgrow s (hall s (by omega))
    have:=ih (by omega)
    omega
  have:=hc (n + 1) (Nat.le_refl _)
  have:=hcle (n + 1)
  omega
 obtain ⟨s,hs,hst⟩:=ex
 have hst2:∀ k i,P (s + k + 1) i→P (s + k) i:=by
  intro k
  induction k with
  | zero=>exact hst
  | succ k ih=>exact next (s + k) ih
 have down:∀ k i,P (s + k) i→P s i:=by
  intro k
  induction k with
  | zero=>intro i h; exact h
  | succ k ih=>intro i h; exact ih i (hst2 k i h)
 intro m i h
 refine up s n i hs ?_
 by_cases hm:m≤s
 ·exact up m s i hm h
 ·have:P (s + (m - s)) i:=by rw [show s + (m - s)=m by omega]; exact h
  exact down (m - s) i this
theorem RD_stab {n t l:Nat} {A:List D} (ht:t<n) {m i:Nat} (h:RD n t l A m i):RD n t l A n i:=by
 refine stab (RD n t l A) (fun r i h=>RD_lt ht h) (fun r i h=>RD_mono h) (fun r hr i h=>?_) m i h
 rcases h with h | ⟨h1,h2,k,h3,h4,h5,h6⟩
 ·exact h
 ·exact .inr ⟨h1,h2,k,h3,h4,h5,hr k h6⟩
section
variable (n t l f:Nat) (A nm L:List D)
theorem farFill (hn:n≤10):∀ (m i:Nat) (F:List D),i + m=n→F.length=n→(∀ j,j<i→fv F j=(n:Int) + 1) →
  ∃ F',Z55 nm A L f t l n n i F=some (nm,A,L,(f:Int),(t:Int),(l:Int),(n:Int),F')∧F'.length=n∧∀ j,j<n→fv F' j=(n:Int) + 1:=by
 intro m
 induction m with
 | zero=>
  intro i F hi hl hj
  have:i=n:=by omega
  subst this
  refine ⟨F,?_,hl,hj⟩
  rw [Z55_fx]
  unfold c_Z55
  simp
 | succ m ih=>
  intro i F hi hl hj
  obtain ⟨F',e1,e2,e3⟩:=ih (i + 1) (F.set i (.int ((n:Int) + 1))) (by omega) (by simp [hl]) (fun j hj'=>by
   rw [fv_set (by omega)]
   split
   ·rfl
   ·exact hj j (by omega))
  refine ⟨F',?_,e2,e3⟩
  rw [Z55_fx]
  unfold c_Z55
  have h1:(i:Int)<n:=by omega
  have h3:(0:Int)≤(i:Int)∧(i:Int)<F.length:=by omega
  have h4:i + 1≤F.length:=by omega
  have h5:IntKind.i64.wrap ((n:Int) + 1)=(n:Int) + 1:=wrap_id (by omega) (by omega)
  simp only [h1,decide_true,cond_true,if_pos h3,Int.toNat_natCast,if_pos h4,h5,succ_wrap (show i<4611686018427387904 by omega),e1,Option.bind_some]
theorem farK (hn:n≤10) (hA:Sq n A) (i:Nat) (hi:i<n) (a b:Int):∀ (m k:Nat) (F:List D),k + m=n→l≤k→Far n t l A F →
  ∃ F',Z56 nm A L f t l n i k a b F=some (nm,A,L,(f:Int),(t:Int),(l:Int),(n:Int),(i:Int),a,b,F')∧Far n t l A F'∧(∀ j,j<n→fv F' j≤fv F j) ∧
   (i ≠ t→∀ k',k≤k'→k'<n→at2 A i k'=true→fv F' i≤fv F k' + 1):=by
 intro m
 induction m with
 | zero=>
  intro k F hk hlk hF
  have:k=n:=by omega
  subst this
  refine ⟨F,?_,hF,fun j _=>Int.le_refl _,fun _ k' h1 h2=>by omega⟩
  rw [Z56_fx]
  unfold c_Z56
  simp
 | succ m ih=>
  intro k F hk hlk hF
  have hkn:k<n:=by omega
  rw [Z56_fx]
  unfold c_Z56
  have h1:(k:Int)<n:=by omega
  have g1:(0:Int)≤(i:Int)∧(i:Int)<A.length:=by rw [hA.len]; omega
  have g2:(0:Int)≤(k:Int)∧(k:Int)<(A.getD i (.int 0)).items.length:=by rw [hA.row i hi]; omega
  have r1:((A.getD i (.int 0)).items.getD k (.int 0)).toBool=at2 A i k:=rfl
  have k1:(0:Int)≤(i:Int)∧(i:Int)<F.length:=by rw [hF.len]; omega
  have k2:i + 1≤F.length:=by rw [hF.len]; omega
  have k3:(0:Int)≤(k:Int)∧(k:Int)<F.length:=by rw [hF.len]; omega
  have k4:k + 1≤F.length:=by rw [hF.len]; omega
  have q1:(F.getD i (.int 0)).toInt=fv F i:=rfl
  have q2:(F.getD k (.int 0)).toInt=fv F k:=rfl
  have b1:=hF.rng i hi
  have b2:=hF.rng k hkn
  have w1:IntKind.i64.wrap (fv F k + 1)=fv F k + 1:=wrap_id (by omega) (by omega)
  simp only [h1,decide_true,cond_true,Int.toNat_natCast,if_pos g1,if_pos g2,r1,if_pos k1,if_pos k2,if_pos k3,if_pos k4,q1,q2,w1,succ_wrap (show k<4611686018427387904 by omega)]
  have same:(i ≠ t→at2 A i k=true→False)→∃ F',(Z56 nm A L f t l n i ((k + 1:Nat):Int) a b F).bind some=some (nm,A,L,(f:Int),(t:Int),(l:Int),(n:Int),(i:Int),a,b,F')∧Far n t l A F'∧(∀ j,j<n→fv F' j≤fv F j) ∧
    (i ≠ t→∀ k',k≤k'→k'<n→at2 A i k'=true→fv F' i≤fv F k' + 1):=by
   intro hno
   obtain ⟨F',e1,e2,e3,e4⟩:=ih (k + 1) F (by omega) (by omega) hF
   refine ⟨F',by rw [e1]; rfl,e2,e3,fun hit k' p1 p2 p3=>?_⟩
   by_cases e:k'=k
   ·subst e; exact (hno hit p3).elim
   ·exact e4 hit k' (by omega) p2 p3
  cases hik:at2 A i k with
  | false=>exact same (fun _ h=>by rw [hik] at h; cases h)
  | true=>
   simp only [cond_true]
   by_cases hit:i=t
   ·subst hit
    simp only [decide_true,Bool.not_true,cond_false]
    exact same (fun h=>absurd rfl h)
   ·have hit':¬ (i:Int)=(t:Int):=by omega
    simp only [hit',decide_false,Bool.not_false,cond_true]
    generalize hv:(if fv F k + 1<fv F i then fv F k + 1 else fv F i)=v
    have v1:v≤fv F k + 1:=by rw [← hv]; split <;> omega
    have v2:v≤fv F i:=by rw [← hv]; split <;> omega
    have v3:0≤v:=by rw [← hv]; split <;> omega
    have le1:∀ j,j<n→fv (F.set i (.int v)) j≤fv F j:=fun j hj=>by
     rw [fv_set (by rw [hF.len]; exact hi)]
     split
     ·rename_i e; subst e; exact v2
     ·exact Int.le_refl _
    have hF1:Far n t l A (F.set i (.int v)):=by
     refine ⟨by simp [hF.len],?_,fun j hj=>?_,fun j hj hjt hjn=>?_⟩
     ·rw [fv_set (by rw [hF.len]; exact hi),if_neg hit]; exact hF.zero
     ·rw [fv_set (by rw [hF.len]; exact hi)]
      split
      ·omega
      ·exact hF.rng j hj
     ·rw [fv_set (by rw [hF.len]; exact hi)] at hjn ⊢
      by_cases e:i=j
      ·subst e
       rw [if_pos rfl] at hjn ⊢
       by_cases hlt:fv F k + 1<fv F i
       ·rw [if_pos hlt] at hv
        have hne:¬ i=k:=fun e=>by subst e; omega
        refine ⟨k,hlk,hkn,hik,?_⟩
        rw [fv_set (by rw [hF.len]; exact hi),if_neg hne]
        omega
       ·rw [if_neg hlt] at hv
        obtain ⟨c,c1,c2,c3,c4⟩:=hF.wit i hi hjt (by omega)
        have:=le1 c c2
        exact ⟨c,c1,c2,c3,by omega⟩
      ·rw [if_neg e] at hjn ⊢
       obtain ⟨c,c1,c2,c3,c4⟩:=hF.wit j hj hjt hjn
       have:=le1 c c2
       exact ⟨c,c1,c2,c3,by omega⟩
    obtain ⟨F',e1,e2,e3,e4⟩:=ih (k + 1) (F.set i (.int v)) (by omega) (by omega) hF1
    refine ⟨F',by rw [e1]; rfl,e2,fun j hj=>Int.le_trans (e3 j hj) (le1 j hj),fun _ k' p1 p2 p3=>?_⟩
    by_cases e:k'=k
    ·subst e
     have:=e3 i hi
     rw [fv_set (by rw [hF.len]; exact hi),if_pos rfl] at this
     omega
    ·have:=e4 hit k' (by omega) p2 p3
     have:=le1 k' p2
     omega
theorem farI (hn:n≤10) (hA:Sq n A) (hl:l≤n) (a b:Int):∀ (m i:Nat) (F:List D),i + m=n→l≤i→Far n t l A F →
  ∃ F',Z57 nm A L f t l n i a b F=some (nm,A,L,(f:Int),(t:Int),(l:Int),(n:Int),a,b,F')∧Far n t l A F'∧(∀ j,j<n→fv F' j≤fv F j) ∧
   (∀ c,i≤c→c<n→c ≠ t→∀ k,l≤k→k<n→at2 A c k=true→fv F' c≤fv F k + 1):=by
 intro m
 induction m with
 | zero=>
  intro i F hi hli hF
  have:i=n:=by omega
  subst this
  refine ⟨F,?_,hF,fun j _=>Int.le_refl _,fun c h1 h2=>by omega⟩
  rw [Z57_fx]
  unfold c_Z57
  simp
 | succ m ih=>
  intro i F hi hli hF
  have hin:i<n:=by omega
  obtain ⟨F1,d1,d2,d3,d4⟩:=farK n t l f A nm L hn hA i hin a b (n - l) l F (by omega) (Nat.le_refl _) hF
  obtain ⟨F2,e1,e2,e3,e4⟩:=ih (i + 1) F1 (by omega) (by omega) d2
  refine ⟨F2,?_,e2,fun j hj=>Int.le_trans (e3 j hj) (d3 j hj),fun c h1 h2 h3 k h4 h5 h6=>?_⟩
  ·rw [Z57_fx]
   unfold c_Z57
   have h1:(i:Int)<n:=by omega
   simp only [h1,decide_true,cond_true,d1,Option.bind_some,succ_wrap (show i<4611686018427387904 by omega),e1]
  ·by_cases e:c=i
   ·subst e
    have:=d4 h3 k h4 h5 h6
    have:=e3 c h2
    omega
   ·have:=e4 c (by omega) h2 h3 k h4 h5 h6
    have:=d3 k h5
    omega
theorem farR (hn:n≤10) (hA:Sq n A) (hl:l≤n):∀ (m r:Nat) (F:List D),r + m=n→Far n t l A F→(∀ i,i<n→RD n t l A r i→fv F i≤r) →
  ∃ F',Z58 nm A L f t l n n r F=some (nm,A,L,(f:Int),(t:Int),(l:Int),(n:Int),F')∧Far n t l A F'∧(∀ i,i<n→RD n t l A n i→fv F' i≤n):=by
 intro m
 induction m with
 | zero=>
  intro r F hr hF hd
  have:r=n:=by omega
  subst this
  refine ⟨F,?_,hF,hd⟩
  rw [Z58_fx]
  unfold c_Z58
  simp
 | succ m ih=>
  intro r F hr hF hd
  obtain ⟨F1,d1,d2,d3,d4⟩:=farI n t l f A nm L hn hA hl n r (n - l) l F (by omega) (Nat.le_refl _) hF
  obtain ⟨F2,e1,e2,e3⟩:=ih (r + 1) F1 (by omega) d2 (fun i hi h=>by
   rcases h with h | ⟨h1,h2,k,h3,h4,h5,h6⟩
   ·have:=hd i hi h
    have:=d3 i hi
    omega
   ·by_cases e:i=t
    ·subst e; rw [d2.zero]; omega
    ·have:=d4 i h1 h2 e k h3 h4 h5
     have:=hd k h4 h6
     omega)
  refine ⟨F2,?_,e2,e3⟩
  rw [Z58_fx]
  unfold c_Z58
  have h1:(r:Int)<n:=by omega
  simp only [h1,decide_true,cond_true,d1,Option.bind_some,succ_wrap (show r<4611686018427387904 by omega),e1]
def Cand (F:List D) (p:Nat) (k0:Nat) (nx:Int):Prop:=
 (nx=-1∧∀ k,l≤k→k<k0→at2 A p k=true→¬ fv F k≤n) ∨
 ∃ c:Nat,nx=c∧l≤c∧c<n∧at2 A p c=true∧fv F c≤n∧∀ k,l≤k→k<k0→at2 A p k=true→fv F k≤n→fv F c≤fv F k
theorem nextL (hn:n≤10) (hA:Sq n A) (F:List D) (hF:F.length=n) (p:Nat) (hp:p<n) (out:List D):∀ (m k:Nat) (nx:Int),k + m=n→l≤k→Cand n l A F p k nx →
  ∃ nx',Z59 nm A L t l n p nx k F out=some (nm,A,L,(t:Int),(l:Int),(n:Int),(p:Int),nx',F,out)∧Cand n l A F p n nx':=by
 intro m
 induction m with
 | zero=>
  intro k nx hk hlk hc
  have:k=n:=by omega
  subst this
  refine ⟨nx,?_,hc⟩
  rw [Z59_fx]
  unfold c_Z59
  simp
 | succ m ih=>
  intro k nx hk hlk hc
  have hkn:k<n:=by omega
  rw [Z59_fx]
  unfold c_Z59
  have h1:(k:Int)<n:=by omega
  have g1:(0:Int)≤(p:Int)∧(p:Int)<A.length:=by rw [hA.len]; omega
  have g2:(0:Int)≤(k:Int)∧(k:Int)<(A.getD p (.int 0)).items.length:=by rw [hA.row p hp]; omega
  have r1:((A.getD p (.int 0)).items.getD k (.int 0)).toBool=at2 A p k:=rfl
  have k1:(0:Int)≤(k:Int)∧(k:Int)<F.length:=by omega
  have k2:k + 1≤F.length:=by omega
  have q1:(F.getD k (.int 0)).toInt=fv F k:=rfl
  simp only [h1,decide_true,cond_true,Int.toNat_natCast,if_pos g1,if_pos g2,r1,if_pos k1,if_pos k2,q1,succ_wrap (show k<4611686018427387904 by omega)]
  have go:∀ nx',Cand n l A F p (k + 1) nx'→∃ nx2,(Z59 nm A L t l n p nx' ((k + 1:Nat):Int) F out).bind some=some (nm,A,L,(t:Int),(l:Int),(n:Int),(p:Int),nx2,F,out)∧Cand n l A F p n nx2:=by
   intro nx' h
   obtain ⟨nx2,e1,e2⟩:=ih (k + 1) nx' (by omega) (by omega) h
   exact ⟨nx2,by rw [e1]; rfl,e2⟩
  have keep:(at2 A p k=true→fv F k≤n→∃ c:Nat,nx=c∧fv F c≤fv F k)→Cand n l A F p (k + 1) nx:=by
   intro h
   rcases hc with ⟨c1,c2⟩ | ⟨c,c1,c2,c3,c4,c5,c6⟩
   ·refine .inl ⟨c1,fun k' p1 p2 p3 p4=>?_⟩
    by_cases e:k'=k
    ·subst e
     obtain ⟨c,hc1,_⟩:=h p3 p4
     omega
    ·exact c2 k' p1 (by omega) p3 p4
   ·refine .inr ⟨c,c1,c2,c3,c4,c5,fun k' p1 p2 p3 p4=>?_⟩
    by_cases e:k'=k
    ·subst e
     obtain ⟨c',hc1,hc2⟩:=h p3 p4
     have:c'=c:=by omega
     subst this
     exact hc2
    ·exact c6 k' p1 (by omega) p3 p4
  cases hpk:at2 A p k with
  | false=>exact go nx (keep (fun h=>by rw [hpk] at h; cases h))
  | true=>
   simp only [cond_true]
   by_cases hfn:fv F k≤n
   ·simp only [hfn,decide_true,cond_true]
    have better:(∀ c:Nat,nx=c→fv F k<fv F c)→Cand n l A F p (k + 1) (k:Int):=by
     intro h
     refine .inr ⟨k,rfl,hlk,hkn,hpk,hfn,fun k' p1 p2 p3 p4=>?_⟩
     by_cases e:k'=k
     ·subst e; exact Int.le_refl _
     ·rcases hc with ⟨c1,c2⟩ | ⟨c,c1,c2,c3,c4,c5,c6⟩
      ·exact absurd p4 (c2 k' p1 (by omega) p3)
      ·have:=h c c1
       have:=c6 k' p1 (by omega) p3 p4
       omega
    by_cases hneg:nx<0
    ·simp only [hneg,decide_true,cond_true]
     exact go _ (better (fun c hc'=>by omega))
    ·simp only [hneg,decide_false,cond_false]
     rcases hc with ⟨c1,c2⟩ | ⟨c,c1,c2,c3,c4,c5,c6⟩
     ·omega
     ·subst c1
      have k3:(0:Int)≤(c:Int)∧(c:Int)<F.length:=by omega
      have k4:c + 1≤F.length:=by omega
      have q2:(F.getD c (.int 0)).toInt=fv F c:=rfl
      simp only [if_pos k3,Int.toNat_natCast,if_pos k4,q2]
      by_cases hlt:fv F k<fv F c
      ·simp only [hlt,decide_true,cond_true]
       exact go _ (better (fun c' hc'=>by
        have:c'=c:=by omega
        subst this; exact hlt))
      ·simp only [hlt,decide_false,cond_false]
       exact go _ (keep (fun _ _=>⟨c,rfl,by omega⟩))
   ·simp only [hfn,decide_false,cond_false]
    exact go nx (keep (fun _ h=>absurd h hfn))
def PathTo:Nat→List Nat→Prop
 | _,[]=>False
 | p,k :: r=>l≤k∧k<n∧at2 A p k=true∧(match r with | []=>k=t | _ :: _=>k ≠ t∧PathTo k r)
theorem walkL (hn:n≤10) (hA:Sq n A) (ht:t<n) (F:List D) (hF:Far n t l A F) (hl:l≤n):∀ (d:Nat) (p:Nat) (out:List D),p<n→p ≠ t→fv F p≤n→fv F p≤d→out.length + d≤1000 →
  ∃ q:List Nat,Z60 nm A L t l n p F out=some (.inr (out ++ q.map (fun i=>D.int (i:Nat))))∧PathTo n t l A p q∧q.length≤d:=by
 intro d
 induction d with
 | zero=>
  intro p out hp hpt h1 h2 h3
  obtain ⟨k,k1,k2,k3,k4⟩:=hF.wit p hp hpt h1
  have:=(hF.rng k k2).1
  omega
 | succ d ih=>
  intro p out hp hpt h1 h2 h3
  obtain ⟨k,k1,k2,k3,k4⟩:=hF.wit p hp hpt h1
  obtain ⟨nx,e1,e2⟩:=nextL n t l A nm L hn hA F hF.len p hp out (n - l) l (-1) (by omega) (Nat.le_refl _) (.inl ⟨rfl,fun k h1 h2=>by omega⟩)
  rcases e2 with ⟨_,e2⟩ | ⟨c,rfl,c2,c3,c4,c5,c6⟩
  ·exact absurd (by omega:fv F k≤n) (e2 k k1 k2 k3)
  ·have c7:=c6 k k1 k2 k3 (by omega)
   rw [Z60_fx]
   unfold c_Z60
   have g1:¬ (c:Int)<0:=by omega
   have g2:out.length + [D.int (c:Int)].length≤4294967296:=by
    simp only [List.length_cons,List.length_nil]; omega
   simp only [e1,Option.bind_some,g1,decide_false,cond_false,if_pos g2]
   by_cases hct:c=t
   ·have g3:(c:Int)=(t:Int):=by omega
    simp only [g3,decide_true,cond_true]
    exact ⟨[c],by rw [hct]; rfl,⟨c2,c3,c4,hct⟩,by simp⟩
   ·have g3:¬ (c:Int)=(t:Int):=by omega
    simp only [g3,decide_false,cond_false]
    obtain ⟨q,f1,f2,f3⟩:=ih c (out ++ [.int (c:Int)]) c3 hct c5 (by omega) (by simp; omega)
    refine ⟨c :: q,?_,?_,by simp; omega⟩
    ·rw [f1]; simp
    ·cases q with
     | nil=>exact f2.elim
     | cons x q=>exact ⟨c2,c3,c4,hct,f2⟩
theorem chain_eq (hn:n≤10) (hA:Sq n A) (hnm:nm.length=n) (hf:f<n) (ht:t<n) (hl:l<n) :
  (Z61 nm A L f t l=some (.inl ())∧∀ k,l≤k→k<n→at2 A f k=true→∀ m,¬ RD n t l A m k) ∨
  ∃ q:List Nat,Z61 nm A L f t l=some (.inr (D.int (f:Nat) :: q.map (fun i=>D.int (i:Nat))))∧PathTo n t l A f q∧q.length≤100:=by
 obtain ⟨F0,a1,a2,a3⟩:=farFill n t l f A nm L hn n 0 (List.replicate n (.int 0)) (by omega) (by simp) (fun j hj=>by omega)
 have a1':Z55 nm A L f t l n n 0 (List.replicate n (.int 0))=_:=a1
 have hF1:Far n t l A (F0.set t (.int 0)):=by
  refine ⟨by simp [a2],by rw [fv_set (by omega),if_pos rfl],fun j hj=>?_,fun i hi hit hin=>?_⟩
  ·rw [fv_set (by omega)]
   split
   ·omega
   ·rw [a3 j hj]; omega
  ·rw [fv_set (by omega),if_neg (fun e=>hit e.symm),a3 i hi] at hin
   omega
 obtain ⟨F,b1,b2,b3⟩:=farR n t l f A nm L hn hA (by omega) n 0 (F0.set t (.int 0)) (by omega) hF1 (fun i hi h=>by
  have:i=t:=h
  subst this
  rw [hF1.zero]; omega)
 have b1':Z58 nm A L f t l n n 0 (F0.set t (.int 0))=_:=b1
 have h2:(0:Int)≤n∧(n:Int)≤n∧(n:Int)≤4294967296:=by omega
 have h3:(0:Int)≤(t:Int)∧(t:Int)<F0.length:=by omega
 have h4:t + 1≤F0.length:=by omega
 have hdo:Z61 nm A L f t l=(Z60 nm A L t l n f F [.int (f:Nat)]).bind (fun z=>some z):=by
  simp only [Z61,c_Z61,hnm,if_pos h2,Int.toNat_natCast,List.length_replicate,a1',Option.bind_some,if_pos h3,if_pos h4,b1']
  congr 1
  funext z
  cases z <;> rfl
 rw [hdo]
 obtain ⟨nx,e1,e2⟩:=nextL n t l A nm L hn hA F b2.len f hf [.int (f:Nat)] (n - l) l (-1) (by omega) (Nat.le_refl _) (.inl ⟨rfl,fun k h1 h2=>by omega⟩)
 rcases e2 with ⟨rfl,e2⟩ | ⟨c,rfl,c2,c3,c4,c5,c6⟩
 ·left
  refine ⟨?_,fun k k1 k2 k3 m hm=>?_⟩
  ·rw [Z60_fx]
   unfold c_Z60
   have g1:(-1:Int)<0:=by omega
   simp only [e1,Option.bind_some,g1,decide_true,cond_true]
  ·exact e2 k k1 k2 k3 (b3 k k2 (RD_stab ht hm))
 ·right
  rw [Z60_fx]
  unfold c_Z60
  have g1:¬ (c:Int)<0:=by omega
  have g2:[D.int (f:Nat)].length + [D.int (c:Int)].length≤4294967296:=by
   simp only [List.length_cons,List.length_nil]; omega
  simp only [e1,Option.bind_some,g1,decide_false,cond_false,if_pos g2]
  by_cases hct:c=t
  ·have g3:(c:Int)=(t:Int):=by omega
   simp only [g3,decide_true,cond_true,Option.bind_some]
   exact ⟨[c],by rw [hct]; rfl,⟨c2,c3,c4,hct⟩,by simp⟩
  ·have g3:¬ (c:Int)=(t:Int):=by omega
   simp only [g3,decide_false,cond_false]
   obtain ⟨q,f1,f2,f3⟩:=walkL n t l A nm L hn hA ht F b2 (by omega) 11 c [.int (f:Nat),.int (c:Int)] c3 hct c5 (by omega) (by simp)
   refine ⟨c :: q,?_,?_,by simp; omega⟩
   ·rw [show [D.int (f:Nat)] ++ [D.int (c:Int)]=[D.int (f:Nat),D.int (c:Int)] from rfl,f1]; simp
   ·cases q with
    | nil=>exact f2.elim
    | cons x q=>exact ⟨c2,c3,c4,hct,f2⟩
end
theorem related_eq (C R:List D) (a b:Int) (hR:R.length≤100000):Z89 C R a b=some (firstN (fun j=>decide (((R[j]?.getD (.int 0)).fld 0).toInt=a) && decide (((R[j]?.getD (.int 0)).fld 1).toInt=b)) R.length).isSome:=by
 have h:=fxScan (F:=fun i=>Z88 a b i C R) (len:=R.length) (fun j=>decide (((R[j]?.getD (.int 0)).fld 0).toInt=a) && decide (((R[j]?.getD (.int 0)).fld 1).toInt=b)) (fun _=>.inl true) (fin:=.inr ()) (fun i hi=>by
  show Z88 a b i C R=_
  rw [Z88_fx]
  unfold c_Z88
  have h1:(i:Int)<R.length:=by omega
  simp only [h1,decide_true,cond_true,Int.natCast_nonneg,and_self,if_true,Int.toNat_natCast,List.getD_eq_getElem?_getD,succ_wrap (show i<4611686018427387904 by omega),Option.bind_fun_some]
  by_cases e1:((R[i]?.getD (.int 0)).fld 0).toInt=a
  ·by_cases e2:((R[i]?.getD (.int 0)).fld 1).toInt=b
   ·simp [e1,e2]
   ·simp [e1,e2]
  ·simp [e1])
  (by
   show Z88 a b R.length C R=_
   rw [Z88_fx]; unfold c_Z88; simp)
 have h':Z88 a b 0 C R=_:=h
 simp only [Z89,c_Z89,h',Option.bind_some]
 cases firstN (fun j=>decide (((R[j]?.getD (.int 0)).fld 0).toInt=a) && decide (((R[j]?.getD (.int 0)).fld 1).toInt=b)) R.length <;> rfl
def numAt (C:List D) (i:Nat):Int:=((C[i]?.getD (.int 0)).fld 0).toInt
theorem nums_at {C:List D} {i:Nat} (h:i<C.length):((nums C).getD i (.int 0)).toInt=numAt C i:=by
 unfold nums numAt
 rw [List.getD_eq_getElem?_getD,List.getElem?_map,List.getElem?_eq_getElem h]
 rfl
theorem numAt_lt {C R:List D} (hv:validB C R=true):∀ (k i:Nat),i + k<C.length→0<k→numAt C i<numAt C (i + k):=by
 simp only [validB,Bool.and_eq_true] at hv
 have step:∀ i,i + 1<C.length→numAt C i<numAt C (i + 1):=by
  intro i hi
  have:=allN_iff.1 hv.2.2.1 (i + 1) hi
  simp only [cOk,Bool.and_eq_true,Bool.or_eq_true,decide_eq_true_eq] at this
  rcases this.2.2 with h | h
  ·omega
  ·exact h
 intro k
 induction k with
 | zero=>intro i _ h; omega
 | succ k ih=>
  intro i hi _
  by_cases hk:k=0
  ·subst hk; exact step i hi
  ·have:=ih i (by omega) (by omega)
   have:=step (i + k) (by omega)
   rw [show i + (k + 1)=i + k + 1 by omega]
   omega
theorem numAt_inj {C R:List D} (hv:validB C R=true) {i j:Nat} (hi:i<C.length) (hj:j<C.length) (h:numAt C i=numAt C j):i=j:=by
 by_cases h1:i<j
 ·have:=numAt_lt hv (j - i) i (by omega) (by omega)
  rw [show i + (j - i)=j by omega] at this
  omega
 ·by_cases h2:j<i
  ·have:=numAt_lt hv (i - j) j (by omega) (by omega)
   rw [show j + (i - j)=i by omega] at this
   omega
  ·omega
theorem edge_rel {C R:List D} (hv:validB C R=true) {a b:Nat} (he:edge C R a b):Z89 C R (numAt C a) (numAt C b)=some true:=by
 have hR:R.length≤24:=by
  simp only [validB,Bool.and_eq_true,decide_eq_true_eq] at hv; exact hv.2.1
 rw [related_eq C R _ _ (by omega)]
 obtain ⟨j,hj,e1,e2⟩:=he
 obtain ⟨a',b',q1,q2,q3,q4,q5,q6,q7⟩:=rOk_at hv hj
 rw [q4] at e1; rw [q5] at e2
 have e1':a'=a:=by omega
 have e2':b'=b:=by omega
 subst e1'; subst e2'
 cases hf:firstN (fun j=>decide (((R[j]?.getD (.int 0)).fld 0).toInt=numAt C a') && decide (((R[j]?.getD (.int 0)).fld 1).toInt=numAt C b')) R.length with
 | some i=>rfl
 | none=>
  have:=firstN_none hf j hj
  have g1:((R[j]?.getD (.int 0)).fld 0).toInt=numAt C a':=q6.symm
  have g2:((R[j]?.getD (.int 0)).fld 1).toInt=numAt C b':=q7.symm
  simp [g1,g2] at this
theorem numbered_eq (C A L:List D) (q:List Nat) (hC:C.length≤100000) (hq:q.length≤100000) (hlt:∀ i ∈ q,i<C.length):Z63 (nums C) A L (q.map (fun i=>D.int (i:Nat)))=some (q.map (fun i=>D.int (numAt C i))):=by
 have hn:(nums C).length=C.length:=by simp [nums]
 have key:∀ (m i:Nat) (acc:List D),i + m=q.length→acc.length=i→Z62 (nums C) A L (q.map (fun i=>D.int (i:Nat))) q.length i acc=some (acc ++ (q.drop i).map (fun i=>D.int (numAt C i))):=by
  intro m
  induction m with
  | zero=>
   intro i acc hi ha
   have:i=q.length:=by omega
   subst this
   rw [Z62_fx]
   unfold c_Z62
   simp
  | succ m ih=>
   intro i acc hi ha
   have hiq:i<q.length:=by omega
   rw [Z62_fx]
   unfold c_Z62
   have h1:(i:Int)<q.length:=by omega
   have h2:(0:Int)≤(i:Int)∧(i:Int)<(q.map (fun i=>D.int (i:Nat))).length:=by
    rw [List.length_map]; omega
   have hget:((q.map (fun i=>D.int (i:Nat))).getD i (.int 0)).toInt=(q[i]:Int):=by
    rw [List.getD_eq_getElem?_getD,List.getElem?_map,List.getElem?_eq_getElem hiq]; rfl
   have hx:=hlt q[i] (List.getElem_mem hiq)
   have h3:(0:Int)≤(q[i]:Int)∧(q[i]:Int)<(nums C).length:=by rw [hn]; omega
   have h4:acc.length + [D.int (numAt C q[i])].length≤4294967296:=by
    simp only [List.length_cons,List.length_nil]; omega
   simp only [h1,decide_true,cond_true,if_pos h2,Int.toNat_natCast,hget,if_pos h3,nums_at hx,if_pos h4,succ_wrap (show i<4611686018427387904 by omega)]
   rw [ih (i + 1) _ (by omega) (by simp [ha])]
   rw [List.drop_eq_getElem_cons hiq,List.map_cons,List.append_assoc]
   rfl
 have:=key q.length 0 [] (by omega) rfl
 have h':Z62 (nums C) A L (q.map (fun i=>D.int (i:Nat))) q.length 0 []=_:=this
 simp only [Z63,c_Z63,List.length_map,h',Option.bind_some,List.drop_zero,List.nil_append]
theorem uw (n:Int) (h:0≤n∧n<1000):IntKind.u64.wrap n=n:=by
 rw [uwrap]; omega
theorem bv_nat (n:Nat) (h:n<18446744073709551616):(BitVec.ofInt IntKind.i64.bits (n:Int)).toNat=n:=by
 simp only [IntKind.bits,BitVec.toNat_ofInt]
 omega
theorem or_bits (a b:Nat) (ha:a<1024) (hb:b<1024):IntKind.i64.wrap (((BitVec.ofInt IntKind.i64.bits (a:Int) ||| BitVec.ofInt IntKind.i64.bits (b:Int)).toNat:Nat):Int)=((a ||| b:Nat):Int)∧a ||| b<1024:=by
 have h:a ||| b<2 ^ 10:=Nat.or_lt_two_pow (by omega) (by omega)
 rw [BitVec.toNat_or,bv_nat a (by omega),bv_nat b (by omega),wrap_id (by omega) (by omega)]
 exact ⟨rfl,by omega⟩
theorem shl_bit (k:Nat) (hk:k<10):IntKind.i64.wrap (1 * 2 ^ Min.min ((k:Int)).toNat IntKind.i64.bits)=((2 ^ k:Nat):Int)∧2 ^ k<1024:=by
 have h1:Min.min ((k:Int)).toNat IntKind.i64.bits=k:=by simp only [Int.toNat_natCast,IntKind.bits]; omega
 have h2:2 ^ k<2 ^ 10:=Nat.pow_lt_pow_right (by omega) hk
 have h3:(1:Int) * 2 ^ k=((2 ^ k:Nat):Int):=by simp
 have key:∀ x:Nat,x<1024→IntKind.i64.wrap (x:Int)=x∧x<1024:=fun x hx=>⟨wrap_id (by omega) (by omega),hx⟩
 rw [h1,h3]
 exact key _ (Nat.lt_of_lt_of_le h2 (by decide))
theorem and_bit (v k:Nat) (hv:v<1024) (hk:k<10):decide (IntKind.i64.wrap (((BitVec.ofInt IntKind.i64.bits ((v:Int).fdiv (2 ^ Min.min ((k:Int)).toNat IntKind.i64.bits)) &&& BitVec.ofInt IntKind.i64.bits 1).toNat:Nat):Int)=1)=v.testBit k:=by
 have h1:Min.min ((k:Int)).toNat IntKind.i64.bits=k:=by simp only [Int.toNat_natCast,IntKind.bits]; omega
 have h2:(v:Int).fdiv (2 ^ k)=((v / 2 ^ k:Nat):Int):=by
  rw [Int.fdiv_eq_ediv_of_nonneg _ (by exact Int.le_of_lt (Int.pow_pos (by decide)))]
  simp
 have h3:v / 2 ^ k≤v:=Nat.div_le_self _ _
 have h4:(BitVec.ofInt IntKind.i64.bits 1).toNat=1:=by decide
 rw [h1,h2,BitVec.toNat_and,bv_nat _ (by omega),h4,Nat.and_one_is_mod,Nat.testBit_eq_decide_div_mod_eq,wrap_id (by omega) (by omega)]
 by_cases h:v / 2 ^ k % 2=1
 ·rw [decide_eq_true h,decide_eq_true (by omega)]
 ·rw [decide_eq_false h,decide_eq_false (by omega)]
def b2 (B:List D) (i k:Nat):Bool:=(B.getD i (.int 0)).toInt.toNat.testBit k
structure Bq (n:Nat) (B:List D):Prop where
 len:B.length=n
 rng:∀ i,i<n→∃ v:Nat,(B.getD i (.int 0)).toInt=v∧v<1024
theorem b2_set {n:Nat} {B:List D} (h:Bq n B) {i a c v:Nat} (hi:i<n):b2 (B.set i (.int (v:Nat))) a c=if a=i then v.testBit c else b2 B a c:=by
 unfold b2
 rw [getD_set (by rw [h.len]; exact hi)]
 by_cases e:i=a
 ·subst e; simp [toInt_int]
 ·have:¬ a=i:=fun e'=>e e'.symm
  simp [e,this]
theorem Bq.set {n:Nat} {B:List D} (h:Bq n B) {i v:Nat} (hi:i<n) (hv:v<1024):Bq n (B.set i (.int (v:Nat))):=by
 refine ⟨by simp [h.len],fun j hj=>?_⟩
 rw [getD_set (by rw [h.len]; exact hi)]
 split
 ·exact ⟨v,rfl,hv⟩
 ·exact h.rng j hj
theorem b2_lt {n:Nat} {B:List D} (h:Bq n B) {a c:Nat} (hv:b2 B a c=true):a<n∧c<10:=by
 unfold b2 at hv
 by_cases ha:a<n
 ·refine ⟨ha,?_⟩
  obtain ⟨v,e1,e2⟩:=h.rng a ha
  rw [e1,Int.toNat_natCast] at hv
  by_cases hc:c<10
  ·exact hc
  ·rw [Nat.testBit_lt_two_pow (Nat.lt_of_lt_of_le (show v<2 ^ 10 by omega) (Nat.pow_le_pow_right (by omega) (by omega)))] at hv
   cases hv
 ·rw [List.getD_eq_getElem?_getD,List.getElem?_eq_none (by rw [h.len]; omega)] at hv
  simp [toInt_int] at hv
theorem bitsR_eq (C R:List D) (n:Nat) (hv:validB C R=true) (hC:C.length=n) (hn:n≤10) (hR:R.length≤24):∀ (m j:Nat) (B:List D),j + m=R.length→Bq n B →
  ∃ B',Z72 j C R B=some B'∧Bq n B'∧∀ a b,b2 B' a b=true ↔ b2 B a b=true ∨ ∃ k,j≤k∧edgeAt C R k a b:=by
 intro m
 induction m with
 | zero=>
  intro j B hj hB
  have:j=R.length:=by omega
  subst this
  refine ⟨B,?_,hB,fun a b=>⟨.inl,?_⟩⟩
  ·rw [Z72_fx]
   unfold c_Z72
   simp
  ·rintro (h | ⟨k,h1,h2⟩)
   ·exact h
   ·have:=h2.1; omega
 | succ m ih=>
  intro j B hj hB
  obtain ⟨a,b,q1,q2,q3,q4,q5,_⟩:=rOk_at hv (show j<R.length by omega)
  rw [hC] at q1 q2
  obtain ⟨v,v1,v2⟩:=hB.rng a q1
  obtain ⟨s1,s2⟩:=shl_bit b (by omega)
  obtain ⟨o1,o2⟩:=or_bits v (2 ^ b) v2 s2
  obtain ⟨B',e1,e2,e3⟩:=ih (j + 1) (B.set a (.int ((v ||| 2 ^ b:Nat):Int))) (by omega) (hB.set q1 o2)
  refine ⟨B',?_,e2,fun c d=>?_⟩
  ·rw [Z72_fx]
   unfold c_Z72
   have h1:(j:Int)<R.length:=by omega
   have g1:(a:Int)<B.length:=by rw [hB.len]; omega
   have g2:a + 1≤B.length:=by rw [hB.len]; omega
   rw [← List.getD_eq_getElem?_getD] at q4 q5
   simp only [h1,g1,decide_true,cond_true,Int.natCast_nonneg,and_self,if_true,Int.toNat_natCast,l2Find_eq C R _ (show C.length≤100000 by omega),q4,q5,Option.bind_some,if_pos g2,uw (b:Int) (by omega),v1]
   rw [show IntKind.i64.wrap (1 * 2 ^ Min.min b IntKind.i64.bits)=((2 ^ b:Nat):Int) from s1,o1,succ_wrap (show j<4611686018427387904 by omega),e1]
   rfl
  ·rw [e3,b2_set hB q1]
   have hb:∀ d,(v ||| 2 ^ b).testBit d=true ↔ v.testBit d=true ∨ d=b:=by
    intro d
    rw [Nat.testBit_or,Bool.or_eq_true,Nat.testBit_two_pow,decide_eq_true_eq]
    exact ⟨fun h=>h.imp id (fun h=>h.symm),fun h=>h.imp id (fun h=>h.symm)⟩
   have hv':∀ d,b2 B a d=v.testBit d:=fun d=>by unfold b2; rw [v1,Int.toNat_natCast]
   constructor
   ·rintro (h | ⟨k,h1,h2⟩)
    ·split at h
     ·rename_i e
      rw [hb] at h
      rcases h with h | h
      ·left; rw [e,hv']; exact h
      ·exact .inr ⟨j,Nat.le_refl _,by omega,by rw [e]; exact q4,by rw [h]; exact q5⟩
     ·exact .inl h
    ·exact .inr ⟨k,by omega,h2⟩
   ·rintro (h | ⟨k,h1,h2⟩)
    ·left
     split
     ·rename_i e; rw [hb]; left; rw [e,hv'] at h; exact h
     ·exact h
    ·by_cases hk:k=j
     ·subst hk
      left
      obtain ⟨_,g1,g2⟩:=h2
      rw [q4] at g1; rw [q5] at g2
      rw [if_pos (by omega),hb]
      right; omega
     ·exact .inr ⟨k,by omega,h2⟩
structure CloB (n:Nat) (M M':List D):Prop where
 sq:Bq n M'
 mono:∀ a b,b2 M a b=true→b2 M' a b=true
 sound:∀ T:Nat→Nat→Prop,(∀ a b c,T a b→T b c→T a c)→(∀ a b,b2 M a b=true→T a b)→∀ a b,b2 M' a b=true→T a b
theorem CloB.refl {n:Nat} {M:List D} (h:Bq n M):CloB n M M:=⟨h,fun _ _ h=>h,fun _ _ h=>h⟩
theorem CloB.trans {n:Nat} {M M' M'':List D} (h:CloB n M M') (k:CloB n M' M''):CloB n M M'':=
 ⟨k.sq,fun a b q=>k.mono a b (h.mono a b q),fun T hT hb=>k.sound T hT (h.sound T hT hb)⟩
theorem bitsI_eq (n j:Nat) (hn:n≤10) (hj:j<n):∀ (m i:Nat) (B:List D),i + m=n→Bq n B →
  ∃ B',Z73 j i B=some ((j:Int),B')∧CloB n B B'∧∀ a b,i≤a→a<n→b2 B a j=true→b2 B j b=true→b2 B' a b=true:=by
 intro m
 induction m with
 | zero=>
  intro i B hi hB
  have:i=n:=by omega
  subst this
  refine ⟨B,?_,CloB.refl hB,fun a b h1 h2=>by omega⟩
  rw [Z73_fx]
  unfold c_Z73
  simp [hB.len]
 | succ m ih=>
  intro i B hi hB
  have hin:i<n:=by omega
  obtain ⟨v,v1,v2⟩:=hB.rng i hin
  obtain ⟨u,u1,u2⟩:=hB.rng j hj
  obtain ⟨o1,o2⟩:=or_bits v u v2 u2
  have hbit:b2 B i j=v.testBit j:=by unfold b2; rw [v1,Int.toNat_natCast]
  rw [Z73_fx]
  unfold c_Z73
  have g1:(i:Int)<B.length:=by rw [hB.len]; omega
  have g2:i + 1≤B.length:=by rw [hB.len]; omega
  have g3:(j:Int)<B.length:=by rw [hB.len]; omega
  have g4:j + 1≤B.length:=by rw [hB.len]; omega
  have ab:=and_bit v j v2 (by omega)
  simp only [Int.toNat_natCast] at ab
  simp only [g1,g3,decide_true,cond_true,Int.natCast_nonneg,and_self,if_true,Int.toNat_natCast,if_pos g2,if_pos g4,uw (j:Int) (by omega),v1,u1,o1,ab,succ_wrap (show i<4611686018427387904 by omega)]
  cases hq:v.testBit j with
  | false=>
   obtain ⟨B',e1,e2,e3⟩:=ih (i + 1) B (by omega) hB
   refine ⟨B',by simp only [cond_false,e1,Option.bind_some],e2,fun a b h1 h2 h3 h4=>?_⟩
   by_cases e:a=i
   ·subst e; rw [hbit,hq] at h3; cases h3
   ·exact e3 a b (by omega) h2 h3 h4
  | true=>
   have hc:CloB n B (B.set i (.int ((v ||| u:Nat):Int))):=by
    refine ⟨hB.set hin o2,fun a b h=>?_,fun T hT hb a b h=>?_⟩
    ·rw [b2_set hB hin]
     split
     ·rename_i e
      rw [e] at h
      rw [Nat.testBit_or,Bool.or_eq_true]
      left; unfold b2 at h; rw [v1,Int.toNat_natCast] at h; exact h
     ·exact h
    ·rw [b2_set hB hin] at h
     split at h
     ·rename_i e
      rw [e]
      rw [Nat.testBit_or,Bool.or_eq_true] at h
      rcases h with h | h
      ·exact hb i b (by unfold b2; rw [v1,Int.toNat_natCast]; exact h)
      ·exact hT i j b (hb i j (by rw [hbit,hq])) (hb j b (by unfold b2; rw [u1,Int.toNat_natCast]; exact h))
     ·exact hb a b h
   obtain ⟨B',e1,e2,e3⟩:=ih (i + 1) (B.set i (.int ((v ||| u:Nat):Int))) (by omega) hc.sq
   refine ⟨B',by simp only [cond_true,e1,Option.bind_some],hc.trans e2,fun a b h1 h2 h3 h4=>?_⟩
   by_cases e:a=i
   ·subst e
    refine e2.mono _ _ ?_
    rw [b2_set hB hin,if_pos rfl,Nat.testBit_or,Bool.or_eq_true]
    right; unfold b2 at h4; rw [u1,Int.toNat_natCast] at h4; exact h4
   ·exact e3 a b (by omega) h2 (hc.mono _ _ h3) (hc.mono _ _ h4)
theorem bitsJ_eq (n:Nat) (hn:n≤10) (E:Nat→Nat→Prop):∀ (m j:Nat) (B:List D),j + m=n→Bq n B→(∀ a b,a<n→b<n→PP E j a b→b2 B a b=true) →
  ∃ B',Z74 j B=some B'∧CloB n B B'∧∀ a b,a<n→b<n→PP E n a b→b2 B' a b=true:=by
 intro m
 induction m with
 | zero=>
  intro j B hj hB hP
  have:j=n:=by omega
  subst this
  refine ⟨B,?_,CloB.refl hB,hP⟩
  rw [Z74_fx]
  unfold c_Z74
  simp [hB.len]
 | succ m ih=>
  intro j B hj hB hP
  have hjn:j<n:=by omega
  obtain ⟨B1,d1,d2,d3⟩:=bitsI_eq n j hn hjn n 0 B (by omega) hB
  have d1':Z73 j 0 B=_:=d1
  obtain ⟨B2,e1,e2,e3⟩:=ih (j + 1) B1 (by omega) d2.sq (fun a b ha hb h=>by
   rcases h with h | ⟨h1,h2⟩
   ·exact d2.mono _ _ (hP a b ha hb h)
   ·exact d3 a b (by omega) ha (hP a j ha hjn h1) (hP j b hjn hb h2))
  refine ⟨B2,?_,d2.trans e2,e3⟩
  rw [Z74_fx]
  unfold c_Z74
  have g1:(j:Int)<B.length:=by rw [hB.len]; omega
  simp only [g1,decide_true,cond_true,d1',Option.bind_some,succ_wrap (show j<4611686018427387904 by omega),e1]
theorem bits_eq (C R:List D) (hv:validB C R=true):∃ B,Z75 C R=some B∧Bq C.length B∧(∀ L,Later C.length (edge C R) L→∀ a b,b2 B a b=at2 L a b):=by
 have hv':=hv
 simp only [validB,Bool.and_eq_true,decide_eq_true_eq] at hv'
 obtain ⟨hC,hR,_,_⟩:=hv'
 have hB0:Bq C.length (List.replicate C.length (D.int 0)):=⟨by simp,fun i hi=>⟨0,by rw [List.getD_eq_getElem?_getD,List.getElem?_replicate,if_pos hi]; rfl,by omega⟩⟩
 have hz:∀ a b,b2 (List.replicate C.length (D.int 0)) a b=false:=by
  intro a b
  unfold b2
  rw [List.getD_eq_getElem?_getD,List.getElem?_replicate]
  split <;> simp [toInt_int]
 obtain ⟨B0,r1,r2,r3⟩:=bitsR_eq C R C.length hv rfl hC hR R.length 0 _ (by omega) hB0
 have r1':Z72 0 C R (List.replicate C.length (D.int 0))=_:=r1
 have hE:∀ a b,b2 B0 a b=true ↔ edge C R a b:=by
  intro a b
  rw [r3,hz]
  constructor
  ·rintro (h | ⟨k,_,h⟩)
   ·cases h
   ·exact ⟨k,h⟩
  ·rintro ⟨k,h⟩
   exact .inr ⟨k,Nat.zero_le _,h⟩
 obtain ⟨B,c1,c2,c3⟩:=bitsJ_eq C.length hC (edge C R) C.length 0 B0 (by omega) r2 (fun a b _ _ h=>(hE a b).2 h)
 have c1':Z74 0 B0=_:=c1
 have lt:∀ a b,b2 B a b=true→a<C.length∧b<C.length∧PP (edge C R) C.length a b:=by
  refine c2.sound (fun a b=>a<C.length∧b<C.length∧PP (edge C R) C.length a b) (fun a b c h1 h2=>⟨h1.1,h2.2.1,PP_trans h1.2.1 h1.2.2 h2.2.2⟩) (fun a b h=>?_)
  have he:=(hE a b).1 h
  have:=edge_lt hv he
  exact ⟨this.1,this.2.1,PP_base he⟩
 have h2:(0:Int)≤C.length∧(C.length:Int)≤C.length∧(C.length:Int)≤4294967296:=by omega
 refine ⟨B,?_,c2.sq,fun L hL a b=>?_⟩
 ·simp only [Z75,c_Z75,if_pos h2,Int.toNat_natCast,r1',c1',Option.bind_some]
 ·cases hq:at2 L a b with
  | true=>
   refine hL.min (fun a b=>b2 B a b=true) (fun a b c h1 h2=>?_) (fun a b h=>c2.mono _ _ ((hE a b).2 h)) a b hq
   have q1:=lt a b h1
   have q2:=lt b c h2
   exact c3 a c q1.1 q2.2.1 (PP_trans q1.2.1 q1.2.2 q2.2.2)
  | false=>
   cases hb:b2 B a b with
   | false=>rfl
   | true=>
    have:=c2.sound (fun a b=>at2 L a b=true) hL.trans (fun a b h=>hL.base a b ((hE a b).1 h)) a b hb
    rw [hq] at this; cases this
theorem l4Bit_eq (v k:Nat) (hv:v<1024) (hk:k<10):Z76 v k=some (v.testBit k):=by
 unfold Z76 c_Z76
 have h:=and_bit v k hv hk
 rw [uw (k:Int) (by omega),if_pos (by omega)]
 rw [← h]
def hasB (C R:List D) (x:Int):Bool:=validB C R && decide (0≤find2 C x)
theorem has_eq (C R:List D) (x:Int):Z41 C R x=some (hasB C R x):=by
 unfold Z41 c_Z41 hasB
 rw [valid_eq]
 cases hv:validB C R with
 | false=>rfl
 | true=>
  have hC:C.length≤10:=by
   simp only [validB,Bool.and_eq_true,decide_eq_true_eq] at hv; exact hv.1
  simp only [Option.bind_some,cond_true,indexOf_eq C R x (by omega),Bool.true_and]
structure Two (C R A L:List D) (a b:Int) (i k:Nat):Prop where
 v:validB C R=true
 hC:C.length≤10
 hR:R.length≤24
 hi:i<C.length
 hk:k<C.length
 fi:find2 C a=i
 fk:find2 C b=k
 ni:numAt C i=a
 nk:numAt C k=b
 ord:Z54 C R=some (nums C,A,L)
 sq:Sq C.length A
 ab:∀ x y,at2 A x y=true ↔ edge C R x y
 la:Later C.length (edge C R) L
theorem two_of {C R:List D} {a b:Int} (ha:hasB C R a=true) (hb:hasB C R b=true):∃ A L i k,Two C R A L a b i k:=by
 simp only [hasB,Bool.and_eq_true,decide_eq_true_eq] at ha hb
 obtain ⟨hv,ha⟩:=ha
 obtain ⟨i,i1,i2,i3⟩:=find2_some ha
 obtain ⟨k,k1,k2,k3⟩:=find2_some hb.2
 obtain ⟨A,L,h1,h2,h3,h4⟩:=order_eq C R hv
 have hv':=hv
 simp only [validB,Bool.and_eq_true,decide_eq_true_eq] at hv'
 exact ⟨A,L,i,k,hv,hv'.1,hv'.2.1,i1,k1,i2,k2,i3,k3,h1,h2,h3,h4⟩
theorem isLater_eq {C R A L:List D} {a b:Int} {i k:Nat} (h:Two C R A L a b i k):Z65 C R a b=some (at2 L i k,true):=by
 have h1:hasB C R a=true:=by
  simp only [hasB,h.v,h.fi,Bool.true_and,decide_eq_true_eq]; omega
 have h2:hasB C R b=true:=by
  simp only [hasB,h.v,h.fk,Bool.true_and,decide_eq_true_eq]; omega
 have hC:=h.hC
 have hi:=h.hi
 have hk:=h.hk
 unfold Z65 c_Z65
 have g1:(i:Int)<L.length:=by rw [h.la.sq.len]; omega
 have g2:i + 1≤L.length:=by rw [h.la.sq.len]; omega
 have g3:(k:Int)<(L.getD i (.int 0)).items.length:=by rw [h.la.sq.row i h.hi]; omega
 have g4:k + 1≤(L.getD i (.int 0)).items.length:=by rw [h.la.sq.row i h.hi]; omega
 simp only [has_eq,h1,h2,Option.bind_some,Bool.not_true,cond_false,h.ord,indexOf_eq C R _ (show C.length≤100000 by omega),h.fi,h.fk,Int.natCast_nonneg,g1,g3,and_self,if_true,Int.toNat_natCast,if_pos g2,if_pos g4]
 rfl
theorem isLater_no {C R:List D} {a b:Int} (h:(hasB C R a && hasB C R b)=false):Z65 C R a b=some (false,false):=by
 unfold Z65 c_Z65
 simp only [has_eq,Option.bind_some]
 cases h1:hasB C R a with
 | false=>rfl
 | true=>
  rw [h1,Bool.true_and] at h
  simp only [h,Option.bind_some,Bool.not_true,cond_false,Bool.not_false,cond_true]
theorem sLater_eq {C R A L:List D} {a b:Int} {i k:Nat} (h:Two C R A L a b i k):Z77 C R a b=some (at2 L i k,true):=by
 have hC:=h.hC
 have hi:=h.hi
 have hk:=h.hk
 obtain ⟨B,b1,b3,b4⟩:=bits_eq C R h.v
 obtain ⟨v,v1,v2⟩:=b3.rng i h.hi
 have g1:(i:Int)<B.length:=by rw [b3.len]; omega
 have g2:i + 1≤B.length:=by rw [b3.len]; omega
 have n1:¬ (i:Int)<0:=by omega
 have n2:¬ (k:Int)<0:=by omega
 have hb:v.testBit k=at2 L i k:=by
  rw [← b4 L h.la i k]; unfold b2; rw [v1,Int.toNat_natCast]
 unfold Z77 c_Z77
 simp only [l2Find_eq C R _ (show C.length≤100000 by omega),h.fi,h.fk,l2Good_eq,h.v,Option.bind_some,Bool.not_true,cond_false,n1,n2,decide_false,b1,Int.natCast_nonneg,g1,and_self,if_true,Int.toNat_natCast,if_pos g2,v1,l4Bit_eq v k v2 (by omega),hb]
theorem sLater_no {C R:List D} {a b:Int} (hC:C.length≤100000) (h:(hasB C R a && hasB C R b)=false):Z77 C R a b=some (false,false):=by
 unfold Z77 c_Z77
 simp only [l2Find_eq C R _ hC,l2Good_eq,Option.bind_some]
 cases hv:validB C R with
 | false=>rfl
 | true=>
  simp only [hasB,hv,Bool.true_and,Bool.and_eq_false_iff,decide_eq_false_iff_not] at h
  simp only [Bool.not_true,cond_false]
  by_cases h1:find2 C a<0
  ·simp only [h1,decide_true,cond_true]
  ·have h2:find2 C b<0:=by omega
   simp only [h1,h2,decide_false,decide_true,cond_false,cond_true]
def numsIf (C:List D) (p:Nat→Bool):List D:=((List.range C.length).filter p).map (fun i=>D.int (numAt C i))
theorem has_mem (l:List D) (x:Int) (hl:l.length≤100000):∃ b,Z87 l x=some b∧(b=true ↔ ∃ d ∈ l,d.toInt=x):=by
 have h:=fxScan (F:=fun i=>Z86 l x i) (len:=l.length) (fun j=>decide ((l[j]?.getD (.int 0)).toInt=x)) (fun _=>.inl true) (fin:=.inr ()) (fun i hi=>by
  show Z86 l x i=_
  rw [Z86_fx]
  unfold c_Z86
  have h1:(i:Int)<l.length:=by omega
  simp only [h1,decide_true,cond_true,Int.natCast_nonneg,and_self,if_true,Int.toNat_natCast,List.getD_eq_getElem?_getD,succ_wrap (show i<4611686018427387904 by omega),Option.bind_fun_some])
  (by
   show Z86 l x l.length=_
   rw [Z86_fx]; unfold c_Z86; simp)
 have h':Z86 l x 0=_:=h
 refine ⟨(firstN (fun j=>decide ((l[j]?.getD (.int 0)).toInt=x)) l.length).isSome,?_,?_⟩
 ·simp only [Z87,c_Z87,h',Option.bind_some]
  cases firstN (fun j=>decide ((l[j]?.getD (.int 0)).toInt=x)) l.length <;> rfl
 ·cases hf:firstN (fun j=>decide ((l[j]?.getD (.int 0)).toInt=x)) l.length with
  | some j=>
   obtain ⟨h1,h2,_⟩:=firstN_some hf
   exact ⟨fun _=>⟨_,get_mem h1,of_decide_eq_true h2⟩,fun _=>rfl⟩
  | none=>
   refine ⟨fun h=>(by cases h),fun ⟨d,hd,hx⟩=>?_⟩
   obtain ⟨j,hj,rfl⟩:=List.getElem_of_mem hd
   have:=firstN_none hf j hj
   rw [List.getElem?_eq_getElem hj] at this
   simp [hx] at this
theorem numsIf_mem {C R:List D} (hv:validB C R=true) {p:Nat→Bool} {i:Nat} (hi:i<C.length):(∃ d ∈ numsIf C p,d.toInt=numAt C i) ↔ p i=true:=by
 unfold numsIf
 constructor
 ·rintro ⟨d,hd,hx⟩
  obtain ⟨j,hj,rfl⟩:=List.mem_map.1 hd
  rw [List.mem_filter,List.mem_range] at hj
  have:=numAt_inj hv hj.1 hi (by simpa [toInt_int] using hx)
  subst this; exact hj.2
 ·intro h
  exact ⟨.int (numAt C i),List.mem_map.2 ⟨i,List.mem_filter.2 ⟨List.mem_range.2 hi,h⟩,rfl⟩,rfl⟩
theorem number_tot (c:List D) (hc:okC c) (p s:Int) (C R:List D) (hp:0≤p∧p≤1099511610000) (hC:C.length≤1000):∃ y,Z23 c p s C R=some y∧(y.2.1=c∧p≤y.2.2.1∧y.2.2.1≤p + 10):=by
 refine Tt.out ?_
 unfold Z23 c_Z23
 refine Tt.dec (fun _=>?_) (fun _=>?_)
 ·(refine Tt.bind (Tt.con (among_tot _ hc _ _ _ (by omega) (by simp))) ?_; rintro ⟨v,c',p',s'⟩ ⟨hv,rfl,hp1,hp2⟩; dsimp only at hv hp1 hp2 ⊢)
  exact Tt.pure ⟨rfl,by simp only; omega,by simp only; omega⟩
 ·(refine Tt.bind (Tt.con (one_tot' _ hc _ _ _ (by omega) (by omega))) ?_; rintro ⟨v,c',p',s'⟩ ⟨hv,rfl,hp1,hp2⟩; dsimp only at hv hp1 hp2 ⊢)
  refine Tt.cnd (fun _=>?_) (fun _=>?_)
  ·(refine Tt.bind (Tt.con (among_tot _ hc _ _ _ (by omega) (by simp))) ?_; rintro ⟨v,c',p',s'⟩ ⟨hv,rfl,hp1,hp2⟩; dsimp only at hv hp1 hp2 ⊢)
   exact Tt.pure ⟨rfl,by simp only; omega,by simp only; omega⟩
  ·(refine Tt.bind (Tt.con (pick_tot' _ hc _ _ _ (by omega) (by omega))) ?_; rintro ⟨v,c',p',s'⟩ ⟨hv,rfl,hp1,hp2⟩; dsimp only at hv hp1 hp2 ⊢)
   refine Tt.ite (by omega) ?_
   exact Tt.pure ⟨rfl,by simp only; omega,by simp only; omega⟩
theorem draw_tot (c:List D) (hc:okC c):∃ y,Z25 c=some y∧(y.1.length≤1000∧y.2.1.length≤1000):=by
 refine Tt.out ?_
 unfold Z25 c_Z25 Z24 c_Z24
 refine Tt.bind ?_ (fun v (hv:v.1.length≤1000∧v.2.1.length≤1000)=>Tt.pure hv)
 refine Tt.bind (Tt.con (any_tot _ hc _ _ (by omega))) ?_
 rintro ⟨C,R,c1,p1,s1⟩ ⟨rfl,q1,q2,q3,q4⟩
 dsimp only at q1 q2 q3 q4 ⊢
 refine Tt.bind (Tt.con (number_tot _ hc _ _ _ _ (by omega) (by omega))) ?_
 rintro ⟨a,c2,p2,s2⟩ ⟨rfl,q5,q6⟩
 dsimp only at q5 q6 ⊢
 refine Tt.bind (Tt.con (number_tot _ hc _ _ _ _ (by omega) (by omega))) ?_
 rintro ⟨b,c3,p3,s3⟩ ⟨_,q7,q8⟩
 exact Tt.pure ⟨by simp only; omega,by simp only; omega⟩
section
variable {C R A L:List D} {a b:Int} {i k:Nat} (h:Two C R A L a b i k)
include h in
theorem later_list:Z81 C R b=some (numsIf C (fun x=>at2 L x k),true):=by
 have h2:hasB C R b=true:=by
  have:=h.hk
  simp only [hasB,h.v,h.fk,Bool.true_and,decide_eq_true_eq]; omega
 have hC:=h.hC
 have hn:(nums C).length=C.length:=by simp [nums]
 have key:∀ (m j:Nat) (acc:List D),j + m=C.length→acc.length≤j→Z79 (nums C) A L k (nums C) C.length j acc=some (acc ++ (((List.range C.length).drop j).filter (fun x=>at2 L x k)).map (fun i=>D.int (numAt C i))):=by
  intro m
  induction m with
  | zero=>
   intro j acc hj ha
   have:j=C.length:=by omega
   subst this
   rw [Z79_fx]
   unfold c_Z79
   rw [List.drop_of_length_le (by simp)]
   simp
  | succ m ih=>
   intro j acc hj ha
   have hjC:j<C.length:=by omega
   rw [Z79_fx]
   unfold c_Z79
   have h1:(j:Int)<C.length:=by omega
   have g1:(j:Int)<L.length:=by rw [h.la.sq.len]; omega
   have g2:(k:Int)<(L.getD j (.int 0)).items.length:=by rw [h.la.sq.row j hjC]; have:=h.hk; omega
   have r1:((L.getD j (.int 0)).items.getD k (.int 0)).toBool=at2 L j k:=rfl
   have h4:acc.length + [D.int (numAt C j)].length≤4294967296:=by
    simp only [List.length_cons,List.length_nil]; omega
   rw [List.drop_eq_getElem_cons (show j<(List.range C.length).length by simpa using hjC),List.getElem_range,List.filter_cons]
   simp only [h1,hn,decide_true,cond_true,Int.natCast_nonneg,and_self,if_true,Int.toNat_natCast,Z78,c_Z78,g1,g2,r1,Option.bind_some,nums_at hjC,if_pos h4,succ_wrap (show j<4611686018427387904 by omega)]
   cases hq:at2 L j k with
   | true=>
    simp only [cond_true,if_true]
    rw [ih (j + 1) _ (by omega) (by simp; omega),List.map_cons,List.append_assoc]
    rfl
   | false=>
    simp only [cond_false]
    rw [ih (j + 1) _ (by omega) (by omega)]
    rfl
 have h':Z79 (nums C) A L k (nums C) C.length 0 []=_:=key C.length 0 [] (by omega) (by simp)
 simp only [Z81,c_Z81,has_eq,h2,Option.bind_some,Bool.not_true,cond_false,h.ord,indexOf_eq C R _ (show C.length≤100000 by omega),h.fk,Z80,c_Z80,hn,h',List.drop_zero,List.nil_append]
 rfl
include h in
theorem earlier_list:Z85 C R a=some (numsIf C (fun x=>at2 L i x),true):=by
 have h2:hasB C R a=true:=by
  have:=h.hi
  simp only [hasB,h.v,h.fi,Bool.true_and,decide_eq_true_eq]; omega
 have hC:=h.hC
 have hn:(nums C).length=C.length:=by simp [nums]
 have key:∀ (m j:Nat) (acc:List D),j + m=C.length→acc.length≤j→Z83 (nums C) A L i (nums C) C.length j acc=some (acc ++ (((List.range C.length).drop j).filter (fun x=>at2 L i x)).map (fun i=>D.int (numAt C i))):=by
  intro m
  induction m with
  | zero=>
   intro j acc hj ha
   have:j=C.length:=by omega
   subst this
   rw [Z83_fx]
   unfold c_Z83
   rw [List.drop_of_length_le (by simp)]
   simp
  | succ m ih=>
   intro j acc hj ha
   have hjC:j<C.length:=by omega
   rw [Z83_fx]
   unfold c_Z83
   have h1:(j:Int)<C.length:=by omega
   have g1:(i:Int)<L.length:=by rw [h.la.sq.len]; have:=h.hi; omega
   have g2:(j:Int)<(L.getD i (.int 0)).items.length:=by rw [h.la.sq.row i h.hi]; omega
   have r1:((L.getD i (.int 0)).items.getD j (.int 0)).toBool=at2 L i j:=rfl
   have h4:acc.length + [D.int (numAt C j)].length≤4294967296:=by
    simp only [List.length_cons,List.length_nil]; omega
   rw [List.drop_eq_getElem_cons (show j<(List.range C.length).length by simpa using hjC),List.getElem_range,List.filter_cons]
   simp only [h1,hn,decide_true,cond_true,Int.natCast_nonneg,and_self,if_true,Int.toNat_natCast,Z82,c_Z82,g1,g2,r1,Option.bind_some,nums_at hjC,if_pos h4,succ_wrap (show j<4611686018427387904 by omega)]
   cases hq:at2 L i j with
   | true=>
    simp only [cond_true,if_true]
    rw [ih (j + 1) _ (by omega) (by simp; omega),List.map_cons,List.append_assoc]
    rfl
   | false=>
    simp only [cond_false]
    rw [ih (j + 1) _ (by omega) (by omega)]
    rfl
 have h':Z83 (nums C) A L i (nums C) C.length 0 []=_:=key C.length 0 [] (by omega) (by simp)
 simp only [Z85,c_Z85,has_eq,h2,Option.bind_some,Bool.not_true,cond_false,h.ord,indexOf_eq C R _ (show C.length≤100000 by omega),h.fi,Z84,c_Z84,hn,h',List.drop_zero,List.nil_append]
 rfl
end
theorem path_props {n t l:Nat} {A:List D}:∀ {q:List Nat} {p:Nat},PathTo n t l A p q→(∀ x ∈ q,l≤x∧x<n)∧q ≠ []∧q.getLast?=some t∧(∀ j,j + 1<(p :: q).length→at2 A ((p :: q).getD j 0) ((p :: q).getD (j + 1) 0)=true)
 | [],p,h=>h.elim
 | [k],p,h=>by
  obtain ⟨h1,h2,h3,h4⟩:=h
  have h4':k=t:=h4
  refine ⟨fun x hx=>?_,by simp,by simp [h4'],fun j hj=>?_⟩
  ·simp at hx; subst hx; exact ⟨h1,h2⟩
  ·have:j=0:=by simp at hj; omega
   subst this; exact h3
 | k :: k2 :: q,p,h=>by
  obtain ⟨h1,h2,h3,h4⟩:=h
  have h4':k ≠ t∧PathTo n t l A k (k2 :: q):=h4
  obtain ⟨g1,g2,g3,g4⟩:=path_props h4'.2
  refine ⟨fun x hx=>?_,by simp,by rw [← g3]; simp,fun j hj=>?_⟩
  ·rcases List.mem_cons.1 hx with rfl | hx
   ·exact ⟨h1,h2⟩
   ·exact g1 x hx
  ·cases j with
   | zero=>exact h3
   | succ j=>exact g4 j (by simpa using hj)
theorem path_later {C R A L:List D} (hE:∀ a b,at2 A a b=true ↔ edge C R a b) (hL:Later C.length (edge C R) L) {t l:Nat}:∀ {q:List Nat} {p:Nat},PathTo C.length t l A p q→at2 L p t=true
 | [],p,h=>h.elim
 | [k],p,h=>by
  obtain ⟨_,_,h1,h2⟩:=h
  have h2':k=t:=h2
  subst h2'
  exact hL.base _ _ ((hE _ _).1 h1)
 | k :: k2 :: q,p,h=>by
  obtain ⟨_,_,h1,h2⟩:=h
  have h2':k ≠ t∧PathTo C.length t l A k (k2 :: q):=h2
  exact hL.trans _ _ _ (hL.base _ _ ((hE _ _).1 h1)) (path_later hE hL h2'.2)
theorem chain_found {C R A L:List D} {a b:Int} {i k:Nat} (h:Two C R A L a b i k):∃ q,Z64 C R a b=some (q,at2 L i k,true)∧(at2 L i k=true→∃ p:List Nat,q=(i :: p).map (fun x=>D.int (numAt C x))∧PathTo C.length k 0 A i p∧p.length≤100):=by
 have h1:hasB C R a=true:=by
  have:=h.hi
  simp only [hasB,h.v,h.fi,Bool.true_and,decide_eq_true_eq]; omega
 have h2:hasB C R b=true:=by
  have:=h.hk
  simp only [hasB,h.v,h.fk,Bool.true_and,decide_eq_true_eq]; omega
 have hC:=h.hC
 have hi:=h.hi
 simp only [Z64,c_Z64,has_eq,h1,h2,Option.bind_some,Bool.not_true,cond_false,h.ord,indexOf_eq C R _ (show C.length≤100000 by omega),h.fi,h.fk]
 rcases chain_eq C.length k 0 i A (nums C) L hC h.sq (by simp [nums]) h.hi h.hk (by omega) with ⟨e1,e2⟩ | ⟨p,e1,e2,e3⟩
 ·have e1':Z61 (nums C) A L i k 0=_:=e1
  have hn0:Z63 (nums C) A L []=some []:=by
   have:=numbered_eq C A L [] (by omega) (by simp) (fun x hx=>by cases hx)
   simpa using this
  have hno:at2 L i k=false:=by
   cases hq:at2 L i k with
   | false=>rfl
   | true=>
    exfalso
    have first:∀ a b,at2 L a b=true→∃ k,edge C R a k∧(k=b ∨ at2 L k b=true):=by
     refine h.la.min (fun a b=>∃ k,edge C R a k∧(k=b ∨ at2 L k b=true)) (fun a b c h1 h2=>?_) (fun a b h=>⟨b,h,.inl rfl⟩)
     obtain ⟨k,k1,k2⟩:=h1
     obtain ⟨m,m1,m2⟩:=h2
     have hbc:at2 L b c=true:=by
      rcases m2 with rfl | m2
      ·exact h.la.base _ _ m1
      ·exact h.la.trans _ _ _ (h.la.base _ _ m1) m2
     rcases k2 with rfl | k2
     ·exact ⟨k,k1,.inr hbc⟩
     ·exact ⟨k,k1,.inr (h.la.trans _ _ _ k2 hbc)⟩
    have back:∀ x y,at2 L x y=true→(∃ m,RD C.length k 0 A m y)→∃ m,RD C.length k 0 A m x:=by
     refine h.la.min (fun x y=>(∃ m,RD C.length k 0 A m y)→∃ m,RD C.length k 0 A m x) (fun x y z h1 h2 g=>h1 (h2 g)) (fun x y he g=>?_)
     obtain ⟨m,hm⟩:=g
     have lt:=edge_lt h.v he
     exact ⟨m + 1,.inr ⟨Nat.zero_le _,lt.1,y,Nat.zero_le _,lt.2.1,(h.ab _ _).2 he,hm⟩⟩
    obtain ⟨c,c1,c2⟩:=first i k hq
    have lt:=edge_lt h.v c1
    have hrd:∃ m,RD C.length k 0 A m c:=by
     rcases c2 with rfl | c2
     ·exact ⟨0,rfl⟩
     ·exact back c k c2 ⟨0,rfl⟩
    obtain ⟨m,hm⟩:=hrd
    exact e2 c (Nat.zero_le _) lt.2.1 ((h.ab _ _).2 c1) m hm
  simp only [e1',Option.bind_some,Sum.elim_inl,hn0,hno]
  exact ⟨_,rfl,fun h=>by cases h⟩
 ·have e1':Z61 (nums C) A L i k 0=_:=e1
  obtain ⟨p1,p2,p3,p4⟩:=path_props e2
  have hl:=path_later h.ab h.la e2
  have hnum:=numbered_eq C A L (i :: p) (by omega) (by simp; omega) (fun x hx=>by
   rcases List.mem_cons.1 hx with rfl | hx
   ·exact h.hi
   ·exact (p1 x hx).2)
  have hlen:1≤(D.int (i:Nat) :: p.map (fun i=>D.int (i:Nat))).length:=by simp
  rw [List.map_cons] at hnum
  simp only [e1',Option.bind_some,Sum.elim_inr,hnum,if_pos hlen,hl]
  exact ⟨_,rfl,fun _=>⟨p,rfl,e2,e3⟩⟩
theorem chain_no {C R:List D} {a b:Int} (h:(hasB C R a && hasB C R b)=false):Z64 C R a b=some ([],false,false):=by
 unfold Z64 c_Z64
 simp only [has_eq,Option.bind_some]
 cases h1:hasB C R a with
 | false=>rfl
 | true=>
  rw [h1,Bool.true_and] at h
  simp only [h,Option.bind_some,Bool.not_true,cond_false,Bool.not_false,cond_true]
theorem pure_FnOrder (x0:List D) (h0:x0.length≤maxLen) (w0:∀ d ∈ x0,wfD (.int .u8) d):Z91 x0=some true:=by
 simp only [Z91,c_Z91,Z0,c_Z0,Option.bind_some]
 by_cases hb:(65536:Int)<x0.length
 ·simp only [hb,decide_true,cond_true]
 ·have hc:okC x0:=⟨by omega,fun d hd=>okB (w0 d hd)⟩
  obtain ⟨⟨C,R,a,b⟩,d1,d2,d3⟩:=draw_tot x0 hc
  simp only at d2 d3
  simp only [hb,decide_false,cond_false,d1,Option.bind_some]
  cases hh:(hasB C R a && hasB C R b) with
  | false=>
   simp only [chain_no hh,isLater_no hh,sLater_no (by omega) hh,Option.bind_some,beq_self_eq_true,Bool.not_true,cond_false,Bool.not_false,cond_true]
   simp
  | true=>
   rw [Bool.and_eq_true] at hh
   obtain ⟨A,L,i,k,h⟩:=two_of hh.1 hh.2
   obtain ⟨q,q1,q2⟩:=chain_found h
   have hC:=h.hC
   have lenIf:∀ p,(numsIf C p).length≤100000:=fun p=>by
    unfold numsIf
    rw [List.length_map]
    exact Nat.le_trans (List.length_filter_le _ _) (by simp; omega)
   obtain ⟨u,u1,u2⟩:=has_mem (numsIf C (fun x=>at2 L x k)) a (lenIf _)
   obtain ⟨v,v1,v2⟩:=has_mem (numsIf C (fun x=>at2 L i x)) b (lenIf _)
   have hu:u=at2 L i k:=by
    rw [← h.ni,numsIf_mem h.v h.hi] at u2
    cases hq:at2 L i k with
    | true=>exact u2.2 hq
    | false=>
     cases hu:u with
     | false=>rfl
     | true=>rw [hu] at u2; rw [← hq]; exact (u2.1 rfl).symm
   have hv:v=at2 L i k:=by
    rw [← h.nk,numsIf_mem h.v h.hk] at v2
    cases hq:at2 L i k with
    | true=>exact v2.2 hq
    | false=>
     cases hv:v with
     | false=>rfl
     | true=>rw [hv] at v2; rw [← hq]; exact (v2.1 rfl).symm
   simp only [q1,isLater_eq h,sLater_eq h,later_list h,earlier_list h,Option.bind_some,beq_self_eq_true,Bool.not_true,cond_false,u1,v1,hu,hv]
   cases hq:at2 L i k with
   | false=>rfl
   | true=>
    obtain ⟨p,rfl,p1,p2⟩:=q2 hq
    obtain ⟨r1,r2,r3,r4⟩:=path_props p1
    have hml:((i :: p).map (fun x=>D.int (numAt C x))).length=p.length + 1:=by simp
    have hat:∀ j,j<p.length + 1→(((i :: p).map (fun x=>D.int (numAt C x))).getD j (.int 0)).toInt=numAt C ((i :: p).getD j 0):=fun j hj=>by
     rw [List.getD_eq_getElem?_getD,List.getElem?_map,List.getD_eq_getElem?_getD,List.getElem?_eq_getElem (by simpa using hj)]; rfl
    have hp1:1≤p.length:=by
     cases p with
     | nil=>exact absurd rfl r2
     | cons x p=>simp
    have key:∀ (m j:Nat),j + m=p.length + 1→1≤j→Z90 a b j C R ((i :: p).map (fun x=>D.int (numAt C x)))=some (.inr (a,b,(i :: p).map (fun x=>D.int (numAt C x)))):=by
     intro m
     induction m with
     | zero=>
      intro j hj h1
      rw [Z90_fx]
      unfold c_Z90
      have g1:¬ (j:Int)<((p.length + 1:Nat):Int):=by omega
      simp only [hml,g1,decide_false,cond_false]
     | succ m ih=>
      intro j hj h1
      rw [Z90_fx]
      unfold c_Z90
      have g1:(j:Int)<((p.length + 1:Nat):Int):=by omega
      have g2:((j - 1:Nat):Int)<((p.length + 1:Nat):Int):=by omega
      have g3:j - 1 + 1≤p.length + 1:=by omega
      have g4:j + 1≤p.length + 1:=by omega
      have e:=(h.ab _ _).1 (r4 (j - 1) (by simp; omega))
      rw [show j - 1 + 1=j by omega] at e
      have hrel:=edge_rel h.v e
      simp only [hml,g1,g2,pred_wrap (show j<4611686018427387904 by omega) (show 0<j by omega),decide_true,cond_true,Int.natCast_nonneg,and_self,if_true,Int.toNat_natCast,if_pos g3,if_pos g4,hat (j - 1) (by omega),hat j (by omega),hrel,Option.bind_some,Bool.not_true,cond_false,succ_wrap (show j<4611686018427387904 by omega),ih (j + 1) (by omega) (by omega)]
    have k1:Z90 a b 1 C R ((i :: p).map (fun x=>D.int (numAt C x)))=_:=key p.length 1 (by omega) (by omega)
    have c1:(1:Int)<((p.length + 1:Nat):Int):=by omega
    have c2:(0:Int)<((p.length + 1:Nat):Int):=by omega
    have c3:0 + 1≤p.length + 1:=by omega
    have c4:(p.length:Int)<((p.length + 1:Nat):Int):=by omega
    have c5:p.length + 1≤p.length + 1:=by omega
    have wl:IntKind.i64.wrap (((p.length + 1:Nat):Int) - 1)=(p.length:Int):=by
     rw [wrap_id (by omega) (by omega)]; omega
    have hlast:(i :: p).getD p.length 0=k:=by
     rw [List.getLast?_eq_getElem?] at r3
     cases hq:p.length with
     | zero=>omega
     | succ n=>
      rw [hq] at r3
      show p.getD n 0=k
      rw [List.getD_eq_getElem?_getD,show n=n + 1 - 1 by omega,r3]
      rfl
    simp only [Bool.not_true,cond_false,k1,Option.bind_some,Sum.elim_inr,hml,c1,c2,c4,decide_true,cond_true,Int.le_refl,Int.natCast_nonneg,and_self,if_true,Int.toNat_zero,Int.toNat_natCast,if_pos c3,if_pos c5,wl,hat 0 (by omega),hat p.length (by omega),hlast,h.nk]
    have:numAt C ((i :: p).getD 0 0)=a:=h.ni
    simp [this,h.ni]
end Go.Proofs.Ytdoaceeakjbgfaa
