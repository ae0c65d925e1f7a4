/- The law FnPlaces over plain values. No condition beside those of the statement. -/
import Derived.Test.YtdoaceeakjbgfaaClMFnPlaces
import Derived.Test.YtdoaceeakjbgfaaRaiU5
set_option linter.unusedVariables false
set_option linter.unusedSimpArgs false
set_option maxRecDepth 100000
namespace Go.Proofs.Ytdoaceeakjbgfaa
open Go Go.Rai
theorem Z5_fx (x0 x1 x2:Int) (x3:List D) (x4 x5:Int) (x6:List D):Z5 x0 x1 x2 x3 x4 x5 x6=c_Z5 Z5 x0 x1 x2 x3 x4 x5 x6 some:=
 Qe (N:=fun n (p:Int×Int×Int×List D×Int×Int×List D)=>n_Z5 n p.1 p.2.1 p.2.2.1 p.2.2.2.1 p.2.2.2.2.1 p.2.2.2.2.2.1 p.2.2.2.2.2.2) (C:=fun f p=>c_Z5 (fun x0 x1 x2 x3 x4 x5 x6=>f (x0,x1,x2,x3,x4,x5,x6)) p.1 p.2.1 p.2.2.1 p.2.2.2.1 p.2.2.2.2.1 p.2.2.2.2.2.1 p.2.2.2.2.2.2 some) (fun _=>rfl) (fun _ _=>rfl) (fun hD f fs h p=>by
  unfold c_Z5
  repeat' first | exact Lim.const hD | exact h _ | apply Lim.ite | apply Lim.cond | apply Lim.bind hD | apply Lim.sum | intro _) (x0,x1,x2,x3,x4,x5,x6)
theorem Z8_fx (x0:Int) (x1 x2:List D) (x3 x4:Int):Z8 x0 x1 x2 x3 x4=c_Z8 Z8 x0 x1 x2 x3 x4 some:=
 Qe (N:=fun n (p:Int×List D×List D×Int×Int)=>n_Z8 n p.1 p.2.1 p.2.2.1 p.2.2.2.1 p.2.2.2.2) (C:=fun f p=>c_Z8 (fun x0 x1 x2 x3 x4=>f (x0,x1,x2,x3,x4)) p.1 p.2.1 p.2.2.1 p.2.2.2.1 p.2.2.2.2 some) (fun _=>rfl) (fun _ _=>rfl) (fun hD f fs h p=>by
  unfold c_Z8
  repeat' first | exact Lim.const hD | exact h _ | apply Lim.ite | apply Lim.cond | apply Lim.bind hD | apply Lim.sum | intro _) (x0,x1,x2,x3,x4)
theorem Z11_fx (x0:Int) (x1 x2:List D) (x3 x4:Int):Z11 x0 x1 x2 x3 x4=c_Z11 Z11 x0 x1 x2 x3 x4 some:=
 Qe (N:=fun n (p:Int×List D×List D×Int×Int)=>n_Z11 n p.1 p.2.1 p.2.2.1 p.2.2.2.1 p.2.2.2.2) (C:=fun f p=>c_Z11 (fun x0 x1 x2 x3 x4=>f (x0,x1,x2,x3,x4)) p.1 p.2.1 p.2.2.1 p.2.2.2.1 p.2.2.2.2 some) (fun _=>rfl) (fun _ _=>rfl) (fun hD f fs h p=>by
  unfold c_Z11
  repeat' first | exact Lim.const hD | exact h _ | apply Lim.ite | apply Lim.cond | apply Lim.bind hD | apply Lim.sum | intro _) (x0,x1,x2,x3,x4)
theorem Z13_fx (x0 x1:Int) (x2:List D) (x3 x4:Int) (x5 x6:List D):Z13 x0 x1 x2 x3 x4 x5 x6=c_Z13 Z13 x0 x1 x2 x3 x4 x5 x6 some:=
 Qe (N:=fun n (p:Int×Int×List D×Int×Int×List D×List D)=>n_Z13 n p.1 p.2.1 p.2.2.1 p.2.2.2.1 p.2.2.2.2.1 p.2.2.2.2.2.1 p.2.2.2.2.2.2) (C:=fun f p=>c_Z13 (fun x0 x1 x2 x3 x4 x5 x6=>f (x0,x1,x2,x3,x4,x5,x6)) p.1 p.2.1 p.2.2.1 p.2.2.2.1 p.2.2.2.2.1 p.2.2.2.2.2.1 p.2.2.2.2.2.2 some) (fun _=>rfl) (fun _ _=>rfl) (fun hD f fs h p=>by
  unfold c_Z13
  repeat' first | exact Lim.const hD | exact h _ | apply Lim.ite | apply Lim.cond | apply Lim.bind hD | apply Lim.sum | intro _) (x0,x1,x2,x3,x4,x5,x6)
theorem Z14_fx (x0 x1:Int) (x2:List D) (x3 x4:Int) (x5:List D):Z14 x0 x1 x2 x3 x4 x5=c_Z14 Z14 x0 x1 x2 x3 x4 x5 some:=
 Qe (N:=fun n (p:Int×Int×List D×Int×Int×List D)=>n_Z14 n p.1 p.2.1 p.2.2.1 p.2.2.2.1 p.2.2.2.2.1 p.2.2.2.2.2) (C:=fun f p=>c_Z14 (fun x0 x1 x2 x3 x4 x5=>f (x0,x1,x2,x3,x4,x5)) p.1 p.2.1 p.2.2.1 p.2.2.2.1 p.2.2.2.2.1 p.2.2.2.2.2 some) (fun _=>rfl) (fun _ _=>rfl) (fun hD f fs h p=>by
  unfold c_Z14
  repeat' first | exact Lim.const hD | exact h _ | apply Lim.ite | apply Lim.cond | apply Lim.bind hD | apply Lim.sum | intro _) (x0,x1,x2,x3,x4,x5)
theorem Z17_fx (x0:Int) (x1:List D) (x2 x3:Int) (x4 x5:List D):Z17 x0 x1 x2 x3 x4 x5=c_Z17 Z17 x0 x1 x2 x3 x4 x5 some:=
 Qe (N:=fun n (p:Int×List D×Int×Int×List D×List D)=>n_Z17 n p.1 p.2.1 p.2.2.1 p.2.2.2.1 p.2.2.2.2.1 p.2.2.2.2.2) (C:=fun f p=>c_Z17 (fun x0 x1 x2 x3 x4 x5=>f (x0,x1,x2,x3,x4,x5)) p.1 p.2.1 p.2.2.1 p.2.2.2.1 p.2.2.2.2.1 p.2.2.2.2.2 some) (fun _=>rfl) (fun _ _=>rfl) (fun hD f fs h p=>by
  unfold c_Z17
  repeat' first | exact Lim.const hD | exact h _ | apply Lim.ite | apply Lim.cond | apply Lim.bind hD | apply Lim.sum | intro _) (x0,x1,x2,x3,x4,x5)
theorem Z18_fx (x0:Int) (x1:List D) (x2 x3:Int) (x4 x5:List D):Z18 x0 x1 x2 x3 x4 x5=c_Z18 Z18 x0 x1 x2 x3 x4 x5 some:=
 Qe (N:=fun n (p:Int×List D×Int×Int×List D×List D)=>n_Z18 n p.1 p.2.1 p.2.2.1 p.2.2.2.1 p.2.2.2.2.1 p.2.2.2.2.2) (C:=fun f p=>c_Z18 (fun x0 x1 x2 x3 x4 x5=>f (x0,x1,x2,x3,x4,x5)) p.1 p.2.1 p.2.2.1 p.2.2.2.1 p.2.2.2.2.1 p.2.2.2.2.2 some) (fun _=>rfl) (fun _ _=>rfl) (fun hD f fs h p=>by
  unfold c_Z18
  repeat' first | exact Lim.const hD | exact h _ | apply Lim.ite | apply Lim.cond | apply Lim.bind hD | apply Lim.sum | intro _) (x0,x1,x2,x3,x4,x5)
theorem Z19_fx (x0 x1:Int) (x2:List D) (x3 x4:Int) (x5 x6:List D):Z19 x0 x1 x2 x3 x4 x5 x6=c_Z19 Z19 x0 x1 x2 x3 x4 x5 x6 some:=
 Qe (N:=fun n (p:Int×Int×List D×Int×Int×List D×List D)=>n_Z19 n p.1 p.2.1 p.2.2.1 p.2.2.2.1 p.2.2.2.2.1 p.2.2.2.2.2.1 p.2.2.2.2.2.2) (C:=fun f p=>c_Z19 (fun x0 x1 x2 x3 x4 x5 x6=>f (x0,x1,x2,x3,x4,x5,x6)) p.1 p.2.1 p.2.2.1 p.2.2.2.1 p.2.2.2.2.1 p.2.2.2.2.2.1 p.2.2.2.2.2.2 some) (fun _=>rfl) (fun _ _=>rfl) (fun hD f fs h p=>by
  unfold c_Z19
  repeat' first | exact Lim.const hD | exact h _ | apply Lim.ite | apply Lim.cond | apply Lim.bind hD | apply Lim.sum | intro _) (x0,x1,x2,x3,x4,x5,x6)
theorem Z20_fx (x0 x1:Int) (x2:List D) (x3 x4:Int) (x5 x6:List D):Z20 x0 x1 x2 x3 x4 x5 x6=c_Z20 Z20 x0 x1 x2 x3 x4 x5 x6 some:=
 Qe (N:=fun n (p:Int×Int×List D×Int×Int×List D×List D)=>n_Z20 n p.1 p.2.1 p.2.2.1 p.2.2.2.1 p.2.2.2.2.1 p.2.2.2.2.2.1 p.2.2.2.2.2.2) (C:=fun f p=>c_Z20 (fun x0 x1 x2 x3 x4 x5 x6=>f (x0,x1,x2,x3,x4,x5,x6)) p.1 p.2.1 p.2.2.1 p.2.2.2.1 p.2.2.2.2.1 p.2.2.2.2.2.1 p.2.2.2.2.2.2 some) (fun _=>rfl) (fun _ _=>rfl) (fun hD f fs h p=>by
  unfold c_Z20
  repeat' first | exact Lim.const hD | exact h _ | apply Lim.ite | apply Lim.cond | apply Lim.bind hD | apply Lim.sum | intro _) (x0,x1,x2,x3,x4,x5,x6)
theorem Z21_fx (x0:Int) (x1:List D) (x2 x3:Int) (x4 x5:List D):Z21 x0 x1 x2 x3 x4 x5=c_Z21 Z21 x0 x1 x2 x3 x4 x5 some:=
 Qe (N:=fun n (p:Int×List D×Int×Int×List D×List D)=>n_Z21 n p.1 p.2.1 p.2.2.1 p.2.2.2.1 p.2.2.2.2.1 p.2.2.2.2.2) (C:=fun f p=>c_Z21 (fun x0 x1 x2 x3 x4 x5=>f (x0,x1,x2,x3,x4,x5)) p.1 p.2.1 p.2.2.1 p.2.2.2.1 p.2.2.2.2.1 p.2.2.2.2.2 some) (fun _=>rfl) (fun _ _=>rfl) (fun hD f fs h p=>by
  unfold c_Z21
  repeat' first | exact Lim.const hD | exact h _ | apply Lim.ite | apply Lim.cond | apply Lim.bind hD | apply Lim.sum | intro _) (x0,x1,x2,x3,x4,x5)
theorem Z22_fx (x0:Int) (x1:List D) (x2 x3:Int) (x4 x5:List D):Z22 x0 x1 x2 x3 x4 x5=c_Z22 Z22 x0 x1 x2 x3 x4 x5 some:=
 Qe (N:=fun n (p:Int×List D×Int×Int×List D×List D)=>n_Z22 n p.1 p.2.1 p.2.2.1 p.2.2.2.1 p.2.2.2.2.1 p.2.2.2.2.2) (C:=fun f p=>c_Z22 (fun x0 x1 x2 x3 x4 x5=>f (x0,x1,x2,x3,x4,x5)) p.1 p.2.1 p.2.2.1 p.2.2.2.1 p.2.2.2.2.1 p.2.2.2.2.2 some) (fun _=>rfl) (fun _ _=>rfl) (fun hD f fs h p=>by
  unfold c_Z22
  repeat' first | exact Lim.const hD | exact h _ | apply Lim.ite | apply Lim.cond | apply Lim.bind hD | apply Lim.sum | intro _) (x0,x1,x2,x3,x4,x5)
theorem Z24_fx (x0 x1:Int) (x2 x3:List D):Z24 x0 x1 x2 x3=c_Z24 Z24 x0 x1 x2 x3 some:=
 Qe (N:=fun n (p:Int×Int×List D×List D)=>n_Z24 n p.1 p.2.1 p.2.2.1 p.2.2.2) (C:=fun f p=>c_Z24 (fun x0 x1 x2 x3=>f (x0,x1,x2,x3)) p.1 p.2.1 p.2.2.1 p.2.2.2 some) (fun _=>rfl) (fun _ _=>rfl) (fun hD f fs h p=>by
  unfold c_Z24
  repeat' first | exact Lim.const hD | exact h _ | apply Lim.ite | apply Lim.cond | apply Lim.bind hD | apply Lim.sum | intro _) (x0,x1,x2,x3)
theorem Z26_fx (x0:Int) (x1 x2 x3:List D):Z26 x0 x1 x2 x3=c_Z26 Z26 x0 x1 x2 x3 some:=
 Qe (N:=fun n (p:Int×List D×List D×List D)=>n_Z26 n p.1 p.2.1 p.2.2.1 p.2.2.2) (C:=fun f p=>c_Z26 (fun x0 x1 x2 x3=>f (x0,x1,x2,x3)) p.1 p.2.1 p.2.2.1 p.2.2.2 some) (fun _=>rfl) (fun _ _=>rfl) (fun hD f fs h p=>by
  unfold c_Z26
  repeat' first | exact Lim.const hD | exact h _ | apply Lim.ite | apply Lim.cond | apply Lim.bind hD | apply Lim.sum | intro _) (x0,x1,x2,x3)
theorem Z27_fx (x0 x1:Int) (x2:List D):Z27 x0 x1 x2=c_Z27 Z27 x0 x1 x2 some:=
 Qe (N:=fun n (p:Int×Int×List D)=>n_Z27 n p.1 p.2.1 p.2.2) (C:=fun f p=>c_Z27 (fun x0 x1 x2=>f (x0,x1,x2)) p.1 p.2.1 p.2.2 some) (fun _=>rfl) (fun _ _=>rfl) (fun hD f fs h p=>by
  unfold c_Z27
  repeat' first | exact Lim.const hD | exact h _ | apply Lim.ite | apply Lim.cond | apply Lim.bind hD | apply Lim.sum | intro _) (x0,x1,x2)
theorem Z28_fx (x0:Int) (x1:List D):Z28 x0 x1=c_Z28 Z28 x0 x1 some:=
 Qe (N:=fun n (p:Int×List D)=>n_Z28 n p.1 p.2) (C:=fun f p=>c_Z28 (fun x0 x1=>f (x0,x1)) p.1 p.2 some) (fun _=>rfl) (fun _ _=>rfl) (fun hD f fs h p=>by
  unfold c_Z28
  repeat' first | exact Lim.const hD | exact h _ | apply Lim.ite | apply Lim.cond | apply Lim.bind hD | apply Lim.sum | intro _) (x0,x1)
theorem Z31_fx (x0:Int) (x1:List D):Z31 x0 x1=c_Z31 Z31 x0 x1 some:=
 Qe (N:=fun n (p:Int×List D)=>n_Z31 n p.1 p.2) (C:=fun f p=>c_Z31 (fun x0 x1=>f (x0,x1)) p.1 p.2 some) (fun _=>rfl) (fun _ _=>rfl) (fun hD f fs h p=>by
  unfold c_Z31
  repeat' first | exact Lim.const hD | exact h _ | apply Lim.ite | apply Lim.cond | apply Lim.bind hD | apply Lim.sum | intro _) (x0,x1)
theorem Z40_fx (x0:List D) (x1 x2:Int) (x3 x4:List D):Z40 x0 x1 x2 x3 x4=c_Z40 Z40 x0 x1 x2 x3 x4 some:=
 Qe (N:=fun n (p:List D×Int×Int×List D×List D)=>n_Z40 n p.1 p.2.1 p.2.2.1 p.2.2.2.1 p.2.2.2.2) (C:=fun f p=>c_Z40 (fun x0 x1 x2 x3 x4=>f (x0,x1,x2,x3,x4)) p.1 p.2.1 p.2.2.1 p.2.2.2.1 p.2.2.2.2 some) (fun _=>rfl) (fun _ _=>rfl) (fun hD f fs h p=>by
  unfold c_Z40
  repeat' first | exact Lim.const hD | exact h _ | apply Lim.ite | apply Lim.cond | apply Lim.bind hD | apply Lim.sum | intro _) (x0,x1,x2,x3,x4)
theorem Z42_fx (x0:List D) (x1 x2 x3:Int):Z42 x0 x1 x2 x3=c_Z42 Z42 x0 x1 x2 x3 some:=
 Qe (N:=fun n (p:List D×Int×Int×Int)=>n_Z42 n p.1 p.2.1 p.2.2.1 p.2.2.2) (C:=fun f p=>c_Z42 (fun x0 x1 x2 x3=>f (x0,x1,x2,x3)) p.1 p.2.1 p.2.2.1 p.2.2.2 some) (fun _=>rfl) (fun _ _=>rfl) (fun hD f fs h p=>by
  unfold c_Z42
  repeat' first | exact Lim.const hD | exact h _ | apply Lim.ite | apply Lim.cond | apply Lim.bind hD | apply Lim.sum | intro _) (x0,x1,x2,x3)
theorem Z50_fx (x0:List D) (x1 x2:Int) (x3 x4:List D):Z50 x0 x1 x2 x3 x4=c_Z50 Z50 x0 x1 x2 x3 x4 some:=
 Qe (N:=fun n (p:List D×Int×Int×List D×List D)=>n_Z50 n p.1 p.2.1 p.2.2.1 p.2.2.2.1 p.2.2.2.2) (C:=fun f p=>c_Z50 (fun x0 x1 x2 x3 x4=>f (x0,x1,x2,x3,x4)) p.1 p.2.1 p.2.2.1 p.2.2.2.1 p.2.2.2.2 some) (fun _=>rfl) (fun _ _=>rfl) (fun hD f fs h p=>by
  unfold c_Z50
  repeat' first | exact Lim.const hD | exact h _ | apply Lim.ite | apply Lim.cond | apply Lim.bind hD | apply Lim.sum | intro _) (x0,x1,x2,x3,x4)
theorem Z52_fx (x0 x1 x2:Int) (x3:List D):Z52 x0 x1 x2 x3=c_Z52 Z52 x0 x1 x2 x3 some:=
 Qe (N:=fun n (p:Int×Int×Int×List D)=>n_Z52 n p.1 p.2.1 p.2.2.1 p.2.2.2) (C:=fun f p=>c_Z52 (fun x0 x1 x2 x3=>f (x0,x1,x2,x3)) p.1 p.2.1 p.2.2.1 p.2.2.2 some) (fun _=>rfl) (fun _ _=>rfl) (fun hD f fs h p=>by
  unfold c_Z52
  repeat' first | exact Lim.const hD | exact h _ | apply Lim.ite | apply Lim.cond | apply Lim.bind hD | apply Lim.sum | intro _) (x0,x1,x2,x3)
theorem Z54_fx (x0:Int) (x1:List D) (x2 x3:Int) (x4 x5 x6 x7 x8:List D):Z54 x0 x1 x2 x3 x4 x5 x6 x7 x8=c_Z54 Z54 x0 x1 x2 x3 x4 x5 x6 x7 x8 some:=
 Qe (N:=fun n (p:Int×List D×Int×Int×List D×List D×List D×List D×List D)=>n_Z54 n p.1 p.2.1 p.2.2.1 p.2.2.2.1 p.2.2.2.2.1 p.2.2.2.2.2.1 p.2.2.2.2.2.2.1 p.2.2.2.2.2.2.2.1 p.2.2.2.2.2.2.2.2) (C:=fun f p=>c_Z54 (fun x0 x1 x2 x3 x4 x5 x6 x7 x8=>f (x0,x1,x2,x3,x4,x5,x6,x7,x8)) p.1 p.2.1 p.2.2.1 p.2.2.2.1 p.2.2.2.2.1 p.2.2.2.2.2.1 p.2.2.2.2.2.2.1 p.2.2.2.2.2.2.2.1 p.2.2.2.2.2.2.2.2 some) (fun _=>rfl) (fun _ _=>rfl) (fun hD f fs h p=>by
  unfold c_Z54
  repeat' first | exact Lim.const hD | exact h _ | apply Lim.ite | apply Lim.cond | apply Lim.bind hD | apply Lim.sum | intro _) (x0,x1,x2,x3,x4,x5,x6,x7,x8)
theorem Z55_fx (x0:Int) (x1:List D) (x2 x3:Int) (x4 x5 x6 x7 x8:List D):Z55 x0 x1 x2 x3 x4 x5 x6 x7 x8=c_Z55 Z55 x0 x1 x2 x3 x4 x5 x6 x7 x8 some:=
 Qe (N:=fun n (p:Int×List D×Int×Int×List D×List D×List D×List D×List D)=>n_Z55 n p.1 p.2.1 p.2.2.1 p.2.2.2.1 p.2.2.2.2.1 p.2.2.2.2.2.1 p.2.2.2.2.2.2.1 p.2.2.2.2.2.2.2.1 p.2.2.2.2.2.2.2.2) (C:=fun f p=>c_Z55 (fun x0 x1 x2 x3 x4 x5 x6 x7 x8=>f (x0,x1,x2,x3,x4,x5,x6,x7,x8)) p.1 p.2.1 p.2.2.1 p.2.2.2.1 p.2.2.2.2.1 p.2.2.2.2.2.1 p.2.2.2.2.2.2.1 p.2.2.2.2.2.2.2.1 p.2.2.2.2.2.2.2.2 some) (fun _=>rfl) (fun _ _=>rfl) (fun hD f fs h p=>by
  unfold c_Z55
  repeat' first | exact Lim.const hD | exact h _ | apply Lim.ite | apply Lim.cond | apply Lim.bind hD | apply Lim.sum | intro _) (x0,x1,x2,x3,x4,x5,x6,x7,x8)
theorem Z56_fx (x0:Int) (x1:List D) (x2 x3:Int) (x4 x5 x6 x7 x8:List D):Z56 x0 x1 x2 x3 x4 x5 x6 x7 x8=c_Z56 Z56 x0 x1 x2 x3 x4 x5 x6 x7 x8 some:=
 Qe (N:=fun n (p:Int×List D×Int×Int×List D×List D×List D×List D×List D)=>n_Z56 n p.1 p.2.1 p.2.2.1 p.2.2.2.1 p.2.2.2.2.1 p.2.2.2.2.2.1 p.2.2.2.2.2.2.1 p.2.2.2.2.2.2.2.1 p.2.2.2.2.2.2.2.2) (C:=fun f p=>c_Z56 (fun x0 x1 x2 x3 x4 x5 x6 x7 x8=>f (x0,x1,x2,x3,x4,x5,x6,x7,x8)) p.1 p.2.1 p.2.2.1 p.2.2.2.1 p.2.2.2.2.1 p.2.2.2.2.2.1 p.2.2.2.2.2.2.1 p.2.2.2.2.2.2.2.1 p.2.2.2.2.2.2.2.2 some) (fun _=>rfl) (fun _ _=>rfl) (fun hD f fs h p=>by
  unfold c_Z56
  repeat' first | exact Lim.const hD | exact h _ | apply Lim.ite | apply Lim.cond | apply Lim.bind hD | apply Lim.sum | intro _) (x0,x1,x2,x3,x4,x5,x6,x7,x8)
theorem Z57_fx (x0 x1 x2 x3 x4 x5 x6 x7 x8:Int) (x9 x10 x11:List D):Z57 x0 x1 x2 x3 x4 x5 x6 x7 x8 x9 x10 x11=c_Z57 Z57 x0 x1 x2 x3 x4 x5 x6 x7 x8 x9 x10 x11 some:=
 Qe (N:=fun n (p:Int×Int×Int×Int×Int×Int×Int×Int×Int×List D×List D×List D)=>n_Z57 n p.1 p.2.1 p.2.2.1 p.2.2.2.1 p.2.2.2.2.1 p.2.2.2.2.2.1 p.2.2.2.2.2.2.1 p.2.2.2.2.2.2.2.1 p.2.2.2.2.2.2.2.2.1 p.2.2.2.2.2.2.2.2.2.1 p.2.2.2.2.2.2.2.2.2.2.1 p.2.2.2.2.2.2.2.2.2.2.2) (C:=fun f p=>c_Z57 (fun x0 x1 x2 x3 x4 x5 x6 x7 x8 x9 x10 x11=>f (x0,x1,x2,x3,x4,x5,x6,x7,x8,x9,x10,x11)) p.1 p.2.1 p.2.2.1 p.2.2.2.1 p.2.2.2.2.1 p.2.2.2.2.2.1 p.2.2.2.2.2.2.1 p.2.2.2.2.2.2.2.1 p.2.2.2.2.2.2.2.2.1 p.2.2.2.2.2.2.2.2.2.1 p.2.2.2.2.2.2.2.2.2.2.1 p.2.2.2.2.2.2.2.2.2.2.2 some) (fun _=>rfl) (fun _ _=>rfl) (fun hD f fs h p=>by
  unfold c_Z57
  repeat' first | exact Lim.const hD | exact h _ | apply Lim.ite | apply Lim.cond | apply Lim.bind hD | apply Lim.sum | intro _) (x0,x1,x2,x3,x4,x5,x6,x7,x8,x9,x10,x11)
theorem Z58_fx (x0 x1 x2 x3 x4 x5:Int) (x6 x7 x8:List D):Z58 x0 x1 x2 x3 x4 x5 x6 x7 x8=c_Z58 Z58 x0 x1 x2 x3 x4 x5 x6 x7 x8 some:=
 Qe (N:=fun n (p:Int×Int×Int×Int×Int×Int×List D×List D×List D)=>n_Z58 n p.1 p.2.1 p.2.2.1 p.2.2.2.1 p.2.2.2.2.1 p.2.2.2.2.2.1 p.2.2.2.2.2.2.1 p.2.2.2.2.2.2.2.1 p.2.2.2.2.2.2.2.2) (C:=fun f p=>c_Z58 (fun x0 x1 x2 x3 x4 x5 x6 x7 x8=>f (x0,x1,x2,x3,x4,x5,x6,x7,x8)) p.1 p.2.1 p.2.2.1 p.2.2.2.1 p.2.2.2.2.1 p.2.2.2.2.2.1 p.2.2.2.2.2.2.1 p.2.2.2.2.2.2.2.1 p.2.2.2.2.2.2.2.2 some) (fun _=>rfl) (fun _ _=>rfl) (fun hD f fs h p=>by
  unfold c_Z58
  repeat' first | exact Lim.const hD | exact h _ | apply Lim.ite | apply Lim.cond | apply Lim.bind hD | apply Lim.sum | intro _) (x0,x1,x2,x3,x4,x5,x6,x7,x8)
theorem Z59_fx (x0 x1 x2:Int) (x3 x4 x5:List D):Z59 x0 x1 x2 x3 x4 x5=c_Z59 Z59 x0 x1 x2 x3 x4 x5 some:=
 Qe (N:=fun n (p:Int×Int×Int×List D×List D×List D)=>n_Z59 n p.1 p.2.1 p.2.2.1 p.2.2.2.1 p.2.2.2.2.1 p.2.2.2.2.2) (C:=fun f p=>c_Z59 (fun x0 x1 x2 x3 x4 x5=>f (x0,x1,x2,x3,x4,x5)) p.1 p.2.1 p.2.2.1 p.2.2.2.1 p.2.2.2.2.1 p.2.2.2.2.2 some) (fun _=>rfl) (fun _ _=>rfl) (fun hD f fs h p=>by
  unfold c_Z59
  repeat' first | exact Lim.const hD | exact h _ | apply Lim.ite | apply Lim.cond | apply Lim.bind hD | apply Lim.sum | intro _) (x0,x1,x2,x3,x4,x5)
theorem Z60_fx (x0:Int) (x1:List D) (x2 x3:Int) (x4 x5 x6 x7 x8:List D):Z60 x0 x1 x2 x3 x4 x5 x6 x7 x8=c_Z60 Z60 x0 x1 x2 x3 x4 x5 x6 x7 x8 some:=
 Qe (N:=fun n (p:Int×List D×Int×Int×List D×List D×List D×List D×List D)=>n_Z60 n p.1 p.2.1 p.2.2.1 p.2.2.2.1 p.2.2.2.2.1 p.2.2.2.2.2.1 p.2.2.2.2.2.2.1 p.2.2.2.2.2.2.2.1 p.2.2.2.2.2.2.2.2) (C:=fun f p=>c_Z60 (fun x0 x1 x2 x3 x4 x5 x6 x7 x8=>f (x0,x1,x2,x3,x4,x5,x6,x7,x8)) p.1 p.2.1 p.2.2.1 p.2.2.2.1 p.2.2.2.2.1 p.2.2.2.2.2.1 p.2.2.2.2.2.2.1 p.2.2.2.2.2.2.2.1 p.2.2.2.2.2.2.2.2 some) (fun _=>rfl) (fun _ _=>rfl) (fun hD f fs h p=>by
  unfold c_Z60
  repeat' first | exact Lim.const hD | exact h _ | apply Lim.ite | apply Lim.cond | apply Lim.bind hD | apply Lim.sum | intro _) (x0,x1,x2,x3,x4,x5,x6,x7,x8)
theorem Z63_fx (x0 x1 x2:Int) (x3 x4 x5:List D):Z63 x0 x1 x2 x3 x4 x5=c_Z63 Z63 x0 x1 x2 x3 x4 x5 some:=
 Qe (N:=fun n (p:Int×Int×Int×List D×List D×List D)=>n_Z63 n p.1 p.2.1 p.2.2.1 p.2.2.2.1 p.2.2.2.2.1 p.2.2.2.2.2) (C:=fun f p=>c_Z63 (fun x0 x1 x2 x3 x4 x5=>f (x0,x1,x2,x3,x4,x5)) p.1 p.2.1 p.2.2.1 p.2.2.2.1 p.2.2.2.2.1 p.2.2.2.2.2 some) (fun _=>rfl) (fun _ _=>rfl) (fun hD f fs h p=>by
  unfold c_Z63
  repeat' first | exact Lim.const hD | exact h _ | apply Lim.ite | apply Lim.cond | apply Lim.bind hD | apply Lim.sum | intro _) (x0,x1,x2,x3,x4,x5)
theorem Z65_fx (x0 x1 x2:List D) (x3 x4:Int):Z65 x0 x1 x2 x3 x4=c_Z65 Z65 x0 x1 x2 x3 x4 some:=
 Qe (N:=fun n (p:List D×List D×List D×Int×Int)=>n_Z65 n p.1 p.2.1 p.2.2.1 p.2.2.2.1 p.2.2.2.2) (C:=fun f p=>c_Z65 (fun x0 x1 x2 x3 x4=>f (x0,x1,x2,x3,x4)) p.1 p.2.1 p.2.2.1 p.2.2.2.1 p.2.2.2.2 some) (fun _=>rfl) (fun _ _=>rfl) (fun hD f fs h p=>by
  unfold c_Z65
  repeat' first | exact Lim.const hD | exact h _ | apply Lim.ite | apply Lim.cond | apply Lim.bind hD | apply Lim.sum | intro _) (x0,x1,x2,x3,x4)
theorem Z68_fx (x0 x1 x2:List D) (x3 x4 x5 x6:Int):Z68 x0 x1 x2 x3 x4 x5 x6=c_Z68 Z68 x0 x1 x2 x3 x4 x5 x6 some:=
 Qe (N:=fun n (p:List D×List D×List D×Int×Int×Int×Int)=>n_Z68 n p.1 p.2.1 p.2.2.1 p.2.2.2.1 p.2.2.2.2.1 p.2.2.2.2.2.1 p.2.2.2.2.2.2) (C:=fun f p=>c_Z68 (fun x0 x1 x2 x3 x4 x5 x6=>f (x0,x1,x2,x3,x4,x5,x6)) p.1 p.2.1 p.2.2.1 p.2.2.2.1 p.2.2.2.2.1 p.2.2.2.2.2.1 p.2.2.2.2.2.2 some) (fun _=>rfl) (fun _ _=>rfl) (fun hD f fs h p=>by
  unfold c_Z68
  repeat' first | exact Lim.const hD | exact h _ | apply Lim.ite | apply Lim.cond | apply Lim.bind hD | apply Lim.sum | intro _) (x0,x1,x2,x3,x4,x5,x6)
theorem Z71_fx (x0 x1 x2 x3 x4 x5:Int) (x6 x7 x8 x9 x10:List D):Z71 x0 x1 x2 x3 x4 x5 x6 x7 x8 x9 x10=c_Z71 Z71 x0 x1 x2 x3 x4 x5 x6 x7 x8 x9 x10 some:=
 Qe (N:=fun n (p:Int×Int×Int×Int×Int×Int×List D×List D×List D×List D×List D)=>n_Z71 n p.1 p.2.1 p.2.2.1 p.2.2.2.1 p.2.2.2.2.1 p.2.2.2.2.2.1 p.2.2.2.2.2.2.1 p.2.2.2.2.2.2.2.1 p.2.2.2.2.2.2.2.2.1 p.2.2.2.2.2.2.2.2.2.1 p.2.2.2.2.2.2.2.2.2.2) (C:=fun f p=>c_Z71 (fun x0 x1 x2 x3 x4 x5 x6 x7 x8 x9 x10=>f (x0,x1,x2,x3,x4,x5,x6,x7,x8,x9,x10)) p.1 p.2.1 p.2.2.1 p.2.2.2.1 p.2.2.2.2.1 p.2.2.2.2.2.1 p.2.2.2.2.2.2.1 p.2.2.2.2.2.2.2.1 p.2.2.2.2.2.2.2.2.1 p.2.2.2.2.2.2.2.2.2.1 p.2.2.2.2.2.2.2.2.2.2 some) (fun _=>rfl) (fun _ _=>rfl) (fun hD f fs h p=>by
  unfold c_Z71
  repeat' first | exact Lim.const hD | exact h _ | apply Lim.ite | apply Lim.cond | apply Lim.bind hD | apply Lim.sum | intro _) (x0,x1,x2,x3,x4,x5,x6,x7,x8,x9,x10)
theorem Z72_fx (x0 x1 x2:Int) (x3 x4 x5 x6 x7:List D):Z72 x0 x1 x2 x3 x4 x5 x6 x7=c_Z72 Z72 x0 x1 x2 x3 x4 x5 x6 x7 some:=
 Qe (N:=fun n (p:Int×Int×Int×List D×List D×List D×List D×List D)=>n_Z72 n p.1 p.2.1 p.2.2.1 p.2.2.2.1 p.2.2.2.2.1 p.2.2.2.2.2.1 p.2.2.2.2.2.2.1 p.2.2.2.2.2.2.2) (C:=fun f p=>c_Z72 (fun x0 x1 x2 x3 x4 x5 x6 x7=>f (x0,x1,x2,x3,x4,x5,x6,x7)) p.1 p.2.1 p.2.2.1 p.2.2.2.1 p.2.2.2.2.1 p.2.2.2.2.2.1 p.2.2.2.2.2.2.1 p.2.2.2.2.2.2.2 some) (fun _=>rfl) (fun _ _=>rfl) (fun hD f fs h p=>by
  unfold c_Z72
  repeat' first | exact Lim.const hD | exact h _ | apply Lim.ite | apply Lim.cond | apply Lim.bind hD | apply Lim.sum | intro _) (x0,x1,x2,x3,x4,x5,x6,x7)
theorem Z73_fx (x0 x1 x2:Int) (x3 x4 x5 x6 x7:List D):Z73 x0 x1 x2 x3 x4 x5 x6 x7=c_Z73 Z73 x0 x1 x2 x3 x4 x5 x6 x7 some:=
 Qe (N:=fun n (p:Int×Int×Int×List D×List D×List D×List D×List D)=>n_Z73 n p.1 p.2.1 p.2.2.1 p.2.2.2.1 p.2.2.2.2.1 p.2.2.2.2.2.1 p.2.2.2.2.2.2.1 p.2.2.2.2.2.2.2) (C:=fun f p=>c_Z73 (fun x0 x1 x2 x3 x4 x5 x6 x7=>f (x0,x1,x2,x3,x4,x5,x6,x7)) p.1 p.2.1 p.2.2.1 p.2.2.2.1 p.2.2.2.2.1 p.2.2.2.2.2.1 p.2.2.2.2.2.2.1 p.2.2.2.2.2.2.2 some) (fun _=>rfl) (fun _ _=>rfl) (fun hD f fs h p=>by
  unfold c_Z73
  repeat' first | exact Lim.const hD | exact h _ | apply Lim.ite | apply Lim.cond | apply Lim.bind hD | apply Lim.sum | intro _) (x0,x1,x2,x3,x4,x5,x6,x7)
theorem Z74_fx (x0:Int) (x1 x2 x3 x4 x5:List D):Z74 x0 x1 x2 x3 x4 x5=c_Z74 Z74 x0 x1 x2 x3 x4 x5 some:=
 Qe (N:=fun n (p:Int×List D×List D×List D×List D×List D)=>n_Z74 n p.1 p.2.1 p.2.2.1 p.2.2.2.1 p.2.2.2.2.1 p.2.2.2.2.2) (C:=fun f p=>c_Z74 (fun x0 x1 x2 x3 x4 x5=>f (x0,x1,x2,x3,x4,x5)) p.1 p.2.1 p.2.2.1 p.2.2.2.1 p.2.2.2.2.1 p.2.2.2.2.2 some) (fun _=>rfl) (fun _ _=>rfl) (fun hD f fs h p=>by
  unfold c_Z74
  repeat' first | exact Lim.const hD | exact h _ | apply Lim.ite | apply Lim.cond | apply Lim.bind hD | apply Lim.sum | intro _) (x0,x1,x2,x3,x4,x5)
theorem Z77_fx (x0 x1 x2 x3 x4 x5 x6 x7:Int) (x8 x9 x10 x11 x12 x13:List D):Z77 x0 x1 x2 x3 x4 x5 x6 x7 x8 x9 x10 x11 x12 x13=c_Z77 Z77 x0 x1 x2 x3 x4 x5 x6 x7 x8 x9 x10 x11 x12 x13 some:=
 Qe (N:=fun n (p:Int×Int×Int×Int×Int×Int×Int×Int×List D×List D×List D×List D×List D×List D)=>n_Z77 n p.1 p.2.1 p.2.2.1 p.2.2.2.1 p.2.2.2.2.1 p.2.2.2.2.2.1 p.2.2.2.2.2.2.1 p.2.2.2.2.2.2.2.1 p.2.2.2.2.2.2.2.2.1 p.2.2.2.2.2.2.2.2.2.1 p.2.2.2.2.2.2.2.2.2.2.1 p.2.2.2.2.2.2.2.2.2.2.2.1 p.2.2.2.2.2.2.2.2.2.2.2.2.1 p.2.2.2.2.2.2.2.2.2.2.2.2.2) (C:=fun f p=>c_Z77 (fun x0 x1 x2 x3 x4 x5 x6 x7 x8 x9 x10 x11 x12 x13=>f (x0,x1,x2,x3,x4,x5,x6,x7,x8,x9,x10,x11,x12,x13)) p.1 p.2.1 p.2.2.1 p.2.2.2.1 p.2.2.2.2.1 p.2.2.2.2.2.1 p.2.2.2.2.2.2.1 p.2.2.2.2.2.2.2.1 p.2.2.2.2.2.2.2.2.1 p.2.2.2.2.2.2.2.2.2.1 p.2.2.2.2.2.2.2.2.2.2.1 p.2.2.2.2.2.2.2.2.2.2.2.1 p.2.2.2.2.2.2.2.2.2.2.2.2.1 p.2.2.2.2.2.2.2.2.2.2.2.2.2 some) (fun _=>rfl) (fun _ _=>rfl) (fun hD f fs h p=>by
  unfold c_Z77
  repeat' first | exact Lim.const hD | exact h _ | apply Lim.ite | apply Lim.cond | apply Lim.bind hD | apply Lim.sum | intro _) (x0,x1,x2,x3,x4,x5,x6,x7,x8,x9,x10,x11,x12,x13)
theorem Z78_fx (x0 x1 x2:Int) (x3 x4 x5 x6 x7 x8:List D):Z78 x0 x1 x2 x3 x4 x5 x6 x7 x8=c_Z78 Z78 x0 x1 x2 x3 x4 x5 x6 x7 x8 some:=
 Qe (N:=fun n (p:Int×Int×Int×List D×List D×List D×List D×List D×List D)=>n_Z78 n p.1 p.2.1 p.2.2.1 p.2.2.2.1 p.2.2.2.2.1 p.2.2.2.2.2.1 p.2.2.2.2.2.2.1 p.2.2.2.2.2.2.2.1 p.2.2.2.2.2.2.2.2) (C:=fun f p=>c_Z78 (fun x0 x1 x2 x3 x4 x5 x6 x7 x8=>f (x0,x1,x2,x3,x4,x5,x6,x7,x8)) p.1 p.2.1 p.2.2.1 p.2.2.2.1 p.2.2.2.2.1 p.2.2.2.2.2.1 p.2.2.2.2.2.2.1 p.2.2.2.2.2.2.2.1 p.2.2.2.2.2.2.2.2 some) (fun _=>rfl) (fun _ _=>rfl) (fun hD f fs h p=>by
  unfold c_Z78
  repeat' first | exact Lim.const hD | exact h _ | apply Lim.ite | apply Lim.cond | apply Lim.bind hD | apply Lim.sum | intro _) (x0,x1,x2,x3,x4,x5,x6,x7,x8)
theorem Z81_fx (x0:Int) (x1 x2:List D):Z81 x0 x1 x2=c_Z81 Z81 x0 x1 x2 some:=
 Qe (N:=fun n (p:Int×List D×List D)=>n_Z81 n p.1 p.2.1 p.2.2) (C:=fun f p=>c_Z81 (fun x0 x1 x2=>f (x0,x1,x2)) p.1 p.2.1 p.2.2 some) (fun _=>rfl) (fun _ _=>rfl) (fun hD f fs h p=>by
  unfold c_Z81
  repeat' first | exact Lim.const hD | exact h _ | apply Lim.ite | apply Lim.cond | apply Lim.bind hD | apply Lim.sum | intro _) (x0,x1,x2)
theorem Z82_fx (x0:Int) (x1 x2:List D):Z82 x0 x1 x2=c_Z82 Z82 x0 x1 x2 some:=
 Qe (N:=fun n (p:Int×List D×List D)=>n_Z82 n p.1 p.2.1 p.2.2) (C:=fun f p=>c_Z82 (fun x0 x1 x2=>f (x0,x1,x2)) p.1 p.2.1 p.2.2 some) (fun _=>rfl) (fun _ _=>rfl) (fun hD f fs h p=>by
  unfold c_Z82
  repeat' first | exact Lim.const hD | exact h _ | apply Lim.ite | apply Lim.cond | apply Lim.bind hD | apply Lim.sum | intro _) (x0,x1,x2)
theorem Z85_fx (x0:List D) (x1 x2 x3:Int):Z85 x0 x1 x2 x3=c_Z85 Z85 x0 x1 x2 x3 some:=
 Qe (N:=fun n (p:List D×Int×Int×Int)=>n_Z85 n p.1 p.2.1 p.2.2.1 p.2.2.2) (C:=fun f p=>c_Z85 (fun x0 x1 x2 x3=>f (x0,x1,x2,x3)) p.1 p.2.1 p.2.2.1 p.2.2.2 some) (fun _=>rfl) (fun _ _=>rfl) (fun hD f fs h p=>by
  unfold c_Z85
  repeat' first | exact Lim.const hD | exact h _ | apply Lim.ite | apply Lim.cond | apply Lim.bind hD | apply Lim.sum | intro _) (x0,x1,x2,x3)
theorem Z87_fx (x0:List D) (x1 x2 x3:Int) (x4:List D):Z87 x0 x1 x2 x3 x4=c_Z87 Z87 x0 x1 x2 x3 x4 some:=
 Qe (N:=fun n (p:List D×Int×Int×Int×List D)=>n_Z87 n p.1 p.2.1 p.2.2.1 p.2.2.2.1 p.2.2.2.2) (C:=fun f p=>c_Z87 (fun x0 x1 x2 x3 x4=>f (x0,x1,x2,x3,x4)) p.1 p.2.1 p.2.2.1 p.2.2.2.1 p.2.2.2.2 some) (fun _=>rfl) (fun _ _=>rfl) (fun hD f fs h p=>by
  unfold c_Z87
  repeat' first | exact Lim.const hD | exact h _ | apply Lim.ite | apply Lim.cond | apply Lim.bind hD | apply Lim.sum | intro _) (x0,x1,x2,x3,x4)
theorem Z88_fx (x0:List D) (x1 x2:Int) (x3:List D):Z88 x0 x1 x2 x3=c_Z88 Z88 x0 x1 x2 x3 some:=
 Qe (N:=fun n (p:List D×Int×Int×List D)=>n_Z88 n p.1 p.2.1 p.2.2.1 p.2.2.2) (C:=fun f p=>c_Z88 (fun x0 x1 x2 x3=>f (x0,x1,x2,x3)) p.1 p.2.1 p.2.2.1 p.2.2.2 some) (fun _=>rfl) (fun _ _=>rfl) (fun hD f fs h p=>by
  unfold c_Z88
  repeat' first | exact Lim.const hD | exact h _ | apply Lim.ite | apply Lim.cond | apply Lim.bind hD | apply Lim.sum | intro _) (x0,x1,x2,x3)
theorem Z90_fx (x0 x1 x2 x3 x4:Int) (x5 x6 x7 x8:List D):Z90 x0 x1 x2 x3 x4 x5 x6 x7 x8=c_Z90 Z90 x0 x1 x2 x3 x4 x5 x6 x7 x8 some:=
 Qe (N:=fun n (p:Int×Int×Int×Int×Int×List D×List D×List D×List D)=>n_Z90 n p.1 p.2.1 p.2.2.1 p.2.2.2.1 p.2.2.2.2.1 p.2.2.2.2.2.1 p.2.2.2.2.2.2.1 p.2.2.2.2.2.2.2.1 p.2.2.2.2.2.2.2.2) (C:=fun f p=>c_Z90 (fun x0 x1 x2 x3 x4 x5 x6 x7 x8=>f (x0,x1,x2,x3,x4,x5,x6,x7,x8)) p.1 p.2.1 p.2.2.1 p.2.2.2.1 p.2.2.2.2.1 p.2.2.2.2.2.1 p.2.2.2.2.2.2.1 p.2.2.2.2.2.2.2.1 p.2.2.2.2.2.2.2.2 some) (fun _=>rfl) (fun _ _=>rfl) (fun hD f fs h p=>by
  unfold c_Z90
  repeat' first | exact Lim.const hD | exact h _ | apply Lim.ite | apply Lim.cond | apply Lim.bind hD | apply Lim.sum | intro _) (x0,x1,x2,x3,x4,x5,x6,x7,x8)
theorem Z91_fx (x0 x1 x2 x3 x4:Int) (x5 x6 x7 x8:List D):Z91 x0 x1 x2 x3 x4 x5 x6 x7 x8=c_Z91 Z91 x0 x1 x2 x3 x4 x5 x6 x7 x8 some:=
 Qe (N:=fun n (p:Int×Int×Int×Int×Int×List D×List D×List D×List D)=>n_Z91 n p.1 p.2.1 p.2.2.1 p.2.2.2.1 p.2.2.2.2.1 p.2.2.2.2.2.1 p.2.2.2.2.2.2.1 p.2.2.2.2.2.2.2.1 p.2.2.2.2.2.2.2.2) (C:=fun f p=>c_Z91 (fun x0 x1 x2 x3 x4 x5 x6 x7 x8=>f (x0,x1,x2,x3,x4,x5,x6,x7,x8)) p.1 p.2.1 p.2.2.1 p.2.2.2.1 p.2.2.2.2.1 p.2.2.2.2.2.1 p.2.2.2.2.2.2.1 p.2.2.2.2.2.2.2.1 p.2.2.2.2.2.2.2.2 some) (fun _=>rfl) (fun _ _=>rfl) (fun hD f fs h p=>by
  unfold c_Z91
  repeat' first | exact Lim.const hD | exact h _ | apply Lim.ite | apply Lim.cond | apply Lim.bind hD | apply Lim.sum | intro _) (x0,x1,x2,x3,x4,x5,x6,x7,x8)
theorem Z92_fx (x0 x1 x2:Int) (x3 x4 x5 x6:List D):Z92 x0 x1 x2 x3 x4 x5 x6=c_Z92 Z92 x0 x1 x2 x3 x4 x5 x6 some:=
 Qe (N:=fun n (p:Int×Int×Int×List D×List D×List D×List D)=>n_Z92 n p.1 p.2.1 p.2.2.1 p.2.2.2.1 p.2.2.2.2.1 p.2.2.2.2.2.1 p.2.2.2.2.2.2) (C:=fun f p=>c_Z92 (fun x0 x1 x2 x3 x4 x5 x6=>f (x0,x1,x2,x3,x4,x5,x6)) p.1 p.2.1 p.2.2.1 p.2.2.2.1 p.2.2.2.2.1 p.2.2.2.2.2.1 p.2.2.2.2.2.2 some) (fun _=>rfl) (fun _ _=>rfl) (fun hD f fs h p=>by
  unfold c_Z92
  repeat' first | exact Lim.const hD | exact h _ | apply Lim.ite | apply Lim.cond | apply Lim.bind hD | apply Lim.sum | intro _) (x0,x1,x2,x3,x4,x5,x6)
theorem Z95_fx (x0 x1:List D) (x2:Int):Z95 x0 x1 x2=c_Z95 Z95 x0 x1 x2 some:=
 Qe (N:=fun n (p:List D×List D×Int)=>n_Z95 n p.1 p.2.1 p.2.2) (C:=fun f p=>c_Z95 (fun x0 x1 x2=>f (x0,x1,x2)) p.1 p.2.1 p.2.2 some) (fun _=>rfl) (fun _ _=>rfl) (fun hD f fs h p=>by
  unfold c_Z95
  repeat' first | exact Lim.const hD | exact h _ | apply Lim.ite | apply Lim.cond | apply Lim.bind hD | apply Lim.sum | intro _) (x0,x1,x2)
theorem Z97_fx (x0 x1 x2 x3:Int) (x4:List D):Z97 x0 x1 x2 x3 x4=c_Z97 Z97 x0 x1 x2 x3 x4 some:=
 Qe (N:=fun n (p:Int×Int×Int×Int×List D)=>n_Z97 n p.1 p.2.1 p.2.2.1 p.2.2.2.1 p.2.2.2.2) (C:=fun f p=>c_Z97 (fun x0 x1 x2 x3 x4=>f (x0,x1,x2,x3,x4)) p.1 p.2.1 p.2.2.1 p.2.2.2.1 p.2.2.2.2 some) (fun _=>rfl) (fun _ _=>rfl) (fun hD f fs h p=>by
  unfold c_Z97
  repeat' first | exact Lim.const hD | exact h _ | apply Lim.ite | apply Lim.cond | apply Lim.bind hD | apply Lim.sum | intro _) (x0,x1,x2,x3,x4)
theorem Z99_fx (x0 x1 x2:Int) (x3:Bool) (x4 x5 x6:Int) (x7:Bool) (x8:Int) (x9 x10 x11:List D):Z99 x0 x1 x2 x3 x4 x5 x6 x7 x8 x9 x10 x11=c_Z99 Z99 x0 x1 x2 x3 x4 x5 x6 x7 x8 x9 x10 x11 some:=
 Qe (N:=fun n (p:Int×Int×Int×Bool×Int×Int×Int×Bool×Int×List D×List D×List D)=>n_Z99 n p.1 p.2.1 p.2.2.1 p.2.2.2.1 p.2.2.2.2.1 p.2.2.2.2.2.1 p.2.2.2.2.2.2.1 p.2.2.2.2.2.2.2.1 p.2.2.2.2.2.2.2.2.1 p.2.2.2.2.2.2.2.2.2.1 p.2.2.2.2.2.2.2.2.2.2.1 p.2.2.2.2.2.2.2.2.2.2.2) (C:=fun f p=>c_Z99 (fun x0 x1 x2 x3 x4 x5 x6 x7 x8 x9 x10 x11=>f (x0,x1,x2,x3,x4,x5,x6,x7,x8,x9,x10,x11)) p.1 p.2.1 p.2.2.1 p.2.2.2.1 p.2.2.2.2.1 p.2.2.2.2.2.1 p.2.2.2.2.2.2.1 p.2.2.2.2.2.2.2.1 p.2.2.2.2.2.2.2.2.1 p.2.2.2.2.2.2.2.2.2.1 p.2.2.2.2.2.2.2.2.2.2.1 p.2.2.2.2.2.2.2.2.2.2.2 some) (fun _=>rfl) (fun _ _=>rfl) (fun hD f fs h p=>by
  unfold c_Z99
  repeat' first | exact Lim.const hD | exact h _ | apply Lim.ite | apply Lim.cond | apply Lim.bind hD | apply Lim.sum | intro _) (x0,x1,x2,x3,x4,x5,x6,x7,x8,x9,x10,x11)
theorem Z100_fx (x0 x1 x2 x3 x4:Int) (x5 x6 x7 x8 x9:List D):Z100 x0 x1 x2 x3 x4 x5 x6 x7 x8 x9=c_Z100 Z100 x0 x1 x2 x3 x4 x5 x6 x7 x8 x9 some:=
 Qe (N:=fun n (p:Int×Int×Int×Int×Int×List D×List D×List D×List D×List D)=>n_Z100 n p.1 p.2.1 p.2.2.1 p.2.2.2.1 p.2.2.2.2.1 p.2.2.2.2.2.1 p.2.2.2.2.2.2.1 p.2.2.2.2.2.2.2.1 p.2.2.2.2.2.2.2.2.1 p.2.2.2.2.2.2.2.2.2) (C:=fun f p=>c_Z100 (fun x0 x1 x2 x3 x4 x5 x6 x7 x8 x9=>f (x0,x1,x2,x3,x4,x5,x6,x7,x8,x9)) p.1 p.2.1 p.2.2.1 p.2.2.2.1 p.2.2.2.2.1 p.2.2.2.2.2.1 p.2.2.2.2.2.2.1 p.2.2.2.2.2.2.2.1 p.2.2.2.2.2.2.2.2.1 p.2.2.2.2.2.2.2.2.2 some) (fun _=>rfl) (fun _ _=>rfl) (fun hD f fs h p=>by
  unfold c_Z100
  repeat' first | exact Lim.const hD | exact h _ | apply Lim.ite | apply Lim.cond | apply Lim.bind hD | apply Lim.sum | intro _) (x0,x1,x2,x3,x4,x5,x6,x7,x8,x9)
theorem Z102_fx (x0 x1 x2:Int) (x3 x4:List D):Z102 x0 x1 x2 x3 x4=c_Z102 Z102 x0 x1 x2 x3 x4 some:=
 Qe (N:=fun n (p:Int×Int×Int×List D×List D)=>n_Z102 n p.1 p.2.1 p.2.2.1 p.2.2.2.1 p.2.2.2.2) (C:=fun f p=>c_Z102 (fun x0 x1 x2 x3 x4=>f (x0,x1,x2,x3,x4)) p.1 p.2.1 p.2.2.1 p.2.2.2.1 p.2.2.2.2 some) (fun _=>rfl) (fun _ _=>rfl) (fun hD f fs h p=>by
  unfold c_Z102
  repeat' first | exact Lim.const hD | exact h _ | apply Lim.ite | apply Lim.cond | apply Lim.bind hD | apply Lim.sum | intro _) (x0,x1,x2,x3,x4)
def Tt {ι β:Type} (I:ι→Prop) (P:β→Prop) (e:ι→Option β):Prop:=∃ y,P y∧∀ i,I i→e i=some y
theorem Tt.pure {ι β:Type} {I:ι→Prop} {P:β→Prop} {y:β} (h:P y):Tt I P (fun _=>some y):=⟨y,h,fun _ _=>rfl⟩
theorem Tt.bind {ι α β:Type} {I:ι→Prop} {Q:α→Prop} {P:β→Prop} {t:ι→Option α} {f:α→ι→Option β} (h:Tt I Q t) (k:∀ v,Q v→Tt I P (fun i=>f v i)) :
  Tt I P (fun i=>(t i).bind (fun v=>f v i)):=by
 obtain ⟨v,hv,ht⟩:=h
 obtain ⟨y,hy,hk⟩:=k v hv
 exact ⟨y,hy,fun i hi=>by show (t i).bind _=_; rw [ht i hi]; exact hk i hi⟩
theorem Tt.ite {ι β:Type} {I:ι→Prop} {P:β→Prop} {c:Prop} [Decidable c] {x y:ι→Option β} (h:c) (k:Tt I P x):Tt I P (fun i=>if c then x i else y i):=by
 simpa only [if_pos h] using k
theorem Tt.cnd {ι β:Type} {I:ι→Prop} {P:β→Prop} {b:Bool} {x y:ι→Option β} (h1:b=true→Tt I P x) (h2:b=false→Tt I P y):Tt I P (fun i=>bif b then x i else y i):=by
 cases b with
 | true=>exact h1 rfl
 | false=>exact h2 rfl
theorem Tt.dec {ι β:Type} {I:ι→Prop} {P:β→Prop} {p:Prop} [Decidable p] {x y:ι→Option β} (h1:p→Tt I P x) (h2:¬ p→Tt I P y):Tt I P (fun i=>bif decide p then x i else y i):=
 Tt.cnd (fun h=>h1 (of_decide_eq_true h)) (fun h=>h2 (of_decide_eq_false h))
theorem Tt.ndec {ι β:Type} {I:ι→Prop} {P:β→Prop} {p:Prop} [Decidable p] {x y:ι→Option β} (h1:¬ p→Tt I P x) (h2:p→Tt I P y):Tt I P (fun i=>bif !decide p then x i else y i):=by
 by_cases h:p
 ·simpa only [decide_eq_true h,Bool.not_true,cond_false] using h2 h
 ·simpa only [decide_eq_false h,Bool.not_false,cond_true] using h1 h
theorem Tt.con {ι β:Type} {I:ι→Prop} {Q:β→Prop} {t:Option β} (h:∃ y,t=some y∧Q y):Tt I Q (fun _=>t):=by
 obtain ⟨y,h1,h2⟩:=h
 exact ⟨y,h2,fun _ _=>h1⟩
theorem Tt.mono {ι β:Type} {I J:ι→Prop} {P Q:β→Prop} {e:ι→Option β} (h:Tt I P e) (hI:∀ i,J i→I i) (hP:∀ y,P y→Q y):Tt J Q e:=by
 obtain ⟨y,h1,h2⟩:=h
 exact ⟨y,hP y h1,fun i hi=>h2 i (hI i hi)⟩
theorem Tt.out {β:Type} {P:β→Prop} {t:Option β} (h:Tt (fun _:Unit=>True) P (fun _=>t)):∃ y,t=some y∧P y:=by
 obtain ⟨y,h1,h2⟩:=h
 exact ⟨y,h2 () trivial,h1⟩
theorem Tt.loop {X Y:Type} (N:Nat→X→Option Y) (Inv:X→Prop) (μ:X→Nat) (Post:X→Y→Prop)
  (step:∀ x,Inv x→(∀ x',Inv x'→μ x'<μ x→Tt (fun m=>μ x≤m) (Post x') (fun m=>N m x'))→Tt (fun m=>μ x≤m) (Post x) (fun m=>N (m+1) x)) :
  ∀ x,Inv x→∃ y,ev (fun n=>N n x)=some y∧Post x y:=by
 have key:∀ k x,Inv x→μ x≤k→Tt (fun m=>μ x<m) (Post x) (fun m=>N m x):=by
  intro k
  induction k with
  | zero=>
   intro x hi hk
   obtain ⟨y,h1,h2⟩:=step x hi (fun x' _ h=>absurd h (by omega))
   refine ⟨y,h1,fun m hm=>?_⟩
   obtain ⟨m,rfl⟩:∃ m',m=m'+1:=⟨m - 1,by omega⟩
   exact h2 m (by omega)
  | succ k ih=>
   intro x hi hk
   obtain ⟨y,h1,h2⟩:=step x hi (fun x' hx' h=>(ih x' hx' (by omega)).mono (fun m hm=>by omega) (fun _ h=>h))
   refine ⟨y,h1,fun m hm=>?_⟩
   obtain ⟨m,rfl⟩:∃ m',m=m'+1:=⟨m - 1,by omega⟩
   exact h2 m (by omega)
 intro x hi
 obtain ⟨y,h1,h2⟩:=key (μ x) x hi (Nat.le_refl _)
 exact ⟨y,H5 (μ x+1) (fun m hm=>h2 m (by omega)),h1⟩
theorem wq (n:Int):IntKind.i64.wrap n=(n+9223372036854775808) % 18446744073709551616 - 9223372036854775808:=by
 unfold IntKind.wrap
 simp [IntKind.signed,IntKind.bits]
 omega
def okC (c:List D):Prop:=c.length≤65536∧∀ d∈c,0≤d.toInt∧d.toInt≤255
theorem uwrap (n:Int):IntKind.u64.wrap n=n % 18446744073709551616:=by
 unfold IntKind.wrap
 simp [IntKind.signed,IntKind.bits]
theorem and255 (r:Int):0≤IntKind.i64.wrap (IntKind.u64.wrap (((BitVec.ofInt IntKind.u64.bits r &&& BitVec.ofInt IntKind.u64.bits 255).toNat:Nat):Int))∧IntKind.i64.wrap (IntKind.u64.wrap (((BitVec.ofInt IntKind.u64.bits r &&& BitVec.ofInt IntKind.u64.bits 255).toNat:Nat):Int))≤255:=by
 have h2:(BitVec.ofInt IntKind.u64.bits r &&& BitVec.ofInt IntKind.u64.bits 255).toNat≤(BitVec.ofInt IntKind.u64.bits 255).toNat:=by
  rw [BitVec.toNat_and]; exact Nat.and_le_right
 have h3:(BitVec.ofInt IntKind.u64.bits 255).toNat=255:=by decide
 rw [h3] at h2
 rw [uwrap,wq]
 omega
theorem next_tot (c:List D) (h:okC c) (p s:Int) (hp:0≤p∧p≤1099511627776):∃ y,Z2 c p s=some y∧(0≤y.1∧y.1≤255∧y.2.1=c∧y.2.2.1=p+1):=by
 have hw:IntKind.i64.wrap (p+1)=p+1:=QF (by omega) (by omega)
 have a1:=fun r=>and255 r
 refine Tt.out ?_
 unfold Z2 c_Z2
 rw [hw]
 by_cases hpl:p<(c.length:Int)
 ·rw [decide_eq_true hpl,cond_true]
  have hd:=h.2 _ (KT (show p.toNat<c.length by omega))
  have hv:IntKind.i64.wrap (c.getD p.toNat (D.int 0)).toInt=(c.getD p.toNat (D.int 0)).toInt:=QF (by omega) (by omega)
  refine Tt.ite (by omega) ?_
  refine Tt.dec (fun _=>?_) (fun hn=>absurd (show p+1≤(c.length:Int) by omega) hn)
  refine Tt.pure ?_
  exact ⟨by rw [hv]; exact hd.1,by rw [hv]; exact hd.2,rfl,rfl⟩
 ·rw [decide_eq_false hpl,cond_false]
  refine Tt.dec (fun hn=>by exfalso; omega) (fun _=>?_)
  refine Tt.ite (by decide) ?_
  refine Tt.pure ?_
  exact ⟨(a1 _).1,(a1 _).2,rfl,rfl⟩
attribute [local irreducible] Z2
theorem pick_tot (c:List D) (h:okC c) (p s n:Int) (hp:0≤p∧p≤1099511627770) (hn:n≤65536):∃ y,Z3 c p s n=some y∧(0≤y.1∧(y.1<n∨y.1=0)∧y.2.1=c∧p≤y.2.2.1∧y.2.2.1≤p+2):=by
 refine Tt.out ?_
 unfold Z3 c_Z3
 refine Tt.dec (fun _=>?_) (fun hn1=>?_)
 ·refine Tt.pure ?_
  exact ⟨by simp,.inr rfl,rfl,by simp,by simp only; omega⟩
 ·refine Tt.bind (Tt.con (next_tot c h p s (by omega))) (fun v hv=>?_)
  obtain ⟨v1,v2,v3,v4⟩:=hv
  rw [v3,v4]
  refine Tt.dec (fun _=>?_) (fun _=>?_)
  ·refine Tt.bind (Tt.con (next_tot c h (p+1) _ (by omega))) (fun w hw=>?_)
   obtain ⟨w1,w2,w3,w4⟩:=hw
   refine Tt.ite (by omega) ?_
   have hq:IntKind.i64.wrap (IntKind.i64.wrap (v.1 * 256)+w.1)=v.1 * 256+w.1:=by
    rw [QF (n:=v.1 * 256) (by omega) (by omega),QF (by omega) (by omega)]
   have hm:(v.1 * 256+w.1).tmod n=(v.1 * 256+w.1) % n:=Int.tmod_eq_emod_of_nonneg (by omega)
   have m1:=Int.emod_nonneg (v.1 * 256+w.1) (show n≠0 by omega)
   have m2:=Int.emod_lt_of_pos (v.1 * 256+w.1) (show 0<n by omega)
   refine Tt.pure ?_
   exact ⟨by simp only; rw [hq,hm]; exact m1,.inl (by simp only; rw [hq,hm]; exact m2),w3,by simp only; omega,by simp only; omega⟩
  ·refine Tt.ite (by omega) ?_
   have hm:v.1.tmod n=v.1 % n:=Int.tmod_eq_emod_of_nonneg v1
   have m1:=Int.emod_nonneg v.1 (show n≠0 by omega)
   have m2:=Int.emod_lt_of_pos v.1 (show 0<n by omega)
   refine Tt.pure ?_
   exact ⟨by simp only; rw [hm]; exact m1,.inl (by simp only; rw [hm]; exact m2),rfl,by simp only; omega,by simp only; omega⟩
attribute [local irreducible] Z3
theorem among_tot (c:List D) (h:okC c) (p s:Int) (l:List D) (hp:0≤p∧p≤1099511627770) (hl:1≤l.length∧l.length≤65536):∃ y,Z16 c p s l=some y∧((∃ d∈l,y.1=d.toInt)∧y.2.1=c∧p≤y.2.2.1∧y.2.2.1≤p+2):=by
 refine Tt.out ?_
 unfold Z16 c_Z16
 refine Tt.bind (Tt.con (pick_tot c h p s _ hp (by omega))) (fun v hv=>?_)
 refine Tt.ite (by omega) ?_
 refine Tt.ite (by omega) ?_
 refine Tt.pure ?_
 exact ⟨⟨_,KT (show v.1.toNat<l.length by omega),rfl⟩,hv.2.2.1,hv.2.2.2.1,hv.2.2.2.2⟩
attribute [local irreducible] Z16
theorem okB {d:D} (h:wfD (.int .u8) d):0≤d.toInt∧d.toInt≤255:=by
 obtain ⟨n,rfl,h2⟩:=h
 simp [Lit.wf,IntKind.min,IntKind.max,IntKind.signed,IntKind.bits] at h2
 simp only [ON]; omega
theorem pick_tot' (c:List D) (h:okC c) (p s n:Int) (hp:0≤p∧p≤1099511627770) (hn:n≤65536):∃ y,Z3 c p s n=some y∧((0≤y.1∧(y.1<n∨y.1=0))∧y.2.1=c∧p≤y.2.2.1∧y.2.2.1≤p+2):=by
 obtain ⟨y,h1,h2,h3,h4⟩:=pick_tot c h p s n hp hn
 exact ⟨y,h1,⟨h2,h3⟩,h4⟩
theorem one_tot (c:List D) (h:okC c) (p s n:Int) (hp:0≤p∧p≤1099511627770) (hn:n≤65536):∃ y,Z4 c p s n=some y∧(y.2.1=c∧p≤y.2.2.1∧y.2.2.1≤p+2):=by
 refine Tt.out ?_
 unfold Z4 c_Z4
 refine Tt.bind (Tt.con (pick_tot c h p s n hp hn)) (fun v hv=>?_)
 refine Tt.pure ?_
 exact ⟨hv.2.2.1,hv.2.2.2.1,hv.2.2.2.2⟩
attribute [local irreducible] Z4
theorem one_tot' (c:List D) (h:okC c) (p s n:Int) (hp:0≤p∧p≤1099511627770) (hn:n≤65536):∃ y,Z4 c p s n=some y∧(True∧y.2.1=c∧p≤y.2.2.1∧y.2.2.1≤p+2):=by
 obtain ⟨y,h1,h2⟩:=one_tot c h p s n hp hn
 exact ⟨y,h1,trivial,h2⟩
theorem l1In_eq (x a b:Int):Z80 x a b=some (btw x a b):=by
 unfold Z80 c_Z80 btw
 by_cases h:a≤x <;> simp [h]
theorem within_eq (x a b:Int):Z37 x a b=some (btw x a b):=by
 unfold Z37 c_Z37 btw
 by_cases h:a≤x <;> simp [h]
def cmpV (x y:Int):Int:=if x<y then -1 else if y<x then 1 else 0
theorem compare_eq (x y:Int):Z46 x y=some (cmpV x y):=by
 simp only [Z46,c_Z46,Z45,c_Z45,Option.bind_some,decide_true,Bool.not_true,cond_false,cmpV]
 by_cases h:x<y
 ·simp [h]
 ·by_cases h2:y<x <;> simp [h,h2]
theorem or_eq (a b:Int):Z48 [.int a,.int b]=some (if a=0 then b else a):=by
 have w1:IntKind.i64.wrap 1=1:=by decide
 have w2:IntKind.i64.wrap 2=2:=by decide
 have key:∃ y,Z47 0 [.int a,.int b] 2 0=some y∧(match y with | .inl z=>z.1 | .inr z=>z)=(if a=0 then b else a):=by
  by_cases ha:a=0
  ·by_cases hb:b=0
   ·refine ⟨.inr 0,H5 (f:=fun m=>n_Z47 m 0 [.int a,.int b] 2 0) 3 (fun m hm=>?_),by simp [ha,hb]⟩
    obtain ⟨m,rfl⟩:∃ m',m=m'+3:=⟨m - 3,by omega⟩
    simp [n_Z47,c_Z47,ha,hb,ON,w1,w2]
   ·refine ⟨.inl (b,0),H5 (f:=fun m=>n_Z47 m 0 [.int a,.int b] 2 0) 2 (fun m hm=>?_),by simp [ha]⟩
    obtain ⟨m,rfl⟩:∃ m',m=m'+2:=⟨m - 2,by omega⟩
    simp [n_Z47,c_Z47,ha,hb,ON,w1]
  ·refine ⟨.inl (a,0),H5 (f:=fun m=>n_Z47 m 0 [.int a,.int b] 2 0) 1 (fun m hm=>?_),by simp [ha]⟩
   obtain ⟨m,rfl⟩:∃ m',m=m'+1:=⟨m - 1,by omega⟩
   simp [n_Z47,c_Z47,ha,ON]
 obtain ⟨y,h1,h2⟩:=key
 rw [← h2]
 simp only [Z48,c_Z48,show (([D.int a,D.int b]:List D).length:Int)=2 from rfl,h1,Option.bind_some]
 cases y <;> rfl
theorem fxScan {α:Type} {F:Int→Option α} {len:Nat} (p:Nat→Bool) (bad:Nat→α) {fin:α}
  (hs:∀ i:Nat,i<len→F (i:Int)=bif p i then some (bad i) else F ((i+1:Nat):Int)) (he:F (len:Int)=some fin) :
  F 0=some (match QO p len with | some i=>bad i | none=>fin):=by
 have key:∀ k (i:Nat),i+k=len→(∀ j,j<i→p j=false)→F (i:Int)=some (match QO p len with | some i=>bad i | none=>fin):=by
  intro k
  induction k with
  | zero=>
   intro i h1 h3
   have hi:i=len:=by omega
   subst hi
   rw [he]
   cases hf:QO p i with
   | none=>rfl
   | some j=>
    obtain ⟨q1,q2,_⟩:=X3 hf
    rw [h3 j q1] at q2
    cases q2
  | succ k ih=>
   intro i h1 h3
   rw [hs i (by omega)]
   cases hp:p i with
   | true=>
    rw [cond_true]
    have:QO p len=some i:=by
     unfold QO
     rw [List.find?_range_eq_some]
     exact ⟨hp,List.mem_range.2 (by omega),fun j hj=>by simp [h3 j hj]⟩
    rw [this]
   | false=>
    rw [cond_false]
    refine ih (i+1) (by omega) (fun j hj=>?_)
    by_cases hji:j=i
    ·subst hji; exact hp
    ·exact h3 j (by omega)
 exact key len 0 (by omega) (fun j hj=>by omega)
def allN (p:Nat→Bool) (len:Nat):Bool:=(QO (fun i=>!p i) len).isNone
theorem allN_iff {p:Nat→Bool} {len:Nat}:allN p len=true↔∀ i,i<len→p i=true:=by
 unfold allN
 constructor
 ·intro h i hi
  cases hf:QO (fun i=>!p i) len with
  | none=>simpa using NL hf i hi
  | some j=>rw [hf] at h; cases h
 ·intro h
  cases hf:QO (fun i=>!p i) len with
  | none=>rfl
  | some i=>obtain ⟨h1,h2,_⟩:=X3 hf; rw [h i h1] at h2; cases h2
theorem fxAll {α:Type} {F:Int→Option α} {len:Nat} (p:Nat→Bool) (bad:α) {fin:α}
  (hs:∀ i:Nat,i<len→F (i:Int)=bif p i then F ((i+1:Nat):Int) else some bad) (he:F (len:Int)=some fin) :
  F 0=some (bif allN p len then fin else bad):=by
 have:=fxScan (F:=F) (len:=len) (fun i=>!p i) (fun _=>bad) (fin:=fin) (fun i hi=>by rw [hs i hi]; cases p i <;> rfl) he
 rw [this]
 unfold allN
 cases QO (fun i=>!p i) len <;> rfl
def find2 (C:List D) (n:Int):Int:=match QO (fun i=>decide (((C[i]?.getD (.int 0)).fld 0).toInt=n)) C.length with | some i=>(i:Int) | none=>-1
theorem l2Find_eq (C R:List D) (n:Int) (hC:C.length≤100000):Z25 C R n=some (find2 C n):=by
 have h:=fxScan (F:=fun i=>Z24 n i C R) (len:=C.length) (fun i=>decide (((C[i]?.getD (.int 0)).fld 0).toInt=n)) (fun i=>.inl (i:Int)) (fin:=.inr ()) (fun i hi=>by
  show Z24 n i C R=_
  rw [Z24_fx]
  unfold c_Z24
  have h1:(i:Int)<C.length:=by omega
  simp only [h1,decide_true,cond_true,Int.natCast_nonneg,and_self,if_true,Int.toNat_natCast,List.getD_eq_getElem?_getD,Qm (show i<4611686018427387904 by omega),Option.bind_fun_some])
  (by
   show Z24 n C.length C R=_
   rw [Z24_fx]; unfold c_Z24; simp)
 have h':Z24 n 0 C R=_:=h
 simp only [Z25,c_Z25,h',Option.bind_some,find2]
 cases QO (fun i=>decide (((C[i]?.getD (.int 0)).fld 0).toInt=n)) C.length <;> rfl
theorem indexOf_eq (C R:List D) (n:Int) (hC:C.length≤100000):Z44 C R n=some (find2 C n):=by
 have h:=fxScan (F:=fun i=>Z42 C n C.length i) (len:=C.length) (fun i=>decide (((C[i]?.getD (.int 0)).fld 0).toInt=n)) (fun i=>.inl (i:Int)) (fin:=.inr ()) (fun i hi=>by
  show Z42 C n C.length i=_
  rw [Z42_fx]
  unfold c_Z42
  have h1:(i:Int)<C.length:=by omega
  simp only [h1,decide_true,cond_true,Int.natCast_nonneg,and_self,if_true,Int.toNat_natCast,List.getD_eq_getElem?_getD,Z41,c_Z41,Option.bind_some,Qm (show i<4611686018427387904 by omega),Option.bind_fun_some])
  (by
   show Z42 C n C.length C.length=_
   rw [Z42_fx]; unfold c_Z42; simp)
 have h':Z42 C n C.length 0=_:=h
 simp only [Z44,c_Z44,Z43,c_Z43,h',Option.bind_some,find2]
 cases QO (fun i=>decide (((C[i]?.getD (.int 0)).fld 0).toInt=n)) C.length <;> rfl
theorem find2_some {C:List D} {n:Int} (h:0≤find2 C n):∃ i,i<C.length∧find2 C n=(i:Int)∧((C[i]?.getD (.int 0)).fld 0).toInt=n:=by
 unfold find2 at h ⊢
 cases hf:QO (fun i=>decide (((C[i]?.getD (.int 0)).fld 0).toInt=n)) C.length with
 | none=>rw [hf] at h; simp at h
 | some i=>
  obtain ⟨h1,h2,_⟩:=X3 hf
  exact ⟨i,h1,rfl,of_decide_eq_true h2⟩
def cOk (C:List D) (i:Nat):Bool:=btw ((C[i]?.getD (.int 0)).fld 0).toInt 1 999&&(btw ((C[i]?.getD (.int 0)).fld 1).toInt 1 4&&(decide (i=0)||decide (((C[i - 1]?.getD (.int 0)).fld 0).toInt<((C[i]?.getD (.int 0)).fld 0).toInt)))
def lexB (a b c d:Int):Bool:=decide (a<c)||(decide (a=c)&&decide (b<d))
def rOk (C R:List D) (i:Nat):Bool:=!decide (((R[i]?.getD (.int 0)).fld 0).toInt=((R[i]?.getD (.int 0)).fld 1).toInt)&&(decide (0≤find2 C ((R[i]?.getD (.int 0)).fld 0).toInt)&&(decide (0≤find2 C ((R[i]?.getD (.int 0)).fld 1).toInt)&&(decide (i=0)||lexB ((R[i - 1]?.getD (.int 0)).fld 0).toInt ((R[i - 1]?.getD (.int 0)).fld 1).toInt ((R[i]?.getD (.int 0)).fld 0).toInt ((R[i]?.getD (.int 0)).fld 1).toInt)))
def validB (C R:List D):Bool:=decide (C.length≤10)&&(decide (R.length≤24)&&(allN (cOk C) C.length&&allN (rOk C R) R.length))
theorem before_eq (a b c d:Int):Z7 a b c d=some (lexB a b c d):=by
 unfold Z7 c_Z7 lexB
 by_cases h:a<c
 ·simp [h]
 ·by_cases h2:a=c <;> simp [h,h2]
theorem l2Good_eq (C R:List D):Z83 C R=some (validB C R):=by
 unfold Z83 c_Z83 validB
 by_cases hC:C.length≤10
 ·have hC':¬ (10:Int)<C.length:=by omega
  by_cases hR:R.length≤24
  ·have hR':¬ (24:Int)<R.length:=by omega
   have h1:=fxAll (F:=fun i=>Z81 i C R) (len:=C.length) (cOk C) (.inl (false,C,R)) (fin:=.inr (C,R)) (fun i hi=>by
    show Z81 i C R=_
    rw [Z81_fx]
    unfold c_Z81
    have h1:(i:Int)<C.length:=by omega
    simp only [h1,decide_true,cond_true,Int.natCast_nonneg,and_self,if_true,Int.toNat_natCast,List.getD_eq_getElem?_getD,l1In_eq,Option.bind_some,Qm (show i<4611686018427387904 by omega),Option.bind_fun_some,cOk]
    cases btw ((C[i]?.getD (.int 0)).fld 0).toInt 1 999 with
    | false=>rfl
    | true=>
     cases btw ((C[i]?.getD (.int 0)).fld 1).toInt 1 4 with
     | false=>rfl
     | true=>
      by_cases h0:i=0
      ·subst h0; simp
      ·have h2:(0:Int)<i:=by omega
       have h3:((i - 1:Nat):Int)<C.length:=by omega
       simp only [VI (show i<4611686018427387904 by omega) (show 0<i by omega),h2,h3,h0,Int.natCast_nonneg,and_self,if_true,Int.toNat_natCast,decide_true,decide_false,cond_true,cond_false,Bool.not_true,Bool.true_and,Bool.false_or]
       by_cases h4:((C[i]?.getD (.int 0)).fld 0).toInt≤((C[i - 1]?.getD (.int 0)).fld 0).toInt
       ·have:¬ ((C[i - 1]?.getD (.int 0)).fld 0).toInt<((C[i]?.getD (.int 0)).fld 0).toInt:=by omega
        simp [h4,this]
       ·have:((C[i - 1]?.getD (.int 0)).fld 0).toInt<((C[i]?.getD (.int 0)).fld 0).toInt:=by omega
        simp [h4,this])
    (by
     show Z81 C.length C R=_
     rw [Z81_fx]; unfold c_Z81; simp)
   have h1':Z81 0 C R=_:=h1
   have h2:=fxAll (F:=fun i=>Z82 i C R) (len:=R.length) (rOk C R) (.inl false) (fin:=.inr ()) (fun i hi=>by
    show Z82 i C R=_
    rw [Z82_fx]
    unfold c_Z82
    have h1:(i:Int)<R.length:=by omega
    simp only [h1,decide_true,cond_true,Int.natCast_nonneg,and_self,if_true,Int.toNat_natCast,List.getD_eq_getElem?_getD,l2Find_eq C R _ (show C.length≤100000 by omega),before_eq,Option.bind_some,Qm (show i<4611686018427387904 by omega),Option.bind_fun_some,rOk]
    by_cases e1:((R[i]?.getD (.int 0)).fld 0).toInt=((R[i]?.getD (.int 0)).fld 1).toInt
    ·simp [e1]
    ·by_cases e2:find2 C ((R[i]?.getD (.int 0)).fld 0).toInt<0
     ·have:¬ 0≤find2 C ((R[i]?.getD (.int 0)).fld 0).toInt:=by omega
      simp [e1,e2,this]
     ·have e2':0≤find2 C ((R[i]?.getD (.int 0)).fld 0).toInt:=by omega
      by_cases e3:find2 C ((R[i]?.getD (.int 0)).fld 1).toInt<0
      ·have:¬ 0≤find2 C ((R[i]?.getD (.int 0)).fld 1).toInt:=by omega
       simp [e1,e2,e2',e3,this]
      ·have e3':0≤find2 C ((R[i]?.getD (.int 0)).fld 1).toInt:=by omega
       by_cases h0:i=0
       ·subst h0; simp [e1,e2,e2',e3,e3']
       ·have h2:(0:Int)<i:=by omega
        have h3:((i - 1:Nat):Int)<R.length:=by omega
        simp only [VI (show i<4611686018427387904 by omega) (show 0<i by omega),e1,e2,e2',e3,e3',h2,h3,h0,Int.natCast_nonneg,and_self,if_true,Int.toNat_natCast,decide_true,decide_false,cond_true,cond_false,Bool.not_true,Bool.not_false,Bool.true_and,Bool.false_or]
        cases lexB ((R[i - 1]?.getD (.int 0)).fld 0).toInt ((R[i - 1]?.getD (.int 0)).fld 1).toInt ((R[i]?.getD (.int 0)).fld 0).toInt ((R[i]?.getD (.int 0)).fld 1).toInt <;> rfl)
    (by
     show Z82 R.length C R=_
     rw [Z82_fx]; unfold c_Z82; simp)
   have h2':Z82 0 C R=_:=h2
   simp only [hC',hR',hC,hR,decide_true,decide_false,cond_false,Bool.true_and,h1',Option.bind_some]
   cases allN (cOk C) C.length with
   | false=>rfl
   | true=>
    simp only [cond_true,Sum.elim_inr,h2',Option.bind_some,Bool.true_and]
    cases allN (rOk C R) R.length <;> rfl
  ·have hR':(24:Int)<R.length:=by omega
   simp only [hC',hR',hR,decide_true,decide_false,cond_true,cond_false,Bool.false_and,Bool.and_false]
 ·have hC':(10:Int)<C.length:=by omega
  simp only [hC',hC,decide_true,decide_false,cond_true,Bool.false_and]
theorem number_eq (n:Int):Z38 n=some (btw n 1 999):=by
 simp only [Z38,c_Z38,within_eq,Option.bind_some]
theorem kind_eq (n:Int):Z39 n=some (btw n 1 4):=by
 simp only [Z39,c_Z39,within_eq,Option.bind_some]
theorem cmpRel_eq (a b c d:Int):∃ v,Z49 a b c d=some v∧decide (0≤v)=!lexB a b c d:=by
 simp only [Z49,c_Z49,compare_eq,or_eq,Option.bind_some]
 refine ⟨_,rfl,?_⟩
 unfold cmpV lexB
 by_cases h1:a<c
 ·simp [h1]
 ·by_cases h2:c<a
  ·have:¬ a=c:=by omega
   simp [h1,h2,this]
  ·have:a=c:=by omega
   subst this
   by_cases h3:b<d
   ·simp [h3]
   ·by_cases h4:d<b <;> simp [h3,h4]
theorem valid_eq (C R:List D):Z51 C R=some (validB C R):=by
 unfold Z51 c_Z51 validB
 by_cases hC:C.length≤10
 ·have hC':¬ (10:Int)<C.length:=by omega
  by_cases hR:R.length≤24
  ·have hR':¬ (24:Int)<R.length:=by omega
   have h1:=fxAll (F:=fun i=>Z40 C C.length i C R) (len:=C.length) (cOk C) (.inl (false,C,R)) (fin:=.inr (C,R)) (fun i hi=>by
    show Z40 C C.length i C R=_
    rw [Z40_fx]
    unfold c_Z40
    have h1:(i:Int)<C.length:=by omega
    simp only [h1,decide_true,cond_true,Int.natCast_nonneg,and_self,if_true,Int.toNat_natCast,List.getD_eq_getElem?_getD,number_eq,kind_eq,Option.bind_some,Qm (show i<4611686018427387904 by omega),Option.bind_fun_some,cOk]
    cases btw ((C[i]?.getD (.int 0)).fld 0).toInt 1 999 with
    | false=>rfl
    | true=>
     cases btw ((C[i]?.getD (.int 0)).fld 1).toInt 1 4 with
     | false=>rfl
     | true=>
      by_cases h0:i=0
      ·subst h0; simp
      ·have h2:(0:Int)<i:=by omega
       have h3:((i - 1:Nat):Int)<C.length:=by omega
       simp only [VI (show i<4611686018427387904 by omega) (show 0<i by omega),h2,h3,h0,Int.natCast_nonneg,and_self,if_true,Int.toNat_natCast,decide_true,decide_false,cond_true,cond_false,Bool.not_true,Bool.true_and,Bool.false_or]
       by_cases h4:((C[i]?.getD (.int 0)).fld 0).toInt≤((C[i - 1]?.getD (.int 0)).fld 0).toInt
       ·have:¬ ((C[i - 1]?.getD (.int 0)).fld 0).toInt<((C[i]?.getD (.int 0)).fld 0).toInt:=by omega
        simp [h4,this]
       ·have:((C[i - 1]?.getD (.int 0)).fld 0).toInt<((C[i]?.getD (.int 0)).fld 0).toInt:=by omega
        simp [h4,this])
    (by
     show Z40 C C.length C.length C R=_
     rw [Z40_fx]; unfold c_Z40; simp)
   have h1':Z40 C C.length 0 C R=_:=h1
   have h2:=fxAll (F:=fun i=>Z50 R R.length i C R) (len:=R.length) (rOk C R) (.inl false) (fin:=.inr ()) (fun i hi=>by
    show Z50 R R.length i C R=_
    rw [Z50_fx]
    unfold c_Z50
    have h1:(i:Int)<R.length:=by omega
    simp only [h1,decide_true,cond_true,Int.natCast_nonneg,and_self,if_true,Int.toNat_natCast,List.getD_eq_getElem?_getD,indexOf_eq C R _ (show C.length≤100000 by omega),Option.bind_some,Qm (show i<4611686018427387904 by omega),Option.bind_fun_some,rOk]
    by_cases e1:((R[i]?.getD (.int 0)).fld 0).toInt=((R[i]?.getD (.int 0)).fld 1).toInt
    ·simp [e1]
    ·by_cases e2:find2 C ((R[i]?.getD (.int 0)).fld 0).toInt<0
     ·have:¬ 0≤find2 C ((R[i]?.getD (.int 0)).fld 0).toInt:=by omega
      simp [e1,e2,this]
     ·have e2':0≤find2 C ((R[i]?.getD (.int 0)).fld 0).toInt:=by omega
      by_cases e3:find2 C ((R[i]?.getD (.int 0)).fld 1).toInt<0
      ·have:¬ 0≤find2 C ((R[i]?.getD (.int 0)).fld 1).toInt:=by omega
       simp [e1,e2,e2',e3,this]
      ·have e3':0≤find2 C ((R[i]?.getD (.int 0)).fld 1).toInt:=by omega
       by_cases h0:i=0
       ·subst h0; simp [e1,e2,e2',e3,e3']
       ·have h2:(0:Int)<i:=by omega
        have h3:((i - 1:Nat):Int)<R.length:=by omega
        obtain ⟨v,v1,v2⟩:=cmpRel_eq ((R[i - 1]?.getD (.int 0)).fld 0).toInt ((R[i - 1]?.getD (.int 0)).fld 1).toInt ((R[i]?.getD (.int 0)).fld 0).toInt ((R[i]?.getD (.int 0)).fld 1).toInt
        simp only [VI (show i<4611686018427387904 by omega) (show 0<i by omega),e1,e2,e2',e3,e3',h2,h3,h0,v1,v2,Option.bind_some,Int.natCast_nonneg,and_self,if_true,Int.toNat_natCast,decide_true,decide_false,cond_true,cond_false,Bool.not_true,Bool.not_false,Bool.true_and,Bool.false_or]
        cases lexB ((R[i - 1]?.getD (.int 0)).fld 0).toInt ((R[i - 1]?.getD (.int 0)).fld 1).toInt ((R[i]?.getD (.int 0)).fld 0).toInt ((R[i]?.getD (.int 0)).fld 1).toInt <;> rfl)
    (by
     show Z50 R R.length R.length C R=_
     rw [Z50_fx]; unfold c_Z50; simp)
   have h2':Z50 R R.length 0 C R=_:=h2
   simp only [hC',hR',hC,hR,decide_true,decide_false,cond_false,Bool.true_and,h1',Option.bind_some]
   cases allN (cOk C) C.length with
   | false=>rfl
   | true=>
    simp only [cond_true,Sum.elim_inr,h2',Option.bind_some,Bool.true_and]
    cases allN (rOk C R) R.length <;> rfl
  ·have hR':(24:Int)<R.length:=by omega
   simp only [hC',hR',hR,decide_true,decide_false,cond_true,cond_false,Bool.false_and,Bool.and_false]
 ·have hC':(10:Int)<C.length:=by omega
  simp only [hC',hC,decide_true,decide_false,cond_true,Bool.false_and]
theorem ctxsL_tot (c:List D) (hc:okC c):∀ (k:Nat) (n i num p s:Int) (acc:List D),(n - i).toNat=k→0≤i→i≤n→n≤10→0≤p→p+4 * k≤1099511627000→(acc.length:Int)=i →
  ∃ y,Z5 n num i c p s acc=some y∧(y.1=c∧p≤y.2.1∧y.2.1≤p+4 * k∧(y.2.2.2.length:Int)=n):=by
 intro k
 induction k with
 | zero=>
  intro n i num p s acc hk h0 h1 h2 h3 h4 h5
  refine Tt.out ?_
  rw [Z5_fx]
  unfold c_Z5
  refine Tt.dec (fun hn=>by exfalso; omega) (fun _=>Tt.pure ⟨rfl,by simp only; omega,by simp only; omega,by simp only; omega⟩)
 | succ k ih=>
  intro n i num p s acc hk h0 h1 h2 h3 h4 h5
  refine Tt.out ?_
  rw [Z5_fx]
  unfold c_Z5
  refine Tt.dec (fun hn=>?_) (fun hn=>by exfalso; omega)
  (refine Tt.bind (Tt.con (pick_tot' _ hc _ _ _ (by omega) (by omega))) ?_; rintro ⟨v,c',p',s'⟩ ⟨hv,rfl,hp1,hp2⟩; dsimp only at hv hp1 hp2 ⊢)
  (refine Tt.bind (Tt.con (pick_tot' _ hc _ _ _ (by omega) (by omega))) ?_; rintro ⟨v,c',p',s'⟩ ⟨hv,rfl,hp1,hp2⟩; dsimp only at hv hp1 hp2 ⊢)
  refine Tt.ite (by simp only [List.length_cons,List.length_nil]; omega) ?_
  rw [QF (n:=i+1) (by omega) (by omega)]
  refine Tt.bind (Tt.con (ih n (i+1) _ _ _ _ (by omega) (by omega) (by omega) (by omega) (by omega) (by omega) (by simp only [List.length_append,List.length_cons,List.length_nil]; omega))) ?_
  rintro ⟨c2,p2,s2,l2⟩ ⟨e1,e2,e3,e4⟩
  simp only at e1 e2 e3 e4
  exact Tt.pure ⟨e1,by simp only; omega,by simp only; omega,by simp only; omega⟩
theorem ctxs_tot (c:List D) (hc:okC c) (p s n:Int) (hn:0≤n∧n≤10) (hp:0≤p∧p≤1099511620000):∃ y,Z6 c p s n=some y∧(y.2.1=c∧p≤y.2.2.1∧y.2.2.1≤p+40∧(y.1.length:Int)=n):=by
 refine Tt.out ?_
 unfold Z6 c_Z6
 refine Tt.bind (Tt.con (ctxsL_tot c hc _ n 0 0 p s [] rfl (by omega) (by omega) (by omega) (by omega) (by omega) (by simp))) ?_
 rintro ⟨c2,p2,s2,l2⟩ ⟨e1,e2,e3,e4⟩
 simp only at e1 e2 e3 e4
 exact Tt.pure ⟨e1,by simp only; omega,by simp only; omega,by simp only; omega⟩
theorem linkL2_tot (C R:List D) (u v:Int) (hR:R.length≤100000):∀ (m i:Nat),i+m=R.length →
  ∃ y,Z11 i C R u v=some y∧(0≤y.1∧y.1≤R.length∧y.2.1=C∧y.2.2.1=R∧y.2.2.2.1=u∧y.2.2.2.2=v):=by
 intro m
 induction m with
 | zero=>
  intro i hi
  refine Tt.out ?_
  rw [Z11_fx]
  unfold c_Z11
  refine Tt.dec (fun hn=>by exfalso; omega) (fun _=>Tt.pure ⟨by simp only; omega,by simp only; omega,rfl,rfl,rfl,rfl⟩)
 | succ m ih=>
  intro i hi
  refine Tt.out ?_
  rw [Z11_fx]
  unfold c_Z11
  refine Tt.dec (fun hn=>?_) (fun hn=>by exfalso; omega)
  refine Tt.ite (by omega) ?_
  rw [before_eq,Qm (show i<4611686018427387904 by omega)]
  refine Tt.bind (Q:=fun _=>True) (Tt.con ⟨_,rfl,trivial⟩) ?_
  rintro b -
  refine Tt.cnd (fun _=>?_) (fun _=>?_)
  ·refine Tt.bind (Tt.con (ih (i+1) (by omega))) ?_
   intro y hy
   exact Tt.pure hy
  ·exact Tt.pure ⟨by simp only; omega,by simp only; omega,rfl,rfl,rfl,rfl⟩
theorem own2_eq (C R:List D) (hC:C.length≤100000) (hR:R.length≤100000):Z9 C R=some (C,R):=by
 unfold Z9 c_Z9
 rw [if_pos (by simp; omega),if_pos (by simp; omega)]
 rfl
def InR (C R:List D):Prop:=∀ d∈R,0≤find2 C (d.fld 0).toInt∧0≤find2 C (d.fld 1).toInt
theorem num_in {C:List D} {i:Int} (h0:0≤i) (h1:i<C.length):0≤find2 C ((C.getD i.toNat (.int 0)).fld 0).toInt:=by
 unfold find2
 cases hf:QO (fun k=>decide (((C[k]?.getD (.int 0)).fld 0).toInt=((C.getD i.toNat (.int 0)).fld 0).toInt)) C.length with
 | none=>
  have:=NL hf i.toNat (by omega)
  rw [List.getD_eq_getElem?_getD] at this
  simp at this
 | some k=>simp only; omega
theorem link_in (C R:List D) (u v:Int) (hC:C.length≤100000) (hR:R.length≤99999):∃ y,Z12 C R u v=some y∧(y.1=C∧R.length≤y.2.length∧y.2.length≤R.length+1∧∀ d∈y.2,d∈R∨d=.node [.int u,.int v]):=by
 refine Tt.out ?_
 unfold Z12 c_Z12
 refine Tt.bind (Tt.con (linkL2_tot C R u v (by omega) R.length 0 (by omega))) ?_
 rintro ⟨i,C',R',u',v'⟩ ⟨h1,h2,e1,e2,e3,e4⟩
 dsimp only at h1 h2 e1 e2 e3 e4 ⊢
 subst e1 e2 e3 e4
 rw [own2_eq _ _ hC (by omega)]
 refine Tt.bind (Q:=fun y=>y=(C',R')) (Tt.con ⟨_,rfl,rfl⟩) ?_
 rintro y rfl
 dsimp only
 have app:Tt (fun _:Unit=>True) (fun y:List D×List D=>y.1=C'∧R'.length≤y.2.length∧y.2.length≤R'.length+1∧∀ d∈y.2,d∈R'∨d=.node [.int u',.int v']) (fun _=>some (C',[]++List.take (i.toNat - 0) (List.drop 0 R')++[D.node [D.int u',D.int v']]++List.take (R'.length - i.toNat) (List.drop i.toNat R'))):=by
  refine Tt.pure ⟨rfl,?_,?_,fun d hd=>?_⟩
  ·simp only [List.nil_append,List.length_append,List.length_take,List.length_drop,List.length_cons,List.length_nil]; omega
  ·simp only [List.nil_append,List.length_append,List.length_take,List.length_drop,List.length_cons,List.length_nil]; omega
  ·simp only [List.nil_append,List.mem_append,List.mem_singleton] at hd
   rcases hd with (h | h) | h
   ·exact .inl (List.mem_of_mem_drop (List.mem_of_mem_take h))
   ·exact .inr h
   ·exact .inl (List.mem_of_mem_drop (List.mem_of_mem_take h))
 refine Tt.dec (fun hn=>?_) (fun hn=>?_)
 ·refine Tt.ite (by omega) ?_
  refine Tt.cnd (fun _=>?_) (fun _=>?_)
  ·exact Tt.pure ⟨rfl,by simp only; omega,by simp only; omega,fun d hd=>.inl hd⟩
  ·refine Tt.ite (by omega) ?_
   refine Tt.ite (by simp only [List.length_take,List.length_drop,List.length_nil]; omega) ?_
   refine Tt.ite (by simp only [List.nil_append,List.length_take,List.length_drop,List.length_cons,List.length_nil]; omega) ?_
   refine Tt.ite (by omega) ?_
   refine Tt.ite (by simp only [List.nil_append,List.length_append,List.length_take,List.length_drop,List.length_cons,List.length_nil]; omega) ?_
   exact app
 ·refine Tt.ite (by omega) ?_
  refine Tt.ite (by simp only [List.length_take,List.length_drop,List.length_nil]; omega) ?_
  refine Tt.ite (by simp only [List.nil_append,List.length_take,List.length_drop,List.length_cons,List.length_nil]; omega) ?_
  refine Tt.ite (by omega) ?_
  refine Tt.ite (by simp only [List.nil_append,List.length_append,List.length_take,List.length_drop,List.length_cons,List.length_nil]; omega) ?_
  exact app
theorem link0_in (C:List D) (u v:Int) (hC:C.length≤100000):∃ y,Z10 C u v=some y∧(y.1=C∧y.2.length≤1∧∀ d∈y.2,d=.node [.int u,.int v]):=by
 have h0:Z8 0 C [] u v=some (0,C,[],u,v):=by
  rw [Z8_fx]
  unfold c_Z8
  simp
 refine ⟨(C,[D.node [D.int u,D.int v]]),?_,rfl,by simp,by simp⟩
 unfold Z10 c_Z10
 simp only [h0,Option.bind_some,own2_eq C [] hC (by simp)]
 simp
def recI (c:List D) (p q:Int) (a b:Nat) (y:List D×List D×List D×Int×Int):Prop:=y.2.2.1=c∧p≤y.2.2.2.1∧y.2.2.2.1≤q∧y.1.length≤a∧y.2.1.length≤b
theorem recL2_in (c:List D) (hc:okC c):∀ (k:Nat) (n m p s:Int) (C R:List D),m.toNat=k→n=C.length→C.length≤100→R.length+k≤1000→InR C R→0≤p→p+6 * k≤1099511627000 →
  ∃ y,Z13 n m c p s C R=some y∧(y.1=c∧p≤y.2.1∧y.2.1≤p+6 * k∧y.2.2.2.1=C∧y.2.2.2.2.length≤R.length+k∧InR C y.2.2.2.2):=by
 intro k
 induction k with
 | zero=>
  intro n m p s C R hm hn hC hR hI h0 h1
  refine Tt.out ?_
  rw [Z13_fx]
  unfold c_Z13
  refine Tt.dec (fun hn=>by exfalso; omega) (fun _=>Tt.pure ⟨rfl,by simp only; omega,by simp only; omega,rfl,by simp only; omega,hI⟩)
 | succ k ih=>
  intro n m p s C R hm hn hC hR hI h0 h1
  refine Tt.out ?_
  rw [Z13_fx]
  unfold c_Z13
  refine Tt.dec (fun hm0=>?_) (fun hm0=>by exfalso; omega)
  have go:∀ (p' s':Int) (R':List D),p≤p'→p'≤p+6→R'.length≤R.length+1→InR C R'→Tt (fun _:Unit=>True) (fun y:List D×Int×Int×List D×List D=>y.1=c∧p≤y.2.1∧y.2.1≤p+6 * ((k+1:Nat):Int)∧y.2.2.2.1=C∧y.2.2.2.2.length≤R.length+(k+1)∧InR C y.2.2.2.2) (fun _=>(Z13 n (IntKind.i64.wrap (m - 1)) c p' s' C R').bind some):=by
   intro p' s' R' g1 g2 g3 g4
   rw [QF (n:=m - 1) (by omega) (by omega)]
   refine Tt.bind (Tt.con (ih n (m - 1) p' s' C R' (by omega) hn hC (by omega) g4 (by omega) (by omega))) ?_
   rintro ⟨c2,p2,s2,C2,R2⟩ ⟨e1,e2,e3,e4,e5,e6⟩
   simp only at e1 e2 e3 e4 e5 e6
   exact Tt.pure ⟨e1,by simp only; omega,by simp only; omega,e4,by simp only; omega,e6⟩
  refine Tt.dec (fun hn1=>?_) (fun _=>Tt.pure ⟨rfl,by simp only; omega,by simp only; omega,rfl,by simp only; omega,hI⟩)
  refine Tt.bind (Tt.con (pick_tot' _ hc _ _ _ (by omega) (by omega))) ?_
  rintro ⟨i,c1,p1,s1⟩ ⟨hi,e1,hp1,hp2⟩
  dsimp only at hi e1 hp1 hp2 ⊢
  rw [e1]
  refine Tt.bind (Tt.con (pick_tot' _ hc _ _ _ (by omega) (by omega))) ?_
  rintro ⟨j,c2,p2,s2⟩ ⟨hj,e2,hp3,hp4⟩
  dsimp only at hj e2 hp3 hp4 ⊢
  rw [e2]
  have linkT:∀ (u v p' s':Int),p≤p'→p'≤p+6→0≤find2 C u→0≤find2 C v→Tt (fun _:Unit=>True) (fun y:List D×Int×Int×List D×List D=>y.1=c∧p≤y.2.1∧y.2.1≤p+6 * ((k+1:Nat):Int)∧y.2.2.2.1=C∧y.2.2.2.2.length≤R.length+(k+1)∧InR C y.2.2.2.2)
    (fun _=>(Z12 C R u v).bind (fun z=>(Z13 n (IntKind.i64.wrap (m - 1)) c p' s' z.1 z.2).bind some)):=by
   intro u v p' s' g1 g2 gu gv
   refine Tt.bind (Tt.con (link_in C R u v (by omega) (by omega))) ?_
   rintro ⟨C3,R3⟩ ⟨rfl,q1,q2,q3⟩
   dsimp only at q1 q2 q3 hI gu gv ⊢
   exact go p' s' R3 g1 g2 q2 (fun d hd=>by
    rcases q3 d hd with h | h
    ·exact hI d h
    ·subst h; exact ⟨gu,gv⟩)
  refine Tt.dec (fun _=>?_) (fun _=>?_)
  ·refine Tt.bind (Tt.con (one_tot' _ hc _ _ _ (by omega) (by omega))) ?_
   rintro ⟨w,c3,p3,s3⟩ ⟨_,e3,hp5,hp6⟩
   dsimp only at e3 hp5 hp6 ⊢
   rw [e3]
   refine Tt.cnd (fun _=>?_) (fun _=>?_)
   ·refine Tt.ndec (fun _=>?_) (fun _=>go _ _ R (by omega) (by omega) (by omega) hI)
    repeat refine Tt.ite (by omega) ?_
    exact linkT _ _ _ _ (by omega) (by omega) (num_in (by omega) (by omega)) (num_in (by omega) (by omega))
   ·refine Tt.ndec (fun _=>?_) (fun _=>go _ _ R (by omega) (by omega) (by omega) hI)
    repeat refine Tt.ite (by omega) ?_
    exact linkT _ _ _ _ (by omega) (by omega) (num_in (by omega) (by omega)) (num_in (by omega) (by omega))
  ·refine Tt.ndec (fun _=>?_) (fun _=>go _ _ R (by omega) (by omega) (by omega) hI)
   repeat refine Tt.ite (by omega) ?_
   exact linkT _ _ _ _ (by omega) (by omega) (num_in (by omega) (by omega)) (num_in (by omega) (by omega))
theorem recL_in (c:List D) (hc:okC c):∀ (k:Nat) (n m p s:Int) (C:List D),m.toNat=k→n=C.length→C.length≤100→k≤100→0≤p→p+6 * k≤1099511627000 →
  ∃ y,Z14 n m c p s C=some y∧(match y with
   | .inl y=>y.1=c∧p≤y.2.1∧y.2.1≤p+6 * k∧y.2.2.2.1=C∧y.2.2.2.2.length≤k∧InR C y.2.2.2.2
   | .inr y=>y.1=c∧p≤y.2.1∧y.2.1≤p+6 * k∧y.2.2.2=C):=by
 intro k
 induction k with
 | zero=>
  intro n m p s C hm hn hC hR h0 h1
  refine Tt.out ?_
  rw [Z14_fx]
  unfold c_Z14
  refine Tt.dec (fun hn=>by exfalso; omega) (fun _=>Tt.pure ⟨rfl,by simp only; omega,by simp only; omega,rfl⟩)
 | succ k ih=>
  intro n m p s C hm hn hC hR h0 h1
  refine Tt.out ?_
  rw [Z14_fx]
  unfold c_Z14
  refine Tt.dec (fun hm0=>?_) (fun hm0=>by exfalso; omega)
  let PP':(List D×Int×Int×List D×List D)⊕(List D×Int×Int×List D)→Prop:=fun y=>match y with
   | .inl y=>y.1=c∧p≤y.2.1∧y.2.1≤p+6 * ((k+1:Nat):Int)∧y.2.2.2.1=C∧y.2.2.2.2.length≤k+1∧InR C y.2.2.2.2
   | .inr y=>y.1=c∧p≤y.2.1∧y.2.1≤p+6 * ((k+1:Nat):Int)∧y.2.2.2=C
  have go:∀ (p' s':Int),p≤p'→p'≤p+6→Tt (fun _:Unit=>True) PP' (fun _=>(Z14 n (IntKind.i64.wrap (m - 1)) c p' s' C).bind some):=by
   intro p' s' g1 g2
   rw [QF (n:=m - 1) (by omega) (by omega)]
   refine Tt.bind (Tt.con (ih n (m - 1) p' s' C (by omega) hn hC (by omega) (by omega) (by omega))) ?_
   rintro (⟨c2,p2,s2,C2,R2⟩ | ⟨c2,p2,s2,C2⟩) h
   ·obtain ⟨e1,e2,e3,e4,e5,e6⟩:=h
    simp only at e1 e2 e3 e4 e5 e6
    exact Tt.pure ⟨e1,by simp only; omega,by simp only; omega,e4,by simp only; omega,e6⟩
   ·obtain ⟨e1,e2,e3,e4⟩:=h
    simp only at e1 e2 e3 e4
    exact Tt.pure ⟨e1,by simp only; omega,by simp only; omega,e4⟩
  refine Tt.dec (fun hn1=>?_) (fun _=>Tt.pure ⟨rfl,by simp only; omega,by simp only; omega,rfl⟩)
  refine Tt.bind (Tt.con (pick_tot' _ hc _ _ _ (by omega) (by omega))) ?_
  rintro ⟨i,c1,p1,s1⟩ ⟨hi,e1,hp1,hp2⟩
  dsimp only at hi e1 hp1 hp2 ⊢
  rw [e1]
  refine Tt.bind (Tt.con (pick_tot' _ hc _ _ _ (by omega) (by omega))) ?_
  rintro ⟨j,c2,p2,s2⟩ ⟨hj,e2,hp3,hp4⟩
  dsimp only at hj e2 hp3 hp4 ⊢
  rw [e2]
  have linkT:∀ (u v p' s':Int),p≤p'→p'≤p+6→0≤find2 C u→0≤find2 C v→Tt (fun _:Unit=>True) PP'
    (fun _=>(Z10 C u v).bind (fun z=>(Z13 n (IntKind.i64.wrap (m - 1)) c p' s' z.1 z.2).bind (fun w=>some (.inl (w.1,w.2.1,w.2.2.1,w.2.2.2.1,w.2.2.2.2))))):=by
   intro u v p' s' g1 g2 gu gv
   refine Tt.bind (Tt.con (link0_in C u v (by omega))) ?_
   rintro ⟨C3,R3⟩ ⟨rfl,q1,q3⟩
   dsimp only at q1 q3 gu gv ⊢
   rw [QF (n:=m - 1) (by omega) (by omega)]
   refine Tt.bind (Tt.con (recL2_in c hc k n (m - 1) p' s' C3 R3 (by omega) hn hC (by omega) (fun d hd=>by rw [q3 d hd]; exact ⟨gu,gv⟩) (by omega) (by omega))) ?_
   rintro ⟨c2,p2,s2,C2,R2⟩ ⟨e1,e2,e3,e4,e5,e6⟩
   simp only at e1 e2 e3 e4 e5 e6
   exact Tt.pure ⟨e1,by simp only; omega,by simp only; omega,e4,by simp only; omega,e6⟩
  refine Tt.dec (fun _=>?_) (fun _=>?_)
  ·refine Tt.bind (Tt.con (one_tot' _ hc _ _ _ (by omega) (by omega))) ?_
   rintro ⟨w,c3,p3,s3⟩ ⟨_,e3,hp5,hp6⟩
   dsimp only at e3 hp5 hp6 ⊢
   rw [e3]
   refine Tt.cnd (fun _=>?_) (fun _=>?_)
   ·refine Tt.ndec (fun _=>?_) (fun _=>go _ _ (by omega) (by omega))
    repeat refine Tt.ite (by omega) ?_
    exact linkT _ _ _ _ (by omega) (by omega) (num_in (by omega) (by omega)) (num_in (by omega) (by omega))
   ·refine Tt.ndec (fun _=>?_) (fun _=>go _ _ (by omega) (by omega))
    repeat refine Tt.ite (by omega) ?_
    exact linkT _ _ _ _ (by omega) (by omega) (num_in (by omega) (by omega)) (num_in (by omega) (by omega))
  ·refine Tt.ndec (fun _=>?_) (fun _=>go _ _ (by omega) (by omega))
   repeat refine Tt.ite (by omega) ?_
   exact linkT _ _ _ _ (by omega) (by omega) (num_in (by omega) (by omega)) (num_in (by omega) (by omega))
theorem record_in (c:List D) (hc:okC c) (p s:Int) (hp:0≤p∧p≤1099511619000):∃ y,Z15 c p s=some y∧(recI c p (p+200) 10 20 y∧InR y.1 y.2.1):=by
 refine Tt.out ?_
 unfold Z15 c_Z15
 (refine Tt.bind (Tt.con (pick_tot' _ hc _ _ _ (by omega) (by omega))) ?_; rintro ⟨v,c',p',s'⟩ ⟨hv,rfl,hp1,hp2⟩; dsimp only at hv hp1 hp2 ⊢)
 refine Tt.bind (Tt.con (ctxs_tot _ hc _ _ _ (by omega) (by omega))) ?_
 rintro ⟨C,c2,p2,s2⟩ ⟨rfl,e2,e3,e4⟩
 dsimp only at e2 e3 e4 ⊢
 (refine Tt.bind (Tt.con (pick_tot' _ hc _ _ _ (by omega) (by omega))) ?_; rintro ⟨v,c',p',s'⟩ ⟨hv,rfl,hp1,hp2⟩; dsimp only at hv hp1 hp2 ⊢)
 refine Tt.bind (Tt.con (recL_in _ hc _ _ _ _ _ C rfl rfl (by omega) (by omega) (by omega) (by omega))) ?_
 rintro (⟨c5,p5,s5,C5,R5⟩ | ⟨c5,p5,s5,C5⟩) h
 ·obtain ⟨g1,g2,g3,g4,g5,g6⟩:=h
  simp only at g1 g2 g3 g4 g5 g6
  subst g4
  exact Tt.pure ⟨⟨g1,by simp only; omega,by simp only; omega,by simp only; omega,by simp only; omega⟩,g6⟩
 ·obtain ⟨g1,g2,g3,g4⟩:=h
  simp only at g1 g2 g3 g4
  subst g4
  exact Tt.pure ⟨⟨g1,by simp only; omega,by simp only; omega,by simp only; omega,by simp only [List.length_nil]; omega⟩,fun d hd=>by cases hd⟩
theorem link_tot (C R:List D) (u v:Int) (hC:C.length≤100000) (hR:R.length≤99999):∃ y,Z12 C R u v=some y∧(y.1=C∧R.length≤y.2.length∧y.2.length≤R.length+1):=by
 obtain ⟨y,h1,h2,h3,h4,_⟩:=link_in C R u v hC hR
 exact ⟨y,h1,h2,h3,h4⟩
theorem record_tot (c:List D) (hc:okC c) (p s:Int) (hp:0≤p∧p≤1099511619000):∃ y,Z15 c p s=some y∧recI c p (p+200) 10 20 y:=by
 obtain ⟨y,h1,h2,_⟩:=record_in c hc p s hp
 exact ⟨y,h1,h2⟩
theorem anyL17v_tot (c:List D) (hc:okC c):∀ (k:Nat) (n p s:Int) (R C:List D),(12 - n).toNat=k→0≤n→n≤12→C.length+k≤1000→0≤p→p+2 * (k+1)≤1099511627000 →
  ∃ y,Z17 n c p s R C=some y∧(y.1=c∧p≤y.2.1∧y.2.1≤p+2 * (k+1)∧y.2.2.2.1=R∧y.2.2.2.2.length≤C.length+k):=by
 intro k
 induction k with
 | zero=>
  intro n p s R C hk h0 h1 h2 h3 h4
  refine Tt.out ?_
  rw [Z17_fx]
  unfold c_Z17
  (refine Tt.bind (Tt.con (pick_tot' _ hc _ _ _ (by omega) (by omega))) ?_; rintro ⟨v,c',p',s'⟩ ⟨hv,rfl,hp1,hp2⟩; dsimp only at hv hp1 hp2 ⊢)
  refine Tt.dec (fun _=>?_) (fun _=>Tt.pure ⟨rfl,by simp only; omega,by simp only; omega,rfl,by simp only; omega⟩)
  refine Tt.dec (fun _=>by exfalso; omega) (fun _=>Tt.pure ⟨rfl,by simp only; omega,by simp only; omega,rfl,by simp only; omega⟩)
 | succ k ih=>
  intro n p s R C hk h0 h1 h2 h3 h4
  refine Tt.out ?_
  rw [Z17_fx]
  unfold c_Z17
  (refine Tt.bind (Tt.con (pick_tot' _ hc _ _ _ (by omega) (by omega))) ?_; rintro ⟨v,c',p',s'⟩ ⟨hv,rfl,hp1,hp2⟩; dsimp only at hv hp1 hp2 ⊢)
  refine Tt.dec (fun _=>?_) (fun _=>Tt.pure ⟨rfl,by simp only; omega,by simp only; omega,rfl,by simp only; omega⟩)
  refine Tt.dec (fun _=>?_) (fun _=>Tt.pure ⟨rfl,by simp only; omega,by simp only; omega,rfl,by simp only; omega⟩)
  refine Tt.ite (by simp only [List.length_cons,List.length_nil]; omega) ?_
  rw [QF (n:=n+1) (by omega) (by omega)]
  refine Tt.bind (Tt.con (ih (n+1) _ _ R _ (by omega) (by omega) (by omega) (by simp only [List.length_append,List.length_cons,List.length_nil]; omega) (by omega) (by omega))) ?_
  rintro ⟨c2,p2,s2,R2,C2⟩ ⟨e1,e2,e3,e4,e5⟩
  simp only [List.length_append,List.length_cons,List.length_nil] at e1 e2 e3 e4 e5
  exact Tt.pure ⟨e1,by simp only; omega,by simp only; omega,e4,by simp only; omega⟩
theorem anyL17_tot (c:List D) (hc:okC c) (p s:Int) (C R:List D) (hp:0≤p∧p≤1099511620000) (hC:C.length≤100):∃ y,Z18 0 c p s C R=some y∧(match y with
   | .inl y=>y.1=c∧p≤y.2.1∧y.2.1≤p+100∧y.2.2.2.1=R∧y.2.2.2.2.length≤C.length+12
   | .inr y=>y.1=c∧p≤y.2.1∧y.2.1≤p+100∧y.2.2.2.1=C∧y.2.2.2.2=R):=by
 refine Tt.out ?_
 rw [Z18_fx]
 unfold c_Z18
 (refine Tt.bind (Tt.con (pick_tot' _ hc _ _ _ (by omega) (by omega))) ?_; rintro ⟨v,c',p',s'⟩ ⟨hv,rfl,hp1,hp2⟩; dsimp only at hv hp1 hp2 ⊢)
 refine Tt.dec (fun _=>?_) (fun _=>Tt.pure ⟨rfl,by simp only; omega,by simp only; omega,rfl,rfl⟩)
 refine Tt.dec (fun _=>?_) (fun _=>Tt.pure ⟨rfl,by simp only; omega,by simp only; omega,rfl,rfl⟩)
 refine Tt.ite (by simp only [List.length_cons,List.length_nil]; omega) ?_
 refine Tt.bind (Tt.con (anyL17v_tot _ hc 11 1 _ _ R _ (by decide) (by omega) (by omega) (by simp only [List.length_append,List.length_cons,List.length_nil]; omega) (by omega) (by omega))) ?_
 rintro ⟨c2,p2,s2,R2,C2⟩ ⟨e1,e2,e3,e4,e5⟩
 simp only [List.length_append,List.length_cons,List.length_nil] at e1 e2 e3 e4 e5
 exact Tt.pure ⟨e1,by simp only; omega,by simp only; omega,e4,by simp only; omega⟩
def rowN (r a b:Nat):Nat:=min 25 (r+(7 - b) - (if b≤a then 1 else 0))
theorem anyL28v_tot (c:List D) (p s:Int) (C:List D) (hC:C.length=7) (a:Nat) (ha:a<7):∀ (m b:Nat) (R:List D),b+m=7→R.length≤25 →
  ∃ R',Z19 a b c p s C R=some ((a:Int),c,p,s,C,R')∧R'.length=rowN R.length a b:=by
 intro m
 induction m with
 | zero=>
  intro b R hb hR
  refine ⟨R,?_,?_⟩
  ·rw [Z19_fx]
   unfold c_Z19
   have h1:¬ (b:Int)<7:=by omega
   simp only [h1,decide_false,cond_false]
  ·unfold rowN; split <;> omega
 | succ m ih=>
  intro b R hb hR
  rw [Z19_fx]
  unfold c_Z19
  have h1:(b:Int)<7:=by omega
  simp only [h1,decide_true,cond_true]
  by_cases h25:R.length<25
  ·have h2:(R.length:Int)<25:=by omega
   simp only [h2,decide_true,cond_true,Qm (show b<4611686018427387904 by omega)]
   by_cases hab:a=b
   ·have h3:(a:Int)=(b:Int):=by omega
    simp only [h3,decide_true,Bool.not_true,cond_false]
    obtain ⟨R',e1,e2⟩:=ih (b+1) R (by omega) hR
    rw [hab] at e1
    refine ⟨R',by rw [e1]; rfl,?_⟩
    rw [e2]
    unfold rowN
    rw [if_neg (by omega),if_pos (by omega)]
    omega
   ·have h3:¬ (a:Int)=(b:Int):=by omega
    have g1:(0:Int)≤(a:Int)∧(a:Int)<C.length:=by omega
    have g2:a+1≤C.length:=by omega
    have g3:(0:Int)≤(b:Int)∧(b:Int)<C.length:=by omega
    have g4:b+1≤C.length:=by omega
    have g5:R.length+[D.node [D.int ((C.getD a (.int 0)).fld 0).toInt,D.int ((C.getD b (.int 0)).fld 0).toInt]].length≤4294967296:=by
     simp only [List.length_cons,List.length_nil]; omega
    simp only [h3,decide_false,Bool.not_false,cond_true,if_pos g1,Int.toNat_natCast,if_pos g2,if_pos g3,if_pos g4,if_pos g5]
    obtain ⟨R',e1,e2⟩:=ih (b+1) (R++[D.node [D.int ((C.getD a (.int 0)).fld 0).toInt,D.int ((C.getD b (.int 0)).fld 0).toInt]]) (by omega) (by simp; omega)
    refine ⟨R',by rw [e1]; rfl,?_⟩
    rw [e2]
    unfold rowN
    simp only [List.length_append,List.length_cons,List.length_nil]
    by_cases hle:b≤a
    ·rw [if_pos (by omega),if_pos hle]; omega
    ·rw [if_neg (by omega),if_neg hle]; omega
  ·have h2:¬ (R.length:Int)<25:=by omega
   simp only [h2,decide_false,cond_false]
   refine ⟨R,rfl,?_⟩
   unfold rowN
   split <;> omega
theorem anyL28_tot (c:List D) (p s:Int) (C:List D) (hC:C.length=7) (a:Nat) (ha:a<7):∀ (m b:Nat) (R:List D),b+m=7→R.length≤25 →
  ∃ R',(Z20 a b c p s C R=some (.inl ((a:Int),c,p,s,C,R'))∨Z20 a b c p s C R=some (.inr ((a:Int),c,p,s,C,R')))∧R'.length=rowN R.length a b:=by
 intro m
 induction m with
 | zero=>
  intro b R hb hR
  refine ⟨R,.inr ?_,?_⟩
  ·rw [Z20_fx]
   unfold c_Z20
   have h1:¬ (b:Int)<7:=by omega
   simp only [h1,decide_false,cond_false]
  ·unfold rowN; split <;> omega
 | succ m ih=>
  intro b R hb hR
  rw [Z20_fx]
  unfold c_Z20
  have h1:(b:Int)<7:=by omega
  simp only [h1,decide_true,cond_true]
  by_cases h25:R.length<25
  ·have h2:(R.length:Int)<25:=by omega
   simp only [h2,decide_true,cond_true,Qm (show b<4611686018427387904 by omega)]
   by_cases hab:a=b
   ·have h3:(a:Int)=(b:Int):=by omega
    simp only [h3,decide_true,Bool.not_true,cond_false]
    obtain ⟨R',e1,e2⟩:=ih (b+1) R (by omega) hR
    rw [hab] at e1
    refine ⟨R',by rcases e1 with e1 | e1 <;> rw [e1] <;> simp,?_⟩
    rw [e2]
    unfold rowN
    rw [if_neg (by omega),if_pos (by omega)]
    omega
   ·have h3:¬ (a:Int)=(b:Int):=by omega
    have g1:(0:Int)≤(a:Int)∧(a:Int)<C.length:=by omega
    have g2:a+1≤C.length:=by omega
    have g3:(0:Int)≤(b:Int)∧(b:Int)<C.length:=by omega
    have g4:b+1≤C.length:=by omega
    have g5:R.length+[D.node [D.int ((C.getD a (.int 0)).fld 0).toInt,D.int ((C.getD b (.int 0)).fld 0).toInt]].length≤4294967296:=by
     simp only [List.length_cons,List.length_nil]; omega
    simp only [h3,decide_false,Bool.not_false,cond_true,if_pos g1,Int.toNat_natCast,if_pos g2,if_pos g3,if_pos g4,if_pos g5]
    obtain ⟨R',e1,e2⟩:=anyL28v_tot c p s C hC a ha m (b+1) (R++[D.node [D.int ((C.getD a (.int 0)).fld 0).toInt,D.int ((C.getD b (.int 0)).fld 0).toInt]]) (by omega) (by simp; omega)
    refine ⟨R',.inl (by rw [e1]; rfl),?_⟩
    rw [e2]
    unfold rowN
    simp only [List.length_append,List.length_cons,List.length_nil]
    by_cases hle:b≤a
    ·rw [if_pos (by omega),if_pos hle]; omega
    ·rw [if_neg (by omega),if_neg hle]; omega
  ·have h2:¬ (R.length:Int)<25:=by omega
   simp only [h2,decide_false,cond_false]
   refine ⟨R,.inr rfl,?_⟩
   unfold rowN
   split <;> omega
theorem rowN0 {r a:Nat}:rowN r a 0=min 25 (r+6):=by unfold rowN; rw [if_pos (by omega)]; omega
theorem anyL25v_tot (c:List D) (p s:Int) (C:List D) (hC:C.length=7):∀ (m a:Nat) (R:List D),a+m=7→R.length≤25 →
  ∃ R',Z21 a c p s C R=some (c,p,s,C,R')∧R'.length=min 25 (R.length+6 * m):=by
 intro m
 induction m with
 | zero=>
  intro a R ha hR
  refine ⟨R,?_,by omega⟩
  rw [Z21_fx]
  unfold c_Z21
  have h1:¬ (a:Int)<7:=by omega
  simp only [h1,decide_false,cond_false]
 | succ m ih=>
  intro a R ha hR
  obtain ⟨R1,e1,e2⟩:=anyL28v_tot c p s C hC a (by omega) 7 0 R (by omega) hR
  have e1':Z19 a 0 c p s C R=_:=e1
  rw [rowN0] at e2
  obtain ⟨R2,f1,f2⟩:=ih (a+1) R1 (by omega) (by omega)
  refine ⟨R2,?_,by omega⟩
  rw [Z21_fx]
  unfold c_Z21
  have h1:(a:Int)<7:=by omega
  simp only [h1,decide_true,cond_true,e1',Option.bind_some,Qm (show a<4611686018427387904 by omega),f1]
theorem anyL25_tot (c:List D) (p s:Int) (C:List D) (hC:C.length=7):∀ (m a:Nat) (R:List D),a+m=7→R.length≤25 →
  ∃ R',(Z22 a c p s C R=some (.inl (c,p,s,C,R'))∨Z22 a c p s C R=some (.inr (c,p,s,C,R')))∧R'.length=min 25 (R.length+6 * m):=by
 intro m
 induction m with
 | zero=>
  intro a R ha hR
  refine ⟨R,.inr ?_,by omega⟩
  rw [Z22_fx]
  unfold c_Z22
  have h1:¬ (a:Int)<7:=by omega
  simp only [h1,decide_false,cond_false]
 | succ m ih=>
  intro a R ha hR
  obtain ⟨R1,e1,e2⟩:=anyL28_tot c p s C hC a (by omega) 7 0 R (by omega) hR
  rw [rowN0] at e2
  have h1:(a:Int)<7:=by omega
  rcases e1 with e1 | e1
  ·have e1':Z20 a 0 c p s C R=_:=e1
   obtain ⟨R2,f1,f2⟩:=anyL25v_tot c p s C hC m (a+1) R1 (by omega) (by omega)
   refine ⟨R2,.inl ?_,by omega⟩
   rw [Z22_fx]
   unfold c_Z22
   simp only [h1,decide_true,cond_true,e1',Option.bind_some,Sum.elim_inl,Qm (show a<4611686018427387904 by omega),f1]
  ·have e1':Z20 a 0 c p s C R=_:=e1
   obtain ⟨R2,f1,f2⟩:=ih (a+1) R1 (by omega) (by omega)
   refine ⟨R2,?_,by omega⟩
   rw [Z22_fx]
   unfold c_Z22
   simp only [h1,decide_true,cond_true,e1',Option.bind_some,Sum.elim_inr,Qm (show a<4611686018427387904 by omega)]
   rcases f1 with f1 | f1 <;> rw [f1] <;> simp
theorem any_tot (c:List D) (hc:okC c) (p s:Int) (hp:0≤p∧p≤1099511610000):∃ y,Z23 c p s=some y∧recI c p (p+500) 100 100 y:=by
 refine Tt.out ?_
 unfold Z23 c_Z23
 refine Tt.bind (Tt.con (record_tot _ hc _ _ (by omega))) ?_
 rintro ⟨C,R,c1,p1,s1⟩ ⟨rfl,q1,q2,q3,q4⟩
 dsimp only at q1 q2 q3 q4 ⊢
 refine Tt.dec (fun _=>Tt.pure ⟨rfl,by simp only; omega,by simp only; omega,by simp only; omega,by simp only; omega⟩) (fun hne=>?_)
 refine Tt.bind (Tt.con (pick_tot' _ hc _ _ _ (by omega) (by omega))) ?_
 rintro ⟨i,c2,p2,s2⟩ ⟨hi,rfl,hp1,hp2⟩
 dsimp only at hi hp1 hp2 ⊢
 refine Tt.ite (by omega) ?_
 refine Tt.ite (by omega) ?_
 refine Tt.bind (Tt.con (pick_tot' _ hc _ _ _ (by omega) (by omega))) ?_
 rintro ⟨w,c3,p3,s3⟩ ⟨hw,rfl,hp3,hp4⟩
 dsimp only at hw hp3 hp4 ⊢
 refine Tt.dec (fun _=>?_) (fun _=>?_)
 ·(refine Tt.bind (Tt.con (among_tot _ hc _ _ _ (by omega) (by simp))) ?_; rintro ⟨v,c',p',s'⟩ ⟨hv,rfl,hp1,hp2⟩; dsimp only at hv hp1 hp2 ⊢)
  refine Tt.ite (by omega) ?_
  refine Tt.ite (by omega) ?_
  exact Tt.pure ⟨rfl,by simp only; omega,by simp only; omega,by simp only [List.length_set]; omega,by simp only; omega⟩
 ·refine Tt.dec (fun _=>?_) (fun _=>?_)
  ·(refine Tt.bind (Tt.con (pick_tot' _ hc _ _ _ (by omega) (by omega))) ?_; rintro ⟨v,c',p',s'⟩ ⟨hv,rfl,hp1,hp2⟩; dsimp only at hv hp1 hp2 ⊢)
   refine Tt.ite (by omega) ?_
   refine Tt.ite (by omega) ?_
   exact Tt.pure ⟨rfl,by simp only; omega,by simp only; omega,by simp only [List.length_set]; omega,by simp only; omega⟩
  ·refine Tt.dec (fun _=>?_) (fun _=>?_)
   ·refine Tt.ite (by simp only [List.length_cons,List.length_nil]; omega) ?_
    refine Tt.ite (by omega) ?_
    refine Tt.ite (by omega) ?_
    exact Tt.pure ⟨rfl,by simp only; omega,by simp only; omega,by simp only [List.length_set]; omega,by simp only [List.length_append,List.length_cons,List.length_nil]; omega⟩
   ·refine Tt.dec (fun _=>?_) (fun _=>?_)
    ·(refine Tt.bind (Tt.con (pick_tot' _ hc _ _ _ (by omega) (by omega))) ?_; rintro ⟨v,c',p',s'⟩ ⟨hv,rfl,hp1,hp2⟩; dsimp only at hv hp1 hp2 ⊢)
     (refine Tt.bind (Tt.con (pick_tot' _ hc _ _ _ (by omega) (by omega))) ?_; rintro ⟨v,c',p',s'⟩ ⟨hv,rfl,hp1,hp2⟩; dsimp only at hv hp1 hp2 ⊢)
     refine Tt.ite (by simp only [List.length_cons,List.length_nil]; omega) ?_
     refine Tt.ite (by omega) ?_
     refine Tt.ite (by omega) ?_
     exact Tt.pure ⟨rfl,by simp only; omega,by simp only; omega,by simp only [List.length_set]; omega,by simp only [List.length_append,List.length_cons,List.length_nil]; omega⟩
    ·refine Tt.dec (fun _=>?_) (fun _=>?_)
     ·refine Tt.bind (Tt.con (anyL17_tot _ hc _ _ C R (by omega) (by omega))) ?_
      rintro (⟨c5,p5,s5,R5,C5⟩ | ⟨c5,p5,s5,C5,R5⟩) h
      ·obtain ⟨g1,g2,g3,g4,g5⟩:=h
       simp only at g1 g2 g3 g4 g5
       exact Tt.pure ⟨g1,by simp only; omega,by simp only; omega,by simp only; omega,by simp only [g4]; omega⟩
      ·obtain ⟨g1,g2,g3,g4,g5⟩:=h
       simp only at g1 g2 g3 g4 g5
       exact Tt.pure ⟨g1,by simp only; omega,by simp only; omega,by simp only [g4]; omega,by simp only [g5]; omega⟩
     ·refine Tt.dec (fun _=>?_) (fun _=>?_)
      ·refine Tt.bind (Tt.con (ctxs_tot _ hc _ _ _ (by omega) (by omega))) ?_
       rintro ⟨C6,c6,p6,s6⟩ ⟨rfl,e2,e3,e4⟩
       dsimp only at e2 e3 e4 ⊢
       obtain ⟨R7,f1,f2⟩:=anyL25_tot c6 p6 s6 C6 (by omega) 7 0 [] (by omega) (by simp)
       simp only [List.length_nil] at f2
       have fin:Tt (fun _:Unit=>True) (recI c6 p (p+500) 100 100) (fun _=>(Z3 c6 p6 s6 2).bind (fun y11=>if (0:Int)≤0∧0≤IntKind.i64.wrap (24+y11.1)∧IntKind.i64.wrap (24+y11.1)≤R7.length then (if 0+((IntKind.i64.wrap (24+y11.1)).toNat - 0)≤R7.length then some (C6,List.take ((IntKind.i64.wrap (24+y11.1)).toNat - 0) (List.drop 0 R7),y11.2.1,y11.2.2.1,y11.2.2.2) else none) else none)):=by
        refine Tt.bind (Tt.con (pick_tot' _ hc _ _ _ (by omega) (by omega))) ?_
        rintro ⟨x,c8,p8,s8⟩ ⟨hx,rfl,r1,r2⟩
        dsimp only at hx r1 r2 ⊢
        rw [QF (n:=24+x) (by omega) (by omega)]
        refine Tt.ite (by omega) ?_
        refine Tt.ite (by omega) ?_
        exact Tt.pure ⟨rfl,by simp only; omega,by simp only; omega,by simp only; omega,by simp only [List.length_take,List.length_drop]; omega⟩
       rcases f1 with f1 | f1
       ·have f1':Z22 0 c6 p6 s6 C6 []=_:=f1
        rw [f1']
        exact fin
       ·have f1':Z22 0 c6 p6 s6 C6 []=_:=f1
        rw [f1']
        exact fin
      ·refine Tt.ite (by omega) ?_
       refine Tt.ite (by omega) ?_
       exact Tt.pure ⟨rfl,by simp only; omega,by simp only; omega,by simp only [List.length_set]; omega,by simp only; omega⟩
def at2 (M:List D) (i k:Nat):Bool:=((M.getD i (.int 0)).items.getD k (.int 0)).toBool
def set2 (M:List D) (i k:Nat) (b:Bool):List D:=M.set i (.node ((M.getD i (.int 0)).items.set k (.bool b)))
structure Sq (n:Nat) (M:List D):Prop where
 len:M.length=n
 row:∀ i,i<n→(M.getD i (.int 0)).items.length=n
theorem getD_set {l:List D} {i j:Nat} {x:D} (h:i<l.length):(l.set i x).getD j (.int 0)=if i=j then x else l.getD j (.int 0):=by
 rw [List.getD_eq_getElem?_getD,List.getD_eq_getElem?_getD,List.getElem?_set]
 by_cases e:i=j
 ·subst e; simp [h]
 ·simp [e]
theorem Sq.set {n:Nat} {M:List D} (h:Sq n M) {i k:Nat} (hi:i<n) (b:Bool):Sq n (set2 M i k b):=by
 refine ⟨by simp [set2,h.len],fun j hj=>?_⟩
 unfold set2
 rw [getD_set (by rw [h.len]; exact hi)]
 split
 ·simp only [WL,List.length_set]; exact h.row i hi
 ·exact h.row j hj
theorem at2_set {n:Nat} {M:List D} (h:Sq n M) {i k a c:Nat} (hi:i<n) (hk:k<n) (b:Bool):at2 (set2 M i k b) a c=if a=i∧c=k then b else at2 M a c:=by
 unfold at2 set2
 rw [getD_set (by rw [h.len]; exact hi)]
 by_cases e:i=a
 ·subst e
  rw [if_pos rfl]
  simp only [WL]
  rw [getD_set (by rw [h.row i hi]; exact hk)]
  by_cases e2:k=c
  ·subst e2; simp [qC]
  ·have:¬ c=k:=fun e=>e2 e.symm
   simp [e2,this]
 ·have:¬ a=i:=fun e'=>e e'.symm
  rw [if_neg e]
  simp [this]
theorem at2_lt {n:Nat} {M:List D} (h:Sq n M) {a c:Nat} (hv:at2 M a c=true):a<n∧c<n:=by
 unfold at2 at hv
 by_cases ha:a<n
 ·refine ⟨ha,?_⟩
  by_cases hc:c<n
  ·exact hc
  ·rw [List.getD_eq_getElem?_getD (l:=(M.getD a (.int 0)).items),List.getElem?_eq_none (by rw [h.row a ha]; omega)] at hv
   cases hv
 ·rw [List.getD_eq_getElem?_getD (l:=M),List.getElem?_eq_none (by rw [h.len]; omega)] at hv
  simp [D.items] at hv
  cases hv
structure Clo (n:Nat) (M M':List D):Prop where
 sq:Sq n M'
 mono:∀ a b,at2 M a b=true→at2 M' a b=true
 sound:∀ T:Nat→Nat→Prop,(∀ a b c,T a b→T b c→T a c)→(∀ a b,at2 M a b=true→T a b)→∀ a b,at2 M' a b=true→T a b
theorem Clo.refl {n:Nat} {M:List D} (h:Sq n M):Clo n M M:=⟨h,fun _ _ h=>h,fun _ _ h=>h⟩
theorem Clo.trans {n:Nat} {M M' M'':List D} (h:Clo n M M') (k:Clo n M' M''):Clo n M M'':=
 ⟨k.sq,fun a b q=>k.mono a b (h.mono a b q),fun T hT hb=>k.sound T hT (h.sound T hT hb)⟩
theorem Clo.step {n:Nat} {M:List D} (h:Sq n M) {i j k:Nat} (hi:i<n) (hk:k<n) {v:Bool} (h1:at2 M i k=true→v=true) (h2:v=true→at2 M i k=true∨(at2 M i j=true∧at2 M j k=true)):Clo n M (set2 M i k v):=by
 refine ⟨h.set hi v,fun a b q=>?_,fun T hT hb a b q=>?_⟩
 ·rw [at2_set h hi hk]
  split
  ·rename_i e; rw [e.1,e.2] at q; exact h1 q
  ·exact q
 ·rw [at2_set h hi hk] at q
  split at q
  ·rename_i e
   rw [e.1,e.2]
   rcases h2 q with h2 | h2
   ·exact hb _ _ h2
   ·exact hT _ _ _ (hb _ _ h2.1) (hb _ _ h2.2)
  ·exact hb a b q
theorem squareL_eq (n:Nat) (hn:n≤100000):∀ (m i:Nat) (M:List D),i+m=n→M.length=n→(∀ j,j<i→M.getD j (.int 0)=.node (List.replicate n (.bool false))) →
  ∃ M',Z52 n n i M=some M'∧M'.length=n∧∀ j,j<n→M'.getD j (.int 0)=.node (List.replicate n (.bool false)):=by
 intro m
 induction m with
 | zero=>
  intro i M hi hl hj
  have:i=n:=by omega
  subst this
  refine ⟨M,?_,hl,hj⟩
  rw [Z52_fx]
  unfold c_Z52
  simp
 | succ m ih=>
  intro i M hi hl hj
  rw [Z52_fx]
  unfold c_Z52
  have h1:(i:Int)<n:=by omega
  have h2:(0:Int)≤n∧(n:Int)≤n∧(n:Int)≤4294967296:=by omega
  have h3:(0:Int)≤(i:Int)∧(i:Int)<M.length:=by omega
  have h4:i+1≤M.length:=by omega
  obtain ⟨M',e1,e2,e3⟩:=ih (i+1) (M.set i (.node (List.replicate n (.bool false)))) (by omega) (by simp [hl]) (fun j hj'=>by
   rw [getD_set (by omega)]
   split
   ·rfl
   ·exact hj j (by omega))
  refine ⟨M',?_,e2,e3⟩
  simp only [h1,decide_true,cond_true,if_pos h2,if_pos h3,if_pos h4,Qm (show i<4611686018427387904 by omega),Int.toNat_natCast,e1,Option.bind_some]
theorem square_eq (n:Nat) (hn:n≤100000):∃ M,Z53 n=some M∧Sq n M∧∀ a b,at2 M a b=false:=by
 obtain ⟨M,e1,e2,e3⟩:=squareL_eq n hn n 0 (List.replicate n (.node [])) (by omega) (by simp) (fun j hj=>by omega)
 have e1':Z52 n n 0 (List.replicate n (.node []))=some M:=e1
 have h2:(0:Int)≤n∧(n:Int)≤n∧(n:Int)≤4294967296:=by omega
 have hs:Sq n M:=⟨e2,fun i hi=>by rw [e3 i hi]; simp [WL]⟩
 refine ⟨M,?_,hs,fun a b=>?_⟩
 ·simp only [Z53,c_Z53,if_pos h2,Int.toNat_natCast,List.length_replicate,e1',Option.bind_some]
 ·cases hq:at2 M a b with
  | false=>rfl
  | true=>
   obtain ⟨ha,hb⟩:=at2_lt hs hq
   unfold at2 at hq
   rw [e3 a ha,WL,List.getD_eq_getElem?_getD,List.getElem?_replicate,if_pos hb] at hq
   cases hq
def nums (C:List D):List D:=C.map (fun d=>.int (d.fld 0).toInt)
theorem numsL_eq (C R A L:List D) (x0:Int) (hC:C.length≤100000):∀ (m i:Nat) (acc:List D),i+m=C.length→acc.length=i →
  Z54 x0 C C.length i C R acc A L=some (x0,C,R,acc++nums (C.drop i),A,L):=by
 intro m
 induction m with
 | zero=>
  intro i acc hi ha
  have:i=C.length:=by omega
  subst this
  rw [Z54_fx]
  unfold c_Z54
  simp [nums]
 | succ m ih=>
  intro i acc hi ha
  rw [Z54_fx]
  unfold c_Z54
  have h1:(i:Int)<C.length:=by omega
  have h3:(0:Int)≤(i:Int)∧(i:Int)<C.length:=by omega
  have h4:acc.length+[D.int ((C.getD i (.int 0)).fld 0).toInt].length≤4294967296:=by
   simp only [List.length_cons,List.length_nil]; omega
  simp only [h1,decide_true,cond_true,if_pos h3,if_pos h4,Qm (show i<4611686018427387904 by omega),Int.toNat_natCast]
  rw [ih (i+1) _ (by omega) (by simp [ha])]
  rw [qE (show i<C.length by omega)]
  simp [nums]
def edgeAt (C R:List D) (j a b:Nat):Prop:=j<R.length∧find2 C ((R[j]?.getD (.int 0)).fld 0).toInt=a∧find2 C ((R[j]?.getD (.int 0)).fld 1).toInt=b
def edge (C R:List D) (a b:Nat):Prop:=∃ j,edgeAt C R j a b
theorem rOk_at {C R:List D} (h:validB C R=true) {j:Nat} (hj:j<R.length):∃ a b,a<C.length∧b<C.length∧a≠b∧find2 C ((R[j]?.getD (.int 0)).fld 0).toInt=(a:Int)∧find2 C ((R[j]?.getD (.int 0)).fld 1).toInt=(b:Int) ∧
  ((C[a]?.getD (.int 0)).fld 0).toInt=((R[j]?.getD (.int 0)).fld 0).toInt∧((C[b]?.getD (.int 0)).fld 0).toInt=((R[j]?.getD (.int 0)).fld 1).toInt:=by
 simp only [validB,Bool.and_eq_true] at h
 have:=allN_iff.1 h.2.2.2 j hj
 simp only [rOk,Bool.and_eq_true,Bool.not_eq_true',decide_eq_true_eq,decide_eq_false_iff_not] at this
 obtain ⟨h0,h1,h2,_⟩:=this
 obtain ⟨a,a1,a2,a3⟩:=find2_some h1
 obtain ⟨b,b1,b2,b3⟩:=find2_some h2
 refine ⟨a,b,a1,b1,fun e=>h0 ?_,a2,b2,a3,b3⟩
 rw [← a3,← b3,e]
theorem edge_lt {C R:List D} (h:validB C R=true) {a b:Nat} (he:edge C R a b):a<C.length∧b<C.length∧a≠b:=by
 obtain ⟨j,hj,e1,e2⟩:=he
 obtain ⟨a',b',q1,q2,q3,q4,q5,_⟩:=rOk_at h hj
 rw [q4] at e1; rw [q5] at e2
 have e1':a'=a:=by omega
 have e2':b'=b:=by omega
 subst e1'; subst e2'
 exact ⟨q1,q2,q3⟩
theorem relsL_eq (C R nm:List D) (n:Nat) (hv:validB C R=true) (hC:C.length=n) (hR:R.length≤24) (hn:n≤10):∀ (m j:Nat) (A L:List D),j+m=R.length→Sq n A→Sq n L →
  ∃ A' L',Z56 n R R.length j C R nm A L=some ((n:Int),nm,A',L')∧Sq n A'∧Sq n L' ∧
   (∀ a b,at2 A' a b=true↔at2 A a b=true∨∃ k,j≤k∧edgeAt C R k a b)∧(∀ a b,at2 L' a b=true↔at2 L a b=true∨∃ k,j≤k∧edgeAt C R k a b):=by
 intro m
 induction m with
 | zero=>
  intro j A L hj hA hL
  have:j=R.length:=by omega
  subst this
  refine ⟨A,L,?_,hA,hL,fun a b=>⟨.inl,?_⟩,fun a b=>⟨.inl,?_⟩⟩
  ·rw [Z56_fx]
   unfold c_Z56
   simp
  ·rintro (h | ⟨k,h1,h2⟩)
   ·exact h
   ·have:=h2.1; omega
  ·rintro (h | ⟨k,h1,h2⟩)
   ·exact h
   ·have:=h2.1; omega
 | succ m ih=>
  intro j A L hj hA hL
  obtain ⟨a,b,q1,q2,q3,q4,q5,_⟩:=rOk_at hv (show j<R.length by omega)
  rw [hC] at q1 q2
  obtain ⟨A',L',e1,e2,e3,e4,e5⟩:=ih (j+1) (set2 A a b true) (set2 L a b true) (by omega) (hA.set q1 true) (hL.set q1 true)
  have key:∀ (X X':List D),Sq n X→(∀ c d,at2 X' c d=true↔at2 (set2 X a b true) c d=true∨∃ k,j+1≤k∧edgeAt C R k c d)→∀ c d,at2 X' c d=true↔at2 X c d=true∨∃ k,j≤k∧edgeAt C R k c d:=by
   intro X X' hX h c d
   rw [h,at2_set hX q1 q2]
   constructor
   ·rintro (h | ⟨k,h1,h2⟩)
    ·split at h
     ·rename_i e
      exact .inr ⟨j,Nat.le_refl _,by omega,by rw [e.1]; exact q4,by rw [e.2]; exact q5⟩
     ·exact .inl h
    ·exact .inr ⟨k,by omega,h2⟩
   ·rintro (h | ⟨k,h1,h2⟩)
    ·left
     split
     ·rfl
     ·exact h
    ·by_cases hk:k=j
     ·subst hk
      left
      obtain ⟨_,g1,g2⟩:=h2
      rw [q4] at g1; rw [q5] at g2
      rw [if_pos ⟨by omega,by omega⟩]
     ·exact .inr ⟨k,by omega,h2⟩
  refine ⟨A',L',?_,e2,e3,key A A' hA e4,key L L' hL e5⟩
  rw [Z56_fx]
  unfold c_Z56
  have h1:(j:Int)<R.length:=by omega
  have h3:(0:Int)≤(j:Int)∧(j:Int)<R.length:=by omega
  have g1:(0:Int)≤(a:Int)∧(a:Int)<A.length:=by rw [hA.len]; omega
  have g2:a+1≤A.length:=by rw [hA.len]; omega
  have g3:(0:Int)≤(b:Int)∧(b:Int)<(A.getD a (.int 0)).items.length:=by rw [hA.row a q1]; omega
  have g4:b+1≤(A.getD a (.int 0)).items.length:=by rw [hA.row a q1]; omega
  have k1:(0:Int)≤(a:Int)∧(a:Int)<L.length:=by rw [hL.len]; omega
  have k2:a+1≤L.length:=by rw [hL.len]; omega
  have k3:(0:Int)≤(b:Int)∧(b:Int)<(L.getD a (.int 0)).items.length:=by rw [hL.row a q1]; omega
  have k4:b+1≤(L.getD a (.int 0)).items.length:=by rw [hL.row a q1]; omega
  rw [← List.getD_eq_getElem?_getD] at q4 q5
  simp only [h1,decide_true,cond_true,if_pos h3,Int.toNat_natCast,indexOf_eq C R _ (show C.length≤100000 by omega),q4,q5,Option.bind_some,if_pos g1,if_pos g2,if_pos g3,if_pos g4,if_pos k1,if_pos k2,if_pos k3,if_pos k4,Qm (show j<4611686018427387904 by omega)]
  rw [show Z56 n R R.length ((j+1:Nat):Int) C R nm (A.set a (.node ((A.getD a (.int 0)).items.set b (.bool true)))) (L.set a (.node ((L.getD a (.int 0)).items.set b (.bool true))))=some ((n:Int),nm,A',L') from e1]
  rfl
theorem clK (n i j:Nat) (hn:n≤10) (hi:i<n) (hj:j<n) (a3 a4 a5 a6:Int) (nm A:List D):∀ (m k:Nat) (M:List D),k+m=n→Sq n M →
  ∃ M',Z57 n j i a3 a4 a5 a6 n k nm A M=some ((n:Int),(j:Int),a3,a4,a5,a6,nm,A,M')∧Clo n M M'∧∀ b,k≤b→b<n→at2 M i j=true→at2 M j b=true→at2 M' i b=true:=by
 intro m
 induction m with
 | zero=>
  intro k M hk hM
  have:k=n:=by omega
  subst this
  refine ⟨M,?_,Clo.refl hM,fun b h1 h2=>by omega⟩
  rw [Z57_fx]
  unfold c_Z57
  simp
 | succ m ih=>
  intro k M hk hM
  have hkn:k<n:=by omega
  let v:Bool:=at2 M i k||(at2 M i j&&at2 M j k)
  have hc:Clo n M (set2 M i k v):=Clo.step (j:=j) hM hi hkn (fun h=>by simp [v,h]) (fun h=>by
   simp only [v,Bool.or_eq_true,Bool.and_eq_true] at h; exact h)
  obtain ⟨M',e1,e2,e3⟩:=ih (k+1) (set2 M i k v) (by omega) hc.sq
  refine ⟨M',?_,hc.trans e2,fun b h1 h2 h3 h4=>?_⟩
  ·rw [Z57_fx]
   unfold c_Z57
   have h1:(k:Int)<n:=by omega
   have g1:(0:Int)≤(i:Int)∧(i:Int)<M.length:=by rw [hM.len]; omega
   have g2:i+1≤M.length:=by rw [hM.len]; omega
   have g3:(0:Int)≤(k:Int)∧(k:Int)<(M.getD i (.int 0)).items.length:=by rw [hM.row i hi]; omega
   have g4:k+1≤(M.getD i (.int 0)).items.length:=by rw [hM.row i hi]; omega
   have g5:(0:Int)≤(j:Int)∧(j:Int)<(M.getD i (.int 0)).items.length:=by rw [hM.row i hi]; omega
   have g6:j+1≤(M.getD i (.int 0)).items.length:=by rw [hM.row i hi]; omega
   have k1:(0:Int)≤(j:Int)∧(j:Int)<M.length:=by rw [hM.len]; omega
   have k2:j+1≤M.length:=by rw [hM.len]; omega
   have k3:(0:Int)≤(k:Int)∧(k:Int)<(M.getD j (.int 0)).items.length:=by rw [hM.row j hj]; omega
   have k4:k+1≤(M.getD j (.int 0)).items.length:=by rw [hM.row j hj]; omega
   have r1:((M.getD i (.int 0)).items.getD k (.int 0)).toBool=at2 M i k:=rfl
   have r2:((M.getD i (.int 0)).items.getD j (.int 0)).toBool=at2 M i j:=rfl
   have r3:((M.getD j (.int 0)).items.getD k (.int 0)).toBool=at2 M j k:=rfl
   simp only [h1,decide_true,cond_true,Int.toNat_natCast,if_pos g1,if_pos g2,if_pos g3,if_pos g4,if_pos g5,if_pos g6,if_pos k1,if_pos k2,if_pos k3,if_pos k4,r1,r2,r3,Qm (show k<4611686018427387904 by omega)]
   have fin:∀ u:Bool,v=u→(Z57 n j i a3 a4 a5 a6 n ((k+1:Nat):Int) nm A (M.set i (.node ((M.getD i (.int 0)).items.set k (.bool u))))).bind some=some ((n:Int),(j:Int),a3,a4,a5,a6,nm,A,M'):=fun u hu=>by
    subst hu
    rw [show Z57 n j i a3 a4 a5 a6 n ((k+1:Nat):Int) nm A (M.set i (.node ((M.getD i (.int 0)).items.set k (.bool v))))=_ from e1]
    rfl
   cases hik:at2 M i k with
   | true=>exact fin true (by simp [v,hik])
   | false=>
    cases hij:at2 M i j with
    | true=>exact fin (at2 M j k) (by simp [v,hik,hij])
    | false=>exact fin false (by simp [v,hik,hij])
  ·by_cases hbk:b=k
   ·subst hbk
    refine e2.mono _ _ ?_
    rw [at2_set hM hi hkn,if_pos ⟨rfl,rfl⟩]
    simp [v,h3,h4]
   ·exact e3 b (by omega) h2 (hc.mono _ _ h3) (hc.mono _ _ h4)
theorem clI (n j:Nat) (hn:n≤10) (hj:j<n) (nm A:List D):∀ (m i:Nat) (M:List D),i+m=n→Sq n M →
  ∃ M',Z58 n j n j n i nm A M=some ((n:Int),(n:Int),(j:Int),nm,A,M')∧Clo n M M'∧∀ a b,i≤a→a<n→b<n→at2 M a j=true→at2 M j b=true→at2 M' a b=true:=by
 intro m
 induction m with
 | zero=>
  intro i M hi hM
  have:i=n:=by omega
  subst this
  refine ⟨M,?_,Clo.refl hM,fun a b h1 h2=>by omega⟩
  rw [Z58_fx]
  unfold c_Z58
  simp
 | succ m ih=>
  intro i M hi hM
  obtain ⟨M1,d1,d2,d3⟩:=clK n i j hn (by omega) hj n j n i nm A n 0 M (by omega) hM
  have d1':Z57 n j i n j n i n 0 nm A M=_:=d1
  obtain ⟨M2,e1,e2,e3⟩:=ih (i+1) M1 (by omega) d2.sq
  refine ⟨M2,?_,d2.trans e2,fun a b h1 h2 h3 h4 h5=>?_⟩
  ·rw [Z58_fx]
   unfold c_Z58
   have h1:(i:Int)<n:=by omega
   simp only [h1,decide_true,cond_true,d1',Option.bind_some,Qm (show i<4611686018427387904 by omega),e1]
  ·by_cases hai:a=i
   ·subst hai
    exact e2.mono _ _ (d3 b (by omega) h3 h4 h5)
   ·exact e3 a b (by omega) h2 h3 (d2.mono _ _ h4) (d2.mono _ _ h5)
def PP (E:Nat→Nat→Prop):Nat→Nat→Nat→Prop
 | 0,a,b=>E a b
 | j+1,a,b=>PP E j a b∨(PP E j a j∧PP E j j b)
theorem PP_trans {E:Nat→Nat→Prop}:∀ {j k a b:Nat},k<j→PP E j a k→PP E j k b→PP E j a b
 | 0,k,a,b,h,_,_=>by omega
 | j+1,k,a,b,h,h1,h2=>by
  have left:∀ {x:Nat},PP E (j+1) x j→PP E j x j:=fun h=>h.elim id (fun h=>h.1)
  have right:∀ {x:Nat},PP E (j+1) j x→PP E j j x:=fun h=>h.elim id (fun h=>h.2)
  by_cases hk:k=j
  ·subst hk
   exact .inr ⟨left h1,right h2⟩
  ·have hk':k<j:=by omega
   rcases h1 with h1 | ⟨h1,h1'⟩
   ·rcases h2 with h2 | ⟨h2,h2'⟩
    ·exact .inl (PP_trans hk' h1 h2)
    ·exact .inr ⟨PP_trans hk' h1 h2,h2'⟩
   ·rcases h2 with h2 | ⟨h2,h2'⟩
    ·exact .inr ⟨h1,PP_trans hk' h1' h2⟩
    ·exact .inr ⟨h1,h2'⟩
theorem PP_base {E:Nat→Nat→Prop}:∀ {j a b:Nat},E a b→PP E j a b
 | 0,_,_,h=>h
 | j+1,_,_,h=>.inl (PP_base h)
theorem clJ (n:Nat) (hn:n≤10) (E:Nat→Nat→Prop) (nm A:List D):∀ (m j:Nat) (M:List D),j+m=n→Sq n M→(∀ a b,a<n→b<n→PP E j a b→at2 M a b=true) →
  ∃ M',Z59 n n j nm A M=some (nm,A,M')∧Clo n M M'∧∀ a b,a<n→b<n→PP E n a b→at2 M' a b=true:=by
 intro m
 induction m with
 | zero=>
  intro j M hj hM hP
  have:j=n:=by omega
  subst this
  refine ⟨M,?_,Clo.refl hM,hP⟩
  rw [Z59_fx]
  unfold c_Z59
  simp
 | succ m ih=>
  intro j M hj hM hP
  have hjn:j<n:=by omega
  obtain ⟨M1,d1,d2,d3⟩:=clI n j hn hjn nm A n 0 M (by omega) hM
  have d1':Z58 n j n j n 0 nm A M=_:=d1
  obtain ⟨M2,e1,e2,e3⟩:=ih (j+1) M1 (by omega) d2.sq (fun a b ha hb h=>by
   rcases h with h | ⟨h1,h2⟩
   ·exact d2.mono _ _ (hP a b ha hb h)
   ·exact d3 a b (by omega) ha hb (hP a j ha hjn h1) (hP j b hjn hb h2))
  refine ⟨M2,?_,d2.trans e2,e3⟩
  rw [Z59_fx]
  unfold c_Z59
  have h1:(j:Int)<n:=by omega
  simp only [h1,decide_true,cond_true,d1',Option.bind_some,Qm (show j<4611686018427387904 by omega),e1]
structure Later (n:Nat) (E:Nat→Nat→Prop) (L:List D):Prop where
 sq:Sq n L
 base:∀ a b,E a b→at2 L a b=true
 trans:∀ a b c,at2 L a b=true→at2 L b c=true→at2 L a c=true
 min:∀ T:Nat→Nat→Prop,(∀ a b c,T a b→T b c→T a c)→(∀ a b,E a b→T a b)→∀ a b,at2 L a b=true→T a b
theorem order_eq (C R:List D) (hv:validB C R=true):∃ A L,Z64 C R=some (nums C,A,L)∧Sq C.length A∧(∀ a b,at2 A a b=true↔edge C R a b)∧Later C.length (edge C R) L:=by
 have hv':=hv
 simp only [validB,Bool.and_eq_true,decide_eq_true_eq] at hv'
 obtain ⟨hC,hR,_,_⟩:=hv'
 obtain ⟨M0,s1,s2,s3⟩:=square_eq C.length (by omega)
 obtain ⟨A,L0,r1,r2,r3,r4,r5⟩:=relsL_eq C R (nums C) C.length hv rfl hR hC R.length 0 M0 M0 (by omega) s2 s2
 have r1':Z56 C.length R R.length 0 C R (nums C) M0 M0=_:=r1
 have hA:∀ X:List D,(∀ a b,at2 X a b=true↔at2 M0 a b=true∨∃ k,0≤k∧edgeAt C R k a b)→∀ a b,at2 X a b=true↔edge C R a b:=by
  intro X h a b
  rw [h]
  constructor
  ·rintro (h | ⟨k,_,h⟩)
   ·rw [s3] at h; cases h
   ·exact ⟨k,h⟩
  ·rintro ⟨k,h⟩
   exact .inr ⟨k,Nat.zero_le _,h⟩
 obtain ⟨L,c1,c2,c3⟩:=clJ C.length hC (edge C R) (nums C) A C.length 0 L0 (by omega) r3 (fun a b _ _ h=>(hA L0 r5 a b).2 h)
 have c1':Z59 C.length C.length 0 (nums C) A L0=_:=c1
 have Z0:∀ a b,at2 L a b=true→a<C.length∧b<C.length∧PP (edge C R) C.length a b:=by
  refine c2.sound (fun a b=>a<C.length∧b<C.length∧PP (edge C R) C.length a b) (fun a b c h1 h2=>⟨h1.1,h2.2.1,PP_trans h1.2.1 h1.2.2 h2.2.2⟩) (fun a b h=>?_)
  have he:=(hA L0 r5 a b).1 h
  have:=edge_lt hv he
  exact ⟨this.1,this.2.1,PP_base he⟩
 have hLater:Later C.length (edge C R) L:=by
  refine ⟨c2.sq,fun a b h=>c2.mono _ _ ((hA L0 r5 a b).2 h),fun a b c h1 h2=>?_,fun T hT hb=>c2.sound T hT (fun a b h=>hb a b ((hA L0 r5 a b).1 h))⟩
  have q1:=Z0 a b h1
  have q2:=Z0 b c h2
  exact c3 a c q1.1 q2.2.1 (PP_trans q1.2.1 q1.2.2 q2.2.2)
 refine ⟨A,L,?_,r2,hA A r4,hLater⟩
 unfold Z64 c_Z64
 simp only [s1,Option.bind_some]
 cases hl:C with
 | nil=>
  subst hl
  have hR0:R=[]:=by
   cases R with
   | nil=>rfl
   | cons d R=>
    obtain ⟨a,b,q1,_⟩:=rOk_at hv (show 0<(d::R).length by simp)
    simp at q1
  subst hR0
  have hM0:M0=[]:=List.eq_nil_of_length_eq_zero s2.len
  subst hM0
  have x1:Z55 0 [] 0 0 [] [] [] [] []=some (.inr (0,[],[],[],[],[])):=by
   rw [Z55_fx]; unfold c_Z55; simp
  have x2:Z60 0 [] 0 0 [] [] [] [] []=some (0,[],[],[]):=by
   rw [Z60_fx]; unfold c_Z60; simp
  have x3:Z63 0 0 0 [] [] []=some ([],[],[]):=by
   rw [Z63_fx]; unfold c_Z63; simp
  have hAe:A=[]:=List.eq_nil_of_length_eq_zero r2.len
  have hLe:L=[]:=List.eq_nil_of_length_eq_zero c2.sq.len
  simp only [List.length_nil,Int.natCast_zero] at x1 x2 x3 ⊢
  rw [hAe,hLe]
  simp only [Int.ofNat_zero,Int.natCast_zero,x1,x2,x3,Option.bind_some,Sum.elim_inr,nums,List.map_nil,List.length_nil]
 | cons d C'=>
  rw [← hl]
  have hpos:0<C.length:=by rw [hl]; simp
  have x1:Z55 C.length C C.length 0 C R [] M0 M0=some (.inl (C.length,C,R,nums C,M0,M0)):=by
   rw [Z55_fx]
   unfold c_Z55
   have h1:(0:Int)<C.length:=by omega
   have h3:(0:Int)≤0∧(0:Int)<C.length:=by omega
   have:=numsL_eq C R M0 M0 C.length (by omega) (C.length - 1) 1 [.int ((C.getD 0 (.int 0)).fld 0).toInt] (by omega) rfl
   have w1:IntKind.i64.wrap (0+1)=((1:Nat):Int):=by decide
   have hd:[D.int ((C.getD 0 (.int 0)).fld 0).toInt]++nums (C.drop 1)=nums C:=by rw [hl]; simp [nums]
   rw [hd] at this
   simp only [h1,decide_true,cond_true,if_pos h3,Int.toNat_zero,List.nil_append,List.length_cons,List.length_nil,w1,this,Option.bind_some]
   rfl
  simp only [x1,Option.bind_some,Sum.elim_inl,r1',c1']
def numAt (C:List D) (i:Nat):Int:=((C[i]?.getD (.int 0)).fld 0).toInt
theorem nums_at {C:List D} {i:Nat} (h:i<C.length):((nums C).getD i (.int 0)).toInt=numAt C i:=by
 unfold nums numAt
 rw [List.getD_eq_getElem?_getD,List.getElem?_map,List.getElem?_eq_getElem h]
 rfl
theorem numAt_lt {C R:List D} (hv:validB C R=true):∀ (k i:Nat),i+k<C.length→0<k→numAt C i<numAt C (i+k):=by
 simp only [validB,Bool.and_eq_true] at hv
 have step:∀ i,i+1<C.length→numAt C i<numAt C (i+1):=by
  intro i hi
  have:=allN_iff.1 hv.2.2.1 (i+1) hi
  simp only [cOk,Bool.and_eq_true,Bool.or_eq_true,decide_eq_true_eq] at this
  rcases this.2.2 with h | h
  ·omega
  ·exact h
 intro k
 induction k with
 | zero=>intro i _ h; omega
 | succ k ih=>
  intro i hi _
  by_cases hk:k=0
  ·subst hk; exact step i hi
  ·have:=ih i (by omega) (by omega)
   have:=step (i+k) (by omega)
   rw [show i+(k+1)=i+k+1 by omega]
   omega
theorem numAt_inj {C R:List D} (hv:validB C R=true) {i j:Nat} (hi:i<C.length) (hj:j<C.length) (h:numAt C i=numAt C j):i=j:=by
 by_cases h1:i<j
 ·have:=numAt_lt hv (j - i) i (by omega) (by omega)
  rw [show i+(j - i)=j by omega] at this
  omega
 ·by_cases h2:j<i
  ·have:=numAt_lt hv (i - j) j (by omega) (by omega)
   rw [show j+(i - j)=i by omega] at this
   omega
  ·omega
theorem uw (n:Int) (h:0≤n∧n<1000):IntKind.u64.wrap n=n:=by
 rw [uwrap]; omega
theorem bv_nat (n:Nat) (h:n<18446744073709551616):(BitVec.ofInt IntKind.i64.bits (n:Int)).toNat=n:=by
 simp only [IntKind.bits,BitVec.toNat_ofInt]
 omega
theorem or_bits (a b:Nat) (ha:a<1024) (hb:b<1024):IntKind.i64.wrap (((BitVec.ofInt IntKind.i64.bits (a:Int) ||| BitVec.ofInt IntKind.i64.bits (b:Int)).toNat:Nat):Int)=((a ||| b:Nat):Int)∧a ||| b<1024:=by
 have h:a ||| b<2 ^ 10:=Nat.or_lt_two_pow (by omega) (by omega)
 rw [BitVec.toNat_or,bv_nat a (by omega),bv_nat b (by omega),QF (by omega) (by omega)]
 exact ⟨rfl,by omega⟩
theorem shl_bit (k:Nat) (hk:k<10):IntKind.i64.wrap (1 * 2 ^ Min.min ((k:Int)).toNat IntKind.i64.bits)=((2 ^ k:Nat):Int)∧2 ^ k<1024:=by
 have h1:Min.min ((k:Int)).toNat IntKind.i64.bits=k:=by simp only [Int.toNat_natCast,IntKind.bits]; omega
 have h2:2 ^ k<2 ^ 10:=Nat.pow_lt_pow_right (by omega) hk
 have h3:(1:Int) * 2 ^ k=((2 ^ k:Nat):Int):=by simp
 have key:∀ x:Nat,x<1024→IntKind.i64.wrap (x:Int)=x∧x<1024:=fun x hx=>⟨QF (by omega) (by omega),hx⟩
 rw [h1,h3]
 exact key _ (Nat.lt_of_lt_of_le h2 (by decide))
theorem and_bit (v k:Nat) (hv:v<1024) (hk:k<10):decide (IntKind.i64.wrap (((BitVec.ofInt IntKind.i64.bits ((v:Int).fdiv (2 ^ Min.min ((k:Int)).toNat IntKind.i64.bits)) &&& BitVec.ofInt IntKind.i64.bits 1).toNat:Nat):Int)=1)=v.testBit k:=by
 have h1:Min.min ((k:Int)).toNat IntKind.i64.bits=k:=by simp only [Int.toNat_natCast,IntKind.bits]; omega
 have h2:(v:Int).fdiv (2 ^ k)=((v / 2 ^ k:Nat):Int):=by
  rw [Int.fdiv_eq_ediv_of_nonneg _ (by exact Int.le_of_lt (Int.pow_pos (by decide)))]
  simp
 have h3:v / 2 ^ k≤v:=Nat.div_le_self _ _
 have h4:(BitVec.ofInt IntKind.i64.bits 1).toNat=1:=by decide
 rw [h1,h2,BitVec.toNat_and,bv_nat _ (by omega),h4,Nat.and_one_is_mod,Nat.testBit_eq_decide_div_mod_eq,QF (by omega) (by omega)]
 by_cases h:v / 2 ^ k % 2=1
 ·rw [decide_eq_true h,decide_eq_true (by omega)]
 ·rw [decide_eq_false h,decide_eq_false (by omega)]
def b2 (B:List D) (i k:Nat):Bool:=(B.getD i (.int 0)).toInt.toNat.testBit k
structure Bq (n:Nat) (B:List D):Prop where
 len:B.length=n
 rng:∀ i,i<n→∃ v:Nat,(B.getD i (.int 0)).toInt=v∧v<1024
theorem b2_set {n:Nat} {B:List D} (h:Bq n B) {i a c v:Nat} (hi:i<n):b2 (B.set i (.int (v:Nat))) a c=if a=i then v.testBit c else b2 B a c:=by
 unfold b2
 rw [getD_set (by rw [h.len]; exact hi)]
 by_cases e:i=a
 ·subst e; simp [ON]
 ·have:¬ a=i:=fun e'=>e e'.symm
  simp [e,this]
theorem Bq.set {n:Nat} {B:List D} (h:Bq n B) {i v:Nat} (hi:i<n) (hv:v<1024):Bq n (B.set i (.int (v:Nat))):=by
 refine ⟨by simp [h.len],fun j hj=>?_⟩
 rw [getD_set (by rw [h.len]; exact hi)]
 split
 ·exact ⟨v,rfl,hv⟩
 ·exact h.rng j hj
theorem b2_lt {n:Nat} {B:List D} (h:Bq n B) {a c:Nat} (hv:b2 B a c=true):a<n∧c<10:=by
 unfold b2 at hv
 by_cases ha:a<n
 ·refine ⟨ha,?_⟩
  obtain ⟨v,e1,e2⟩:=h.rng a ha
  rw [e1,Int.toNat_natCast] at hv
  by_cases hc:c<10
  ·exact hc
  ·rw [Nat.testBit_lt_two_pow (Nat.lt_of_lt_of_le (show v<2 ^ 10 by omega) (Nat.pow_le_pow_right (by omega) (by omega)))] at hv
   cases hv
 ·rw [List.getD_eq_getElem?_getD,List.getElem?_eq_none (by rw [h.len]; omega)] at hv
  simp [ON] at hv
theorem rOk_in {C R:List D} (h:InR C R) {j:Nat} (hj:j<R.length):∃ a b,a<C.length∧b<C.length∧True∧find2 C ((R[j]?.getD (.int 0)).fld 0).toInt=(a:Int)∧find2 C ((R[j]?.getD (.int 0)).fld 1).toInt=(b:Int)∧True:=by
 obtain ⟨h1,h2⟩:=h _ (qD hj)
 obtain ⟨a,a1,a2,_⟩:=find2_some h1
 obtain ⟨b,b1,b2,_⟩:=find2_some h2
 exact ⟨a,b,a1,b1,trivial,a2,b2,trivial⟩
theorem inR_of {C R:List D} (hv:validB C R=true):InR C R:=by
 intro d hd
 obtain ⟨j,hj,rfl⟩:=List.getElem_of_mem hd
 obtain ⟨a,b,q1,q2,q3,q4,q5,_⟩:=rOk_at hv hj
 have e:R[j]?.getD (.int 0)=R[j]:=by simp [hj]
 rw [e] at q4 q5
 rw [q4,q5]
 exact ⟨by omega,by omega⟩
theorem bitsR_in (C R:List D) (n:Nat) (hv:InR C R) (hC:C.length=n) (hn:n≤10) (hR:R.length≤24):∀ (m j:Nat) (B:List D),j+m=R.length→Bq n B →
  ∃ B',Z26 j C R B=some B'∧Bq n B'∧∀ a b,b2 B' a b=true↔b2 B a b=true∨∃ k,j≤k∧edgeAt C R k a b:=by
 intro m
 induction m with
 | zero=>
  intro j B hj hB
  have:j=R.length:=by omega
  subst this
  refine ⟨B,?_,hB,fun a b=>⟨.inl,?_⟩⟩
  ·rw [Z26_fx]
   unfold c_Z26
   simp
  ·rintro (h | ⟨k,h1,h2⟩)
   ·exact h
   ·have:=h2.1; omega
 | succ m ih=>
  intro j B hj hB
  obtain ⟨a,b,q1,q2,q3,q4,q5,_⟩:=rOk_in hv (show j<R.length by omega)
  rw [hC] at q1 q2
  obtain ⟨v,v1,v2⟩:=hB.rng a q1
  obtain ⟨s1,s2⟩:=shl_bit b (by omega)
  obtain ⟨o1,o2⟩:=or_bits v (2 ^ b) v2 s2
  obtain ⟨B',e1,e2,e3⟩:=ih (j+1) (B.set a (.int ((v ||| 2 ^ b:Nat):Int))) (by omega) (hB.set q1 o2)
  refine ⟨B',?_,e2,fun c d=>?_⟩
  ·rw [Z26_fx]
   unfold c_Z26
   have h1:(j:Int)<R.length:=by omega
   have g1:(a:Int)<B.length:=by rw [hB.len]; omega
   have g2:a+1≤B.length:=by rw [hB.len]; omega
   rw [← List.getD_eq_getElem?_getD] at q4 q5
   simp only [h1,g1,decide_true,cond_true,Int.natCast_nonneg,and_self,if_true,Int.toNat_natCast,l2Find_eq C R _ (show C.length≤100000 by omega),q4,q5,Option.bind_some,if_pos g2,uw (b:Int) (by omega),v1]
   rw [show IntKind.i64.wrap (1 * 2 ^ Min.min b IntKind.i64.bits)=((2 ^ b:Nat):Int) from s1,o1,Qm (show j<4611686018427387904 by omega),e1]
   rfl
  ·rw [e3,b2_set hB q1]
   have hb:∀ d,(v ||| 2 ^ b).testBit d=true↔v.testBit d=true∨d=b:=by
    intro d
    rw [Nat.testBit_or,Bool.or_eq_true,Nat.testBit_two_pow,decide_eq_true_eq]
    exact ⟨fun h=>h.imp id (fun h=>h.symm),fun h=>h.imp id (fun h=>h.symm)⟩
   have hv':∀ d,b2 B a d=v.testBit d:=fun d=>by unfold b2; rw [v1,Int.toNat_natCast]
   constructor
   ·rintro (h | ⟨k,h1,h2⟩)
    ·split at h
     ·rename_i e
      rw [hb] at h
      rcases h with h | h
      ·left; rw [e,hv']; exact h
      ·exact .inr ⟨j,Nat.le_refl _,by omega,by rw [e]; exact q4,by rw [h]; exact q5⟩
     ·exact .inl h
    ·exact .inr ⟨k,by omega,h2⟩
   ·rintro (h | ⟨k,h1,h2⟩)
    ·left
     split
     ·rename_i e; rw [hb]; left; rw [e,hv'] at h; exact h
     ·exact h
    ·by_cases hk:k=j
     ·subst hk
      left
      obtain ⟨_,g1,g2⟩:=h2
      rw [q4] at g1; rw [q5] at g2
      rw [if_pos (by omega),hb]
      right; omega
     ·exact .inr ⟨k,by omega,h2⟩
structure CloB (n:Nat) (M M':List D):Prop where
 sq:Bq n M'
 mono:∀ a b,b2 M a b=true→b2 M' a b=true
 sound:∀ T:Nat→Nat→Prop,(∀ a b c,T a b→T b c→T a c)→(∀ a b,b2 M a b=true→T a b)→∀ a b,b2 M' a b=true→T a b
theorem CloB.refl {n:Nat} {M:List D} (h:Bq n M):CloB n M M:=⟨h,fun _ _ h=>h,fun _ _ h=>h⟩
theorem CloB.trans {n:Nat} {M M' M'':List D} (h:CloB n M M') (k:CloB n M' M''):CloB n M M'':=
 ⟨k.sq,fun a b q=>k.mono a b (h.mono a b q),fun T hT hb=>k.sound T hT (h.sound T hT hb)⟩
theorem bitsI_eq (n j:Nat) (hn:n≤10) (hj:j<n):∀ (m i:Nat) (B:List D),i+m=n→Bq n B →
  ∃ B',Z27 j i B=some ((j:Int),B')∧CloB n B B'∧∀ a b,i≤a→a<n→b2 B a j=true→b2 B j b=true→b2 B' a b=true:=by
 intro m
 induction m with
 | zero=>
  intro i B hi hB
  have:i=n:=by omega
  subst this
  refine ⟨B,?_,CloB.refl hB,fun a b h1 h2=>by omega⟩
  rw [Z27_fx]
  unfold c_Z27
  simp [hB.len]
 | succ m ih=>
  intro i B hi hB
  have hin:i<n:=by omega
  obtain ⟨v,v1,v2⟩:=hB.rng i hin
  obtain ⟨u,u1,u2⟩:=hB.rng j hj
  obtain ⟨o1,o2⟩:=or_bits v u v2 u2
  have hbit:b2 B i j=v.testBit j:=by unfold b2; rw [v1,Int.toNat_natCast]
  rw [Z27_fx]
  unfold c_Z27
  have g1:(i:Int)<B.length:=by rw [hB.len]; omega
  have g2:i+1≤B.length:=by rw [hB.len]; omega
  have g3:(j:Int)<B.length:=by rw [hB.len]; omega
  have g4:j+1≤B.length:=by rw [hB.len]; omega
  have ab:=and_bit v j v2 (by omega)
  simp only [Int.toNat_natCast] at ab
  simp only [g1,g3,decide_true,cond_true,Int.natCast_nonneg,and_self,if_true,Int.toNat_natCast,if_pos g2,if_pos g4,uw (j:Int) (by omega),v1,u1,o1,ab,Qm (show i<4611686018427387904 by omega)]
  cases hq:v.testBit j with
  | false=>
   obtain ⟨B',e1,e2,e3⟩:=ih (i+1) B (by omega) hB
   refine ⟨B',by simp only [cond_false,e1,Option.bind_some],e2,fun a b h1 h2 h3 h4=>?_⟩
   by_cases e:a=i
   ·subst e; rw [hbit,hq] at h3; cases h3
   ·exact e3 a b (by omega) h2 h3 h4
  | true=>
   have hc:CloB n B (B.set i (.int ((v ||| u:Nat):Int))):=by
    refine ⟨hB.set hin o2,fun a b h=>?_,fun T hT hb a b h=>?_⟩
    ·rw [b2_set hB hin]
     split
     ·rename_i e
      rw [e] at h
      rw [Nat.testBit_or,Bool.or_eq_true]
      left; unfold b2 at h; rw [v1,Int.toNat_natCast] at h; exact h
     ·exact h
    ·rw [b2_set hB hin] at h
     split at h
     ·rename_i e
      rw [e]
      rw [Nat.testBit_or,Bool.or_eq_true] at h
      rcases h with h | h
      ·exact hb i b (by unfold b2; rw [v1,Int.toNat_natCast]; exact h)
      ·exact hT i j b (hb i j (by rw [hbit,hq])) (hb j b (by unfold b2; rw [u1,Int.toNat_natCast]; exact h))
     ·exact hb a b h
   obtain ⟨B',e1,e2,e3⟩:=ih (i+1) (B.set i (.int ((v ||| u:Nat):Int))) (by omega) hc.sq
   refine ⟨B',by simp only [cond_true,e1,Option.bind_some],hc.trans e2,fun a b h1 h2 h3 h4=>?_⟩
   by_cases e:a=i
   ·subst e
    refine e2.mono _ _ ?_
    rw [b2_set hB hin,if_pos rfl,Nat.testBit_or,Bool.or_eq_true]
    right; unfold b2 at h4; rw [u1,Int.toNat_natCast] at h4; exact h4
   ·exact e3 a b (by omega) h2 (hc.mono _ _ h3) (hc.mono _ _ h4)
theorem bitsJ_eq (n:Nat) (hn:n≤10) (E:Nat→Nat→Prop):∀ (m j:Nat) (B:List D),j+m=n→Bq n B→(∀ a b,a<n→b<n→PP E j a b→b2 B a b=true) →
  ∃ B',Z28 j B=some B'∧CloB n B B'∧∀ a b,a<n→b<n→PP E n a b→b2 B' a b=true:=by
 intro m
 induction m with
 | zero=>
  intro j B hj hB hP
  have:j=n:=by omega
  subst this
  refine ⟨B,?_,CloB.refl hB,hP⟩
  rw [Z28_fx]
  unfold c_Z28
  simp [hB.len]
 | succ m ih=>
  intro j B hj hB hP
  have hjn:j<n:=by omega
  obtain ⟨B1,d1,d2,d3⟩:=bitsI_eq n j hn hjn n 0 B (by omega) hB
  have d1':Z27 j 0 B=_:=d1
  obtain ⟨B2,e1,e2,e3⟩:=ih (j+1) B1 (by omega) d2.sq (fun a b ha hb h=>by
   rcases h with h | ⟨h1,h2⟩
   ·exact d2.mono _ _ (hP a b ha hb h)
   ·exact d3 a b (by omega) ha (hP a j ha hjn h1) (hP j b hjn hb h2))
  refine ⟨B2,?_,d2.trans e2,e3⟩
  rw [Z28_fx]
  unfold c_Z28
  have g1:(j:Int)<B.length:=by rw [hB.len]; omega
  simp only [g1,decide_true,cond_true,d1',Option.bind_some,Qm (show j<4611686018427387904 by omega),e1]
theorem bits_eq (C R:List D) (hv:validB C R=true):∃ B,Z29 C R=some B∧Bq C.length B∧(∀ L,Later C.length (edge C R) L→∀ a b,b2 B a b=at2 L a b):=by
 have hv':=hv
 simp only [validB,Bool.and_eq_true,decide_eq_true_eq] at hv'
 obtain ⟨hC,hR,_,_⟩:=hv'
 have hB0:Bq C.length (List.replicate C.length (D.int 0)):=⟨by simp,fun i hi=>⟨0,by rw [List.getD_eq_getElem?_getD,List.getElem?_replicate,if_pos hi]; rfl,by omega⟩⟩
 have hz:∀ a b,b2 (List.replicate C.length (D.int 0)) a b=false:=by
  intro a b
  unfold b2
  rw [List.getD_eq_getElem?_getD,List.getElem?_replicate]
  split <;> simp [ON]
 obtain ⟨B0,r1,r2,r3⟩:=bitsR_in C R C.length (inR_of hv) rfl hC hR R.length 0 _ (by omega) hB0
 have r1':Z26 0 C R (List.replicate C.length (D.int 0))=_:=r1
 have hE:∀ a b,b2 B0 a b=true↔edge C R a b:=by
  intro a b
  rw [r3,hz]
  constructor
  ·rintro (h | ⟨k,_,h⟩)
   ·cases h
   ·exact ⟨k,h⟩
  ·rintro ⟨k,h⟩
   exact .inr ⟨k,Nat.zero_le _,h⟩
 obtain ⟨B,c1,c2,c3⟩:=bitsJ_eq C.length hC (edge C R) C.length 0 B0 (by omega) r2 (fun a b _ _ h=>(hE a b).2 h)
 have c1':Z28 0 B0=_:=c1
 have Z0:∀ a b,b2 B a b=true→a<C.length∧b<C.length∧PP (edge C R) C.length a b:=by
  refine c2.sound (fun a b=>a<C.length∧b<C.length∧PP (edge C R) C.length a b) (fun a b c h1 h2=>⟨h1.1,h2.2.1,PP_trans h1.2.1 h1.2.2 h2.2.2⟩) (fun a b h=>?_)
  have he:=(hE a b).1 h
  have:=edge_lt hv he
  exact ⟨this.1,this.2.1,PP_base he⟩
 have h2:(0:Int)≤C.length∧(C.length:Int)≤C.length∧(C.length:Int)≤4294967296:=by omega
 refine ⟨B,?_,c2.sq,fun L hL a b=>?_⟩
 ·simp only [Z29,c_Z29,if_pos h2,Int.toNat_natCast,r1',c1',Option.bind_some]
 ·cases hq:at2 L a b with
  | true=>
   refine hL.min (fun a b=>b2 B a b=true) (fun a b c h1 h2=>?_) (fun a b h=>c2.mono _ _ ((hE a b).2 h)) a b hq
   have q1:=Z0 a b h1
   have q2:=Z0 b c h2
   exact c3 a c q1.1 q2.2.1 (PP_trans q1.2.1 q1.2.2 q2.2.2)
  | false=>
   cases hb:b2 B a b with
   | false=>rfl
   | true=>
    have:=c2.sound (fun a b=>at2 L a b=true) hL.trans (fun a b h=>hL.base a b ((hE a b).1 h)) a b hb
    rw [hq] at this; cases this
theorem l4Bit_eq (v k:Nat) (hv:v<1024) (hk:k<10):Z30 v k=some (v.testBit k):=by
 unfold Z30 c_Z30
 have h:=and_bit v k hv hk
 rw [uw (k:Int) (by omega),if_pos (by omega)]
 rw [← h]
theorem cons_tot {C R:List D} (hC:C.length≤10) (hR:R.length≤24) (hI:InR C R):∃ b,Z32 C R=some b:=by
 have hB0:Bq C.length (List.replicate C.length (D.int 0)):=⟨by simp,fun i hi=>⟨0,by rw [List.getD_eq_getElem?_getD,List.getElem?_replicate,if_pos hi]; rfl,by omega⟩⟩
 obtain ⟨B0,r1,r2,r3⟩:=bitsR_in C R C.length hI rfl hC hR R.length 0 _ (by omega) hB0
 have r1':Z26 0 C R (List.replicate C.length (D.int 0))=_:=r1
 obtain ⟨B,c1,c2,c3⟩:=bitsJ_eq C.length hC (fun a b=>b2 B0 a b=true) C.length 0 B0 (by omega) r2 (fun a b _ _ h=>h)
 have c1':Z28 0 B0=_:=c1
 have hB:=c2.sq
 have h2:(0:Int)≤C.length∧(C.length:Int)≤C.length∧(C.length:Int)≤4294967296:=by omega
 have hl:Z29 C R=some B:=by simp only [Z29,c_Z29,if_pos h2,Int.toNat_natCast,r1',c1',Option.bind_some]
 have h:=fxAll (F:=fun i=>Z31 i B) (len:=C.length) (fun i=>!b2 B i i) (.inl false) (fin:=.inr ()) (fun i hi=>by
  show Z31 i B=_
  rw [Z31_fx]
  unfold c_Z31
  have g1:(i:Int)<B.length:=by rw [hB.len]; omega
  have g2:i+1≤B.length:=by rw [hB.len]; omega
  obtain ⟨v,e1,e2⟩:=hB.rng i hi
  have e3:v.testBit i=b2 B i i:=by rw [b2,e1]; rfl
  simp only [g1,g2,decide_true,cond_true,Int.natCast_nonneg,and_self,if_true,Int.toNat_natCast,e1,l4Bit_eq v i e2 (by omega),Option.bind_some,e3,Qm (show i<4611686018427387904 by omega),Option.bind_fun_some]
  cases b2 B i i <;> rfl)
  (by
   show Z31 (C.length:Int) B=_
   rw [Z31_fx]; unfold c_Z31; simp [hB.len])
 have h:Z31 0 B=_:=h
 unfold Z32 c_Z32
 simp only [hl,h,Option.bind_some]
 cases allN (fun i=>!b2 B i i) C.length <;> exact ⟨_,rfl⟩
theorem consistent_tot (c:List D) (hc:okC c) (p s:Int) (hp:0≤p∧p≤1099511619000):∃ y,Z33 c p s=some y∧recI c p (p+200) 10 20 y:=by
 refine Tt.out ?_
 unfold Z33 c_Z33
 refine Tt.bind (Tt.con (record_in _ hc _ _ (by omega))) ?_
 rintro ⟨C,R,c1,p1,s1⟩ ⟨⟨g1,g2,g3,g4,g5⟩,g6⟩
 simp only at g1 g2 g3 g4 g5 g6
 obtain ⟨b,hb⟩:=cons_tot (C:=C) (R:=R) (by omega) (by omega) g6
 dsimp only
 rw [hb]
 cases b with
 | false=>exact Tt.pure ⟨g1,by simp only; omega,by simp only; omega,by simp only; omega,by simp only [List.length_nil]; omega⟩
 | true=>exact Tt.pure ⟨g1,by simp only; omega,by simp only; omega,by simp only; omega,by simp only; omega⟩
theorem ordered_tot (c:List D) (hc:okC c) (p s:Int) (hp:0≤p∧p≤1099511600000):∃ y,Z34 c p s=some y∧recI c p (p+600) 100 100 y:=by
 refine Tt.out ?_
 unfold Z34 c_Z34
 (refine Tt.bind (Tt.con (one_tot' _ hc _ _ _ (by omega) (by omega))) ?_; rintro ⟨v,c',p',s'⟩ ⟨hv,rfl,hp1,hp2⟩; dsimp only at hv hp1 hp2 ⊢)
 refine Tt.cnd (fun _=>?_) (fun _=>?_)
 ·refine Tt.bind (Tt.con (any_tot _ hc _ _ (by omega))) ?_
  rintro ⟨C,R,c1,p1,s1⟩ ⟨g1,g2,g3,g4,g5⟩
  simp only at g1 g2 g3 g4 g5
  exact Tt.pure ⟨g1,by simp only; omega,by simp only; omega,by simp only; omega,by simp only; omega⟩
 ·refine Tt.bind (Tt.con (consistent_tot _ hc _ _ (by omega))) ?_
  rintro ⟨C,R,c1,p1,s1⟩ ⟨g1,g2,g3,g4,g5⟩
  simp only at g1 g2 g3 g4 g5
  exact Tt.pure ⟨g1,by simp only; omega,by simp only; omega,by simp only; omega,by simp only; omega⟩
theorem consistent_eq (C A L:List D) (hL:Sq C.length L) (hC:C.length≤10):Z66 (nums C) A L=some (allN (fun i=>!at2 L i i) C.length):=by
 have hn:(nums C).length=C.length:=by simp [nums]
 have h:=fxAll (F:=fun i=>Z65 (nums C) A L C.length i) (len:=C.length) (fun i=>!at2 L i i) (.inl false) (fin:=.inr ()) (fun i hi=>by
  show Z65 (nums C) A L C.length i=_
  rw [Z65_fx]
  unfold c_Z65
  have h1:(i:Int)<C.length:=by omega
  have g1:(0:Int)≤(i:Int)∧(i:Int)<L.length:=by rw [hL.len]; omega
  have g2:(0:Int)≤(i:Int)∧(i:Int)<(L.getD i (.int 0)).items.length:=by rw [hL.row i hi]; omega
  have r1:((L.getD i (.int 0)).items.getD i (.int 0)).toBool=at2 L i i:=rfl
  simp only [h1,decide_true,cond_true,Int.toNat_natCast,if_pos g1,if_pos g2,r1,Qm (show i<4611686018427387904 by omega),Option.bind_fun_some]
  cases at2 L i i <;> rfl)
  (by
   show Z65 (nums C) A L C.length C.length=_
   rw [Z65_fx]; unfold c_Z65; simp)
 have h':Z65 (nums C) A L C.length 0=_:=h
 simp only [Z66,c_Z66,hn,h',Option.bind_some]
 cases allN (fun i=>!at2 L i i) C.length <;> rfl
def rdy (L:List D) (n s i:Nat):Bool:=!s.testBit i&&allN (fun k=>!at2 L k i||s.testBit k) n
theorem andnot_eq (v s:Nat) (hv:v<1024) (hs:s<1024):decide (IntKind.i64.wrap (((BitVec.ofInt IntKind.i64.bits (v:Int) &&& ~~~BitVec.ofInt IntKind.i64.bits (s:Int)).toNat:Nat):Int)=0)=allN (fun k=>!v.testBit k||s.testBit k) 10:=by
 have hle:(BitVec.ofInt IntKind.i64.bits (v:Int) &&& ~~~BitVec.ofInt IntKind.i64.bits (s:Int)).toNat≤v:=by
  rw [BitVec.toNat_and,bv_nat v (by omega)]; exact Nat.and_le_left
 rw [QF (by omega) (by omega),Bool.eq_iff_iff,decide_eq_true_eq,allN_iff]
 have hz:(((BitVec.ofInt IntKind.i64.bits (v:Int) &&& ~~~BitVec.ofInt IntKind.i64.bits (s:Int)).toNat:Nat):Int)=0↔(BitVec.ofInt IntKind.i64.bits (v:Int) &&& ~~~BitVec.ofInt IntKind.i64.bits (s:Int)).toNat=0:=by omega
 rw [hz]
 have hbit:∀ k,(BitVec.ofInt IntKind.i64.bits (v:Int) &&& ~~~BitVec.ofInt IntKind.i64.bits (s:Int)).toNat.testBit k=(v.testBit k&&(decide (k<64)&&!s.testBit k)):=by
  intro k
  rw [← BitVec.getLsbD,BitVec.getLsbD_and,BitVec.getLsbD_not,BitVec.getLsbD,BitVec.getLsbD,bv_nat v (by omega),bv_nat s (by omega)]
  rfl
 constructor
 ·intro h k hk
  have:=hbit k
  rw [h,Nat.zero_testBit] at this
  have hk':decide (k<64)=true:=by simp; omega
  rw [hk'] at this
  revert this
  generalize v.testBit k=x
  generalize s.testBit k=y
  cases x <;> cases y <;> simp
 ·intro h
  apply Nat.eq_of_testBit_eq
  intro k
  rw [hbit,Nat.zero_testBit]
  by_cases hk:k<10
  ·have:=h k hk
   revert this
   generalize v.testBit k=x
   generalize s.testBit k=y
   cases x <;> cases y <;> simp
  ·rw [Nat.testBit_lt_two_pow (Nat.lt_of_lt_of_le (show v<2 ^ 10 by omega) (Nat.pow_le_pow_right (by omega) (by omega)))]
   rfl
theorem and_bit0 (v k:Nat) (hv:v<1024) (hk:k<10):decide (IntKind.i64.wrap (((BitVec.ofInt IntKind.i64.bits ((v:Int).fdiv (2 ^ Min.min ((k:Int)).toNat IntKind.i64.bits)) &&& BitVec.ofInt IntKind.i64.bits 1).toNat:Nat):Int)=0)=!v.testBit k:=by
 have h1:Min.min ((k:Int)).toNat IntKind.i64.bits=k:=by simp only [Int.toNat_natCast,IntKind.bits]; omega
 have h2:(v:Int).fdiv (2 ^ k)=((v / 2 ^ k:Nat):Int):=by
  rw [Int.fdiv_eq_ediv_of_nonneg _ (by exact Int.le_of_lt (Int.pow_pos (by decide)))]
  simp
 have h3:v / 2 ^ k≤v:=Nat.div_le_self _ _
 have h4:(BitVec.ofInt IntKind.i64.bits 1).toNat=1:=by decide
 rw [h1,h2,BitVec.toNat_and,bv_nat _ (by omega),h4,Nat.and_one_is_mod,Nat.testBit_eq_decide_div_mod_eq,QF (by omega) (by omega)]
 by_cases h:v / 2 ^ k % 2=1
 ·rw [decide_eq_true h,decide_eq_false (by omega)]; rfl
 ·rw [decide_eq_false h,decide_eq_true (by omega)]; rfl
theorem needs_eq {n:Nat} {L nm A:List D} (hL:Sq n L) (hn:n≤10) (hnm:nm.length=n) (i:Nat) (hi:i<n):∃ v:Nat,Z69 nm A L i=some (v:Int)∧v<1024∧∀ k,v.testBit k=(decide (k<n)&&at2 L k i):=by
 have key:∀ (m j v:Nat),j+m=n→v<1024→(∀ k,v.testBit k=(decide (k<j)&&at2 L k i))→∃ v':Nat,Z68 nm A L i v n j=some (v':Int)∧v'<1024∧∀ k,v'.testBit k=(decide (k<n)&&at2 L k i):=by
  intro m
  induction m with
  | zero=>
   intro j v hj hv hb
   have:j=n:=by omega
   subst this
   refine ⟨v,?_,hv,hb⟩
   rw [Z68_fx]; unfold c_Z68; simp
  | succ m ih=>
   intro j v hj hv hb
   have hjn:j<n:=by omega
   rw [Z68_fx]
   unfold c_Z68
   have h1:(j:Int)<n:=by omega
   have g1:(j:Int)<L.length:=by rw [hL.len]; omega
   have g2:(i:Int)<(L.getD j (.int 0)).items.length:=by rw [hL.row j hjn]; omega
   have r1:((L.getD j (.int 0)).items.getD i (.int 0)).toBool=at2 L j i:=rfl
   obtain ⟨s1,s2⟩:=shl_bit j (by omega)
   have s1':IntKind.i64.wrap (1 * 2 ^ Min.min j IntKind.i64.bits)=((2 ^ j:Nat):Int):=by simpa using s1
   obtain ⟨o1,o2⟩:=or_bits v (2 ^ j) hv s2
   simp only [h1,decide_true,cond_true,Int.natCast_nonneg,g1,g2,and_self,if_true,Int.toNat_natCast,r1,s1',o1,Qm (show j<4611686018427387904 by omega),Option.bind_fun_some]
   cases hq:at2 L j i with
   | true=>
    simp only [cond_true]
    refine ih (j+1) (v ||| 2 ^ j) (by omega) o2 (fun k=>?_)
    rw [Nat.testBit_or,hb,Nat.testBit_two_pow]
    by_cases hk:j=k
    ·subst hk; simp [hq]
    ·have e1:decide (k<j+1)=decide (k<j):=by
      rw [Bool.eq_iff_iff,decide_eq_true_eq,decide_eq_true_eq]; omega
     rw [e1]; simp [hk]
   | false=>
    simp only [cond_false]
    refine ih (j+1) v (by omega) hv (fun k=>?_)
    rw [hb]
    by_cases hk:k=j
    ·subst hk; simp [hq]
    ·have e1:decide (k<j+1)=decide (k<j):=by
      rw [Bool.eq_iff_iff,decide_eq_true_eq,decide_eq_true_eq]; omega
     rw [e1]
 obtain ⟨v,v1,v2,v3⟩:=key n 0 0 (by omega) (by omega) (fun k=>by simp)
 have v1:Z68 nm A L i 0 n 0=some (v:Int):=v1
 refine ⟨v,?_,v2,v3⟩
 simp only [Z69,c_Z69,hnm,v1,Option.bind_some]
theorem free_eq {n:Nat} {L nm A:List D} (hL:Sq n L) (hn:n≤10) (hnm:nm.length=n) (s i:Nat) (hs:s<1024) (hi:i<n):Z70 nm A L s i=some (rdy L n s i):=by
 obtain ⟨v,v1,v2,v3⟩:=needs_eq (A:=A) hL hn hnm i hi
 unfold Z70 c_Z70 rdy
 rw [if_pos (by omega),and_bit0 s i hs (by omega),v1]
 cases s.testBit i with
 | true=>rfl
 | false=>
  simp only [Bool.not_false,cond_true,Option.bind_some,andnot_eq v s v2 hs,Bool.true_and]
  congr 1
  rw [Bool.eq_iff_iff,allN_iff,allN_iff]
  constructor
  ·intro h k hk
   have:=h k (by omega)
   rw [v3] at this
   simpa [hk] using this
  ·intro h k hk
   rw [v3]
   by_cases hkn:k<n
   ·have:=h k hkn
    simpa [hkn] using this
   ·simp [hkn]
theorem ready_eq {n:Nat} {L B:List D} (hB:Bq n B) (hb:∀ a b,b2 B a b=at2 L a b) (hn:n≤10) (s i:Nat) (hs:s<1024) (hi:i<n):Z86 B s i=some (rdy L n s i):=by
 have h:=fxAll (F:=fun k=>Z85 B s i k) (len:=n) (fun k=>!at2 L k i||s.testBit k) (.inl false) (fin:=.inr ()) (fun k hk=>by
  show Z85 B s i k=_
  rw [Z85_fx]
  unfold c_Z85
  have g1:(k:Int)<B.length:=by rw [hB.len]; omega
  obtain ⟨v,e1,e2⟩:=hB.rng k hk
  have e3:v.testBit i=at2 L k i:=by rw [← hb,b2,e1]; rfl
  simp only [g1,decide_true,cond_true,Int.natCast_nonneg,and_self,if_true,Int.toNat_natCast,e1,l4Bit_eq v i e2 (by omega),l4Bit_eq s k hs (by omega),Option.bind_some,e3,Qm (show k<4611686018427387904 by omega),Option.bind_fun_some]
  cases at2 L k i <;> cases s.testBit k <;> rfl)
  (by
   show Z85 B s i (n:Int)=_
   rw [Z85_fx]; unfold c_Z85; simp [hB.len])
 have h:Z85 B s i 0=_:=h
 unfold Z86 c_Z86 rdy
 simp only [l4Bit_eq s i hs (by omega),h,Option.bind_some]
 cases s.testBit i with
 | true=>rfl
 | false=>
  simp only [cond_false,Bool.not_false,Bool.true_and]
  cases allN (fun k=>!at2 L k i||s.testBit k) n <;> rfl
def nv (F:List D) (i:Nat):Int:=(F.getD i (.int 0)).toInt
def stepC (L:List D) (n s:Nat) (cur:List D) (i:Nat):List D:=bif rdy L n s i then cur.set s (.int (IntKind.i64.wrap (nv cur s+nv cur (s ||| 2 ^ i)))) else cur
def innerC (L:List D) (n s:Nat):Nat→Nat→List D→List D
 | 0,_,cur=>cur
 | m+1,i,cur=>innerC L n s m (i+1) (stepC L n s cur i)
def outerC (L:List D) (n:Nat):Nat→List D→List D
 | 0,cur=>cur
 | s+1,cur=>outerC L n s (innerC L n s n 0 cur)
theorem stepC_len {L:List D} {n s i:Nat} {cur:List D}:(stepC L n s cur i).length=cur.length:=by unfold stepC; cases rdy L n s i <;> simp
theorem innerC_len {L:List D} {n s:Nat}:∀ {m i:Nat} {cur:List D},(innerC L n s m i cur).length=cur.length
 | 0,_,_=>rfl
 | m+1,i,cur=>by rw [innerC,innerC_len,stepC_len]
theorem outerC_len {L:List D} {n:Nat}:∀ {s:Nat} {cur:List D},(outerC L n s cur).length=cur.length
 | 0,_=>rfl
 | s+1,cur=>by rw [outerC,outerC_len,innerC_len]
def countsC (L:List D) (n:Nat):List D:=outerC L n (2 ^ n - 1) ((List.replicate (2 ^ n) (.int 0)).set (2 ^ n - 1) (.int 1))
theorem pow_le {n:Nat} (hn:n≤10):2 ^ n≤1024:=Nat.le_trans (Nat.pow_le_pow_right (by omega) hn) (by decide)
theorem or_lt {n s i:Nat} (hs:s<2 ^ n) (hi:i<n):s ||| 2 ^ i<2 ^ n:=Nat.or_lt_two_pow hs (Nat.pow_lt_pow_right (by omega) hi)
section
variable {n:Nat} {L nm A B:List D} (hL:Sq n L) (hn:n≤10) (hnm:nm.length=n)
include hL hn hnm in
theorem iL22 (s:Nat) (hs:s<2 ^ n) (bef:List D):∀ (m i:Nat) (cur:List D),i+m=n→cur.length=2 ^ n→Z73 s n i nm A L bef cur=some ((s:Int),nm,A,L,bef,innerC L n s m i cur):=by
 have hp:=pow_le hn
 intro m
 induction m with
 | zero=>
  intro i cur hi hc
  have:i=n:=by omega
  subst this
  rw [Z73_fx]; unfold c_Z73; simp [innerC]
 | succ m ih=>
  intro i cur hi hc
  have hin:i<n:=by omega
  rw [Z73_fx]
  unfold c_Z73
  have h1:(i:Int)<n:=by omega
  obtain ⟨s1,s2⟩:=shl_bit i (by omega)
  have s1':IntKind.i64.wrap (1 * 2 ^ Min.min i IntKind.i64.bits)=((2 ^ i:Nat):Int):=by simpa using s1
  obtain ⟨o1,o2⟩:=or_bits s (2 ^ i) (by omega) s2
  have ho:=or_lt hs hin
  have g1:(s:Int)<cur.length:=by omega
  have g2:s+1≤cur.length:=by omega
  have g3:((s ||| 2 ^ i:Nat):Int)<cur.length:=by omega
  have g4:(s ||| 2 ^ i)+1≤cur.length:=by omega
  rw [innerC,stepC]
  simp only [h1,decide_true,cond_true,Int.natCast_nonneg,free_eq hL hn hnm s i (by omega) hin,Option.bind_some,g1,g2,g3,g4,and_self,if_true,Int.toNat_natCast,s1',o1,Qm (show i<4611686018427387904 by omega),Option.bind_fun_some]
  cases rdy L n s i with
  | true=>
   simp only [cond_true]
   exact ih (i+1) _ (by omega) (by simpa using hc)
  | false=>
   simp only [cond_false]
   exact ih (i+1) cur (by omega) hc
include hL hn hnm in
theorem iL19 (bef:List D):∀ (s:Nat) (cur:List D),s≤2 ^ n→cur.length=2 ^ n→Z74 ((s:Int) - 1) nm A L bef cur=some (nm,A,L,bef,outerC L n s cur):=by
 have hp:=pow_le hn
 intro s
 induction s with
 | zero=>
  intro cur _ hc
  rw [Z74_fx]; unfold c_Z74; simp [outerC]
 | succ s ih=>
  intro cur hs hc
  rw [Z74_fx]
  unfold c_Z74
  have e1:((s+1:Nat):Int) - 1=(s:Int):=by omega
  have e2:IntKind.i64.wrap ((s:Int) - 1)=(s:Int) - 1:=QF (by omega) (by omega)
  have h:=iL22 (A:=A) hL hn hnm s (by omega) bef n 0 cur (by omega) hc
  have h:Z73 s n 0 nm A L bef cur=_:=h
  rw [e1]
  simp only [Int.natCast_nonneg,decide_true,cond_true,hnm,h,Option.bind_some,e2,Option.bind_fun_some]
  exact ih _ (by omega) (by rw [innerC_len]; exact hc)
def stepF (L:List D) (n s:Nat) (cur:List D) (i:Nat):List D:=bif decide (0<nv cur s)&&rdy L n s i then cur.set (s ||| 2 ^ i) (.int (IntKind.i64.wrap (nv cur (s ||| 2 ^ i)+nv cur s))) else cur
def innerF (L:List D) (n s:Nat):Nat→Nat→List D→List D
 | 0,_,cur=>cur
 | m+1,i,cur=>innerF L n s m (i+1) (stepF L n s cur i)
def outerF (L:List D) (n:Nat):Nat→Nat→List D→List D
 | 0,_,cur=>cur
 | m+1,s,cur=>outerF L n m (s+1) (innerF L n s n 0 cur)
theorem stepF_len {L:List D} {n s i:Nat} {cur:List D}:(stepF L n s cur i).length=cur.length:=by unfold stepF; cases (decide (0<nv cur s)&&rdy L n s i) <;> simp
theorem innerF_len {L:List D} {n s:Nat}:∀ {m i:Nat} {cur:List D},(innerF L n s m i cur).length=cur.length
 | 0,_,_=>rfl
 | m+1,i,cur=>by rw [innerF,innerF_len,stepF_len]
theorem outerF_len {L:List D} {n:Nat}:∀ {m s:Nat} {cur:List D},(outerF L n m s cur).length=cur.length
 | 0,_,_=>rfl
 | m+1,s,cur=>by rw [outerF,outerF_len,innerF_len]
def firstF (L:List D) (n:Nat):List D:=outerF L n (2 ^ n) 0 ((List.replicate (2 ^ n) (.int 0)).set 0 (.int 1))
include hL hn hnm in
theorem iL11 (s:Nat) (hs:s<2 ^ n) (x0 x2 x3:Int) (beh:List D):∀ (m i:Nat) (cur:List D),i+m=n→cur.length=2 ^ n→Z71 x0 s x2 x3 n i nm A L cur beh=some (x0,x2,x3,nm,A,L,innerF L n s m i cur,beh):=by
 have hp:=pow_le hn
 intro m
 induction m with
 | zero=>
  intro i cur hi hc
  have:i=n:=by omega
  subst this
  rw [Z71_fx]; unfold c_Z71; simp [innerF]
 | succ m ih=>
  intro i cur hi hc
  have hin:i<n:=by omega
  rw [Z71_fx]
  unfold c_Z71
  have h1:(i:Int)<n:=by omega
  obtain ⟨s1,s2⟩:=shl_bit i (by omega)
  have s1':IntKind.i64.wrap (1 * 2 ^ Min.min i IntKind.i64.bits)=((2 ^ i:Nat):Int):=by simpa using s1
  obtain ⟨o1,o2⟩:=or_bits s (2 ^ i) (by omega) s2
  have ho:=or_lt hs hin
  have g1:(s:Int)<cur.length:=by omega
  have g2:s+1≤cur.length:=by omega
  have g3:((s ||| 2 ^ i:Nat):Int)<cur.length:=by omega
  have g4:(s ||| 2 ^ i)+1≤cur.length:=by omega
  have hz:(cur.getD s (.int 0)).toInt=nv cur s:=rfl
  rw [innerF,stepF]
  simp only [h1,decide_true,cond_true,Int.natCast_nonneg,free_eq hL hn hnm s i (by omega) hin,Option.bind_some,g1,g2,g3,g4,and_self,if_true,Int.toNat_natCast,s1',o1,Qm (show i<4611686018427387904 by omega),Option.bind_fun_some,hz]
  cases decide (0<nv cur s) with
  | true=>
   cases rdy L n s i with
   | true=>
    simp only [cond_true,Bool.and_self]
    exact ih (i+1) _ (by omega) (by simpa using hc)
   | false=>
    simp only [cond_false,cond_true,Bool.and_false]
    exact ih (i+1) cur (by omega) hc
  | false=>
   simp only [cond_false,Bool.false_and]
   exact ih (i+1) cur (by omega) hc
include hL hn hnm in
theorem iL8 (x0:Int) (beh:List D):∀ (m s:Nat) (cur:List D),s+m=2 ^ n→cur.length=2 ^ n→Z72 x0 ((2 ^ n:Nat):Int) s nm A L cur beh=some (x0,nm,A,L,outerF L n m s cur,beh):=by
 have hp:=pow_le hn
 intro m
 induction m with
 | zero=>
  intro s cur hs hc
  have:s=2 ^ n:=by omega
  subst this
  rw [Z72_fx]; unfold c_Z72; simp [outerF]
 | succ m ih=>
  intro s cur hs hc
  rw [Z72_fx]
  unfold c_Z72
  have h1:(s:Int)<((2 ^ n:Nat):Int):=by omega
  have h:=iL11 (A:=A) hL hn hnm s (by omega) x0 ((2 ^ n:Nat):Int) s beh n 0 cur (by omega) hc
  have h:Z71 x0 s ((2 ^ n:Nat):Int) s n 0 nm A L cur beh=_:=h
  simp only [h1,decide_true,cond_true,hnm,h,Option.bind_some,Qm (show s<4611686018427387904 by omega),Option.bind_fun_some]
  exact ih (s+1) _ (by omega) (by rw [innerF_len]; exact hc)
variable (hB:Bq n B) (hb:∀ a b,b2 B a b=at2 L a b)
include hB hb hn in
theorem sL9 (s:Nat) (hs:s<2 ^ n):∀ (m i:Nat) (cur:List D),i+m=n→cur.length=2 ^ n→Z87 B n s i cur=some (B,(n:Int),(s:Int),innerC L n s m i cur):=by
 have hp:=pow_le hn
 intro m
 induction m with
 | zero=>
  intro i cur hi hc
  have:i=n:=by omega
  subst this
  rw [Z87_fx]; unfold c_Z87; simp [innerC]
 | succ m ih=>
  intro i cur hi hc
  have hin:i<n:=by omega
  rw [Z87_fx]
  unfold c_Z87
  have h1:(i:Int)<n:=by omega
  obtain ⟨s1,s2⟩:=shl_bit i (by omega)
  have s1':IntKind.i64.wrap (1 * 2 ^ Min.min i IntKind.i64.bits)=((2 ^ i:Nat):Int):=by simpa using s1
  obtain ⟨o1,o2⟩:=or_bits s (2 ^ i) (by omega) s2
  have ho:=or_lt hs hin
  have g1:(s:Int)<cur.length:=by omega
  have g2:s+1≤cur.length:=by omega
  have g3:((s ||| 2 ^ i:Nat):Int)<cur.length:=by omega
  have g4:(s ||| 2 ^ i)+1≤cur.length:=by omega
  rw [innerC,stepC]
  simp only [h1,decide_true,cond_true,Int.natCast_nonneg,ready_eq hB hb hn s i (by omega) hin,Option.bind_some,g1,g2,g3,g4,and_self,if_true,uw (i:Int) (by omega),Int.toNat_natCast,s1',o1,Qm (show i<4611686018427387904 by omega),Option.bind_fun_some]
  cases rdy L n s i with
  | true=>
   simp only [cond_true]
   exact ih (i+1) _ (by omega) (by simpa using hc)
  | false=>
   simp only [cond_false]
   exact ih (i+1) cur (by omega) hc
include hB hb hn in
theorem sL6:∀ (s:Nat) (cur:List D),s≤2 ^ n→cur.length=2 ^ n→Z88 B n ((s:Int) - 1) cur=some (outerC L n s cur):=by
 have hp:=pow_le hn
 intro s
 induction s with
 | zero=>
  intro cur _ hc
  rw [Z88_fx]; unfold c_Z88; simp [outerC]
 | succ s ih=>
  intro cur hs hc
  rw [Z88_fx]
  unfold c_Z88
  have e1:((s+1:Nat):Int) - 1=(s:Int):=by omega
  have e2:IntKind.i64.wrap ((s:Int) - 1)=(s:Int) - 1:=QF (by omega) (by omega)
  have h:=sL9 hn hB hb s (by omega) n 0 cur (by omega) hc
  have h:Z87 B n s 0 cur=_:=h
  rw [e1]
  simp only [Int.natCast_nonneg,decide_true,cond_true,h,Option.bind_some,e2,Option.bind_fun_some]
  exact ih _ (by omega) (by rw [innerC_len]; exact hc)
include hB hb hn in
theorem sCounts:Z89 B=some (countsC L n):=by
 have hp:=pow_le hn
 have h2:1≤2 ^ n:=Nat.one_le_two_pow
 have hpw:IntKind.i64.wrap (1 * 2 ^ Min.min n IntKind.i64.bits)=((2 ^ n:Nat):Int):=by
  have h1:Min.min n IntKind.i64.bits=n:=by simp only [IntKind.bits]; omega
  have h3:(1:Int) * 2 ^ n=((2 ^ n:Nat):Int):=by simp
  rw [h1,h3]
  have key:∀ x:Nat,x≤1024→IntKind.i64.wrap (x:Int)=x:=fun x hx=>QF (by omega) (by omega)
  exact key _ hp
 have w1:IntKind.i64.wrap (((2 ^ n:Nat):Int) - 1)=((2 ^ n - 1:Nat):Int):=VI (by omega) (by omega)
 have w2:IntKind.i64.wrap (((2 ^ n - 1:Nat):Int)+1)=((2 ^ n:Nat):Int):=by rw [Qm (by omega)]; congr 1; omega
 have w3:IntKind.i64.wrap (((2 ^ n - 1:Nat):Int) - 1)=((2 ^ n - 1:Nat):Int) - 1:=QF (by omega) (by omega)
 have c1:((2 ^ n:Nat):Int)≤4294967296:=by omega
 have c2:((2 ^ n - 1:Nat):Int)<((List.replicate (2 ^ n) (D.int 0)).length:Int):=by rw [List.length_replicate]; omega
 have c3:2 ^ n - 1+1≤(List.replicate (2 ^ n) (D.int 0)).length:=by rw [List.length_replicate]; omega
 have h:=sL6 hn hB hb (2 ^ n - 1) ((List.replicate (2 ^ n) (.int 0)).set (2 ^ n - 1) (.int 1)) (by omega) (by simp)
 unfold Z89 c_Z89
 simp only [hB.len,uw (n:Int) (by omega),Int.natCast_nonneg,if_true,Int.toNat_natCast,hpw,w1,w2,w3,Int.le_refl,c1,c2,c3,and_self,h,Option.bind_some]
 rfl
end
structure Good8 (C R A L B:List D):Prop where
 l5:Z84 C R=some true
 cons:Z67 C R=some (.inr (nums C,A,L,true))
 cnt:Z75 C R=some (.inr (nums C,A,L,firstF L C.length,countsC L C.length,true))
 later:Z29 C R=some B
 bq:Bq C.length B
 hb:∀ a b,b2 B a b=at2 L a b
 sq:Sq C.length L
 hn:C.length≤10
 trans:∀ a b c,at2 L a b=true→at2 L b c=true→at2 L a c=true
 irr:∀ a,at2 L a a=false
 v:validB C R=true
theorem l4Consistent_eq {C R B L:List D} (h1:Z29 C R=some B) (hB:Bq C.length B) (hb:∀ a b,b2 B a b=at2 L a b) (hn:C.length≤10):Z32 C R=some (allN (fun i=>!at2 L i i) C.length):=by
 have h:=fxAll (F:=fun i=>Z31 i B) (len:=C.length) (fun i=>!at2 L i i) (.inl false) (fin:=.inr ()) (fun i hi=>by
  show Z31 i B=_
  rw [Z31_fx]
  unfold c_Z31
  have g1:(i:Int)<B.length:=by rw [hB.len]; omega
  have g2:i+1≤B.length:=by rw [hB.len]; omega
  obtain ⟨v,e1,e2⟩:=hB.rng i hi
  have e3:v.testBit i=at2 L i i:=by rw [← hb,b2,e1]; rfl
  simp only [g1,g2,decide_true,cond_true,Int.natCast_nonneg,and_self,if_true,Int.toNat_natCast,e1,l4Bit_eq v i e2 (by omega),Option.bind_some,e3,Qm (show i<4611686018427387904 by omega),Option.bind_fun_some]
  cases at2 L i i <;> rfl)
  (by
   show Z31 (C.length:Int) B=_
   rw [Z31_fx]; unfold c_Z31; simp [hB.len])
 have h:Z31 0 B=_:=h
 unfold Z32 c_Z32
 simp only [h1,h,Option.bind_some]
 cases allN (fun i=>!at2 L i i) C.length <;> rfl
theorem pow_wrap {n:Nat} (hn:n≤10):IntKind.i64.wrap (1 * 2 ^ Min.min n IntKind.i64.bits)=((2 ^ n:Nat):Int):=by
 have hp:=pow_le hn
 have h1:Min.min n IntKind.i64.bits=n:=by simp only [IntKind.bits]; omega
 have h3:(1:Int) * 2 ^ n=((2 ^ n:Nat):Int):=by simp
 rw [h1,h3]
 have key:∀ x:Nat,x≤1024→IntKind.i64.wrap (x:Int)=x:=fun x hx=>QF (by omega) (by omega)
 exact key _ hp
theorem counting_good {C R A L:List D} (hc:Z67 C R=some (.inr (nums C,A,L,true))) (hL:Sq C.length L) (hn:C.length≤10):Z75 C R=some (.inr (nums C,A,L,firstF L C.length,countsC L C.length,true)):=by
 have hp:=pow_le hn
 have h2:1≤2 ^ C.length:=Nat.one_le_two_pow
 have hnm:(nums C).length=C.length:=by simp [nums]
 have hpw:=pow_wrap hn
 have c1:((2 ^ C.length:Nat):Int)≤4294967296:=by omega
 have hr:(List.replicate (2 ^ C.length) (D.int 0)).length=2 ^ C.length:=List.length_replicate
 have c2:(0:Int)<((2 ^ C.length:Nat):Int):=by omega
 have c3:0+1≤2 ^ C.length:=by omega
 have h8:=iL8 (A:=A) hL hn hnm ((2 ^ C.length:Nat):Int) (List.replicate (2 ^ C.length) (.int 0)) (2 ^ C.length) 0 ((List.replicate (2 ^ C.length) (.int 0)).set 0 (.int 1)) (by omega) (by simp)
 have h8:Z72 ((2 ^ C.length:Nat):Int) ((2 ^ C.length:Nat):Int) 0 (nums C) A L ((List.replicate (2 ^ C.length) (.int 0)).set 0 (.int 1)) (List.replicate (2 ^ C.length) (.int 0))=_:=h8
 have w1:IntKind.i64.wrap (((2 ^ C.length:Nat):Int) - 1)=((2 ^ C.length - 1:Nat):Int):=VI (by omega) (by omega)
 have w2:IntKind.i64.wrap (((2 ^ C.length:Nat):Int) - 2)=((2 ^ C.length - 1:Nat):Int) - 1:=by rw [QF (by omega) (by omega)]; omega
 have c4:((2 ^ C.length - 1:Nat):Int)<((2 ^ C.length:Nat):Int):=by omega
 have c5:2 ^ C.length - 1+1≤2 ^ C.length:=by omega
 have h19:=iL19 (A:=A) hL hn hnm (firstF L C.length) (2 ^ C.length - 1) ((List.replicate (2 ^ C.length) (.int 0)).set (2 ^ C.length - 1) (.int 1)) (by omega) (by simp)
 unfold Z75 c_Z75
 have z0:(0:Int).toNat=0:=rfl
 simp only [hc,Option.bind_some,Sum.elim_inr,Bool.not_true,cond_false,hnm,Int.natCast_nonneg,if_true,Int.toNat_natCast,hpw,Int.le_refl,c1,and_self,hr,c2,z0,c3,h8]
 simp only [w1,w2,hr,Int.natCast_nonneg,c4,and_self,if_true,Int.toNat_natCast,c5]
 have h19:Z74 (((2 ^ C.length - 1:Nat):Int) - 1) (nums C) A L (outerF L C.length (2 ^ C.length) 0 ((List.replicate (2 ^ C.length) (.int 0)).set 0 (.int 1))) ((List.replicate (2 ^ C.length) (.int 0)).set (2 ^ C.length - 1) (.int 1))=_:=h19
 rw [h19]
 rfl
theorem cases8 (C R:List D):(Z84 C R=some false∧Z75 C R=some (.inl false))∨∃ A L B,Good8 C R A L B:=by
 have hl:=l2Good_eq C R
 have hv:=valid_eq C R
 cases hb:validB C R with
 | false=>
  left
  rw [hb] at hl hv
  constructor
  ·simp only [Z84,c_Z84,hl,Option.bind_some,cond_false]
  ·simp only [Z75,c_Z75,Z67,c_Z67,hv,Option.bind_some,Bool.not_false,cond_true,Sum.elim_inl]
 | true=>
  rw [hb] at hl hv
  have hC:C.length≤10:=by
   have h:=hb
   simp only [validB,Bool.and_eq_true,decide_eq_true_eq] at h
   exact h.1
  obtain ⟨A,L,o1,o2,o3,o4⟩:=order_eq C R hb
  obtain ⟨B,b1,b2',b3⟩:=bits_eq C R hb
  have hbb:=b3 L o4
  have hcons:=consistent_eq C A L o4.sq hC
  have hs:=l4Consistent_eq b1 b2' hbb hC
  cases hq:allN (fun i=>!at2 L i i) C.length with
  | false=>
   left
   rw [hq] at hcons hs
   constructor
   ·simp only [Z84,c_Z84,hl,Option.bind_some,cond_true,hs]
   ·simp only [Z75,c_Z75,Z67,c_Z67,hv,Option.bind_some,Bool.not_true,cond_false,o1,hcons,Sum.elim_inr,Bool.not_false,cond_true]
  | true=>
   right
   rw [hq] at hcons hs
   have hc:Z67 C R=some (.inr (nums C,A,L,true)):=by
    simp only [Z67,c_Z67,hv,Option.bind_some,Bool.not_true,cond_false,o1,hcons]
   refine ⟨A,L,B,⟨?_,hc,counting_good hc o4.sq hC,b1,b2',hbb,o4.sq,hC,o4.trans,?_,hb⟩⟩
   ·simp only [Z84,c_Z84,hl,Option.bind_some,cond_true,hs]
   ·intro a
    by_cases ha:a<C.length
    ·have:=allN_iff.1 hq a ha
     simpa using this
    ·cases h:at2 L a a with
     | false=>rfl
     | true=>exact absurd (at2_lt o4.sq h).1 ha
theorem countSeq_eq {C R A L B:List D} (h:Good8 C R A L B):Z76 C R=some (nv (countsC L C.length) 0,true):=by
 have hlen:(countsC L C.length).length=2 ^ C.length:=by unfold countsC; rw [outerC_len]; simp
 have h2:1≤2 ^ C.length:=Nat.one_le_two_pow
 have c1:(0:Int)<((countsC L C.length).length:Int):=by rw [hlen]; omega
 have c2:(0:Int).toNat+1≤(countsC L C.length).length:=by rw [hlen]; exact h2
 simp only [Z76,c_Z76,h.cnt,Option.bind_some,Sum.elim_inr,Bool.not_true,cond_false,Int.le_refl,c1,and_self,if_true,c2]
 rfl
theorem countSeq_no {C R:List D} (h2:Z75 C R=some (.inl false)):Z76 C R=some (0,false):=by
 simp only [Z76,c_Z76,h2,Option.bind_some,Sum.elim_inl,Bool.not_false,cond_true]
def zer (n s:Nat):Nat:=((List.range n).filter (fun i=>!s.testBit i)).length
def cntW (L:List D) (n:Nat):Nat→Nat→Nat
 | 0,_=>1
 | m+1,s=>((List.range n).map (fun i=>if rdy L n s i then cntW L n m (s ||| 2 ^ i) else 0)).sum
def cnt (L:List D) (n s:Nat):Nat:=cntW L n (zer n s) s
theorem test_or (s i k:Nat):(s ||| 2 ^ i).testBit k=(s.testBit k||decide (i=k)):=by rw [Nat.testBit_or,Nat.testBit_two_pow]
theorem zer_or {n s i:Nat} (hi:i<n) (h:s.testBit i=false):zer n (s ||| 2 ^ i)+1=zer n s:=by
 unfold zer
 have key:∀ l:List Nat,l.Nodup→i∈l→(l.filter (fun k=>!(s ||| 2 ^ i).testBit k)).length+1=(l.filter (fun k=>!s.testBit k)).length:=by
  intro l
  induction l with
  | nil=>intro _ h; cases h
  | cons a l ih=>
   intro hn hm
   rw [List.nodup_cons] at hn
   rw [List.filter_cons,List.filter_cons,test_or]
   by_cases ha:i=a
   ·subst ha
    have same:l.filter (fun k=>!(s ||| 2 ^ i).testBit k)=l.filter (fun k=>!s.testBit k):=by
     apply List.filter_congr
     intro k hk
     have:¬ i=k:=fun e=>hn.1 (by rw [e]; exact hk)
     rw [test_or]; simp [this]
    rw [same]; simp [h]
   ·have hm':i∈l:=by
     rcases List.mem_cons.1 hm with e | e
     ·exact absurd e ha
     ·exact e
    have ih':=ih hn.2 hm'
    generalize l.filter (fun k=>!(s ||| 2 ^ i).testBit k)=X at ih' ⊢
    generalize l.filter (fun k=>!s.testBit k)=Y at ih' ⊢
    cases s.testBit a <;> simp [ha] <;> omega
 exact key _ List.nodup_range (List.mem_range.2 hi)
theorem zer_full {n s:Nat} (h:zer n s=0):∀ i,i<n→s.testBit i=true:=by
 intro i hi
 unfold zer at h
 rw [List.length_eq_zero_iff,List.filter_eq_nil_iff] at h
 have:=h i (List.mem_range.2 hi)
 simpa using this
theorem zer_le (n s:Nat):zer n s≤n:=by
 unfold zer
 have:=List.length_filter_le (fun i=>!s.testBit i) (List.range n)
 rwa [List.length_range] at this
theorem rdy_not {L:List D} {n s i:Nat} (h:rdy L n s i=true):s.testBit i=false:=by
 unfold rdy at h
 rw [Bool.and_eq_true] at h
 simpa using h.1
theorem cnt_step {L:List D} {n s:Nat} (h:zer n s≠0):cnt L n s=((List.range n).map (fun i=>if rdy L n s i then cnt L n (s ||| 2 ^ i) else 0)).sum:=by
 unfold cnt
 obtain ⟨m,hm⟩:∃ m,zer n s=m+1:=⟨zer n s - 1,by omega⟩
 rw [hm,cntW]
 congr 1
 apply List.map_congr_left
 intro i hi
 rw [List.mem_range] at hi
 split
 ·rename_i hr
  have:=zer_or hi (rdy_not hr)
  have e:zer n (s ||| 2 ^ i)=m:=by omega
  rw [e]
 ·rfl
theorem sum_le {l:List Nat} {f:Nat→Nat} {b:Nat} (h:∀ i∈l,f i≤b):(l.map f).sum≤l.length * b:=by
 induction l with
 | nil=>simp
 | cons a l ih=>
  have h1:=h a (by simp)
  have h2:=ih (fun i hi=>h i (by simp [hi]))
  rw [List.map_cons,List.sum_cons,List.length_cons,Nat.succ_mul]; omega
theorem cntW_le {L:List D} {n:Nat}:∀ m s,cntW L n m s≤n ^ m
 | 0,s=>by simp [cntW]
 | m+1,s=>by
  rw [cntW]
  have:=sum_le (l:=List.range n) (f:=fun i=>if rdy L n s i then cntW L n m (s ||| 2 ^ i) else 0) (b:=n ^ m) (fun i _=>by
   split
   ·exact cntW_le m _
   ·omega)
  rw [List.length_range] at this
  rw [Nat.pow_succ,Nat.mul_comm]; exact this
theorem cnt_le {L:List D} {n s:Nat} (hn:n≤10):cnt L n s≤10000000000:=by
 refine Nat.le_trans (cntW_le _ _) ?_
 have h1:n ^ zer n s≤10 ^ zer n s:=Nat.pow_le_pow_left hn _
 have h2:10 ^ zer n s≤10 ^ 10:=Nat.pow_le_pow_right (by omega) (Nat.le_trans (zer_le n s) hn)
 exact Nat.le_trans h1 h2
theorem some_rdy {L:List D} {n s:Nat} (hL:Sq n L) (tr:∀ a b c,at2 L a b=true→at2 L b c=true→at2 L a c=true) (ir:∀ a,at2 L a a=false) (h:zer n s≠0):∃ i,i<n∧rdy L n s i=true:=by
 have key:∀ (m i:Nat),i<n→s.testBit i=false→((List.range n).filter (fun k=>at2 L k i)).length≤m→∃ j,j<n∧rdy L n s j=true:=by
  intro m
  induction m with
  | zero=>
   intro i hi hs hm
   refine ⟨i,hi,?_⟩
   have h0:(List.range n).filter (fun k=>at2 L k i)=[]:=List.length_eq_zero_iff.1 (by omega)
   rw [List.filter_eq_nil_iff] at h0
   unfold rdy
   rw [hs,Bool.not_false,Bool.true_and,allN_iff]
   intro k hk
   have:=h0 k (List.mem_range.2 hk)
   simp only [Bool.not_eq_true] at this
   simp [this]
  | succ m ih=>
   intro i hi hs hm
   by_cases hr:rdy L n s i=true
   ·exact ⟨i,hi,hr⟩
   ·unfold rdy at hr
    rw [hs,Bool.not_false,Bool.true_and,allN_iff] at hr
    have hr':∃ k,k<n∧(!at2 L k i||s.testBit k)=false:=Classical.byContradiction fun hx=>hr fun k hk=>by
     cases hc:(!at2 L k i||s.testBit k) with
     | true=>rfl
     | false=>exact absurd ⟨k,hk,hc⟩ hx
    obtain ⟨k,hk,hc⟩:=hr'
    simp only [Bool.or_eq_false_iff,Bool.not_eq_false'] at hc
    refine ih k hk hc.2 ?_
    have hlt:((List.range n).filter (fun x=>at2 L x k)).length<((List.range n).filter (fun x=>at2 L x i)).length:=by
     rw [← List.countP_eq_length_filter,← List.countP_eq_length_filter]
     have strict:∀ l:List Nat,k∈l→l.countP (fun x=>at2 L x k)<l.countP (fun x=>at2 L x i):=by
      intro l
      induction l with
      | nil=>intro h; cases h
      | cons a l ihl=>
       intro hm
       have mono:l.countP (fun x=>at2 L x k)≤l.countP (fun x=>at2 L x i):=List.countP_mono_left (fun x _ hx=>tr x k i hx hc.1)
       rw [List.countP_cons,List.countP_cons]
       by_cases ha:k=a
       ·subst ha
        rw [ir k,hc.1]; simp; omega
       ·have hm':k∈l:=by
         rcases List.mem_cons.1 hm with e | e
         ·exact absurd e ha
         ·exact e
        have:=ihl hm'
        cases hx:at2 L a k with
        | true=>rw [tr a k i hx hc.1]; simp; omega
        | false=>cases at2 L a i <;> simp <;> omega
     exact strict _ (List.mem_range.2 hk)
    omega
 have hne:(List.range n).filter (fun i=>!s.testBit i)≠[]:=fun e=>h (by unfold zer; rw [e]; rfl)
 obtain ⟨i,hi⟩:=List.exists_mem_of_ne_nil _ hne
 rw [List.mem_filter,List.mem_range] at hi
 exact key _ i hi.1 (by simpa using hi.2) (Nat.le_refl _)
theorem cnt_pos {L:List D} {n:Nat} (hL:Sq n L) (tr:∀ a b c,at2 L a b=true→at2 L b c=true→at2 L a c=true) (ir:∀ a,at2 L a a=false):∀ (m s:Nat),zer n s=m→0<cnt L n s:=by
 intro m
 induction m with
 | zero=>intro s hs; unfold cnt; rw [hs,cntW]; omega
 | succ m ih=>
  intro s hs
  obtain ⟨i,hi,hr⟩:=some_rdy hL tr ir (s:=s) (by omega)
  rw [cnt_step (by omega)]
  have hz:=zer_or hi (rdy_not hr)
  have h1:=ih (s ||| 2 ^ i) (by omega)
  have pos:∀ l:List Nat,i∈l→0<(l.map (fun i=>if rdy L n s i then cnt L n (s ||| 2 ^ i) else 0)).sum:=by
   intro l
   induction l with
   | nil=>intro h; cases h
   | cons a l ihl=>
    intro hm
    rw [List.map_cons,List.sum_cons]
    rcases List.mem_cons.1 hm with e | e
    ·subst e; rw [if_pos hr]; omega
    ·have:=ihl e; omega
  exact pos _ (List.mem_range.2 hi)
theorem nv_set {F:List D} {s t:Nat} {v:Int} (h:s<F.length):nv (F.set s (.int v)) t=if s=t then v else nv F t:=by
 unfold nv
 rw [getD_set h]
 split <;> rfl
theorem or_gt {s i:Nat} (h:s.testBit i=false):s<s ||| 2 ^ i:=by
 refine Nat.lt_of_le_of_ne Nat.left_le_or (fun e=>?_)
 have h1:=test_or s i i
 rw [← e,h] at h1
 simp at h1
theorem full_eq {n s:Nat} (hs:s<2 ^ n) (h:zer n s=0):s=2 ^ n - 1:=by
 apply Nat.eq_of_testBit_eq
 intro k
 rw [Nat.testBit_two_pow_sub_one]
 by_cases hk:k<n
 ·rw [zer_full h k hk]; simp [hk]
 ·rw [Nat.testBit_lt_two_pow (Nat.lt_of_lt_of_le hs (Nat.pow_le_pow_right (by omega) (by omega)))]; simp [hk]
theorem zer_top (n:Nat):zer n (2 ^ n - 1)=0:=by
 unfold zer
 rw [List.length_eq_zero_iff,List.filter_eq_nil_iff]
 intro i hi
 rw [Nat.testBit_two_pow_sub_one]
 simp [List.mem_range.1 hi]
section
variable {n:Nat} {L:List D} (hn:n≤10)
include hn in
theorem innerC_ok (s:Nat) (hs:s<2 ^ n):∀ (m i p:Nat) (cur:List D),i+m=n→cur.length=2 ^ n→(∀ t,s<t→t<2 ^ n→nv cur t=(cnt L n t:Int))→nv cur s=(p:Int)→p+m * 10000000000≤200000000000 →
  (∀ t,t≠s→nv (innerC L n s m i cur) t=nv cur t)∧nv (innerC L n s m i cur) s=((p+((List.range' i m).map (fun i=>if rdy L n s i then cnt L n (s ||| 2 ^ i) else 0)).sum:Nat):Int):=by
 intro m
 induction m with
 | zero=>intro i p cur hi hc ht hp hb; exact ⟨fun _ _=>rfl,by
   show nv cur s=((p+0:Nat):Int)
   rw [hp,Nat.add_zero]⟩
 | succ m ih=>
  intro i p cur hi hc ht hp hb
  rw [Nat.succ_mul] at hb
  have hin:i<n:=by omega
  rw [innerC,List.range'_succ,List.map_cons,List.sum_cons]
  cases hr:rdy L n s i with
  | false=>
   have e:stepC L n s cur i=cur:=by unfold stepC; rw [hr]; rfl
   rw [e]
   obtain ⟨h1,h2⟩:=ih (i+1) p cur (by omega) hc ht hp (Nat.le_trans (Nat.add_le_add_left (Nat.le_add_right _ _) p) hb)
   refine ⟨h1,?_⟩
   rw [h2]; simp
  | true=>
   have hg:=or_gt (rdy_not hr)
   have hl:=or_lt hs hin
   have hq:=ht _ hg hl
   have hcl:=cnt_le (L:=L) (s:=s ||| 2 ^ i) hn
   have hv:IntKind.i64.wrap (nv cur s+nv cur (s ||| 2 ^ i))=((p+cnt L n (s ||| 2 ^ i):Nat):Int):=by
    rw [hp,hq,QF (by omega) (by omega)]; omega
   have e:stepC L n s cur i=cur.set s (.int ((p+cnt L n (s ||| 2 ^ i):Nat):Int)):=by unfold stepC; rw [hr,hv]; rfl
   rw [e]
   obtain ⟨h1,h2⟩:=ih (i+1) (p+cnt L n (s ||| 2 ^ i)) (cur.set s (.int ((p+cnt L n (s ||| 2 ^ i):Nat):Int))) (by omega) (by simpa using hc) (fun t h1 h2=>by rw [nv_set (by omega),if_neg (by omega)]; exact ht t h1 h2) (by rw [nv_set (by omega),if_pos rfl]) (by omega)
   refine ⟨fun t htn=>?_,?_⟩
   ·rw [h1 t htn,nv_set (by omega),if_neg (fun e=>htn e.symm)]
   ·rw [h2]; simp [Nat.add_assoc]
include hn in
theorem outerC_ok:∀ (s:Nat) (cur:List D),s<2 ^ n→cur.length=2 ^ n→(∀ t,s≤t→t<2 ^ n→nv cur t=(cnt L n t:Int))→(∀ t,t<s→nv cur t=0)→∀ t,t<2 ^ n→nv (outerC L n s cur) t=(cnt L n t:Int):=by
 intro s
 induction s with
 | zero=>intro cur _ hc h1 _ t ht; exact h1 t (by omega) ht
 | succ s ih=>
  intro cur hs hc h1 h2 t ht
  rw [outerC]
  have hm:n * 10000000000≤10 * 10000000000:=Nat.mul_le_mul_right _ hn
  obtain ⟨k1,k2⟩:=innerC_ok hn (L:=L) s (by omega) n 0 0 cur (by omega) hc (fun t h3 h4=>h1 t (by omega) h4) (h2 s (by omega)) (by omega)
  refine ih _ (by omega) (by rw [innerC_len]; exact hc) (fun t h3 h4=>?_) (fun t h3=>?_) t ht
  ·by_cases e:t=s
   ·subst e
    have hz:zer n t≠0:=fun hz=>by have:=full_eq h4 hz; omega
    rw [k2,cnt_step hz,Nat.zero_add,List.range_eq_range']
   ·rw [k1 t e]; exact h1 t (by omega) h4
  ·rw [k1 t (by omega)]; exact h2 t (by omega)
include hn in
theorem countsC_eq (s:Nat) (hs:s<2 ^ n):nv (countsC L n) s=(cnt L n s:Int):=by
 have h2:1≤2 ^ n:=Nat.one_le_two_pow
 have hz:∀ t,nv (List.replicate (2 ^ n) (.int 0)) t=0:=by
  intro t
  unfold nv
  rw [List.getD_eq_getElem?_getD,List.getElem?_replicate]
  split <;> rfl
 refine outerC_ok hn (2 ^ n - 1) _ (by omega) (by simp) (fun t h3 h4=>?_) (fun t h3=>?_) s hs
 ·have e:t=2 ^ n - 1:=by omega
  subst e
  rw [nv_set (by simp; omega),if_pos rfl]
  unfold cnt
  rw [zer_top,cntW]; rfl
 ·rw [nv_set (by simp; omega),if_neg (by omega)]; exact hz t
end
def pickA (L:List D) (n s:Nat):Nat→Nat→Nat→Option (Nat×Nat)
 | 0,_,_=>none
 | m+1,i,r=>if rdy L n s i then (if cnt L n (s ||| 2 ^ i)≤r then pickA L n s m (i+1) (r - cnt L n (s ||| 2 ^ i)) else some (i,r)) else pickA L n s m (i+1) r
def seqA (L:List D) (n:Nat):Nat→Nat→Nat→List Nat
 | 0,_,_=>[]
 | m+1,s,r=>match pickA L n s n 0 r with
  | some (i,r')=>i::seqA L n m (s ||| 2 ^ i) r'
  | none=>seqA L n m s r
def UH (L:List D) (n s i:Nat):Nat:=((List.range' 0 i).map (fun k=>if rdy L n s k then cnt L n (s ||| 2 ^ k) else 0)).sum
def rankA (L:List D) (n:Nat):Nat→List Nat→Nat
 | _,[]=>0
 | s,i::l=>UH L n s i+rankA L n (s ||| 2 ^ i) l
def isA (L:List D) (n:Nat):Nat→List Nat→Prop
 | _,[]=>True
 | s,i::l=>i<n∧rdy L n s i=true∧isA L n (s ||| 2 ^ i) l
theorem below_succ {L:List D} {n s i:Nat}:UH L n s (i+1)=UH L n s i+if rdy L n s i then cnt L n (s ||| 2 ^ i) else 0:=by
 unfold UH
 rw [List.range'_1_concat,List.map_append,List.sum_append]
 simp
theorem below_all {L:List D} {n s:Nat} (h:zer n s≠0):UH L n s n=cnt L n s:=by
 rw [cnt_step h,List.range_eq_range']; rfl
theorem pickA_ok {L:List D} {n s:Nat}:∀ (m i r:Nat),i+m=n→r+UH L n s i<UH L n s n→∃ j r',pickA L n s m i r=some (j,r')∧j<n∧rdy L n s j=true∧r'<cnt L n (s ||| 2 ^ j)∧UH L n s j+r'=r+UH L n s i:=by
 intro m
 induction m with
 | zero=>
  intro i r hi h
  have:i=n:=by omega
  subst this
  omega
 | succ m ih=>
  intro i r hi h
  have hb:=below_succ (L:=L) (n:=n) (s:=s) (i:=i)
  rw [pickA]
  by_cases hr:rdy L n s i=true
  ·rw [if_pos hr] at hb ⊢
   by_cases hc:cnt L n (s ||| 2 ^ i)≤r
   ·rw [if_pos hc]
    obtain ⟨j,r',h1,h2,h3,h4,h5⟩:=ih (i+1) (r - cnt L n (s ||| 2 ^ i)) (by omega) (by omega)
    exact ⟨j,r',h1,h2,h3,h4,by omega⟩
   ·rw [if_neg hc]
    exact ⟨i,r,rfl,by omega,hr,by omega,by omega⟩
  ·rw [if_neg hr] at hb ⊢
   obtain ⟨j,r',h1,h2,h3,h4,h5⟩:=ih (i+1) r (by omega) (by omega)
   exact ⟨j,r',h1,h2,h3,h4,by omega⟩
theorem seqA_ok {L:List D} {n:Nat}:∀ (m s r:Nat),zer n s=m→r<cnt L n s→isA L n s (seqA L n m s r)∧(seqA L n m s r).length=m∧rankA L n s (seqA L n m s r)=r:=by
 intro m
 induction m with
 | zero=>
  intro s r hz hr
  have:r=0:=by
   unfold cnt at hr
   rw [hz,cntW] at hr; omega
  subst this
  exact ⟨trivial,rfl,rfl⟩
 | succ m ih=>
  intro s r hz hr
  have hz':zer n s≠0:=by omega
  have h0:UH L n s 0=0:=rfl
  obtain ⟨j,r',h1,h2,h3,h4,h5⟩:=pickA_ok (L:=L) (n:=n) (s:=s) n 0 r (by omega) (by rw [below_all hz',h0]; omega)
  have hzj:=zer_or h2 (rdy_not h3)
  obtain ⟨k1,k2,k3⟩:=ih (s ||| 2 ^ j) r' (by omega) h4
  rw [seqA,h1]
  refine ⟨⟨h2,h3,k1⟩,by simp [k2],?_⟩
  show UH L n s j+rankA L n (s ||| 2 ^ j) (seqA L n m (s ||| 2 ^ j) r')=r
  rw [k3]; omega
theorem countsC_len {L:List D} {n:Nat}:(countsC L n).length=2 ^ n:=by unfold countsC; rw [outerC_len]; simp
def sumS (f:Nat→Nat):Nat→Nat
 | 0=>0
 | m+1=>sumS f m+f m
theorem sumS_congr {f g:Nat→Nat}:∀ {m:Nat},(∀ s,s<m→f s=g s)→sumS f m=sumS g m
 | 0,_=>rfl
 | m+1,h=>by rw [sumS,sumS,sumS_congr (fun s hs=>h s (by omega)),h m (by omega)]
theorem sumS_add (f g:Nat→Nat):∀ m,sumS (fun s=>f s+g s) m=sumS f m+sumS g m
 | 0=>rfl
 | m+1=>by rw [sumS,sumS,sumS,sumS_add f g m]; omega
theorem sumS_zero {f:Nat→Nat}:∀ {m:Nat},(∀ s,s<m→f s=0)→sumS f m=0
 | 0,_=>rfl
 | m+1,h=>by rw [sumS,sumS_zero (fun s hs=>h s (by omega)),h m (by omega)]
theorem sumS_one {f:Nat→Nat} {j:Nat}:∀ {m:Nat},j<m→(∀ s,s<m→s≠j→f s=0)→sumS f m=f j
 | 0,h,_=>by omega
 | m+1,h,hz=>by
  rw [sumS]
  by_cases e:j=m
  ·subst e; rw [sumS_zero (fun s hs=>hz s (by omega) (by omega))]; omega
  ·rw [sumS_one (j:=j) (by omega) (fun s hs hn=>hz s (by omega) hn),hz m (by omega) (fun e'=>e e'.symm)]; rfl
theorem sumS_mem {f:Nat→Nat} {j:Nat}:∀ {m:Nat},j<m→f j≤sumS f m
 | 0,h=>by omega
 | m+1,h=>by
  rw [sumS]
  by_cases e:j=m
  ·subst e; omega
  ·have:=sumS_mem (f:=f) (j:=j) (m:=m) (by omega); omega
theorem sumS_le {f:Nat→Nat} {k:Nat}:∀ {m:Nat},k≤m→sumS f k≤sumS f m
 | 0,h=>by cases Nat.le_zero.1 h; exact Nat.le_refl _
 | m+1,h=>by
  by_cases e:k=m+1
  ·subst e; exact Nat.le_refl _
  ·have:=sumS_le (f:=f) (k:=k) (m:=m) (by omega); rw [sumS]; omega
theorem sumS_mono {f g:Nat→Nat}:∀ {m:Nat},(∀ s,s<m→f s≤g s)→sumS f m≤sumS g m
 | 0,_=>Nat.le_refl _
 | m+1,h=>by
  have h1:=sumS_mono (f:=f) (g:=g) (m:=m) (fun s hs=>h s (by omega))
  have h2:=h m (by omega)
  rw [sumS,sumS]; omega
theorem sumS_pos {f:Nat→Nat}:∀ {m:Nat},0<sumS f m→∃ s,s<m∧0<f s
 | 0,h=>by simp [sumS] at h
 | m+1,h=>by
  rw [sumS] at h
  by_cases e:0<f m
  ·exact ⟨m,by omega,e⟩
  ·obtain ⟨s,h1,h2⟩:=sumS_pos (f:=f) (m:=m) (by omega)
   exact ⟨s,by omega,h2⟩
def addT (P:Nat→Nat→Bool) (t u v:Nat):Nat→Nat
 | 0=>0
 | i+1=>addT P t u v i+if P t i&&decide (u=t ||| 2 ^ i) then v else 0
def tab (P:Nat→Nat→Bool) (n:Nat):Nat→Nat→Nat
 | 0,u=>if u=0 then 1 else 0
 | t+1,u=>tab P n t u+addT P t u (tab P n t t) n
def nxt (P:Nat→Nat→Bool) (s:Nat) (H:Nat→Nat):Nat→Nat
 | 0=>0
 | i+1=>nxt P s H i+if P s i then H (s ||| 2 ^ i) else 0
theorem nxt_add (P:Nat→Nat→Bool) (s:Nat) (f g:Nat→Nat):∀ i,nxt P s (fun u=>f u+g u) i=nxt P s f i+nxt P s g i
 | 0=>rfl
 | i+1=>by rw [nxt,nxt,nxt,nxt_add P s f g i]; split <;> omega
theorem nxt_congr {P:Nat→Nat→Bool} {s:Nat} {f g:Nat→Nat}:∀ {m:Nat},(∀ i,i<m→P s i=true→f (s ||| 2 ^ i)=g (s ||| 2 ^ i))→nxt P s f m=nxt P s g m
 | 0,_=>rfl
 | m+1,h=>by
  rw [nxt,nxt,nxt_congr (m:=m) (fun i hi hp=>h i (by omega) hp)]
  split
  ·rename_i hp; rw [h m (by omega) hp]
  ·rfl
theorem nxt_zero {P:Nat→Nat→Bool} {s:Nat} {f:Nat→Nat}:∀ {m:Nat},(∀ i,i<m→P s i=true→f (s ||| 2 ^ i)=0)→nxt P s f m=0
 | 0,_=>rfl
 | m+1,h=>by
  rw [nxt,nxt_zero (m:=m) (fun i hi hp=>h i (by omega) hp)]
  split
  ·rename_i hp; rw [h m (by omega) hp]
  ·rfl
theorem nxt_one {P:Nat→Nat→Bool} {s:Nat} {f:Nat→Nat} {j:Nat}:∀ {m:Nat},j<m→P s j=true→f (s ||| 2 ^ j)≤nxt P s f m
 | 0,h,_=>by omega
 | m+1,h,hp=>by
  rw [nxt]
  by_cases e:j=m
  ·subst e; rw [if_pos hp]; omega
  ·have:=nxt_one (f:=f) (m:=m) (j:=j) (by omega) hp; omega
section
variable {P:Nat→Nat→Bool} (hP:∀ s i,P s i=true→s.testBit i=false)
include hP
theorem addT_le {t u v:Nat} (hu:u≤t):∀ i,addT P t u v i=0
 | 0=>rfl
 | i+1=>by
  rw [addT,addT_le hu i]
  split
  ·rename_i h
   rw [Bool.and_eq_true,decide_eq_true_eq] at h
   have:=or_gt (hP _ _ h.1)
   omega
  ·rfl
theorem tab_keep {n u:Nat}:∀ {t:Nat},u≤t→tab P n t u=tab P n u u
 | 0,h=>by cases Nat.le_zero.1 h; rfl
 | t+1,h=>by
  by_cases e:u=t+1
  ·subst e; rfl
  ·rw [tab,addT_le hP (by omega),tab_keep (by omega)]; rfl
omit hP in
theorem tab_mono {n u:Nat}:∀ {t t':Nat},t≤t'→tab P n t u≤tab P n t' u
 | t,0,h=>by cases Nat.le_zero.1 h; exact Nat.le_refl _
 | t,t'+1,h=>by
  by_cases e:t=t'+1
  ·subst e; exact Nat.le_refl _
  ·have:=tab_mono (n:=n) (u:=u) (t:=t) (t':=t') (by omega); rw [tab]; omega
omit hP in
theorem addT_sum {t v N:Nat} {H:Nat→Nat}:∀ i,(∀ j,j<i→P t j=true→t ||| 2 ^ j<N)→sumS (fun s=>addT P t s v i * H s) N=v * nxt P t H i
 | 0,_=>by simp only [addT,nxt]; exact sumS_zero (fun s _=>by simp)
 | i+1,h=>by
  rw [sumS_congr (g:=fun s=>addT P t s v i * H s+(if P t i&&decide (s=t ||| 2 ^ i) then v else 0) * H s) (fun s _=>by rw [addT,Nat.add_mul]),sumS_add,addT_sum i (fun j hj hp=>h j (by omega) hp),nxt,Nat.mul_add]
  congr 1
  cases hp:P t i with
  | false=>rw [sumS_zero (fun s _=>by simp)]; simp
  | true=>
   rw [sumS_one (j:=t ||| 2 ^ i) (h i (by omega) hp) (fun s _ hne=>by simp [hne])]
   simp
theorem flow {n:Nat} {H g:Nat→Nat} (hH:∀ s,s<2 ^ n→H s=g s+nxt P s H n):∀ t,t≤2 ^ n→sumS (fun s=>if s<t then tab P n s s * g s else tab P n t s * H s) (2 ^ n)=H 0
 | 0,_=>by
  rw [sumS_one (j:=0) (Nat.two_pow_pos n) (fun s _ hne=>by simp [tab,hne])]
  simp [tab]
 | t+1,ht=>by
  have ih:=flow hH t (by omega)
  have e:∀ s,s<2 ^ n→(if s<t+1 then tab P n s s * g s else tab P n (t+1) s * H s)+(if s=t then tab P n t t * nxt P t H n else 0)=(if s<t then tab P n s s * g s else tab P n t s * H s)+addT P t s (tab P n t t) n * H s:=by
   intro s hs
   by_cases h1:s<t
   ·rw [if_pos (by omega),if_neg (by omega),if_pos h1,addT_le hP (by omega)]; simp
   ·by_cases h2:s=t
    ·subst h2
     rw [if_pos (by omega),if_pos rfl,if_neg h1,addT_le hP (Nat.le_refl _),hH s hs,Nat.mul_add]; omega
    ·rw [if_neg (by omega),if_neg h2,if_neg h1,tab,Nat.add_mul]
     rfl
  have e2:=sumS_congr e
  rw [sumS_add,sumS_add,ih,addT_sum n (fun j hj _=>or_lt (by omega) hj),sumS_one (j:=t) (f:=fun s=>if s=t then tab P n t t * nxt P t H n else 0) (by omega) (fun s _ hne=>by simp [hne])] at e2
  simp only [if_true] at e2
  omega
theorem flow_all {n:Nat} {H g:Nat→Nat} (hH:∀ s,s<2 ^ n→H s=g s+nxt P s H n):sumS (fun s=>tab P n s s * g s) (2 ^ n)=H 0:=by
 rw [← flow hP hH (2 ^ n) (Nat.le_refl _)]
 exact sumS_congr (fun s hs=>by rw [if_pos hs])
end
section
variable {L:List D} {n:Nat}
abbrev Rn (L:List D) (n:Nat):Nat→Nat→Bool:=fun s i=>rdy L n s i
theorem rn_not (L:List D) (n:Nat):∀ s i,Rn L n s i=true→s.testBit i=false:=fun _ _ h=>rdy_not h
theorem nxt_sum (P:Nat→Nat→Bool) (s:Nat) (H:Nat→Nat):∀ m,nxt P s H m=((List.range m).map (fun i=>if P s i then H (s ||| 2 ^ i) else 0)).sum
 | 0=>rfl
 | m+1=>by rw [nxt,nxt_sum P s H m,List.range_succ,List.map_append,List.sum_append]; simp
theorem cnt_nxt {s:Nat} (h:zer n s≠0):cnt L n s=nxt (Rn L n) s (cnt L n) n:=by rw [cnt_step h,nxt_sum]
theorem nxt_full {s:Nat} (h:zer n s=0) (H:Nat→Nat):nxt (Rn L n) s H n=0:=
 nxt_zero (fun i hi hp=>by have:=rdy_not hp; rw [zer_full h i hi] at this; cases this)
theorem zer_has {s a:Nat} (ha:a<n) (h:s.testBit a=false):zer n s≠0:=fun e=>by rw [zer_full e a ha] at h; cases h
theorem cnt_full {s:Nat} (h:zer n s=0):cnt L n s=1:=by unfold cnt; rw [h]; rfl
theorem cnt_flow (t s:Nat) (ht:t≤s) (hs:s<2 ^ n):tab (Rn L n) n t s * cnt L n s≤cnt L n 0:=by
 have h:=flow (rn_not L n) (n:=n) (H:=cnt L n) (g:=fun s=>if zer n s=0 then 1 else 0) (fun s _=>by
  by_cases e:zer n s=0
  ·rw [if_pos e,nxt_full e,cnt_full e]
  ·rw [if_neg e,cnt_nxt e]; omega) t (by omega)
 have h1:=sumS_mem (f:=fun s=>if s<t then tab (Rn L n) n s s * (if zer n s=0 then 1 else 0) else tab (Rn L n) n t s * cnt L n s) hs
 simp only [if_neg (show ¬ s<t by omega)] at h1
 omega
def gq (L:List D) (n:Nat) (Q:Nat→Bool) (a s:Nat):Nat:=if Q s&&rdy L n s a then cnt L n (s ||| 2 ^ a) else 0
def hq (L:List D) (n:Nat) (Q:Nat→Bool) (a:Nat):Nat→Nat→Nat
 | 0,_=>0
 | m+1,s=>gq L n Q a s+nxt (Rn L n) s (hq L n Q a m) n
def hqz (L:List D) (n:Nat) (Q:Nat→Bool) (a s:Nat):Nat:=hq L n Q a (zer n s) s
def ways (L:List D) (n:Nat) (Q:Nat→Bool) (a m:Nat):Nat:=sumS (fun s=>if Q s&&rdy L n s a then tab (Rn L n) n s s * cnt L n (s ||| 2 ^ a) else 0) m
theorem hqz_step {Q:Nat→Bool} {a s:Nat} (ha:a<n):hqz L n Q a s=gq L n Q a s+nxt (Rn L n) s (hqz L n Q a) n:=by
 by_cases e:zer n s=0
 ·rw [nxt_full e]
  have:gq L n Q a s=0:=by
   unfold gq
   cases hr:rdy L n s a with
   | false=>simp
   | true=>have:=rdy_not hr; rw [zer_full e a ha] at this; cases this
  rw [this,hqz,e,hq]
 ·obtain ⟨m,hm⟩:∃ m,zer n s=m+1:=⟨zer n s - 1,by omega⟩
  rw [hqz,hm,hq]
  congr 1
  refine nxt_congr (fun i hi hp=>?_)
  have:=zer_or hi (rdy_not hp)
  rw [hqz,show zer n (s ||| 2 ^ i)=m by omega]
theorem ways_all {Q:Nat→Bool} {a:Nat} (ha:a<n):ways L n Q a (2 ^ n)=hqz L n Q a 0:=by
 have h:=flow_all (rn_not L n) (n:=n) (H:=hqz L n Q a) (g:=gq L n Q a) (fun s _=>hqz_step ha)
 rw [← h]
 refine sumS_congr (fun s _=>?_)
 unfold gq
 split <;> simp
theorem hq_true {a:Nat} (ha:a<n):∀ m s,zer n s=m→hqz L n (fun _=>true) a s=if s.testBit a then 0 else cnt L n s:=by
 intro m
 induction m with
 | zero=>
  intro s hz
  rw [hqz,hz,hq,if_pos (zer_full hz a ha)]
 | succ m ih=>
  intro s hz
  rw [hqz_step ha]
  have ih':∀ i,i<n→Rn L n s i=true→hqz L n (fun _=>true) a (s ||| 2 ^ i)=if (s.testBit a||decide (i=a)) then 0 else cnt L n (s ||| 2 ^ i):=by
   intro i hi hp
   have:=zer_or hi (rdy_not hp)
   rw [ih _ (by omega),test_or]
  cases hs:s.testBit a with
  | true=>
   rw [nxt_zero (fun i hi hp=>by rw [ih' i hi hp,hs]; rfl)]
   have:rdy L n s a=false:=by
    cases h:rdy L n s a with
    | false=>rfl
    | true=>have:=rdy_not h; rw [hs] at this; cases this
   simp [gq,this]
  | false=>
   rw [cnt_nxt (by omega)]
   have key:∀ k,k≤n→nxt (Rn L n) s (cnt L n) k=(if a<k∧rdy L n s a=true then cnt L n (s ||| 2 ^ a) else 0)+nxt (Rn L n) s (hqz L n (fun _=>true) a) k:=by
    intro k
    induction k with
    | zero=>intro _; simp [nxt]
    | succ k ihk=>
     intro hk
     rw [nxt,nxt,ihk (by omega)]
     by_cases hp:rdy L n s k=true
     ·have e:=ih' k (by omega) hp
      rw [hs,Bool.false_or] at e
      rw [if_pos hp,if_pos hp,e]
      by_cases hka:k=a
      ·subst hka; simp [hp,Nat.add_comm]
      ·have h1:(a<k+1∧rdy L n s a=true)↔(a<k∧rdy L n s a=true):=by
        constructor
        ·rintro ⟨x,y⟩; exact ⟨by omega,y⟩
        ·rintro ⟨x,y⟩; exact ⟨by omega,y⟩
       simp only [h1,hka,decide_false,Bool.false_eq_true,if_false]; omega
     ·rw [if_neg hp,if_neg hp]
      have h1:(a<k+1∧rdy L n s a=true)↔(a<k∧rdy L n s a=true):=by
       constructor
       ·rintro ⟨x,y⟩
        have:a≠k:=fun e=>hp (e ▸ y)
        exact ⟨by omega,y⟩
       ·rintro ⟨x,y⟩; exact ⟨by omega,y⟩
      simp only [h1]
      omega
   rw [key n (Nat.le_refl _)]
   simp [gq,ha]
theorem hq_two {a b:Nat} (ha:a<n) (hb:b<n) (hab:a≠b):∀ m s,zer n s=m→hqz L n (fun s=>!s.testBit b) a s+hqz L n (fun s=>!s.testBit a) b s=if s.testBit a||s.testBit b then 0 else cnt L n s:=by
 intro m
 induction m with
 | zero=>
  intro s hz
  rw [hqz,hqz,hz,hq,hq,zer_full hz a ha]; rfl
 | succ m ih=>
  intro s hz
  rw [hqz_step ha,hqz_step hb]
  have ih':∀ i,i<n→Rn L n s i=true→hqz L n (fun s=>!s.testBit b) a (s ||| 2 ^ i)+hqz L n (fun s=>!s.testBit a) b (s ||| 2 ^ i)=if (s.testBit a||decide (i=a))||(s.testBit b||decide (i=b)) then 0 else cnt L n (s ||| 2 ^ i):=by
   intro i hi hp
   have:=zer_or hi (rdy_not hp)
   rw [ih _ (by omega),test_or,test_or]
  have hno:∀ x,s.testBit x=true→rdy L n s x=false:=by
   intro x hx
   cases h:rdy L n s x with
   | false=>rfl
   | true=>have:=rdy_not h; rw [hx] at this; cases this
  have hsum:=nxt_add (Rn L n) s (hqz L n (fun s=>!s.testBit b) a) (hqz L n (fun s=>!s.testBit a) b) n
  by_cases hs:(s.testBit a||s.testBit b)=true
  ·rw [if_pos hs]
   rw [nxt_zero (fun i hi hp=>by
    rw [ih' i hi hp,if_pos]
    rw [Bool.or_eq_true] at hs
    rcases hs with h | h <;> simp [h])] at hsum
   have z1:gq L n (fun s=>!s.testBit b) a s=0:=by
    unfold gq
    cases h:s.testBit b with
    | true=>simp [h]
    | false=>rw [h,Bool.or_false] at hs; simp [hno a hs]
   have z2:gq L n (fun s=>!s.testBit a) b s=0:=by
    unfold gq
    cases h:s.testBit a with
    | true=>simp [h]
    | false=>rw [h,Bool.false_or] at hs; simp [hno b hs]
   omega
  ·rw [if_neg hs,cnt_nxt (by omega)]
   have hs':s.testBit a=false∧s.testBit b=false:=by
    rw [Bool.or_eq_true] at hs
    constructor
    ·cases h:s.testBit a with
     | false=>rfl
     | true=>exact absurd (.inl h) hs
    ·cases h:s.testBit b with
     | false=>rfl
     | true=>exact absurd (.inr h) hs
   have key:∀ k,k≤n→nxt (Rn L n) s (cnt L n) k=(if a<k∧rdy L n s a=true then cnt L n (s ||| 2 ^ a) else 0)+(if b<k∧rdy L n s b=true then cnt L n (s ||| 2 ^ b) else 0)+nxt (Rn L n) s (fun u=>hqz L n (fun s=>!s.testBit b) a u+hqz L n (fun s=>!s.testBit a) b u) k:=by
    intro k
    induction k with
    | zero=>intro _; simp [nxt]
    | succ k ihk=>
     intro hk
     have h1:∀ x,k≠x→((x<k+1∧rdy L n s x=true)↔(x<k∧rdy L n s x=true)):=by
      intro x hx
      constructor
      ·rintro ⟨p,q⟩; exact ⟨by omega,q⟩
      ·rintro ⟨p,q⟩; exact ⟨by omega,q⟩
     rw [nxt,nxt,ihk (by omega)]
     by_cases hp:rdy L n s k=true
     ·have e:=ih' k (by omega) hp
      rw [hs'.1,hs'.2,Bool.false_or,Bool.false_or] at e
      rw [if_pos hp,if_pos hp,e]
      by_cases hka:k=a
      ·subst hka
       simp only [h1 b hab,hp,Nat.lt_irrefl,false_and,if_false,Nat.lt_succ_self,true_and,if_true,decide_true,Bool.true_or]; omega
      ·by_cases hkb:k=b
       ·subst hkb
        simp only [h1 a hka,hp,Nat.lt_irrefl,false_and,if_false,Nat.lt_succ_self,true_and,if_true,decide_true,Bool.or_true]; omega
       ·simp only [h1 a hka,h1 b hkb,hka,hkb,decide_false,Bool.or_self,Bool.false_eq_true,if_false]; omega
     ·rw [if_neg hp,if_neg hp]
      have h2:∀ x,((x<k+1∧rdy L n s x=true)↔(x<k∧rdy L n s x=true)):=by
       intro x
       constructor
       ·rintro ⟨p,q⟩
        have:x≠k:=fun e=>hp (e ▸ q)
        exact ⟨by omega,q⟩
       ·rintro ⟨p,q⟩; exact ⟨by omega,q⟩
      simp only [h2]
      omega
   rw [key n (Nat.le_refl _),hsum]
   simp only [gq,ha,hb,hs'.1,hs'.2,Bool.not_false,Bool.true_and,true_and]
   omega
theorem one_first {a b:Nat} (ha:a<n) (hb:b<n) (hab:a≠b):ways L n (fun s=>!s.testBit b) a (2 ^ n)+ways L n (fun s=>!s.testBit a) b (2 ^ n)=cnt L n 0:=by
 rw [ways_all ha,ways_all hb,hq_two ha hb hab _ 0 rfl]; simp
theorem once {a:Nat} (ha:a<n):ways L n (fun _=>true) a (2 ^ n)=cnt L n 0:=by
 rw [ways_all ha,hq_true ha _ 0 rfl]; simp
end
section
variable {L:List D} {n:Nat}
def plc (L:List D) (n a p m:Nat):Nat:=ways L n (fun s=>decide (n - zer n s=p)) a m
theorem addT_pos {P:Nat→Nat→Bool} {t u v:Nat}:∀ {i:Nat},0<addT P t u v i→∃ j,j<i∧P t j=true∧u=t ||| 2 ^ j∧0<v
 | 0,h=>by simp [addT] at h
 | i+1,h=>by
  rw [addT] at h
  by_cases e:0<addT P t u v i
  ·obtain ⟨j,h1,h2⟩:=addT_pos e
   exact ⟨j,by omega,h2⟩
  ·have e0:addT P t u v i=0:=by omega
   rw [e0,Nat.zero_add] at h
   split at h
   ·rename_i hc
    rw [Bool.and_eq_true,decide_eq_true_eq] at hc
    exact ⟨i,by omega,hc.1,hc.2,h⟩
   ·omega
theorem addT_ge {P:Nat→Nat→Bool} {t v j:Nat} (hp:P t j=true):∀ {i:Nat},j<i→v≤addT P t (t ||| 2 ^ j) v i
 | 0,h=>by omega
 | i+1,h=>by
  rw [addT]
  by_cases e:j=i
  ·subst e; rw [if_pos (by simp [hp])]; omega
  ·have:=addT_ge (v:=v) hp (i:=i) (by omega); omega
theorem tab_next {s j:Nat} (h:0<tab (Rn L n) n s s) (hr:rdy L n s j=true) (hj:j<n):0<tab (Rn L n) n (s ||| 2 ^ j) (s ||| 2 ^ j):=by
 have hg:=or_gt (rdy_not hr)
 have h1:=tab_mono (P:=Rn L n) (n:=n) (u:=s ||| 2 ^ j) (show s+1≤s ||| 2 ^ j by omega)
 have h2:tab (Rn L n) n (s+1) (s ||| 2 ^ j)=tab (Rn L n) n s (s ||| 2 ^ j)+addT (Rn L n) s (s ||| 2 ^ j) (tab (Rn L n) n s s) n:=rfl
 have h3:=addT_ge (P:=Rn L n) (t:=s) (v:=tab (Rn L n) n s s) (j:=j) hr hj
 omega
def Dwn (L:List D) (n s:Nat):Prop:=∀ j k,j<n→s.testBit j=true→k<n→at2 L k j=true→s.testBit k=true
theorem dwn_tab:∀ t s,0<tab (Rn L n) n t s→Dwn L n s
 | 0,s,h=>by
  rw [tab] at h
  split at h
  ·rename_i e; subst e; intro j k _ hj; simp at hj
  ·omega
 | t+1,s,h=>by
  rw [tab] at h
  by_cases e:0<tab (Rn L n) n t s
  ·exact dwn_tab t s e
  ·obtain ⟨i,h1,h2,h3,h4⟩:=addT_pos (show 0<addT (Rn L n) t s (tab (Rn L n) n t t) n by omega)
   have ih:=dwn_tab t t h4
   subst h3
   intro j k hj hs hk hkj
   rw [test_or,Bool.or_eq_true] at hs ⊢
   rcases hs with hs | hs
   ·exact .inl (ih j k hj hs hk hkj)
   ·have hs:=of_decide_eq_true hs
    subst hs
    have hr:rdy L n t i=true:=h2
    unfold rdy at hr
    rw [Bool.and_eq_true,allN_iff] at hr
    have:=hr.2 k hk
    rw [hkj] at this
    exact .inl (by simpa using this)
variable (hL:Sq n L) (tr:∀ a b c,at2 L a b=true→at2 L b c=true→at2 L a c=true) (ir:∀ a,at2 L a a=false)
theorem ways_pos {Q:Nat→Bool} {a:Nat} (hc:∀ s,0<cnt L n s):0<ways L n Q a (2 ^ n)↔∃ s,s<2 ^ n∧Q s=true∧rdy L n s a=true∧0<tab (Rn L n) n s s:=by
 constructor
 ·intro h
  obtain ⟨s,h1,h2⟩:=sumS_pos h
  split at h2
  ·rename_i hq
   rw [Bool.and_eq_true] at hq
   exact ⟨s,h1,hq.1,hq.2,Nat.pos_of_mul_pos_right h2⟩
  ·omega
 ·rintro ⟨s,h1,h2,h3,h4⟩
  refine Nat.lt_of_lt_of_le ?_ (sumS_mem (f:=fun s=>if Q s&&rdy L n s a then tab (Rn L n) n s s * cnt L n (s ||| 2 ^ a) else 0) h1)
  simp only [h2,h3,Bool.and_self,if_true]
  exact Nat.mul_pos h4 (hc _)
def aft (L:List D) (a k:Nat):Bool:=decide (k=a)||at2 L a k
def topP (L:List D) (n a:Nat):Nat:=n - ((List.range n).filter (fun k=>aft L a k)).length
theorem zer_cnt (s:Nat):zer n s=(List.range n).countP (fun k=>!s.testBit k):=by rw [zer,List.countP_eq_length_filter]
theorem countP_ex {p q:Nat→Bool}:∀ {l:List Nat},l.countP q<l.countP p→∃ x,x∈l∧p x=true∧q x=false
 | [],h=>by simp at h
 | a::l,h=>by
  by_cases hc:p a=true∧q a=false
  ·exact ⟨a,by simp,hc⟩
  ·have:l.countP q<l.countP p:=by
    rw [List.countP_cons,List.countP_cons] at h
    cases hp:p a <;> cases hq:q a <;> simp [hp,hq] at h hc ⊢ <;> omega
   obtain ⟨x,h1,h2⟩:=countP_ex this
   exact ⟨x,by simp [h1],h2⟩
theorem plc_top {a p:Nat} (ha:a<n) (hc:∀ s,0<cnt L n s) (h:0<plc L n a p (2 ^ n)):p≤topP L n a:=by
 obtain ⟨s,h1,h2,h3,h4⟩:=(ways_pos hc).1 h
 have h2:=of_decide_eq_true h2
 have hd:=dwn_tab s s h4
 have ha0:=rdy_not h3
 have hle:(List.range n).countP (fun k=>aft L a k)≤(List.range n).countP (fun k=>!s.testBit k):=by
  refine List.countP_mono_left (fun k hk hx=>?_)
  rw [List.mem_range] at hk
  unfold aft at hx
  rw [Bool.or_eq_true] at hx
  rcases hx with e | e
  ·rw [of_decide_eq_true e,ha0]; rfl
  ·cases hs:s.testBit k with
   | false=>rfl
   | true=>have:=hd k a hk hs ha e; rw [ha0] at this; cases this
 unfold topP
 rw [← List.countP_eq_length_filter]
 rw [← zer_cnt] at hle
 omega
include hL tr ir in
theorem plc_up {a p:Nat} (ha:a<n) (hc:∀ s,0<cnt L n s) (hv:∃ v:Nat,∀ k,v.testBit k=(decide (k<n)&&at2 L a k)) (h:0<plc L n a p (2 ^ n)) (hp:p<topP L n a):0<plc L n a (p+1) (2 ^ n):=by
 obtain ⟨s,h1,h2,h3,h4⟩:=(ways_pos hc).1 h
 have h2:=of_decide_eq_true h2
 obtain ⟨v,hv⟩:=hv
 have hz:=zer_le n s
 unfold topP at hp
 rw [← List.countP_eq_length_filter] at hp
 have hlt:(List.range n).countP (fun k=>aft L a k)<(List.range n).countP (fun k=>!s.testBit k):=by rw [← zer_cnt]; omega
 obtain ⟨x,hx1,hx2,hx3⟩:=countP_ex hlt
 rw [List.mem_range] at hx1
 have bit:∀ k,k<n→(s ||| v ||| 2 ^ a).testBit k=(s.testBit k||aft L a k):=by
  intro k hk
  rw [test_or,Nat.testBit_or,hv]
  unfold aft
  have:decide (a=k)=decide (k=a):=by rw [Bool.eq_iff_iff,decide_eq_true_eq,decide_eq_true_eq]; omega
  rw [this]
  simp only [hk,decide_true,Bool.true_and]
  cases s.testBit k <;> cases at2 L a k <;> simp
 have hz':zer n (s ||| v ||| 2 ^ a)≠0:=zer_has hx1 (by rw [bit x hx1,hx3,Bool.or_false]; simpa using hx2)
 obtain ⟨j,hj,hr⟩:=some_rdy hL tr ir hz'
 have hj0:=rdy_not hr
 rw [bit j hj,Bool.or_eq_false_iff] at hj0
 have hja:j≠a:=by
  intro e
  have:=hj0.2
  unfold aft at this
  simp [e] at this
 have hrs:rdy L n s j=true:=by
  unfold rdy at hr ⊢
  rw [Bool.and_eq_true,allN_iff] at hr ⊢
  refine ⟨by rw [hj0.1]; rfl,fun k hk=>?_⟩
  have:=hr.2 k hk
  rw [bit k hk] at this
  cases hkj:at2 L k j with
  | false=>rfl
  | true=>
   rw [hkj] at this
   simp only [Bool.not_true,Bool.false_or,Bool.or_eq_true] at this ⊢
   rcases this with e | e
   ·exact e
   ·exfalso
    have hn:=hj0.2
    unfold aft at e hn
    rw [Bool.or_eq_true] at e
    rw [Bool.or_eq_false_iff] at hn
    rcases e with e | e
    ·rw [of_decide_eq_true e] at hkj; rw [hkj] at hn; cases hn.2
    ·have:=tr a k j e hkj; rw [this] at hn; cases hn.2
 refine (ways_pos hc).2 ⟨s ||| 2 ^ j,or_lt h1 hj,?_,?_,tab_next h4 hrs hj⟩
 ·have:=zer_or hj hj0.1
  rw [decide_eq_true_eq]; omega
 ·unfold rdy at h3 ⊢
  rw [Bool.and_eq_true,allN_iff] at h3 ⊢
  refine ⟨?_,fun k hk=>?_⟩
  ·rw [test_or]
   have:=h3.1
   simp only [Bool.not_eq_true'] at this ⊢
   rw [this]; simp [hja]
  ·have:=h3.2 k hk
   rw [Bool.or_eq_true] at this ⊢
   rcases this with e | e
   ·exact .inl e
   ·exact .inr (by rw [test_or,e]; rfl)
def flN (f:Nat→Nat):Nat→Int×Int
 | 0=>(-1,0)
 | m+1=>if f m=0 then flN f m else (if (flN f m).1<0 then (m:Int) else (flN f m).1,(m:Int))
theorem flN_ok (f:Nat→Nat):∀ m,(flN f m=(-1,0)∧∀ i,i<m→f i=0)∨∃ a b:Nat,flN f m=((a:Int),(b:Int))∧a≤b∧b<m∧0<f a∧0<f b∧∀ i,i<m→(i<a∨b<i)→f i=0
 | 0=>.inl ⟨rfl,fun i h=>by omega⟩
 | m+1=>by
  rw [flN]
  by_cases h0:f m=0
  ·rw [if_pos h0]
   rcases flN_ok f m with ⟨h1,h2⟩ | ⟨a,b,h1,h2,h3,h4,h5,h6⟩
   ·exact .inl ⟨h1,fun i hi=>by
     by_cases e:i=m
     ·rw [e]; exact h0
     ·exact h2 i (by omega)⟩
   ·exact .inr ⟨a,b,h1,h2,by omega,h4,h5,fun i hi hab=>by
     by_cases e:i=m
     ·rw [e]; exact h0
     ·exact h6 i (by omega) hab⟩
  ·rw [if_neg h0]
   rcases flN_ok f m with ⟨h1,h2⟩ | ⟨a,b,h1,h2,h3,h4,h5,h6⟩
   ·refine .inr ⟨m,m,?_,by omega,by omega,by omega,by omega,fun i hi hab=>h2 i (by omega)⟩
    rw [h1]; rfl
   ·refine .inr ⟨a,m,?_,by omega,by omega,h4,by omega,fun i hi hab=>h6 i (by omega) (by omega)⟩
    rw [h1]
    have:¬ ((a:Int)<0):=by omega
    simp only [this,if_false]
theorem flN_iff {f:Nat→Nat} {n M:Nat} (hex:∃ i,i<n∧0<f i) (htop:∀ i,0<f i→i≤M) (hup:∀ i,0<f i→i<M→0<f (i+1)):∃ a b:Nat,flN f n=((a:Int),(b:Int))∧b<n∧∀ i,i<n→(0<f i↔a≤i∧i≤b):=by
 rcases flN_ok f n with ⟨h1,h2⟩ | ⟨a,b,h1,h2,h3,h4,h5,h6⟩
 ·obtain ⟨i,hi,hp⟩:=hex
  have:=h2 i hi; omega
 ·refine ⟨a,b,h1,h3,fun i hi=>⟨fun hp=>?_,fun hab=>?_⟩⟩
  ·by_cases h:i<a∨b<i
   ·have:=h6 i hi h; omega
   ·omega
  ·have hM:=htop b h5
   have key:∀ d,a+d≤b→0<f (a+d):=by
    intro d
    induction d with
    | zero=>intro _; exact h4
    | succ d ih=>intro hd; exact hup (a+d) (ih (by omega)) (by omega)
   have:=key (i - a) (by omega)
   rwa [show a+(i - a)=i by omega] at this
end
theorem addT_mono {P:Nat→Nat→Bool} {t u v:Nat}:∀ {i j:Nat},i≤j→addT P t u v i≤addT P t u v j
 | i,0,h=>by cases Nat.le_zero.1 h; exact Nat.le_refl _
 | i,j+1,h=>by
  by_cases e:i=j+1
  ·subst e; exact Nat.le_refl _
  ·have:=addT_mono (P:=P) (t:=t) (u:=u) (v:=v) (i:=i) (j:=j) (by omega); rw [addT]; omega
def pcN (s:Nat):Nat→Nat
 | 0=>0
 | k+1=>pcN s k+if s.testBit k then 1 else 0
theorem pcN_zer (s:Nat):∀ n,pcN s n+zer n s=n
 | 0=>rfl
 | n+1=>by
  have:=pcN_zer s n
  have e:zer (n+1) s=zer n s+if s.testBit n then 0 else 1:=by
   unfold zer
   rw [List.range_succ,List.filter_append,List.length_append]
   congr 1
   cases h:s.testBit n <;> simp [h]
  rw [pcN,e]
  split <;> omega
theorem and_val (v k:Nat) (hv:v<1024) (hk:k<10):IntKind.i64.wrap (((BitVec.ofInt IntKind.i64.bits ((v:Int).fdiv (2 ^ Min.min ((k:Int)).toNat IntKind.i64.bits)) &&& BitVec.ofInt IntKind.i64.bits 1).toNat:Nat):Int)=if v.testBit k then 1 else 0:=by
 have h0:=and_bit0 v k hv hk
 have h1:=and_bit v k hv hk
 cases h:v.testBit k with
 | true=>rw [h,decide_eq_true_eq] at h1; exact h1
 | false=>rw [h,Bool.not_false,decide_eq_true_eq] at h0; exact h0
section
variable {C R A L B:List D} (g:Good8 C R A L B)
include g
theorem cntPos (s:Nat):0<cnt L C.length s:=cnt_pos g.sq g.trans g.irr _ s rfl
theorem tab_le {t s:Nat} (ht:t≤s) (hs:s<2 ^ C.length):tab (Rn L C.length) C.length t s≤10000000000:=by
 have h1:=cnt_flow (L:=L) t s ht hs
 have h2:=cnt_le (L:=L) (s:=0) g.hn
 have h3:=cntPos g s
 have h4:=Nat.le_mul_of_pos_right (tab (Rn L C.length) C.length t s) h3
 omega
theorem innerF_tab (t:Nat) (ht:t<2 ^ C.length):∀ (m i:Nat) (cur:List D),i+m=C.length→cur.length=2 ^ C.length →
  (∀ u,u<2 ^ C.length→nv cur u=((tab (Rn L C.length) C.length t u+addT (Rn L C.length) t u (tab (Rn L C.length) C.length t t) i:Nat):Int)) →
  ∀ u,u<2 ^ C.length→nv (innerF L C.length t m i cur) u=((tab (Rn L C.length) C.length (t+1) u:Nat):Int):=by
 intro m
 induction m with
 | zero=>
  intro i cur hi hc h u hu
  have:i=C.length:=by omega
  subst this
  exact h u hu
 | succ m ih=>
  intro i cur hi hc h u hu
  have hin:i<C.length:=by omega
  rw [innerF]
  have ht0:nv cur t=(tab (Rn L C.length) C.length t t:Int):=by rw [h t ht,addT_le (rn_not L C.length) (Nat.le_refl t)]; rfl
  have tl:=tab_le g (Nat.le_refl t) ht
  refine ih (i+1) _ (by omega) (by rw [stepF_len]; exact hc) (fun w hw=>?_) u hu
  unfold stepF
  rw [addT]
  by_cases hq:(decide (0<nv cur t)&&rdy L C.length t i)=true
  ·rw [hq,cond_true]
   rw [Bool.and_eq_true,decide_eq_true_eq] at hq
   have hg:=or_gt (rdy_not hq.2)
   have hl:=or_lt ht hin
   rw [nv_set (by omega)]
   by_cases e:t ||| 2 ^ i=w
   ·subst e
    have b1:=tab_le g (t:=t+1) (s:=t ||| 2 ^ i) (by omega) hl
    have b2:tab (Rn L C.length) C.length (t+1) (t ||| 2 ^ i)=tab (Rn L C.length) C.length t (t ||| 2 ^ i)+addT (Rn L C.length) t (t ||| 2 ^ i) (tab (Rn L C.length) C.length t t) C.length:=rfl
    have b3:=addT_mono (P:=Rn L C.length) (t:=t) (u:=t ||| 2 ^ i) (v:=tab (Rn L C.length) C.length t t) (show i≤C.length by omega)
    rw [if_pos rfl,if_pos (by simp [Rn,hq.2]),h _ hl,ht0,QF (by omega) (by omega)]
    omega
   ·have e':¬ w=t ||| 2 ^ i:=fun x=>e x.symm
    rw [if_neg e,h w hw]
    simp [e']
  ·rw [Bool.not_eq_true] at hq
   rw [hq,cond_false,h w hw]
   cases hr:rdy L C.length t i with
   | false=>simp [Rn,hr]
   | true=>
    rw [hr,Bool.and_true,decide_eq_false_iff_not,ht0] at hq
    have:tab (Rn L C.length) C.length t t=0:=by omega
    rw [this]; simp
theorem outerF_tab:∀ (m t:Nat) (cur:List D),t+m=2 ^ C.length→cur.length=2 ^ C.length→(∀ u,u<2 ^ C.length→nv cur u=(tab (Rn L C.length) C.length t u:Int)) →
  ∀ u,u<2 ^ C.length→nv (outerF L C.length m t cur) u=(tab (Rn L C.length) C.length u u:Int):=by
 intro m
 induction m with
 | zero=>
  intro t cur ht hc h u hu
  rw [outerF,h u hu,tab_keep (rn_not L C.length) (by omega)]
 | succ m ih=>
  intro t cur ht hc h u hu
  rw [outerF]
  refine ih (t+1) _ (by omega) (by rw [innerF_len]; exact hc) (fun w hw=>?_) u hu
  exact innerF_tab g t (by omega) C.length 0 cur (by omega) hc (fun x hx=>by rw [h x hx,addT]; rfl) w hw
omit g in
theorem zeros_nv (n:Nat) (u:Nat) (hu:u<2 ^ n):nv ((List.replicate (2 ^ n) (.int 0)).set 0 (.int 1)) u=((if u=0 then 1 else 0:Nat):Int):=by
 have h2:=Nat.two_pow_pos n
 rw [nv_set (by rw [List.length_replicate]; exact h2)]
 by_cases e:u=0
 ·subst e; rfl
 ·rw [if_neg (fun x=>e x.symm),if_neg e]
  unfold nv
  rw [List.getD_eq_getElem?_getD,List.getElem?_replicate]
  split <;> rfl
theorem firstF_tab (u:Nat) (hu:u<2 ^ C.length):nv (firstF L C.length) u=(tab (Rn L C.length) C.length u u:Int):=
 outerF_tab g (2 ^ C.length) 0 _ (by omega) (by simp) (fun w hw=>zeros_nv _ w hw) u hu
omit g in
theorem firstF_len {n:Nat}:(firstF L n).length=2 ^ n:=by unfold firstF; rw [outerF_len]; simp
theorem ways_le {Q:Nat→Bool} {a m:Nat} (ha:a<C.length) (hm:m≤2 ^ C.length):ways L C.length Q a m≤10000000000:=by
 have h1:ways L C.length Q a m≤ways L C.length Q a (2 ^ C.length):=sumS_le hm
 have h2:ways L C.length Q a (2 ^ C.length)≤ways L C.length (fun _=>true) a (2 ^ C.length):=sumS_mono (fun s _=>by
  cases Q s <;> simp)
 rw [once ha] at h2
 have:=cnt_le (L:=L) (s:=0) g.hn
 omega
theorem term_le {a s:Nat} (ha:a<C.length) (hs:s<2 ^ C.length) (hr:rdy L C.length s a=true):tab (Rn L C.length) C.length s s * cnt L C.length (s ||| 2 ^ a)≤10000000000:=by
 have h2:=ways_le g (Q:=fun _=>true) ha (Nat.le_refl (2 ^ C.length))
 have h1:=sumS_mem (f:=fun s=>if (fun _=>true) s&&rdy L C.length s a then tab (Rn L C.length) C.length s s * cnt L C.length (s ||| 2 ^ a) else 0) hs
 simp only [hr,Bool.and_self,if_true] at h1
 exact Nat.le_trans h1 h2
theorem prod_eq {a s:Nat} (ha:a<C.length) (hs:s<2 ^ C.length) (hr:rdy L C.length s a=true):IntKind.i64.wrap (nv (firstF L C.length) s * nv (countsC L C.length) (s ||| 2 ^ a))=((tab (Rn L C.length) C.length s s * cnt L C.length (s ||| 2 ^ a):Nat):Int):=by
 have h:=term_le g ha hs hr
 rw [firstF_tab g s hs,countsC_eq g.hn _ (or_lt hs ha),← Int.natCast_mul,QF (by omega) (by omega)]
theorem cbL7 {i k:Nat} (hi:i<C.length) (hk:k<C.length):∀ (m s:Nat),s+m=2 ^ C.length →
  Z100 i k (ways L C.length (fun s=>!s.testBit k) i s:Nat) ((2 ^ C.length:Nat):Int) s (nums C) A L (firstF L C.length) (countsC L C.length)=some ((ways L C.length (fun s=>!s.testBit k) i (2 ^ C.length):Nat):Int):=by
 have hn:=g.hn
 have hp:=pow_le hn
 have hnm:(nums C).length=C.length:=by simp [nums]
 intro m
 induction m with
 | zero=>
  intro s hs
  have:s=2 ^ C.length:=by omega
  subst this
  rw [Z100_fx]; unfold c_Z100; simp
 | succ m ih=>
  intro s hs
  have hs':s<2 ^ C.length:=by omega
  rw [Z100_fx]
  unfold c_Z100
  have h1:(s:Int)<((2 ^ C.length:Nat):Int):=by omega
  obtain ⟨s1,s2⟩:=shl_bit i (by omega)
  have s1':IntKind.i64.wrap (1 * 2 ^ Min.min i IntKind.i64.bits)=((2 ^ i:Nat):Int):=by simpa using s1
  have ab:=and_bit0 s k (by omega) (by omega)
  rw [Int.toNat_natCast] at ab
  obtain ⟨o1,o2⟩:=or_bits s (2 ^ i) (by omega) s2
  have hol:=or_lt hs' hi
  have g1:(s:Int)<((firstF L C.length).length:Int):=by rw [firstF_len]; exact h1
  have g2:s+1≤(firstF L C.length).length:=by rw [firstF_len]; omega
  have g3:((s ||| 2 ^ i:Nat):Int)<((countsC L C.length).length:Int):=by rw [countsC_len]; omega
  have g4:(s ||| 2 ^ i)+1≤(countsC L C.length).length:=by rw [countsC_len]; omega
  have z1:((firstF L C.length).getD s (.int 0)).toInt=nv (firstF L C.length) s:=rfl
  have z2:((countsC L C.length).getD (s ||| 2 ^ i) (.int 0)).toInt=nv (countsC L C.length) (s ||| 2 ^ i):=rfl
  have w0:ways L C.length (fun s=>!s.testBit k) i (s+1)=ways L C.length (fun s=>!s.testBit k) i s+if (!s.testBit k)&&rdy L C.length s i then tab (Rn L C.length) C.length s s * cnt L C.length (s ||| 2 ^ i) else 0:=rfl
  have wl:=ways_le g (Q:=fun s=>!s.testBit k) hi (m:=s+1) (by omega)
  have ih':=ih (s+1) (by omega)
  simp only [h1,decide_true,cond_true,Int.natCast_nonneg,g1,g2,and_self,if_true,Int.toNat_natCast,ab,free_eq g.sq hn hnm s i (by omega) hi,Option.bind_some,s1',o1,g3,g4,z1,z2,Qm (show s<4611686018427387904 by omega),Option.bind_fun_some]
  cases hb:s.testBit k with
  | true=>
   rw [hb] at w0
   simp only [Bool.not_true,cond_false]
   simp only [Bool.not_true,Bool.false_and,Bool.false_eq_true,if_false,Nat.add_zero] at w0
   rw [← w0]; exact ih'
  | false=>
   rw [hb] at w0
   simp only [Bool.not_false,cond_true]
   cases hr:rdy L C.length s i with
   | false=>
    rw [hr] at w0
    simp only [Bool.not_false,Bool.and_false,Bool.false_eq_true,if_false,Nat.add_zero] at w0
    simp only [cond_false]
    rw [← w0]; exact ih'
   | true=>
    rw [hr] at w0
    simp only [Bool.not_false,Bool.and_self,if_true] at w0
    simp only [cond_true,prod_eq g hi hs' hr]
    have e:IntKind.i64.wrap (((ways L C.length (fun s=>!s.testBit k) i s:Nat):Int)+((tab (Rn L C.length) C.length s s * cnt L C.length (s ||| 2 ^ i):Nat):Int))=((ways L C.length (fun s=>!s.testBit k) i (s+1):Nat):Int):=by
     rw [QF (by omega) (by omega)]; omega
    rw [e]; exact ih'
def outP (L:List D) (n a t:Nat):List D:=(List.range n).map (fun p=>D.int ((plc L n a p t:Nat):Int))
omit g in
theorem outP_len {n a t:Nat}:(outP L n a t).length=n:=by simp [outP]
omit g in
theorem outP_at {n a t p:Nat} (hp:p<n):((outP L n a t).getD p (.int 0)).toInt=((plc L n a p t:Nat):Int):=by
 unfold outP
 rw [List.getD_eq_getElem?_getD,List.getElem?_map,List.getElem?_range hp]; rfl
omit g in
theorem plc_succ {n a p s:Nat}:plc L n a p (s+1)=plc L n a p s+if decide (n - zer n s=p)&&rdy L n s a then tab (Rn L n) n s s * cnt L n (s ||| 2 ^ a) else 0:=rfl
omit g in
theorem outP_same {n a s:Nat} (h:rdy L n s a=false∨tab (Rn L n) n s s=0):outP L n a (s+1)=outP L n a s:=by
 unfold outP
 refine List.map_congr_left (fun p _=>?_)
 rw [plc_succ]
 rcases h with h | h <;> simp [h]
omit g in
theorem outP_step {n a s:Nat} (h:rdy L n s a=true):(outP L n a s).set (pcN s n) (.int ((plc L n a (pcN s n) (s+1):Nat):Int))=outP L n a (s+1):=by
 have hz:=pcN_zer s n
 apply List.ext_getElem?
 intro p
 rw [List.getElem?_set]
 unfold outP
 by_cases hp:p<n
 ·simp only [List.getElem?_map,List.getElem?_range hp,List.length_map,List.length_range,Option.map_some]
  by_cases e:pcN s n=p
  ·subst e; simp [hp]
  ·rw [if_neg e,plc_succ]
   have:¬ n - zer n s=p:=by omega
   simp [this]
 ·simp only [List.getElem?_map,List.getElem?_eq_none (show (List.range n).length≤p by rw [List.length_range]; omega),List.length_map,List.length_range,Option.map_none]
  split <;> simp <;> omega
theorem plc_le {a p m:Nat} (ha:a<C.length) (hm:m≤2 ^ C.length):plc L C.length a p m≤10000000000:=ways_le g ha hm
theorem pcL12 (x0 x2 x4 x5:Int) (s:Nat) (hs:s<2 ^ C.length) (F F' out:List D):∀ (m k:Nat),k+m=C.length →
  Z77 x0 s x2 (pcN s k:Nat) x4 x5 C.length k (nums C) A L F F' out=some (x0,(s:Int),x2,((pcN s C.length:Nat):Int),x4,x5,nums C,A,L,F,F',out):=by
 have hp:=pow_le g.hn
 have hn:=g.hn
 intro m
 induction m with
 | zero=>
  intro k hk
  have:k=C.length:=by omega
  subst this
  rw [Z77_fx]; unfold c_Z77; simp
 | succ m ih=>
  intro k hk
  rw [Z77_fx]
  unfold c_Z77
  have h1:(k:Int)<C.length:=by omega
  have av:=and_val s k (by omega) (by omega)
  rw [Int.toNat_natCast] at av
  have hz:=pcN_zer s k
  have hz2:=pcN_zer s (k+1)
  have e:IntKind.i64.wrap (((pcN s k:Nat):Int)+if s.testBit k then 1 else 0)=((pcN s (k+1):Nat):Int):=by
   rw [pcN]
   split
   ·rw [QF (by omega) (by omega)]; omega
   ·rw [QF (by omega) (by omega)]; omega
  simp only [h1,decide_true,cond_true,Int.natCast_nonneg,if_true,Int.toNat_natCast,av,e,Qm (show k<4611686018427387904 by omega),Option.bind_fun_some]
  exact ih (k+1) (by omega)
theorem pcL7 {a:Nat} (ha:a<C.length):∀ (m s:Nat),s+m=2 ^ C.length →
  Z78 a ((2 ^ C.length:Nat):Int) s (nums C) A L (firstF L C.length) (countsC L C.length) (outP L C.length a s)=some (outP L C.length a (2 ^ C.length)):=by
 have hn:=g.hn
 have hp:=pow_le hn
 have hnm:(nums C).length=C.length:=by simp [nums]
 intro m
 induction m with
 | zero=>
  intro s hs
  have:s=2 ^ C.length:=by omega
  subst this
  rw [Z78_fx]; unfold c_Z78; simp
 | succ m ih=>
  intro s hs
  have hs':s<2 ^ C.length:=by omega
  rw [Z78_fx]
  unfold c_Z78
  have h1:(s:Int)<((2 ^ C.length:Nat):Int):=by omega
  obtain ⟨s1,s2⟩:=shl_bit a (by omega)
  have s1':IntKind.i64.wrap (1 * 2 ^ Min.min a IntKind.i64.bits)=((2 ^ a:Nat):Int):=by simpa using s1
  obtain ⟨o1,o2⟩:=or_bits s (2 ^ a) (by omega) s2
  have hol:=or_lt hs' ha
  have g1:(s:Int)<((firstF L C.length).length:Int):=by rw [firstF_len]; exact h1
  have g2:s+1≤(firstF L C.length).length:=by rw [firstF_len]; omega
  have g3:((s ||| 2 ^ a:Nat):Int)<((countsC L C.length).length:Int):=by rw [countsC_len]; omega
  have g4:(s ||| 2 ^ a)+1≤(countsC L C.length).length:=by rw [countsC_len]; omega
  have z1:((firstF L C.length).getD s (.int 0)).toInt=nv (firstF L C.length) s:=rfl
  have z2:((countsC L C.length).getD (s ||| 2 ^ a) (.int 0)).toInt=nv (countsC L C.length) (s ||| 2 ^ a):=rfl
  have ih':=ih (s+1) (by omega)
  have h12:=pcL12 g a (nv (firstF L C.length) s) ((2 ^ C.length:Nat):Int) s s hs' (firstF L C.length) (countsC L C.length) (outP L C.length a s) C.length 0 (by omega)
  have h12:Z77 a s (nv (firstF L C.length) s) 0 ((2 ^ C.length:Nat):Int) s C.length 0 (nums C) A L (firstF L C.length) (countsC L C.length) (outP L C.length a s)=_:=h12
  simp only [h1,decide_true,cond_true,Int.natCast_nonneg,g1,g2,and_self,if_true,Int.toNat_natCast,free_eq g.sq hn hnm s a (by omega) ha,Option.bind_some,z1,hnm,Qm (show s<4611686018427387904 by omega),Option.bind_fun_some]
  cases hr:rdy L C.length s a with
  | false=>
   simp only [Bool.not_false,cond_true]
   rw [← outP_same (.inl hr)]; exact ih'
  | true=>
   have hz:=pcN_zer s C.length
   have hza:=zer_has ha (rdy_not hr)
   have hpl:pcN s C.length<C.length:=by omega
   have g5:((pcN s C.length:Nat):Int)<((outP L C.length a s).length:Int):=by rw [outP_len]; omega
   have g6:pcN s C.length+1≤(outP L C.length a s).length:=by rw [outP_len]; omega
   simp only [Bool.not_true,cond_false,h12,Option.bind_some,Int.natCast_nonneg,g3,g4,g5,g6,s1',o1,and_self,if_true,Int.toNat_natCast,z2,outP_at hpl,prod_eq g ha hs' hr,Qm (show s<4611686018427387904 by omega)]
   have hle:=plc_le g (a:=a) (p:=pcN s C.length) (m:=s+1) ha (by omega)
   have e0:plc L C.length a (pcN s C.length) (s+1)=plc L C.length a (pcN s C.length) s+tab (Rn L C.length) C.length s s * cnt L C.length (s ||| 2 ^ a):=by
    rw [plc_succ,hr,if_pos]
    have:C.length - zer C.length s=pcN s C.length:=by omega
    simp [this]
   have e:IntKind.i64.wrap (((plc L C.length a (pcN s C.length) s:Nat):Int)+((tab (Rn L C.length) C.length s s * cnt L C.length (s ||| 2 ^ a):Nat):Int))=((plc L C.length a (pcN s C.length) (s+1):Nat):Int):=by
    rw [QF (by omega) (by omega),e0]; omega
   rw [e,outP_step hr]; exact ih'
end
section
variable {C R A L B:List D} (g:Good8 C R A L B)
include g
theorem spL12 (at':Int) (s:Nat) (hs:s<2 ^ C.length) (x6 x7 x8:List D):∀ (m k:Nat),k+m=C.length →
  Z90 at' C.length s (pcN s k:Nat) k B x6 x7 x8=some (at',(C.length:Int),(s:Int),((pcN s C.length:Nat):Int),B,x6,x7,x8):=by
 have hp:=pow_le g.hn
 have hn:=g.hn
 intro m
 induction m with
 | zero=>
  intro k hk
  have:k=C.length:=by omega
  subst this
  rw [Z90_fx]; unfold c_Z90; simp
 | succ m ih=>
  intro k hk
  rw [Z90_fx]
  unfold c_Z90
  have h1:(k:Int)<C.length:=by omega
  have hz:=pcN_zer s k
  have e0:pcN s (k+1)=pcN s k+if s.testBit k then 1 else 0:=rfl
  simp only [h1,decide_true,cond_true,l4Bit_eq s k (by omega) (by omega),Option.bind_some,Qm (show k<4611686018427387904 by omega),Qm (show pcN s k<4611686018427387904 by omega),Option.bind_fun_some]
  have ih':=ih (k+1) (by omega)
  rw [e0] at ih'
  cases hb:s.testBit k with
  | true=>rw [hb,if_pos rfl] at ih'; exact ih'
  | false=>rw [hb,if_neg (by simp)] at ih'; exact ih'
omit g in
theorem innerF_id {n s:Nat}:∀ {m i:Nat} {cur:List D},nv cur s=0→innerF L n s m i cur=cur
 | 0,_,_,_=>rfl
 | m+1,i,cur,h=>by
  have e:stepF L n s cur i=cur:=by unfold stepF; rw [h]; rfl
  rw [innerF,e,innerF_id h]
theorem spL17 {a:Nat} (ha:a<C.length) (s:Nat) (hs:s<2 ^ C.length):∀ (m i:Nat) (cur out:List D),i+m=C.length→cur.length=2 ^ C.length→nv cur s=(tab (Rn L C.length) C.length s s:Int)→(i≤a→out=outP L C.length a s) →
  Z91 a C.length s (pcN s C.length:Nat) i B (countsC L C.length) out cur=some ((a:Int),(C.length:Int),(s:Int),B,countsC L C.length,(if i≤a∧0<tab (Rn L C.length) C.length s s∧rdy L C.length s a=true then outP L C.length a (s+1) else out),innerF L C.length s m i cur):=by
 have hp:=pow_le g.hn
 have hn:=g.hn
 intro m
 induction m with
 | zero=>
  intro i cur out hi hc ht ho
  have:i=C.length:=by omega
  subst this
  rw [Z91_fx]; unfold c_Z91
  simp [innerF]
  intro h; omega
 | succ m ih=>
  intro i cur out hi hc ht ho
  have hin:i<C.length:=by omega
  rw [Z91_fx]
  unfold c_Z91
  have h1:(i:Int)<C.length:=by omega
  have g1:(s:Int)<(cur.length:Int):=by omega
  have g2:s+1≤cur.length:=by omega
  have z1:(cur.getD s (.int 0)).toInt=nv cur s:=rfl
  by_cases hv:0<tab (Rn L C.length) C.length s s
  ·have hv':(0:Int)<((tab (Rn L C.length) C.length s s:Nat):Int):=by omega
   obtain ⟨s1,s2⟩:=shl_bit i (by omega)
   have s1':IntKind.i64.wrap (1 * 2 ^ Min.min i IntKind.i64.bits)=((2 ^ i:Nat):Int):=by simpa using s1
   obtain ⟨o1,o2⟩:=or_bits s (2 ^ i) (by omega) s2
   have hol:=or_lt hs hin
   have g3:((s ||| 2 ^ i:Nat):Int)<(cur.length:Int):=by omega
   have g4:(s ||| 2 ^ i)+1≤cur.length:=by omega
   simp only [h1,decide_true,cond_true,Int.natCast_nonneg,g1,g2,and_self,if_true,Int.toNat_natCast,z1,ht,hv',ready_eq g.bq g.hb hn s i (by omega) hin,Option.bind_some,uw (i:Int) (by omega),s1',o1,g3,g4,Qm (show i<4611686018427387904 by omega),Option.bind_fun_some]
   have st:stepF L C.length s cur i=bif rdy L C.length s i then cur.set (s ||| 2 ^ i) (.int (IntKind.i64.wrap (nv cur (s ||| 2 ^ i)+(tab (Rn L C.length) C.length s s:Nat)))) else cur:=by
    unfold stepF; rw [ht,decide_eq_true hv',Bool.true_and]
   rw [innerF,st]
   cases hr:rdy L C.length s i with
   | false=>
    simp only [Bool.not_false,cond_true,cond_false]
    rw [ih (i+1) cur out (by omega) hc ht (fun h=>ho (by omega))]
    by_cases hia:i=a
    ·subst hia; simp [hr]
    ·have:(i+1≤a)↔(i≤a):=by omega
     simp only [this]
   | true=>
    have hg:=or_gt (rdy_not hr)
    have ht':nv (cur.set (s ||| 2 ^ i) (.int (IntKind.i64.wrap (nv cur (s ||| 2 ^ i)+(tab (Rn L C.length) C.length s s:Nat))))) s=(tab (Rn L C.length) C.length s s:Int):=by
     rw [nv_set (by omega),if_neg (by omega)]; exact ht
    have z2:(cur.getD (s ||| 2 ^ i) (.int 0)).toInt=nv cur (s ||| 2 ^ i):=rfl
    simp only [Bool.not_true,cond_false,cond_true,z2]
    by_cases hia:i=a
    ·subst hia
     have hz:=pcN_zer s C.length
     have hza:=zer_has ha (rdy_not hr)
     have hpl:pcN s C.length<C.length:=by omega
     have he:=ho (Nat.le_refl _)
     subst he
     have g5:((pcN s C.length:Nat):Int)<((outP L C.length i s).length:Int):=by rw [outP_len]; omega
     have g6:pcN s C.length+1≤(outP L C.length i s).length:=by rw [outP_len]; omega
     have g7:((s ||| 2 ^ i:Nat):Int)<((countsC L C.length).length:Int):=by rw [countsC_len]; omega
     have g8:(s ||| 2 ^ i)+1≤(countsC L C.length).length:=by rw [countsC_len]; omega
     have g9:(s:Int)<((cur.set (s ||| 2 ^ i) (.int (IntKind.i64.wrap (nv cur (s ||| 2 ^ i)+(tab (Rn L C.length) C.length s s:Nat))))).length:Int):=by rw [List.length_set]; exact g1
     have g10:s+1≤(cur.set (s ||| 2 ^ i) (.int (IntKind.i64.wrap (nv cur (s ||| 2 ^ i)+(tab (Rn L C.length) C.length s s:Nat))))).length:=by rw [List.length_set]; exact g2
     have z3:((cur.set (s ||| 2 ^ i) (.int (IntKind.i64.wrap (nv cur (s ||| 2 ^ i)+(tab (Rn L C.length) C.length s s:Nat))))).getD s (.int 0)).toInt=nv (cur.set (s ||| 2 ^ i) (.int (IntKind.i64.wrap (nv cur (s ||| 2 ^ i)+(tab (Rn L C.length) C.length s s:Nat))))) s:=rfl
     have z4:((countsC L C.length).getD (s ||| 2 ^ i) (.int 0)).toInt=nv (countsC L C.length) (s ||| 2 ^ i):=rfl
     have hle:=plc_le g (a:=i) (p:=pcN s C.length) (m:=s+1) ha (by omega)
     have pe:=prod_eq g ha hs hr
     rw [firstF_tab g s hs] at pe
     have e0:plc L C.length i (pcN s C.length) (s+1)=plc L C.length i (pcN s C.length) s+tab (Rn L C.length) C.length s s * cnt L C.length (s ||| 2 ^ i):=by
      rw [plc_succ,hr,if_pos]
      have:C.length - zer C.length s=pcN s C.length:=by omega
      simp [this]
     have e:IntKind.i64.wrap (((plc L C.length i (pcN s C.length) s:Nat):Int)+((tab (Rn L C.length) C.length s s * cnt L C.length (s ||| 2 ^ i):Nat):Int))=((plc L C.length i (pcN s C.length) (s+1):Nat):Int):=by
      rw [QF (by omega) (by omega),e0]; omega
     simp only [Z0,g5,g6,g7,g8,g9,g10,and_self,if_true,decide_true,cond_true,z3,z4,ht',pe,outP_at hpl,e,outP_step hr]
     rw [ih (i+1) _ _ (by omega) (by rw [List.length_set]; exact hc) ht' (fun h=>by omega),if_neg (by omega),if_pos ⟨Nat.le_refl _,hv,hr⟩]
    ·have hia':¬ (i:Int)=(a:Int):=by omega
     simp only [hia',decide_false,cond_false]
     rw [ih (i+1) _ out (by omega) (by rw [List.length_set]; exact hc) ht' (fun h=>ho (by omega))]
     have:(i+1≤a)↔(i≤a):=by omega
     simp only [this]
  ·have h0:tab (Rn L C.length) C.length s s=0:=by omega
   have hv':¬ (0:Int)<((tab (Rn L C.length) C.length s s:Nat):Int):=by omega
   simp only [h1,decide_true,cond_true,Int.natCast_nonneg,g1,g2,and_self,if_true,Int.toNat_natCast,z1,ht,hv',decide_false,cond_false]
   rw [if_neg (by omega),innerF_id (by rw [ht,h0]; rfl)]
theorem spL8 {a:Nat} (ha:a<C.length):∀ (m s:Nat) (cur:List D),s+m=2 ^ C.length→cur.length=2 ^ C.length→(∀ u,u<2 ^ C.length→nv cur u=(tab (Rn L C.length) C.length s u:Int)) →
  Z92 a C.length s B (countsC L C.length) (outP L C.length a s) cur=some (outP L C.length a (2 ^ C.length)):=by
 have hn:=g.hn
 have hp:=pow_le hn
 intro m
 induction m with
 | zero=>
  intro s cur hs hc ht
  have:s=2 ^ C.length:=by omega
  subst this
  rw [Z92_fx]; unfold c_Z92; simp [hc]
 | succ m ih=>
  intro s cur hs hc ht
  have hs':s<2 ^ C.length:=by omega
  have h12:=spL12 g a s hs' (countsC L C.length) (outP L C.length a s) cur C.length 0 (by omega)
  have h12:Z90 a C.length s 0 0 B (countsC L C.length) (outP L C.length a s) cur=_:=h12
  have h17:=spL17 g ha s hs' C.length 0 cur (outP L C.length a s) (by omega) hc (ht s hs') (fun _=>rfl)
  have h17:Z91 a C.length s (pcN s C.length:Nat) 0 B (countsC L C.length) (outP L C.length a s) cur=_:=h17
  rw [Z92_fx]
  unfold c_Z92
  have h1:(s:Int)<(cur.length:Int):=by omega
  have eo:(if 0≤a∧0<tab (Rn L C.length) C.length s s∧rdy L C.length s a=true then outP L C.length a (s+1) else outP L C.length a s)=outP L C.length a (s+1):=by
   split
   ·rfl
   ·rename_i hq
    refine (outP_same ?_).symm
    by_cases h0:tab (Rn L C.length) C.length s s=0
    ·exact .inr h0
    ·cases hr:rdy L C.length s a with
     | false=>exact .inl rfl
     | true=>exact absurd ⟨Nat.zero_le _,by omega,hr⟩ hq
  simp only [h1,decide_true,cond_true,h12,Option.bind_some,h17,eo,Qm (show s<4611686018427387904 by omega),Option.bind_fun_some]
  exact ih (s+1) _ (by omega) (by rw [innerF_len]; exact hc) (innerF_tab g s hs' C.length 0 cur (by omega) hc (fun u hu=>by rw [ht u hu,addT]; rfl))
omit g in
theorem outP_zero {n a:Nat}:List.replicate n (.int 0)=outP L n a 0:=by
 apply List.ext_getElem?
 intro p
 unfold outP
 by_cases hp:p<n
 ·rw [List.getElem?_replicate,List.getElem?_map,List.getElem?_range hp,if_pos hp]; rfl
 ·rw [List.getElem?_replicate,List.getElem?_map,List.getElem?_eq_none (show (List.range n).length≤p by rw [List.length_range]; omega),if_neg hp]; rfl
theorem sPlaces_eq {a:Nat} (ha:a<C.length):Z93 C R a=some (outP L C.length a (2 ^ C.length)):=by
 have hn:=g.hn
 have hp:=pow_le hn
 have h2:1≤2 ^ C.length:=Nat.one_le_two_pow
 have hpw:=pow_wrap hn
 have c1:((2 ^ C.length:Nat):Int)≤4294967296:=by omega
 have c0:(0:Int)≤C.length∧(C.length:Int)≤C.length∧(C.length:Int)≤4294967296:=by omega
 have hr:(List.replicate (2 ^ C.length) (D.int 0)).length=2 ^ C.length:=List.length_replicate
 have c2:(0:Int)<((2 ^ C.length:Nat):Int):=by omega
 have c3:0+1≤2 ^ C.length:=by omega
 have z0:(0:Int).toNat=0:=rfl
 have h8:=spL8 g ha (2 ^ C.length) 0 ((List.replicate (2 ^ C.length) (.int 0)).set 0 (.int 1)) (by omega) (by simp) (fun u hu=>zeros_nv _ u hu)
 have h8:Z92 a C.length 0 B (countsC L C.length) (outP L C.length a 0) ((List.replicate (2 ^ C.length) (.int 0)).set 0 (.int 1))=_:=h8
 rw [← outP_zero] at h8
 unfold Z93 c_Z93
 simp only [g.later,Option.bind_some,sCounts hn g.bq g.hb,g.bq.len,c0,uw (C.length:Int) (by omega),Int.natCast_nonneg,if_true,Int.toNat_natCast,hpw,Int.le_refl,c1,and_self,hr,c2,z0,c3,h8]
theorem iPlaces_eq {a:Nat} {x:Int} (ha:a<C.length) (hf:find2 C x=a):Z79 C R x=some (outP L C.length a (2 ^ C.length),true):=by
 have hn:=g.hn
 have hi:=indexOf_eq C R x (by omega)
 rw [hf] at hi
 have hnm:(nums C).length=C.length:=by simp [nums]
 have h0:¬ (a:Int)<0:=by omega
 have c0:(0:Int)≤C.length∧(C.length:Int)≤C.length∧(C.length:Int)≤4294967296:=by omega
 have h7:=pcL7 g ha (2 ^ C.length) 0 (by omega)
 have h7:Z78 a ((2 ^ C.length:Nat):Int) 0 (nums C) A L (firstF L C.length) (countsC L C.length) (outP L C.length a 0)=_:=h7
 rw [← outP_zero] at h7
 unfold Z79 c_Z79
 simp only [g.cnt,Option.bind_some,Sum.elim_inr,Bool.not_true,cond_false,hi,h0,decide_false,hnm,c0,and_self,if_true,Int.toNat_natCast,firstF_len,h7]
theorem sPlaceCounts_eq {a:Nat} {x:Int} (ha:a<C.length) (hf:find2 C x=a):Z94 C R x=some (outP L C.length a (2 ^ C.length),true):=by
 have hn:=g.hn
 have hi:=l2Find_eq C R x (by omega)
 rw [hf] at hi
 have h0:¬ (a:Int)<0:=by omega
 unfold Z94 c_Z94
 simp only [g.l5,Option.bind_some,Bool.not_true,cond_false,hi,h0,decide_false,sPlaces_eq g ha]
omit g in
theorem prL6 (f:Nat→Nat) (n:Nat) (hn:n≤1000):∀ (m i:Nat),i+m=n→Z97 (flN f i).1 (flN f i).2 n i ((List.range n).map (fun p=>D.int ((f p:Nat):Int)))=some (flN f n):=by
 intro m
 induction m with
 | zero=>
  intro i hi
  have:i=n:=by omega
  subst this
  rw [Z97_fx]; unfold c_Z97; simp
 | succ m ih=>
  intro i hi
  have hin:i<n:=by omega
  rw [Z97_fx]
  unfold c_Z97
  have h1:(i:Int)<n:=by omega
  have g1:(i:Int)<(((List.range n).map (fun p=>D.int ((f p:Nat):Int))).length:Int):=by simp; omega
  have g2:i+1≤((List.range n).map (fun p=>D.int ((f p:Nat):Int))).length:=by simp; omega
  have z:(((List.range n).map (fun p=>D.int ((f p:Nat):Int))).getD i (.int 0)).toInt=(f i:Int):=by
   rw [List.getD_eq_getElem?_getD,List.getElem?_map,List.getElem?_range hin]; rfl
  simp only [h1,decide_true,cond_true,Int.natCast_nonneg,g1,g2,and_self,if_true,Int.toNat_natCast,z,Qm (show i<4611686018427387904 by omega),Option.bind_fun_some]
  have ih':=ih (i+1) (by omega)
  by_cases h0:f i=0
  ·have e:flN f (i+1)=flN f i:=by rw [flN,if_pos h0]
   rw [e] at ih'
   have h0':(f i:Int)=0:=by omega
   simp only [h0',decide_true,cond_true]
   exact ih'
  ·have h0':¬ (f i:Int)=0:=by omega
   simp only [h0',decide_false,cond_false]
   by_cases hneg:(flN f i).1<0
   ·have e:flN f (i+1)=((i:Int),(i:Int)):=by rw [flN,if_neg h0,if_pos hneg]
    rw [e] at ih'
    simp only [hneg,decide_true,cond_true]
    exact ih'
   ·have e:flN f (i+1)=((flN f i).1,(i:Int)):=by rw [flN,if_neg h0,if_neg hneg]
    rw [e] at ih'
    simp only [hneg,decide_false,cond_false]
    exact ih'
theorem range_eq {a:Nat} {x:Int} (ha:a<C.length) (hf:find2 C x=a):Z98 C R x=some ((flN (fun p=>plc L C.length a p (2 ^ C.length)) C.length).1,(flN (fun p=>plc L C.length a p (2 ^ C.length)) C.length).2,true):=by
 have hn:=g.hn
 have h6:=prL6 (fun p=>plc L C.length a p (2 ^ C.length)) C.length (by omega) C.length 0 (by omega)
 have h6:Z97 (-1) 0 C.length 0 (outP L C.length a (2 ^ C.length))=_:=h6
 unfold Z98 c_Z98
 simp only [iPlaces_eq g ha hf,Option.bind_some,Bool.not_true,cond_false,outP_len,h6]
omit g in
theorem sumS_swap (f:Nat→Nat→Nat) (N:Nat):∀ n,sumS (fun p=>sumS (f p) N) n=sumS (fun s=>sumS (fun p=>f p s) n) N
 | 0=>by simp only [sumS]; exact (sumS_zero (fun s _=>rfl)).symm
 | n+1=>by
  rw [sumS,sumS_swap f N n,← sumS_add]
  rfl
omit g in
theorem places_sum {a:Nat} (ha:a<C.length):sumS (fun p=>plc L C.length a p (2 ^ C.length)) C.length=cnt L C.length 0:=by
 rw [← once ha]
 unfold plc ways
 rw [sumS_swap]
 refine sumS_congr (fun s hs=>?_)
 cases hr:rdy L C.length s a with
 | false=>simp only [Bool.and_false,Bool.false_eq_true,if_false]; exact sumS_zero (fun _ _=>rfl)
 | true=>
  have hz:=zer_has ha (rdy_not hr)
  have hzl:=zer_le C.length s
  rw [sumS_one (j:=C.length - zer C.length s) (by omega) (fun p _ hne=>by
   have:¬ C.length - zer C.length s=p:=fun e=>hne e.symm
   simp [this])]
  simp
theorem bitsAfter {a:Nat} (ha:a<C.length):∃ v:Nat,∀ k,v.testBit k=(decide (k<C.length)&&at2 L a k):=by
 obtain ⟨v,e1,e2⟩:=g.bq.rng a ha
 refine ⟨v,fun k=>?_⟩
 have:v.testBit k=at2 L a k:=by rw [← g.hb,b2,e1]; rfl
 rw [this]
 cases hq:at2 L a k with
 | false=>simp
 | true=>simp [(at2_lt g.sq hq).2]
theorem places_iff {a:Nat} (ha:a<C.length):∃ lo hi:Nat,flN (fun p=>plc L C.length a p (2 ^ C.length)) C.length=((lo:Int),(hi:Int))∧hi<C.length∧∀ i,i<C.length→(0<plc L C.length a i (2 ^ C.length)↔lo≤i∧i≤hi):=by
 have hs:=places_sum (L:=L) ha
 have hc:=cntPos g
 exact flN_iff (sumS_pos (by rw [hs]; exact hc 0)) (fun i hi=>plc_top ha hc hi) (fun i hi hM=>plc_up g.sq g.trans g.irr ha hc (bitsAfter g ha) hi hM)
theorem lawL13 {a:Nat} (ha:a<C.length) (x0 x1 x2:Int) (x3 x7:Bool) {lo hi:Nat} (hiff:∀ i,i<C.length→(0<plc L C.length a i (2 ^ C.length)↔lo≤i∧i≤hi)):∀ (m i:Nat),i+m=C.length →
  Z99 x0 x1 x2 x3 (sumS (fun p=>plc L C.length a p (2 ^ C.length)) i:Nat) lo hi x7 i C R (outP L C.length a (2 ^ C.length))=some (.inr (x0,x1,x2,x3,((cnt L C.length 0:Nat):Int),x7,C,R)):=by
 have hcl:=cnt_le (L:=L) (s:=0) g.hn
 have hn:=g.hn
 intro m
 induction m with
 | zero=>
  intro i hi'
  have:i=C.length:=by omega
  subst this
  rw [Z99_fx]; unfold c_Z99; simp [outP_len,places_sum (L:=L) ha]
 | succ m ih=>
  intro i hi'
  have hin:i<C.length:=by omega
  rw [Z99_fx]
  unfold c_Z99
  have h1:(i:Int)<((outP L C.length a (2 ^ C.length)).length:Int):=by rw [outP_len]; omega
  have h2:i+1≤(outP L C.length a (2 ^ C.length)).length:=by rw [outP_len]; omega
  have hle:sumS (fun p=>plc L C.length a p (2 ^ C.length)) (i+1)≤cnt L C.length 0:=by rw [← places_sum (L:=L) ha]; exact sumS_le (by omega)
  have hs:sumS (fun p=>plc L C.length a p (2 ^ C.length)) (i+1)=sumS (fun p=>plc L C.length a p (2 ^ C.length)) i+plc L C.length a i (2 ^ C.length):=rfl
  have hw:IntKind.i64.wrap (((sumS (fun p=>plc L C.length a p (2 ^ C.length)) i:Nat):Int)+((plc L C.length a i (2 ^ C.length):Nat):Int))=((sumS (fun p=>plc L C.length a p (2 ^ C.length)) (i+1):Nat):Int):=by
   rw [QF (by omega) (by omega)]; omega
  have hq:=hiff i hin
  have e1:decide ((0:Int)<((plc L C.length a i (2 ^ C.length):Nat):Int))=decide (lo≤i∧i≤hi):=by
   rw [Bool.eq_iff_iff,decide_eq_true_eq,decide_eq_true_eq,← hq]; omega
  have ih':=ih (i+1) (by omega)
  simp only [h1,h2,decide_true,cond_true,Int.natCast_nonneg,and_self,if_true,Int.toNat_natCast,outP_at hin,e1,hw,Qm (show i<4611686018427387904 by omega),Option.bind_fun_some]
  by_cases hlo:lo≤i
  ·have hlo':(lo:Int)≤(i:Int):=by omega
   have e2:decide ((i:Int)≤(hi:Int))=decide (lo≤i∧i≤hi):=by
    rw [Bool.eq_iff_iff,decide_eq_true_eq,decide_eq_true_eq]; omega
   simp only [hlo',decide_true,cond_true,e2,beq_self_eq_true,Bool.not_true,cond_false]
   exact ih'
  ·have hlo':¬ (lo:Int)≤(i:Int):=by omega
   have e2:decide (lo≤i∧i≤hi)=false:=by rw [decide_eq_false_iff_not]; omega
   simp only [hlo',decide_false,cond_false,e2,beq_self_eq_true,Bool.not_true]
   exact ih'
theorem befr_eq {i k:Nat} {x y:Int} (hi:i<C.length) (hk:k<C.length) (hne:x≠y) (fi:find2 C x=i) (fk:find2 C y=k):Z101 C R x y=some (((ways L C.length (fun s=>!s.testBit k) i (2 ^ C.length):Nat):Int),true):=by
 have hn:=g.hn
 have h1:=indexOf_eq C R x (by omega)
 have h2:=indexOf_eq C R y (by omega)
 rw [fi] at h1
 rw [fk] at h2
 have n1:¬ (i:Int)<0:=by omega
 have n2:¬ (k:Int)<0:=by omega
 have h7:=cbL7 g hi hk (2 ^ C.length) 0 (by omega)
 have h7:Z100 i k 0 ((2 ^ C.length:Nat):Int) 0 (nums C) A L (firstF L C.length) (countsC L C.length)=_:=h7
 unfold Z101 c_Z101
 simp only [g.cnt,Option.bind_some,Sum.elim_inr,Bool.not_true,cond_false,h1,h2,n1,n2,hne,decide_false,firstF_len,h7]
theorem sbL9 {i k:Nat} (hi:i<C.length) (hk:k<C.length):∀ (m j:Nat) (X:List D),j+m=C.length→Bq C.length X→∃ X',Z102 i k j B X=some X'∧Bq C.length X':=by
 have hn:=g.hn
 intro m
 induction m with
 | zero=>
  intro j X hj hX
  have:j=C.length:=by omega
  subst this
  exact ⟨X,by rw [Z102_fx]; unfold c_Z102; simp [hX.len],hX⟩
 | succ m ih=>
  intro j X hj hX
  have hjn:j<C.length:=by omega
  rw [Z102_fx]
  unfold c_Z102
  have h1:(j:Int)<(X.length:Int):=by rw [hX.len]; omega
  have h2:j+1≤X.length:=by rw [hX.len]; omega
  have h3:(k:Int)<(B.length:Int):=by rw [g.bq.len]; omega
  have h4:k+1≤B.length:=by rw [g.bq.len]; omega
  have h5:(j:Int)<(B.length:Int):=by rw [g.bq.len]; omega
  have h6:j+1≤B.length:=by rw [g.bq.len]; omega
  obtain ⟨v,v1,v2⟩:=hX.rng j hjn
  obtain ⟨w,w1,w2⟩:=g.bq.rng k hk
  obtain ⟨u,u1,u2⟩:=g.bq.rng j hjn
  obtain ⟨o1,o2⟩:=or_bits v w v2 w2
  obtain ⟨s1,s2⟩:=shl_bit k (by omega)
  have s1':IntKind.i64.wrap (1 * 2 ^ Min.min k IntKind.i64.bits)=((2 ^ k:Nat):Int):=by simpa using s1
  obtain ⟨o3,o4⟩:=or_bits (v ||| w) (2 ^ k) o2 s2
  simp only [h1,h2,h3,h4,h5,h6,decide_true,cond_true,Int.natCast_nonneg,and_self,if_true,Int.toNat_natCast,v1,w1,u1,o1,uw (k:Int) (by omega),s1',o3,l4Bit_eq u i u2 (by omega),Option.bind_some,Qm (show j<4611686018427387904 by omega),Option.bind_fun_some]
  by_cases e:j=i
  ·subst e
   simp only [decide_true,cond_true]
   exact ih (j+1) _ (by omega) (hX.set hjn o4)
  ·have e':¬ (j:Int)=(i:Int):=by omega
   simp only [e',decide_false,cond_false]
   cases u.testBit i with
   | true=>exact ih (j+1) _ (by omega) (hX.set hjn o4)
   | false=>exact ih (j+1) X (by omega) hX
omit g in
theorem sCounts_tot {n:Nat} {X:List D} (hn:n≤10) (hX:Bq n X):∃ F,Z89 X=some F∧F.length=2 ^ n:=by
 let L':List D:=(List.range n).map (fun a=>.node ((List.range 10).map (fun b=>.bool (b2 X a b))))
 have hb:∀ a b,b2 X a b=at2 L' a b:=by
  intro a b
  unfold at2
  by_cases ha:a<n
  ·have e:L'.getD a (.int 0)=.node ((List.range 10).map (fun b=>.bool (b2 X a b))):=by
    rw [List.getD_eq_getElem?_getD,List.getElem?_map,List.getElem?_range ha]; rfl
   rw [e]
   simp only [WL]
   rw [List.getD_eq_getElem?_getD,List.getElem?_map]
   by_cases hb:b<10
   ·rw [List.getElem?_range hb]; rfl
   ·rw [List.getElem?_eq_none (by rw [List.length_range]; omega)]
    cases h:b2 X a b with
    | false=>rfl
    | true=>exact absurd (b2_lt hX h).2 hb
  ·have e:L'.getD a (.int 0)=.int 0:=by
    rw [List.getD_eq_getElem?_getD,List.getElem?_map,List.getElem?_eq_none (by rw [List.length_range]; omega)]; rfl
   rw [e]
   cases h:b2 X a b with
   | false=>rfl
   | true=>exact absurd (b2_lt hX h).1 ha
 exact ⟨_,sCounts hn hX hb,countsC_len⟩
theorem sBefore_eq {i k:Nat} {x y:Int} (hi:i<C.length) (hk:k<C.length) (hne:i≠k) (fi:find2 C x=i) (fk:find2 C y=k):∃ z,Z103 C R x y=some (z,true):=by
 have hn:=g.hn
 have h1:=l2Find_eq C R x (by omega)
 have h2:=l2Find_eq C R y (by omega)
 rw [fi] at h1
 rw [fk] at h2
 have n1:¬ (i:Int)<0:=by omega
 have n2:¬ (k:Int)<0:=by omega
 have n3:¬ (i:Int)=(k:Int):=by omega
 have h3:(k:Int)<(B.length:Int):=by rw [g.bq.len]; omega
 have h4:k+1≤B.length:=by rw [g.bq.len]; omega
 obtain ⟨w,w1,w2⟩:=g.bq.rng k hk
 have h5:([]:List D).length+B.length≤4294967296:=by rw [g.bq.len]; simp; omega
 obtain ⟨X,x1,x2⟩:=sbL9 g hi hk C.length 0 B (by omega) g.bq
 have x1:Z102 i k 0 B B=some X:=x1
 obtain ⟨F,f1,f2⟩:=sCounts_tot hn x2
 have h6:=Nat.two_pow_pos C.length
 have c1:(0:Int)<(F.length:Int):=by rw [f2]; omega
 have c2:(0:Int).toNat+1≤F.length:=by rw [f2]; exact h6
 unfold Z103 c_Z103
 simp only [h1,h2,Option.bind_some,g.l5,Bool.not_true,cond_false,n1,n2,n3,decide_false,g.later,h3,h4,Int.natCast_nonneg,and_self,if_true,Int.toNat_natCast,w1,l4Bit_eq w i w2 (by omega),h5,List.nil_append,x1,f1,c1,c2,Int.le_refl]
 cases w.testBit i with
 | true=>exact ⟨_,rfl⟩
 | false=>exact ⟨_,rfl⟩
end
theorem number_tot (c:List D) (hc:okC c) (p s:Int) (C R:List D) (hp:0≤p∧p≤1099511610000) (hC:C.length≤1000):∃ y,Z35 c p s C R=some y∧(y.2.1=c∧p≤y.2.2.1∧y.2.2.1≤p+10):=by
 refine Tt.out ?_
 unfold Z35 c_Z35
 refine Tt.dec (fun _=>?_) (fun _=>?_)
 ·(refine Tt.bind (Tt.con (among_tot _ hc _ _ _ (by omega) (by simp))) ?_; rintro ⟨v,c',p',s'⟩ ⟨hv,rfl,hp1,hp2⟩; dsimp only at hv hp1 hp2 ⊢)
  exact Tt.pure ⟨rfl,by simp only; omega,by simp only; omega⟩
 ·(refine Tt.bind (Tt.con (one_tot' _ hc _ _ _ (by omega) (by omega))) ?_; rintro ⟨v,c',p',s'⟩ ⟨hv,rfl,hp1,hp2⟩; dsimp only at hv hp1 hp2 ⊢)
  refine Tt.cnd (fun _=>?_) (fun _=>?_)
  ·(refine Tt.bind (Tt.con (among_tot _ hc _ _ _ (by omega) (by simp))) ?_; rintro ⟨v,c',p',s'⟩ ⟨hv,rfl,hp1,hp2⟩; dsimp only at hv hp1 hp2 ⊢)
   exact Tt.pure ⟨rfl,by simp only; omega,by simp only; omega⟩
  ·(refine Tt.bind (Tt.con (pick_tot' _ hc _ _ _ (by omega) (by omega))) ?_; rintro ⟨v,c',p',s'⟩ ⟨hv,rfl,hp1,hp2⟩; dsimp only at hv hp1 hp2 ⊢)
   refine Tt.ite (by omega) ?_
   exact Tt.pure ⟨rfl,by simp only; omega,by simp only; omega⟩
theorem draw_tot (c:List D) (hc:okC c):∃ y,Z36 c=some y∧y.1.length≤1000:=by
 refine Tt.out ?_
 unfold Z36 c_Z36
 refine Tt.bind (Tt.con (ordered_tot _ hc _ _ (by omega))) ?_
 rintro ⟨C,R,c1,p1,s1⟩ ⟨rfl,g2,g3,g4,g5⟩
 dsimp only at g2 g3 g4 g5 ⊢
 refine Tt.bind (Tt.con (number_tot _ hc _ _ _ _ (by omega) (by omega))) ?_
 rintro ⟨a,c2,p2,s2⟩ ⟨rfl,q5,q6⟩
 dsimp only at q5 q6 ⊢
 refine Tt.bind (Tt.con (number_tot _ hc _ _ _ _ (by omega) (by omega))) ?_
 rintro ⟨b,c3,p3,s3⟩ ⟨_,q7,q8⟩
 exact Tt.pure (by simp only; omega)
theorem vInts_self (l:List D) (hl:l.length≤1000000):Z96 l l=some true:=by
 have h:=fxAll (F:=fun i=>Z95 l l i) (len:=l.length) (fun _=>true) (.inl false) (fin:=.inr ()) (fun i hi=>by
  show Z95 l l i=_
  rw [Z95_fx]
  unfold c_Z95
  have h1:(i:Int)<l.length:=by omega
  simp only [h1,decide_true,cond_true,Int.natCast_nonneg,and_self,if_true,Bool.not_true,cond_false,Qm (show i<4611686018427387904 by omega),Option.bind_fun_some])
  (by
   show Z95 l l (l.length:Int)=_
   rw [Z95_fx]; unfold c_Z95; simp)
 have h:Z95 l l 0=_:=h
 have ha:allN (fun _=>true) l.length=true:=allN_iff.2 (fun _ _=>rfl)
 rw [ha] at h
 simp only [Z96,c_Z96,decide_true,Bool.not_true,cond_false,h,Option.bind_some,cond_true,Sum.elim_inr]
theorem find2_neg {C:List D} {n:Int} (h:¬ 0≤find2 C n):find2 C n=-1:=by
 unfold find2 at h ⊢
 cases hf:QO (fun i=>decide (((C[i]?.getD (.int 0)).fld 0).toInt=n)) C.length with
 | none=>rfl
 | some i=>rw [hf] at h; exact absurd (by simp) h
theorem places_no {C R:List D} {x:Int} (h:(Z84 C R=some false∧Z75 C R=some (.inl false))∨((∃ A L B,Good8 C R A L B)∧find2 C x=-1)):Z79 C R x=some ([],false)∧Z94 C R x=some ([],false):=by
 rcases h with ⟨h1,h2⟩ | ⟨⟨A,L,B,g⟩,h3⟩
 ·constructor
  ·simp only [Z79,c_Z79,h2,Option.bind_some,Sum.elim_inl,Bool.not_false,cond_true]
  ·simp only [Z94,c_Z94,h1,Option.bind_some,Bool.not_false,cond_true]
 ·have hn:=g.hn
  have e1:=indexOf_eq C R x (by omega)
  have e2:=l2Find_eq C R x (by omega)
  rw [h3] at e1 e2
  have hd:decide ((-1:Int)<0)=true:=rfl
  constructor
  ·simp only [Z79,c_Z79,g.cnt,Option.bind_some,Sum.elim_inr,Bool.not_true,cond_false,e1,hd,cond_true]
  ·simp only [Z94,c_Z94,g.l5,Option.bind_some,Bool.not_true,cond_false,e2,hd,cond_true]
theorem before_no {C R:List D} {x y:Int} (hC:C.length≤100000) (h:(Z84 C R=some false∧Z75 C R=some (.inl false))∨((∃ A L B,Good8 C R A L B)∧(find2 C x=-1∨find2 C y=-1∨x=y))):Z101 C R x y=some (0,false)∧Z103 C R x y=some (0,false):=by
 have e1:=indexOf_eq C R x hC
 have e2:=l2Find_eq C R x hC
 have e3:=indexOf_eq C R y hC
 have e4:=l2Find_eq C R y hC
 have hd:decide ((-1:Int)<0)=true:=rfl
 rcases h with ⟨h1,h2⟩ | ⟨⟨A,L,B,g⟩,h3⟩
 ·constructor
  ·simp only [Z101,c_Z101,h2,Option.bind_some,Sum.elim_inl,Bool.not_false,cond_true]
  ·simp only [Z103,c_Z103,e2,e4,h1,Option.bind_some,Bool.not_false,cond_true]
 ·rcases h3 with h3 | h3 | h3
  ·rw [h3] at e1 e2
   constructor
   ·simp only [Z101,c_Z101,g.cnt,Option.bind_some,Sum.elim_inr,Bool.not_true,cond_false,e1,hd,cond_true]
   ·simp only [Z103,c_Z103,e2,e4,g.l5,Option.bind_some,Bool.not_true,cond_false,hd,cond_true]
  ·rw [h3] at e3 e4
   constructor
   ·simp only [Z101,c_Z101,g.cnt,Option.bind_some,Sum.elim_inr,Bool.not_true,cond_false,e1,e3,hd,cond_true]
    cases decide (find2 C x<0) <;> rfl
   ·simp only [Z103,c_Z103,e2,e4,g.l5,Option.bind_some,Bool.not_true,cond_false,hd,cond_true]
    cases decide (find2 C x<0) <;> rfl
  ·subst h3
   constructor
   ·simp only [Z101,c_Z101,g.cnt,Option.bind_some,Sum.elim_inr,Bool.not_true,cond_false,e1,decide_true,cond_true]
    cases decide (find2 C x<0) <;> rfl
   ·simp only [Z103,c_Z103,e2,g.l5,Option.bind_some,Bool.not_true,cond_false,decide_true,cond_true]
    cases decide (find2 C x<0) <;> rfl
theorem before_all {C R A L B:List D} (g:Good8 C R A L B) (x y:Int):∃ (p q z:Int) (f:Bool),Z101 C R x y=some (p,f)∧Z101 C R y x=some (q,f)∧Z103 C R x y=some (z,f)∧(f=true→IntKind.i64.wrap (p+q)=(cnt L C.length 0:Int)):=by
 have hn:=g.hn
 have hcl:=cnt_le (L:=L) (s:=0) hn
 by_cases hx:0≤find2 C x
 ·by_cases hy:0≤find2 C y
  ·by_cases hxy:x=y
   ·obtain ⟨b1,b2⟩:=before_no (R:=R) (x:=x) (y:=y) (by omega) (.inr ⟨⟨A,L,B,g⟩,.inr (.inr hxy)⟩)
    obtain ⟨b3,_⟩:=before_no (R:=R) (x:=y) (y:=x) (by omega) (.inr ⟨⟨A,L,B,g⟩,.inr (.inr hxy.symm)⟩)
    exact ⟨0,0,0,false,b1,b3,b2,fun h=>by cases h⟩
   ·obtain ⟨i,i1,i2,i3⟩:=find2_some hx
    obtain ⟨k,k1,k2,k3⟩:=find2_some hy
    have hik:i≠k:=fun e=>hxy (by rw [← i3,← k3,e])
    obtain ⟨z,hz⟩:=sBefore_eq g i1 k1 hik i2 k2
    have hs:=one_first (L:=L) i1 k1 hik
    refine ⟨_,_,z,true,befr_eq g i1 k1 hxy i2 k2,befr_eq g k1 i1 (fun e=>hxy e.symm) k2 i2,hz,fun _=>?_⟩
    rw [QF (by omega) (by omega)]; omega
  ·have hy':=find2_neg hy
   obtain ⟨b1,b2⟩:=before_no (R:=R) (x:=x) (y:=y) (by omega) (.inr ⟨⟨A,L,B,g⟩,.inr (.inl hy')⟩)
   obtain ⟨b3,_⟩:=before_no (R:=R) (x:=y) (y:=x) (by omega) (.inr ⟨⟨A,L,B,g⟩,.inl hy'⟩)
   exact ⟨0,0,0,false,b1,b3,b2,fun h=>by cases h⟩
 ·have hx':=find2_neg hx
  obtain ⟨b1,b2⟩:=before_no (R:=R) (x:=x) (y:=y) (by omega) (.inr ⟨⟨A,L,B,g⟩,.inl hx'⟩)
  obtain ⟨b3,_⟩:=before_no (R:=R) (x:=y) (y:=x) (by omega) (.inr ⟨⟨A,L,B,g⟩,.inr (.inl hx')⟩)
  exact ⟨0,0,0,false,b1,b3,b2,fun h=>by cases h⟩
theorem fp_all (x0 C R:List D) (a b:Int) (hd:Z36 x0=some (C,R,a,b)) (hC:C.length≤1000) (hx:¬ (65536:Int)<x0.length):Z104 x0=some true:=by
 have hv:Z1 x0=some false:=by simp only [Z1,c_Z1,hx,decide_false]
 have hnil:=vInts_self [] (by simp)
 rcases cases8 C R with ⟨h1,h2⟩ | ⟨A,L,B,g⟩
 ·have k1:=countSeq_no h2
  obtain ⟨p1,p2⟩:=places_no (x:=a) (.inl ⟨h1,h2⟩)
  obtain ⟨b1,b2⟩:=before_no (x:=a) (y:=b) (by omega) (.inl ⟨h1,h2⟩)
  obtain ⟨b3,_⟩:=before_no (x:=b) (y:=a) (by omega) (.inl ⟨h1,h2⟩)
  simp only [Z104,c_Z104,hv,hd,k1,p1,p2,hnil,b1,b2,b3,Option.bind_some,cond_false,cond_true,beq_self_eq_true,Bool.not_true,Bool.not_false]
 ·have hn:=g.hn
  have k1:=countSeq_eq g
  rw [show nv (countsC L C.length) 0=(cnt L C.length 0:Int) from countsC_eq g.hn 0 (Nat.two_pow_pos _)] at k1
  obtain ⟨p,q,z,f,b1,b2,b3,b4⟩:=before_all g a b
  have fin:f=true→decide (IntKind.i64.wrap (p+q)=(cnt L C.length 0:Int))=true:=fun h=>decide_eq_true (b4 h)
  by_cases ha:0≤find2 C a
  ·obtain ⟨i,i1,i2,_⟩:=find2_some ha
   have p1:=iPlaces_eq g i1 i2
   have p2:=sPlaceCounts_eq g i1 i2
   have p3:=range_eq g i1 i2
   have p4:=vInts_self (outP L C.length i (2 ^ C.length)) (by rw [outP_len]; omega)
   obtain ⟨lo,hi,q1,q2,q3⟩:=places_iff g i1
   rw [q1] at p3
   have p5:=lawL13 g i1 a b (cnt L C.length 0:Nat) true true q3 C.length 0 (by omega)
   have p5:Z99 a b (cnt L C.length 0:Nat) true 0 lo hi true 0 C R (outP L C.length i (2 ^ C.length))=_:=p5
   simp only [Z104,c_Z104,hv,hd,k1,p1,p2,p3,p4,p5,b1,b2,b3,Option.bind_some,cond_false,cond_true,beq_self_eq_true,Bool.not_true,Bool.not_false,Sum.elim_inr,decide_true]
   cases f with
   | false=>rfl
   | true=>rw [fin rfl]; rfl
  ·obtain ⟨p1,p2⟩:=places_no (x:=a) (.inr ⟨⟨A,L,B,g⟩,find2_neg ha⟩)
   simp only [Z104,c_Z104,hv,hd,k1,p1,p2,hnil,b1,b2,b3,Option.bind_some,cond_false,cond_true,beq_self_eq_true,Bool.not_true,Bool.not_false]
   cases f with
   | false=>rfl
   | true=>rw [fin rfl]; rfl
theorem pure_FnPlaces (x0:List D) (h0:x0.length≤maxLen) (w0:∀ d∈x0,wfD (.int .u8) d):Z104 x0=some true:=by
 by_cases hb:(65536:Int)<x0.length
 ·simp only [Z104,c_Z104,Z1,c_Z1,Option.bind_some,hb,decide_true,cond_true]
 ·have hc:okC x0:=⟨by omega,fun d hd=>okB (w0 d hd)⟩
  obtain ⟨⟨C,R,a,b⟩,d1,d2⟩:=draw_tot x0 hc
  exact fp_all x0 C R a b d1 d2 hb
end Go.Proofs.Ytdoaceeakjbgfaa
