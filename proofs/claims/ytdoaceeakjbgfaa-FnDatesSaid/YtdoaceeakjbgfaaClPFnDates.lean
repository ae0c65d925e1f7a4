/- The law FnDates over plain values. No condition beside those of the statement. -/
import Derived.Test.YtdoaceeakjbgfaaClMFnDates
import Derived.Test.YtdoaceeakjbgfaaRaiU5
set_option linter.unusedVariables false
set_option linter.unusedSimpArgs false
set_option maxRecDepth 100000
namespace Go.Proofs.Ytdoaceeakjbgfaa
open Go Go.Rai
theorem Z5_fx (x0 x1 x2:Int) (x3:List D) (x4 x5:Int) (x6:List D):Z5 x0 x1 x2 x3 x4 x5 x6=c_Z5 (Z5) x0 x1 x2 x3 x4 x5 x6 some:=
 J8 (N:=fun n (p:Int×Int×Int×List D×Int×Int×List D)=>n_Z5 n p.1 p.2.1 p.2.2.1 p.2.2.2.1 p.2.2.2.2.1 p.2.2.2.2.2.1 p.2.2.2.2.2.2) (C:=fun f p=>c_Z5 (fun x0 x1 x2 x3 x4 x5 x6=>f (x0,x1,x2,x3,x4,x5,x6)) p.1 p.2.1 p.2.2.1 p.2.2.2.1 p.2.2.2.2.1 p.2.2.2.2.2.1 p.2.2.2.2.2.2 some) (fun _=>rfl) (fun _ _=>rfl) (fun hD f fs h p=>by
  unfold c_Z5
  repeat' first | exact Lim.const hD | exact h _ | apply Lim.ite | apply Lim.cond | apply Lim.bind hD | apply Lim.sum | intro _) (x0,x1,x2,x3,x4,x5,x6)
theorem Z8_fx (x0:Int) (x1 x2:List D) (x3 x4:Int):Z8 x0 x1 x2 x3 x4=c_Z8 (Z8) x0 x1 x2 x3 x4 some:=
 J8 (N:=fun n (p:Int×List D×List D×Int×Int)=>n_Z8 n p.1 p.2.1 p.2.2.1 p.2.2.2.1 p.2.2.2.2) (C:=fun f p=>c_Z8 (fun x0 x1 x2 x3 x4=>f (x0,x1,x2,x3,x4)) p.1 p.2.1 p.2.2.1 p.2.2.2.1 p.2.2.2.2 some) (fun _=>rfl) (fun _ _=>rfl) (fun hD f fs h p=>by
  unfold c_Z8
  repeat' first | exact Lim.const hD | exact h _ | apply Lim.ite | apply Lim.cond | apply Lim.bind hD | apply Lim.sum | intro _) (x0,x1,x2,x3,x4)
theorem Z11_fx (x0:Int) (x1 x2:List D) (x3 x4:Int):Z11 x0 x1 x2 x3 x4=c_Z11 (Z11) x0 x1 x2 x3 x4 some:=
 J8 (N:=fun n (p:Int×List D×List D×Int×Int)=>n_Z11 n p.1 p.2.1 p.2.2.1 p.2.2.2.1 p.2.2.2.2) (C:=fun f p=>c_Z11 (fun x0 x1 x2 x3 x4=>f (x0,x1,x2,x3,x4)) p.1 p.2.1 p.2.2.1 p.2.2.2.1 p.2.2.2.2 some) (fun _=>rfl) (fun _ _=>rfl) (fun hD f fs h p=>by
  unfold c_Z11
  repeat' first | exact Lim.const hD | exact h _ | apply Lim.ite | apply Lim.cond | apply Lim.bind hD | apply Lim.sum | intro _) (x0,x1,x2,x3,x4)
theorem Z13_fx (x0 x1:Int) (x2:List D) (x3 x4:Int) (x5 x6:List D):Z13 x0 x1 x2 x3 x4 x5 x6=c_Z13 (Z13) x0 x1 x2 x3 x4 x5 x6 some:=
 J8 (N:=fun n (p:Int×Int×List D×Int×Int×List D×List D)=>n_Z13 n p.1 p.2.1 p.2.2.1 p.2.2.2.1 p.2.2.2.2.1 p.2.2.2.2.2.1 p.2.2.2.2.2.2) (C:=fun f p=>c_Z13 (fun x0 x1 x2 x3 x4 x5 x6=>f (x0,x1,x2,x3,x4,x5,x6)) p.1 p.2.1 p.2.2.1 p.2.2.2.1 p.2.2.2.2.1 p.2.2.2.2.2.1 p.2.2.2.2.2.2 some) (fun _=>rfl) (fun _ _=>rfl) (fun hD f fs h p=>by
  unfold c_Z13
  repeat' first | exact Lim.const hD | exact h _ | apply Lim.ite | apply Lim.cond | apply Lim.bind hD | apply Lim.sum | intro _) (x0,x1,x2,x3,x4,x5,x6)
theorem Z14_fx (x0 x1:Int) (x2:List D) (x3 x4:Int) (x5:List D):Z14 x0 x1 x2 x3 x4 x5=c_Z14 (Z14) x0 x1 x2 x3 x4 x5 some:=
 J8 (N:=fun n (p:Int×Int×List D×Int×Int×List D)=>n_Z14 n p.1 p.2.1 p.2.2.1 p.2.2.2.1 p.2.2.2.2.1 p.2.2.2.2.2) (C:=fun f p=>c_Z14 (fun x0 x1 x2 x3 x4 x5=>f (x0,x1,x2,x3,x4,x5)) p.1 p.2.1 p.2.2.1 p.2.2.2.1 p.2.2.2.2.1 p.2.2.2.2.2 some) (fun _=>rfl) (fun _ _=>rfl) (fun hD f fs h p=>by
  unfold c_Z14
  repeat' first | exact Lim.const hD | exact h _ | apply Lim.ite | apply Lim.cond | apply Lim.bind hD | apply Lim.sum | intro _) (x0,x1,x2,x3,x4,x5)
theorem Z17_fx (x0:Int) (x1:List D) (x2 x3:Int) (x4 x5:List D):Z17 x0 x1 x2 x3 x4 x5=c_Z17 (Z17) x0 x1 x2 x3 x4 x5 some:=
 J8 (N:=fun n (p:Int×List D×Int×Int×List D×List D)=>n_Z17 n p.1 p.2.1 p.2.2.1 p.2.2.2.1 p.2.2.2.2.1 p.2.2.2.2.2) (C:=fun f p=>c_Z17 (fun x0 x1 x2 x3 x4 x5=>f (x0,x1,x2,x3,x4,x5)) p.1 p.2.1 p.2.2.1 p.2.2.2.1 p.2.2.2.2.1 p.2.2.2.2.2 some) (fun _=>rfl) (fun _ _=>rfl) (fun hD f fs h p=>by
  unfold c_Z17
  repeat' first | exact Lim.const hD | exact h _ | apply Lim.ite | apply Lim.cond | apply Lim.bind hD | apply Lim.sum | intro _) (x0,x1,x2,x3,x4,x5)
theorem Z18_fx (x0:Int) (x1:List D) (x2 x3:Int) (x4 x5:List D):Z18 x0 x1 x2 x3 x4 x5=c_Z18 (Z18) x0 x1 x2 x3 x4 x5 some:=
 J8 (N:=fun n (p:Int×List D×Int×Int×List D×List D)=>n_Z18 n p.1 p.2.1 p.2.2.1 p.2.2.2.1 p.2.2.2.2.1 p.2.2.2.2.2) (C:=fun f p=>c_Z18 (fun x0 x1 x2 x3 x4 x5=>f (x0,x1,x2,x3,x4,x5)) p.1 p.2.1 p.2.2.1 p.2.2.2.1 p.2.2.2.2.1 p.2.2.2.2.2 some) (fun _=>rfl) (fun _ _=>rfl) (fun hD f fs h p=>by
  unfold c_Z18
  repeat' first | exact Lim.const hD | exact h _ | apply Lim.ite | apply Lim.cond | apply Lim.bind hD | apply Lim.sum | intro _) (x0,x1,x2,x3,x4,x5)
theorem Z19_fx (x0 x1:Int) (x2:List D) (x3 x4:Int) (x5 x6:List D):Z19 x0 x1 x2 x3 x4 x5 x6=c_Z19 (Z19) x0 x1 x2 x3 x4 x5 x6 some:=
 J8 (N:=fun n (p:Int×Int×List D×Int×Int×List D×List D)=>n_Z19 n p.1 p.2.1 p.2.2.1 p.2.2.2.1 p.2.2.2.2.1 p.2.2.2.2.2.1 p.2.2.2.2.2.2) (C:=fun f p=>c_Z19 (fun x0 x1 x2 x3 x4 x5 x6=>f (x0,x1,x2,x3,x4,x5,x6)) p.1 p.2.1 p.2.2.1 p.2.2.2.1 p.2.2.2.2.1 p.2.2.2.2.2.1 p.2.2.2.2.2.2 some) (fun _=>rfl) (fun _ _=>rfl) (fun hD f fs h p=>by
  unfold c_Z19
  repeat' first | exact Lim.const hD | exact h _ | apply Lim.ite | apply Lim.cond | apply Lim.bind hD | apply Lim.sum | intro _) (x0,x1,x2,x3,x4,x5,x6)
theorem Z20_fx (x0 x1:Int) (x2:List D) (x3 x4:Int) (x5 x6:List D):Z20 x0 x1 x2 x3 x4 x5 x6=c_Z20 (Z20) x0 x1 x2 x3 x4 x5 x6 some:=
 J8 (N:=fun n (p:Int×Int×List D×Int×Int×List D×List D)=>n_Z20 n p.1 p.2.1 p.2.2.1 p.2.2.2.1 p.2.2.2.2.1 p.2.2.2.2.2.1 p.2.2.2.2.2.2) (C:=fun f p=>c_Z20 (fun x0 x1 x2 x3 x4 x5 x6=>f (x0,x1,x2,x3,x4,x5,x6)) p.1 p.2.1 p.2.2.1 p.2.2.2.1 p.2.2.2.2.1 p.2.2.2.2.2.1 p.2.2.2.2.2.2 some) (fun _=>rfl) (fun _ _=>rfl) (fun hD f fs h p=>by
  unfold c_Z20
  repeat' first | exact Lim.const hD | exact h _ | apply Lim.ite | apply Lim.cond | apply Lim.bind hD | apply Lim.sum | intro _) (x0,x1,x2,x3,x4,x5,x6)
theorem Z21_fx (x0:Int) (x1:List D) (x2 x3:Int) (x4 x5:List D):Z21 x0 x1 x2 x3 x4 x5=c_Z21 (Z21) x0 x1 x2 x3 x4 x5 some:=
 J8 (N:=fun n (p:Int×List D×Int×Int×List D×List D)=>n_Z21 n p.1 p.2.1 p.2.2.1 p.2.2.2.1 p.2.2.2.2.1 p.2.2.2.2.2) (C:=fun f p=>c_Z21 (fun x0 x1 x2 x3 x4 x5=>f (x0,x1,x2,x3,x4,x5)) p.1 p.2.1 p.2.2.1 p.2.2.2.1 p.2.2.2.2.1 p.2.2.2.2.2 some) (fun _=>rfl) (fun _ _=>rfl) (fun hD f fs h p=>by
  unfold c_Z21
  repeat' first | exact Lim.const hD | exact h _ | apply Lim.ite | apply Lim.cond | apply Lim.bind hD | apply Lim.sum | intro _) (x0,x1,x2,x3,x4,x5)
theorem Z22_fx (x0:Int) (x1:List D) (x2 x3:Int) (x4 x5:List D):Z22 x0 x1 x2 x3 x4 x5=c_Z22 (Z22) x0 x1 x2 x3 x4 x5 some:=
 J8 (N:=fun n (p:Int×List D×Int×Int×List D×List D)=>n_Z22 n p.1 p.2.1 p.2.2.1 p.2.2.2.1 p.2.2.2.2.1 p.2.2.2.2.2) (C:=fun f p=>c_Z22 (fun x0 x1 x2 x3 x4 x5=>f (x0,x1,x2,x3,x4,x5)) p.1 p.2.1 p.2.2.1 p.2.2.2.1 p.2.2.2.2.1 p.2.2.2.2.2 some) (fun _=>rfl) (fun _ _=>rfl) (fun hD f fs h p=>by
  unfold c_Z22
  repeat' first | exact Lim.const hD | exact h _ | apply Lim.ite | apply Lim.cond | apply Lim.bind hD | apply Lim.sum | intro _) (x0,x1,x2,x3,x4,x5)
theorem Z24_fx (x0 x1:Int) (x2 x3:List D):Z24 x0 x1 x2 x3=c_Z24 (Z24) x0 x1 x2 x3 some:=
 J8 (N:=fun n (p:Int×Int×List D×List D)=>n_Z24 n p.1 p.2.1 p.2.2.1 p.2.2.2) (C:=fun f p=>c_Z24 (fun x0 x1 x2 x3=>f (x0,x1,x2,x3)) p.1 p.2.1 p.2.2.1 p.2.2.2 some) (fun _=>rfl) (fun _ _=>rfl) (fun hD f fs h p=>by
  unfold c_Z24
  repeat' first | exact Lim.const hD | exact h _ | apply Lim.ite | apply Lim.cond | apply Lim.bind hD | apply Lim.sum | intro _) (x0,x1,x2,x3)
theorem Z26_fx (x0:Int) (x1 x2 x3:List D):Z26 x0 x1 x2 x3=c_Z26 (Z26) x0 x1 x2 x3 some:=
 J8 (N:=fun n (p:Int×List D×List D×List D)=>n_Z26 n p.1 p.2.1 p.2.2.1 p.2.2.2) (C:=fun f p=>c_Z26 (fun x0 x1 x2 x3=>f (x0,x1,x2,x3)) p.1 p.2.1 p.2.2.1 p.2.2.2 some) (fun _=>rfl) (fun _ _=>rfl) (fun hD f fs h p=>by
  unfold c_Z26
  repeat' first | exact Lim.const hD | exact h _ | apply Lim.ite | apply Lim.cond | apply Lim.bind hD | apply Lim.sum | intro _) (x0,x1,x2,x3)
theorem Z27_fx (x0 x1:Int) (x2:List D):Z27 x0 x1 x2=c_Z27 (Z27) x0 x1 x2 some:=
 J8 (N:=fun n (p:Int×Int×List D)=>n_Z27 n p.1 p.2.1 p.2.2) (C:=fun f p=>c_Z27 (fun x0 x1 x2=>f (x0,x1,x2)) p.1 p.2.1 p.2.2 some) (fun _=>rfl) (fun _ _=>rfl) (fun hD f fs h p=>by
  unfold c_Z27
  repeat' first | exact Lim.const hD | exact h _ | apply Lim.ite | apply Lim.cond | apply Lim.bind hD | apply Lim.sum | intro _) (x0,x1,x2)
theorem Z28_fx (x0:Int) (x1:List D):Z28 x0 x1=c_Z28 (Z28) x0 x1 some:=
 J8 (N:=fun n (p:Int×List D)=>n_Z28 n p.1 p.2) (C:=fun f p=>c_Z28 (fun x0 x1=>f (x0,x1)) p.1 p.2 some) (fun _=>rfl) (fun _ _=>rfl) (fun hD f fs h p=>by
  unfold c_Z28
  repeat' first | exact Lim.const hD | exact h _ | apply Lim.ite | apply Lim.cond | apply Lim.bind hD | apply Lim.sum | intro _) (x0,x1)
theorem Z31_fx (x0:Int) (x1:List D):Z31 x0 x1=c_Z31 (Z31) x0 x1 some:=
 J8 (N:=fun n (p:Int×List D)=>n_Z31 n p.1 p.2) (C:=fun f p=>c_Z31 (fun x0 x1=>f (x0,x1)) p.1 p.2 some) (fun _=>rfl) (fun _ _=>rfl) (fun hD f fs h p=>by
  unfold c_Z31
  repeat' first | exact Lim.const hD | exact h _ | apply Lim.ite | apply Lim.cond | apply Lim.bind hD | apply Lim.sum | intro _) (x0,x1)
theorem Z36_fx (x0:Int) (x1 x2:List D):Z36 x0 x1 x2=c_Z36 (Z36) x0 x1 x2 some:=
 J8 (N:=fun n (p:Int×List D×List D)=>n_Z36 n p.1 p.2.1 p.2.2) (C:=fun f p=>c_Z36 (fun x0 x1 x2=>f (x0,x1,x2)) p.1 p.2.1 p.2.2 some) (fun _=>rfl) (fun _ _=>rfl) (fun hD f fs h p=>by
  unfold c_Z36
  repeat' first | exact Lim.const hD | exact h _ | apply Lim.ite | apply Lim.cond | apply Lim.bind hD | apply Lim.sum | intro _) (x0,x1,x2)
theorem Z37_fx (x0:Int) (x1 x2:List D):Z37 x0 x1 x2=c_Z37 (Z37) x0 x1 x2 some:=
 J8 (N:=fun n (p:Int×List D×List D)=>n_Z37 n p.1 p.2.1 p.2.2) (C:=fun f p=>c_Z37 (fun x0 x1 x2=>f (x0,x1,x2)) p.1 p.2.1 p.2.2 some) (fun _=>rfl) (fun _ _=>rfl) (fun hD f fs h p=>by
  unfold c_Z37
  repeat' first | exact Lim.const hD | exact h _ | apply Lim.ite | apply Lim.cond | apply Lim.bind hD | apply Lim.sum | intro _) (x0,x1,x2)
theorem Z40_fx (x0 x1 x2:Int) (x3:Bool) (x4:Int) (x5 x6:List D):Z40 x0 x1 x2 x3 x4 x5 x6=c_Z40 (Z40) x0 x1 x2 x3 x4 x5 x6 some:=
 J8 (N:=fun n (p:Int×Int×Int×Bool×Int×List D×List D)=>n_Z40 n p.1 p.2.1 p.2.2.1 p.2.2.2.1 p.2.2.2.2.1 p.2.2.2.2.2.1 p.2.2.2.2.2.2) (C:=fun f p=>c_Z40 (fun x0 x1 x2 x3 x4 x5 x6=>f (x0,x1,x2,x3,x4,x5,x6)) p.1 p.2.1 p.2.2.1 p.2.2.2.1 p.2.2.2.2.1 p.2.2.2.2.2.1 p.2.2.2.2.2.2 some) (fun _=>rfl) (fun _ _=>rfl) (fun hD f fs h p=>by
  unfold c_Z40
  repeat' first | exact Lim.const hD | exact h _ | apply Lim.ite | apply Lim.cond | apply Lim.bind hD | apply Lim.sum | intro _) (x0,x1,x2,x3,x4,x5,x6)
theorem Z41_fx (x0 x1 x2:Int) (x3 x4:List D):Z41 x0 x1 x2 x3 x4=c_Z41 (Z41) x0 x1 x2 x3 x4 some:=
 J8 (N:=fun n (p:Int×Int×Int×List D×List D)=>n_Z41 n p.1 p.2.1 p.2.2.1 p.2.2.2.1 p.2.2.2.2) (C:=fun f p=>c_Z41 (fun x0 x1 x2 x3 x4=>f (x0,x1,x2,x3,x4)) p.1 p.2.1 p.2.2.1 p.2.2.2.1 p.2.2.2.2 some) (fun _=>rfl) (fun _ _=>rfl) (fun hD f fs h p=>by
  unfold c_Z41
  repeat' first | exact Lim.const hD | exact h _ | apply Lim.ite | apply Lim.cond | apply Lim.bind hD | apply Lim.sum | intro _) (x0,x1,x2,x3,x4)
theorem Z42_fx (x0:Int) (x1 x2:List D):Z42 x0 x1 x2=c_Z42 (Z42) x0 x1 x2 some:=
 J8 (N:=fun n (p:Int×List D×List D)=>n_Z42 n p.1 p.2.1 p.2.2) (C:=fun f p=>c_Z42 (fun x0 x1 x2=>f (x0,x1,x2)) p.1 p.2.1 p.2.2 some) (fun _=>rfl) (fun _ _=>rfl) (fun hD f fs h p=>by
  unfold c_Z42
  repeat' first | exact Lim.const hD | exact h _ | apply Lim.ite | apply Lim.cond | apply Lim.bind hD | apply Lim.sum | intro _) (x0,x1,x2)
theorem Z44_fx (x0:List D) (x1 x2:Int):Z44 x0 x1 x2=c_Z44 (Z44) x0 x1 x2 some:=
 J8 (N:=fun n (p:List D×Int×Int)=>n_Z44 n p.1 p.2.1 p.2.2) (C:=fun f p=>c_Z44 (fun x0 x1 x2=>f (x0,x1,x2)) p.1 p.2.1 p.2.2 some) (fun _=>rfl) (fun _ _=>rfl) (fun hD f fs h p=>by
  unfold c_Z44
  repeat' first | exact Lim.const hD | exact h _ | apply Lim.ite | apply Lim.cond | apply Lim.bind hD | apply Lim.sum | intro _) (x0,x1,x2)
theorem Z46_fx (x0:Int) (x1:List D) (x2 x3:Int) (x4 x5 x6 x7:List D):Z46 x0 x1 x2 x3 x4 x5 x6 x7=c_Z46 (Z46) x0 x1 x2 x3 x4 x5 x6 x7 some:=
 J8 (N:=fun n (p:Int×List D×Int×Int×List D×List D×List D×List D)=>n_Z46 n p.1 p.2.1 p.2.2.1 p.2.2.2.1 p.2.2.2.2.1 p.2.2.2.2.2.1 p.2.2.2.2.2.2.1 p.2.2.2.2.2.2.2) (C:=fun f p=>c_Z46 (fun x0 x1 x2 x3 x4 x5 x6 x7=>f (x0,x1,x2,x3,x4,x5,x6,x7)) p.1 p.2.1 p.2.2.1 p.2.2.2.1 p.2.2.2.2.1 p.2.2.2.2.2.1 p.2.2.2.2.2.2.1 p.2.2.2.2.2.2.2 some) (fun _=>rfl) (fun _ _=>rfl) (fun hD f fs h p=>by
  unfold c_Z46
  repeat' first | exact Lim.const hD | exact h _ | apply Lim.ite | apply Lim.cond | apply Lim.bind hD | apply Lim.sum | intro _) (x0,x1,x2,x3,x4,x5,x6,x7)
theorem Z53_fx (x0:List D) (x1 x2:Int) (x3 x4:List D):Z53 x0 x1 x2 x3 x4=c_Z53 (Z53) x0 x1 x2 x3 x4 some:=
 J8 (N:=fun n (p:List D×Int×Int×List D×List D)=>n_Z53 n p.1 p.2.1 p.2.2.1 p.2.2.2.1 p.2.2.2.2) (C:=fun f p=>c_Z53 (fun x0 x1 x2 x3 x4=>f (x0,x1,x2,x3,x4)) p.1 p.2.1 p.2.2.1 p.2.2.2.1 p.2.2.2.2 some) (fun _=>rfl) (fun _ _=>rfl) (fun hD f fs h p=>by
  unfold c_Z53
  repeat' first | exact Lim.const hD | exact h _ | apply Lim.ite | apply Lim.cond | apply Lim.bind hD | apply Lim.sum | intro _) (x0,x1,x2,x3,x4)
theorem Z55_fx (x0:List D) (x1 x2 x3:Int):Z55 x0 x1 x2 x3=c_Z55 (Z55) x0 x1 x2 x3 some:=
 J8 (N:=fun n (p:List D×Int×Int×Int)=>n_Z55 n p.1 p.2.1 p.2.2.1 p.2.2.2) (C:=fun f p=>c_Z55 (fun x0 x1 x2 x3=>f (x0,x1,x2,x3)) p.1 p.2.1 p.2.2.1 p.2.2.2 some) (fun _=>rfl) (fun _ _=>rfl) (fun hD f fs h p=>by
  unfold c_Z55
  repeat' first | exact Lim.const hD | exact h _ | apply Lim.ite | apply Lim.cond | apply Lim.bind hD | apply Lim.sum | intro _) (x0,x1,x2,x3)
theorem Z63_fx (x0:List D) (x1 x2:Int) (x3 x4:List D):Z63 x0 x1 x2 x3 x4=c_Z63 (Z63) x0 x1 x2 x3 x4 some:=
 J8 (N:=fun n (p:List D×Int×Int×List D×List D)=>n_Z63 n p.1 p.2.1 p.2.2.1 p.2.2.2.1 p.2.2.2.2) (C:=fun f p=>c_Z63 (fun x0 x1 x2 x3 x4=>f (x0,x1,x2,x3,x4)) p.1 p.2.1 p.2.2.1 p.2.2.2.1 p.2.2.2.2 some) (fun _=>rfl) (fun _ _=>rfl) (fun hD f fs h p=>by
  unfold c_Z63
  repeat' first | exact Lim.const hD | exact h _ | apply Lim.ite | apply Lim.cond | apply Lim.bind hD | apply Lim.sum | intro _) (x0,x1,x2,x3,x4)
theorem Z65_fx (x0 x1 x2:Int) (x3:List D):Z65 x0 x1 x2 x3=c_Z65 (Z65) x0 x1 x2 x3 some:=
 J8 (N:=fun n (p:Int×Int×Int×List D)=>n_Z65 n p.1 p.2.1 p.2.2.1 p.2.2.2) (C:=fun f p=>c_Z65 (fun x0 x1 x2 x3=>f (x0,x1,x2,x3)) p.1 p.2.1 p.2.2.1 p.2.2.2 some) (fun _=>rfl) (fun _ _=>rfl) (fun hD f fs h p=>by
  unfold c_Z65
  repeat' first | exact Lim.const hD | exact h _ | apply Lim.ite | apply Lim.cond | apply Lim.bind hD | apply Lim.sum | intro _) (x0,x1,x2,x3)
theorem Z67_fx (x0:Int) (x1:List D) (x2 x3:Int) (x4 x5 x6 x7 x8:List D):Z67 x0 x1 x2 x3 x4 x5 x6 x7 x8=c_Z67 (Z67) x0 x1 x2 x3 x4 x5 x6 x7 x8 some:=
 J8 (N:=fun n (p:Int×List D×Int×Int×List D×List D×List D×List D×List D)=>n_Z67 n p.1 p.2.1 p.2.2.1 p.2.2.2.1 p.2.2.2.2.1 p.2.2.2.2.2.1 p.2.2.2.2.2.2.1 p.2.2.2.2.2.2.2.1 p.2.2.2.2.2.2.2.2) (C:=fun f p=>c_Z67 (fun x0 x1 x2 x3 x4 x5 x6 x7 x8=>f (x0,x1,x2,x3,x4,x5,x6,x7,x8)) p.1 p.2.1 p.2.2.1 p.2.2.2.1 p.2.2.2.2.1 p.2.2.2.2.2.1 p.2.2.2.2.2.2.1 p.2.2.2.2.2.2.2.1 p.2.2.2.2.2.2.2.2 some) (fun _=>rfl) (fun _ _=>rfl) (fun hD f fs h p=>by
  unfold c_Z67
  repeat' first | exact Lim.const hD | exact h _ | apply Lim.ite | apply Lim.cond | apply Lim.bind hD | apply Lim.sum | intro _) (x0,x1,x2,x3,x4,x5,x6,x7,x8)
theorem Z68_fx (x0:Int) (x1:List D) (x2 x3:Int) (x4 x5 x6 x7 x8:List D):Z68 x0 x1 x2 x3 x4 x5 x6 x7 x8=c_Z68 (Z68) x0 x1 x2 x3 x4 x5 x6 x7 x8 some:=
 J8 (N:=fun n (p:Int×List D×Int×Int×List D×List D×List D×List D×List D)=>n_Z68 n p.1 p.2.1 p.2.2.1 p.2.2.2.1 p.2.2.2.2.1 p.2.2.2.2.2.1 p.2.2.2.2.2.2.1 p.2.2.2.2.2.2.2.1 p.2.2.2.2.2.2.2.2) (C:=fun f p=>c_Z68 (fun x0 x1 x2 x3 x4 x5 x6 x7 x8=>f (x0,x1,x2,x3,x4,x5,x6,x7,x8)) p.1 p.2.1 p.2.2.1 p.2.2.2.1 p.2.2.2.2.1 p.2.2.2.2.2.1 p.2.2.2.2.2.2.1 p.2.2.2.2.2.2.2.1 p.2.2.2.2.2.2.2.2 some) (fun _=>rfl) (fun _ _=>rfl) (fun hD f fs h p=>by
  unfold c_Z68
  repeat' first | exact Lim.const hD | exact h _ | apply Lim.ite | apply Lim.cond | apply Lim.bind hD | apply Lim.sum | intro _) (x0,x1,x2,x3,x4,x5,x6,x7,x8)
theorem Z69_fx (x0:Int) (x1:List D) (x2 x3:Int) (x4 x5 x6 x7 x8:List D):Z69 x0 x1 x2 x3 x4 x5 x6 x7 x8=c_Z69 (Z69) x0 x1 x2 x3 x4 x5 x6 x7 x8 some:=
 J8 (N:=fun n (p:Int×List D×Int×Int×List D×List D×List D×List D×List D)=>n_Z69 n p.1 p.2.1 p.2.2.1 p.2.2.2.1 p.2.2.2.2.1 p.2.2.2.2.2.1 p.2.2.2.2.2.2.1 p.2.2.2.2.2.2.2.1 p.2.2.2.2.2.2.2.2) (C:=fun f p=>c_Z69 (fun x0 x1 x2 x3 x4 x5 x6 x7 x8=>f (x0,x1,x2,x3,x4,x5,x6,x7,x8)) p.1 p.2.1 p.2.2.1 p.2.2.2.1 p.2.2.2.2.1 p.2.2.2.2.2.1 p.2.2.2.2.2.2.1 p.2.2.2.2.2.2.2.1 p.2.2.2.2.2.2.2.2 some) (fun _=>rfl) (fun _ _=>rfl) (fun hD f fs h p=>by
  unfold c_Z69
  repeat' first | exact Lim.const hD | exact h _ | apply Lim.ite | apply Lim.cond | apply Lim.bind hD | apply Lim.sum | intro _) (x0,x1,x2,x3,x4,x5,x6,x7,x8)
theorem Z70_fx (x0 x1 x2 x3 x4 x5 x6 x7 x8:Int) (x9 x10 x11:List D):Z70 x0 x1 x2 x3 x4 x5 x6 x7 x8 x9 x10 x11=c_Z70 (Z70) x0 x1 x2 x3 x4 x5 x6 x7 x8 x9 x10 x11 some:=
 J8 (N:=fun n (p:Int×Int×Int×Int×Int×Int×Int×Int×Int×List D×List D×List D)=>n_Z70 n p.1 p.2.1 p.2.2.1 p.2.2.2.1 p.2.2.2.2.1 p.2.2.2.2.2.1 p.2.2.2.2.2.2.1 p.2.2.2.2.2.2.2.1 p.2.2.2.2.2.2.2.2.1 p.2.2.2.2.2.2.2.2.2.1 p.2.2.2.2.2.2.2.2.2.2.1 p.2.2.2.2.2.2.2.2.2.2.2) (C:=fun f p=>c_Z70 (fun x0 x1 x2 x3 x4 x5 x6 x7 x8 x9 x10 x11=>f (x0,x1,x2,x3,x4,x5,x6,x7,x8,x9,x10,x11)) p.1 p.2.1 p.2.2.1 p.2.2.2.1 p.2.2.2.2.1 p.2.2.2.2.2.1 p.2.2.2.2.2.2.1 p.2.2.2.2.2.2.2.1 p.2.2.2.2.2.2.2.2.1 p.2.2.2.2.2.2.2.2.2.1 p.2.2.2.2.2.2.2.2.2.2.1 p.2.2.2.2.2.2.2.2.2.2.2 some) (fun _=>rfl) (fun _ _=>rfl) (fun hD f fs h p=>by
  unfold c_Z70
  repeat' first | exact Lim.const hD | exact h _ | apply Lim.ite | apply Lim.cond | apply Lim.bind hD | apply Lim.sum | intro _) (x0,x1,x2,x3,x4,x5,x6,x7,x8,x9,x10,x11)
theorem Z71_fx (x0 x1 x2 x3 x4 x5:Int) (x6 x7 x8:List D):Z71 x0 x1 x2 x3 x4 x5 x6 x7 x8=c_Z71 (Z71) x0 x1 x2 x3 x4 x5 x6 x7 x8 some:=
 J8 (N:=fun n (p:Int×Int×Int×Int×Int×Int×List D×List D×List D)=>n_Z71 n p.1 p.2.1 p.2.2.1 p.2.2.2.1 p.2.2.2.2.1 p.2.2.2.2.2.1 p.2.2.2.2.2.2.1 p.2.2.2.2.2.2.2.1 p.2.2.2.2.2.2.2.2) (C:=fun f p=>c_Z71 (fun x0 x1 x2 x3 x4 x5 x6 x7 x8=>f (x0,x1,x2,x3,x4,x5,x6,x7,x8)) p.1 p.2.1 p.2.2.1 p.2.2.2.1 p.2.2.2.2.1 p.2.2.2.2.2.1 p.2.2.2.2.2.2.1 p.2.2.2.2.2.2.2.1 p.2.2.2.2.2.2.2.2 some) (fun _=>rfl) (fun _ _=>rfl) (fun hD f fs h p=>by
  unfold c_Z71
  repeat' first | exact Lim.const hD | exact h _ | apply Lim.ite | apply Lim.cond | apply Lim.bind hD | apply Lim.sum | intro _) (x0,x1,x2,x3,x4,x5,x6,x7,x8)
theorem Z72_fx (x0 x1 x2:Int) (x3 x4 x5:List D):Z72 x0 x1 x2 x3 x4 x5=c_Z72 (Z72) x0 x1 x2 x3 x4 x5 some:=
 J8 (N:=fun n (p:Int×Int×Int×List D×List D×List D)=>n_Z72 n p.1 p.2.1 p.2.2.1 p.2.2.2.1 p.2.2.2.2.1 p.2.2.2.2.2) (C:=fun f p=>c_Z72 (fun x0 x1 x2 x3 x4 x5=>f (x0,x1,x2,x3,x4,x5)) p.1 p.2.1 p.2.2.1 p.2.2.2.1 p.2.2.2.2.1 p.2.2.2.2.2 some) (fun _=>rfl) (fun _ _=>rfl) (fun hD f fs h p=>by
  unfold c_Z72
  repeat' first | exact Lim.const hD | exact h _ | apply Lim.ite | apply Lim.cond | apply Lim.bind hD | apply Lim.sum | intro _) (x0,x1,x2,x3,x4,x5)
theorem Z73_fx (x0:Int) (x1:List D) (x2 x3:Int) (x4 x5 x6 x7 x8:List D):Z73 x0 x1 x2 x3 x4 x5 x6 x7 x8=c_Z73 (Z73) x0 x1 x2 x3 x4 x5 x6 x7 x8 some:=
 J8 (N:=fun n (p:Int×List D×Int×Int×List D×List D×List D×List D×List D)=>n_Z73 n p.1 p.2.1 p.2.2.1 p.2.2.2.1 p.2.2.2.2.1 p.2.2.2.2.2.1 p.2.2.2.2.2.2.1 p.2.2.2.2.2.2.2.1 p.2.2.2.2.2.2.2.2) (C:=fun f p=>c_Z73 (fun x0 x1 x2 x3 x4 x5 x6 x7 x8=>f (x0,x1,x2,x3,x4,x5,x6,x7,x8)) p.1 p.2.1 p.2.2.1 p.2.2.2.1 p.2.2.2.2.1 p.2.2.2.2.2.1 p.2.2.2.2.2.2.1 p.2.2.2.2.2.2.2.1 p.2.2.2.2.2.2.2.2 some) (fun _=>rfl) (fun _ _=>rfl) (fun hD f fs h p=>by
  unfold c_Z73
  repeat' first | exact Lim.const hD | exact h _ | apply Lim.ite | apply Lim.cond | apply Lim.bind hD | apply Lim.sum | intro _) (x0,x1,x2,x3,x4,x5,x6,x7,x8)
theorem Z76_fx (x0 x1 x2:Int) (x3 x4 x5:List D):Z76 x0 x1 x2 x3 x4 x5=c_Z76 (Z76) x0 x1 x2 x3 x4 x5 some:=
 J8 (N:=fun n (p:Int×Int×Int×List D×List D×List D)=>n_Z76 n p.1 p.2.1 p.2.2.1 p.2.2.2.1 p.2.2.2.2.1 p.2.2.2.2.2) (C:=fun f p=>c_Z76 (fun x0 x1 x2 x3 x4 x5=>f (x0,x1,x2,x3,x4,x5)) p.1 p.2.1 p.2.2.1 p.2.2.2.1 p.2.2.2.2.1 p.2.2.2.2.2 some) (fun _=>rfl) (fun _ _=>rfl) (fun hD f fs h p=>by
  unfold c_Z76
  repeat' first | exact Lim.const hD | exact h _ | apply Lim.ite | apply Lim.cond | apply Lim.bind hD | apply Lim.sum | intro _) (x0,x1,x2,x3,x4,x5)
theorem Z78_fx (x0 x1 x2:List D) (x3 x4:Int):Z78 x0 x1 x2 x3 x4=c_Z78 (Z78) x0 x1 x2 x3 x4 some:=
 J8 (N:=fun n (p:List D×List D×List D×Int×Int)=>n_Z78 n p.1 p.2.1 p.2.2.1 p.2.2.2.1 p.2.2.2.2) (C:=fun f p=>c_Z78 (fun x0 x1 x2 x3 x4=>f (x0,x1,x2,x3,x4)) p.1 p.2.1 p.2.2.1 p.2.2.2.1 p.2.2.2.2 some) (fun _=>rfl) (fun _ _=>rfl) (fun hD f fs h p=>by
  unfold c_Z78
  repeat' first | exact Lim.const hD | exact h _ | apply Lim.ite | apply Lim.cond | apply Lim.bind hD | apply Lim.sum | intro _) (x0,x1,x2,x3,x4)
theorem Z83_fx (x0:Int) (x1:List D):Z83 x0 x1=c_Z83 (Z83) x0 x1 some:=
 J8 (N:=fun n (p:Int×List D)=>n_Z83 n p.1 p.2) (C:=fun f p=>c_Z83 (fun x0 x1=>f (x0,x1)) p.1 p.2 some) (fun _=>rfl) (fun _ _=>rfl) (fun hD f fs h p=>by
  unfold c_Z83
  repeat' first | exact Lim.const hD | exact h _ | apply Lim.ite | apply Lim.cond | apply Lim.bind hD | apply Lim.sum | intro _) (x0,x1)
theorem Z87_fx (x0 x1:List D) (x2 x3:Int) (x4 x5 x6 x7 x8 x9:List D):Z87 x0 x1 x2 x3 x4 x5 x6 x7 x8 x9=c_Z87 (Z87) x0 x1 x2 x3 x4 x5 x6 x7 x8 x9 some:=
 J8 (N:=fun n (p:List D×List D×Int×Int×List D×List D×List D×List D×List D×List D)=>n_Z87 n p.1 p.2.1 p.2.2.1 p.2.2.2.1 p.2.2.2.2.1 p.2.2.2.2.2.1 p.2.2.2.2.2.2.1 p.2.2.2.2.2.2.2.1 p.2.2.2.2.2.2.2.2.1 p.2.2.2.2.2.2.2.2.2) (C:=fun f p=>c_Z87 (fun x0 x1 x2 x3 x4 x5 x6 x7 x8 x9=>f (x0,x1,x2,x3,x4,x5,x6,x7,x8,x9)) p.1 p.2.1 p.2.2.1 p.2.2.2.1 p.2.2.2.2.1 p.2.2.2.2.2.1 p.2.2.2.2.2.2.1 p.2.2.2.2.2.2.2.1 p.2.2.2.2.2.2.2.2.1 p.2.2.2.2.2.2.2.2.2 some) (fun _=>rfl) (fun _ _=>rfl) (fun hD f fs h p=>by
  unfold c_Z87
  repeat' first | exact Lim.const hD | exact h _ | apply Lim.ite | apply Lim.cond | apply Lim.bind hD | apply Lim.sum | intro _) (x0,x1,x2,x3,x4,x5,x6,x7,x8,x9)
theorem Z91_fx (x0:List D) (x1:Int) (x2:List D) (x3 x4:Int) (x5:List D) (x6 x7:Int) (x8:List D):Z91 x0 x1 x2 x3 x4 x5 x6 x7 x8=c_Z91 (Z91) x0 x1 x2 x3 x4 x5 x6 x7 x8 some:=
 J8 (N:=fun n (p:List D×Int×List D×Int×Int×List D×Int×Int×List D)=>n_Z91 n p.1 p.2.1 p.2.2.1 p.2.2.2.1 p.2.2.2.2.1 p.2.2.2.2.2.1 p.2.2.2.2.2.2.1 p.2.2.2.2.2.2.2.1 p.2.2.2.2.2.2.2.2) (C:=fun f p=>c_Z91 (fun x0 x1 x2 x3 x4 x5 x6 x7 x8=>f (x0,x1,x2,x3,x4,x5,x6,x7,x8)) p.1 p.2.1 p.2.2.1 p.2.2.2.1 p.2.2.2.2.1 p.2.2.2.2.2.1 p.2.2.2.2.2.2.1 p.2.2.2.2.2.2.2.1 p.2.2.2.2.2.2.2.2 some) (fun _=>rfl) (fun _ _=>rfl) (fun hD f fs h p=>by
  unfold c_Z91
  repeat' first | exact Lim.const hD | exact h _ | apply Lim.ite | apply Lim.cond | apply Lim.bind hD | apply Lim.sum | intro _) (x0,x1,x2,x3,x4,x5,x6,x7,x8)
theorem Z92_fx (x0 x1:List D) (x2 x3:Int) (x4:List D):Z92 x0 x1 x2 x3 x4=c_Z92 (Z92) x0 x1 x2 x3 x4 some:=
 J8 (N:=fun n (p:List D×List D×Int×Int×List D)=>n_Z92 n p.1 p.2.1 p.2.2.1 p.2.2.2.1 p.2.2.2.2) (C:=fun f p=>c_Z92 (fun x0 x1 x2 x3 x4=>f (x0,x1,x2,x3,x4)) p.1 p.2.1 p.2.2.1 p.2.2.2.1 p.2.2.2.2 some) (fun _=>rfl) (fun _ _=>rfl) (fun hD f fs h p=>by
  unfold c_Z92
  repeat' first | exact Lim.const hD | exact h _ | apply Lim.ite | apply Lim.cond | apply Lim.bind hD | apply Lim.sum | intro _) (x0,x1,x2,x3,x4)
theorem Z94_fx (x0:List D) (x1 x2:Int):Z94 x0 x1 x2=c_Z94 (Z94) x0 x1 x2 some:=
 J8 (N:=fun n (p:List D×Int×Int)=>n_Z94 n p.1 p.2.1 p.2.2) (C:=fun f p=>c_Z94 (fun x0 x1 x2=>f (x0,x1,x2)) p.1 p.2.1 p.2.2 some) (fun _=>rfl) (fun _ _=>rfl) (fun hD f fs h p=>by
  unfold c_Z94
  repeat' first | exact Lim.const hD | exact h _ | apply Lim.ite | apply Lim.cond | apply Lim.bind hD | apply Lim.sum | intro _) (x0,x1,x2)
theorem Z99_fx (x0 x1 x2:Int) (x3:Nat) (x4 x5:Int) (x6 x7 x8 x9:List D):Z99 x0 x1 x2 x3 x4 x5 x6 x7 x8 x9=c_Z99 (Z99) x0 x1 x2 x3 x4 x5 x6 x7 x8 x9 some:=
 J8 (N:=fun n (p:Int×Int×Int×Nat×Int×Int×List D×List D×List D×List D)=>n_Z99 n p.1 p.2.1 p.2.2.1 p.2.2.2.1 p.2.2.2.2.1 p.2.2.2.2.2.1 p.2.2.2.2.2.2.1 p.2.2.2.2.2.2.2.1 p.2.2.2.2.2.2.2.2.1 p.2.2.2.2.2.2.2.2.2) (C:=fun f p=>c_Z99 (fun x0 x1 x2 x3 x4 x5 x6 x7 x8 x9=>f (x0,x1,x2,x3,x4,x5,x6,x7,x8,x9)) p.1 p.2.1 p.2.2.1 p.2.2.2.1 p.2.2.2.2.1 p.2.2.2.2.2.1 p.2.2.2.2.2.2.1 p.2.2.2.2.2.2.2.1 p.2.2.2.2.2.2.2.2.1 p.2.2.2.2.2.2.2.2.2 some) (fun _=>rfl) (fun _ _=>rfl) (fun hD f fs h p=>by
  unfold c_Z99
  repeat' first | exact Lim.const hD | exact h _ | apply Lim.ite | apply Lim.cond | apply Lim.bind hD | apply Lim.sum | intro _) (x0,x1,x2,x3,x4,x5,x6,x7,x8,x9)
theorem Z100_fx (x0 x1:Int) (x2 x3 x4 x5:List D):Z100 x0 x1 x2 x3 x4 x5=c_Z100 (Z100) x0 x1 x2 x3 x4 x5 some:=
 J8 (N:=fun n (p:Int×Int×List D×List D×List D×List D)=>n_Z100 n p.1 p.2.1 p.2.2.1 p.2.2.2.1 p.2.2.2.2.1 p.2.2.2.2.2) (C:=fun f p=>c_Z100 (fun x0 x1 x2 x3 x4 x5=>f (x0,x1,x2,x3,x4,x5)) p.1 p.2.1 p.2.2.1 p.2.2.2.1 p.2.2.2.2.1 p.2.2.2.2.2 some) (fun _=>rfl) (fun _ _=>rfl) (fun hD f fs h p=>by
  unfold c_Z100
  repeat' first | exact Lim.const hD | exact h _ | apply Lim.ite | apply Lim.cond | apply Lim.bind hD | apply Lim.sum | intro _) (x0,x1,x2,x3,x4,x5)
theorem Z104_fx (x0:List D) (x1:Int) (x2 x3:List D):Z104 x0 x1 x2 x3=c_Z104 (Z104) x0 x1 x2 x3 some:=
 J8 (N:=fun n (p:List D×Int×List D×List D)=>n_Z104 n p.1 p.2.1 p.2.2.1 p.2.2.2) (C:=fun f p=>c_Z104 (fun x0 x1 x2 x3=>f (x0,x1,x2,x3)) p.1 p.2.1 p.2.2.1 p.2.2.2 some) (fun _=>rfl) (fun _ _=>rfl) (fun hD f fs h p=>by
  unfold c_Z104
  repeat' first | exact Lim.const hD | exact h _ | apply Lim.ite | apply Lim.cond | apply Lim.bind hD | apply Lim.sum | intro _) (x0,x1,x2,x3)
theorem Z106_fx (x0:List D) (x1 x2:Int) (x3 x4 x5:List D) (x6 x7:Int):Z106 x0 x1 x2 x3 x4 x5 x6 x7=c_Z106 (Z106) x0 x1 x2 x3 x4 x5 x6 x7 some:=
 J8 (N:=fun n (p:List D×Int×Int×List D×List D×List D×Int×Int)=>n_Z106 n p.1 p.2.1 p.2.2.1 p.2.2.2.1 p.2.2.2.2.1 p.2.2.2.2.2.1 p.2.2.2.2.2.2.1 p.2.2.2.2.2.2.2) (C:=fun f p=>c_Z106 (fun x0 x1 x2 x3 x4 x5 x6 x7=>f (x0,x1,x2,x3,x4,x5,x6,x7)) p.1 p.2.1 p.2.2.1 p.2.2.2.1 p.2.2.2.2.1 p.2.2.2.2.2.1 p.2.2.2.2.2.2.1 p.2.2.2.2.2.2.2 some) (fun _=>rfl) (fun _ _=>rfl) (fun hD f fs h p=>by
  unfold c_Z106
  repeat' first | exact Lim.const hD | exact h _ | apply Lim.ite | apply Lim.cond | apply Lim.bind hD | apply Lim.sum | intro _) (x0,x1,x2,x3,x4,x5,x6,x7)
theorem Z107_fx (x0:List D) (x1:Int) (x2 x3 x4:List D):Z107 x0 x1 x2 x3 x4=c_Z107 (Z107) x0 x1 x2 x3 x4 some:=
 J8 (N:=fun n (p:List D×Int×List D×List D×List D)=>n_Z107 n p.1 p.2.1 p.2.2.1 p.2.2.2.1 p.2.2.2.2) (C:=fun f p=>c_Z107 (fun x0 x1 x2 x3 x4=>f (x0,x1,x2,x3,x4)) p.1 p.2.1 p.2.2.1 p.2.2.2.1 p.2.2.2.2 some) (fun _=>rfl) (fun _ _=>rfl) (fun hD f fs h p=>by
  unfold c_Z107
  repeat' first | exact Lim.const hD | exact h _ | apply Lim.ite | apply Lim.cond | apply Lim.bind hD | apply Lim.sum | intro _) (x0,x1,x2,x3,x4)
theorem Z111_fx (x0:Bool) (x1 x2:Int) (x3 x4 x5:List D) (x6 x7:Int):Z111 x0 x1 x2 x3 x4 x5 x6 x7=c_Z111 (Z111) x0 x1 x2 x3 x4 x5 x6 x7 some:=
 J8 (N:=fun n (p:Bool×Int×Int×List D×List D×List D×Int×Int)=>n_Z111 n p.1 p.2.1 p.2.2.1 p.2.2.2.1 p.2.2.2.2.1 p.2.2.2.2.2.1 p.2.2.2.2.2.2.1 p.2.2.2.2.2.2.2) (C:=fun f p=>c_Z111 (fun x0 x1 x2 x3 x4 x5 x6 x7=>f (x0,x1,x2,x3,x4,x5,x6,x7)) p.1 p.2.1 p.2.2.1 p.2.2.2.1 p.2.2.2.2.1 p.2.2.2.2.2.1 p.2.2.2.2.2.2.1 p.2.2.2.2.2.2.2 some) (fun _=>rfl) (fun _ _=>rfl) (fun hD f fs h p=>by
  unfold c_Z111
  repeat' first | exact Lim.const hD | exact h _ | apply Lim.ite | apply Lim.cond | apply Lim.bind hD | apply Lim.sum | intro _) (x0,x1,x2,x3,x4,x5,x6,x7)
theorem Z112_fx (x0:Bool) (x1:Int) (x2 x3 x4:List D):Z112 x0 x1 x2 x3 x4=c_Z112 (Z112) x0 x1 x2 x3 x4 some:=
 J8 (N:=fun n (p:Bool×Int×List D×List D×List D)=>n_Z112 n p.1 p.2.1 p.2.2.1 p.2.2.2.1 p.2.2.2.2) (C:=fun f p=>c_Z112 (fun x0 x1 x2 x3 x4=>f (x0,x1,x2,x3,x4)) p.1 p.2.1 p.2.2.1 p.2.2.2.1 p.2.2.2.2 some) (fun _=>rfl) (fun _ _=>rfl) (fun hD f fs h p=>by
  unfold c_Z112
  repeat' first | exact Lim.const hD | exact h _ | apply Lim.ite | apply Lim.cond | apply Lim.bind hD | apply Lim.sum | intro _) (x0,x1,x2,x3,x4)
theorem Z117_fx (x0:List D) (x1 x2:Int) (x3:List D):Z117 x0 x1 x2 x3=c_Z117 (Z117) x0 x1 x2 x3 some:=
 J8 (N:=fun n (p:List D×Int×Int×List D)=>n_Z117 n p.1 p.2.1 p.2.2.1 p.2.2.2) (C:=fun f p=>c_Z117 (fun x0 x1 x2 x3=>f (x0,x1,x2,x3)) p.1 p.2.1 p.2.2.1 p.2.2.2 some) (fun _=>rfl) (fun _ _=>rfl) (fun hD f fs h p=>by
  unfold c_Z117
  repeat' first | exact Lim.const hD | exact h _ | apply Lim.ite | apply Lim.cond | apply Lim.bind hD | apply Lim.sum | intro _) (x0,x1,x2,x3)
theorem Z121_fx (x0:List D) (x1 x2:Int) (x3:List D):Z121 x0 x1 x2 x3=c_Z121 (Z121) x0 x1 x2 x3 some:=
 J8 (N:=fun n (p:List D×Int×Int×List D)=>n_Z121 n p.1 p.2.1 p.2.2.1 p.2.2.2) (C:=fun f p=>c_Z121 (fun x0 x1 x2 x3=>f (x0,x1,x2,x3)) p.1 p.2.1 p.2.2.1 p.2.2.2 some) (fun _=>rfl) (fun _ _=>rfl) (fun hD f fs h p=>by
  unfold c_Z121
  repeat' first | exact Lim.const hD | exact h _ | apply Lim.ite | apply Lim.cond | apply Lim.bind hD | apply Lim.sum | intro _) (x0,x1,x2,x3)
theorem Z125_fx (x0:List D) (x1 x2:Int):Z125 x0 x1 x2=c_Z125 (Z125) x0 x1 x2 some:=
 J8 (N:=fun n (p:List D×Int×Int)=>n_Z125 n p.1 p.2.1 p.2.2) (C:=fun f p=>c_Z125 (fun x0 x1 x2=>f (x0,x1,x2)) p.1 p.2.1 p.2.2 some) (fun _=>rfl) (fun _ _=>rfl) (fun hD f fs h p=>by
  unfold c_Z125
  repeat' first | exact Lim.const hD | exact h _ | apply Lim.ite | apply Lim.cond | apply Lim.bind hD | apply Lim.sum | intro _) (x0,x1,x2)
theorem Z129_fx (x0:List D) (x1:Int) (x2:List D) (x3 x4:Int) (x5:Nat) (x6 x7:Int) (x8 x9 x10 x11:List D):Z129 x0 x1 x2 x3 x4 x5 x6 x7 x8 x9 x10 x11=c_Z129 (Z129) x0 x1 x2 x3 x4 x5 x6 x7 x8 x9 x10 x11 some:=
 J8 (N:=fun n (p:List D×Int×List D×Int×Int×Nat×Int×Int×List D×List D×List D×List D)=>n_Z129 n p.1 p.2.1 p.2.2.1 p.2.2.2.1 p.2.2.2.2.1 p.2.2.2.2.2.1 p.2.2.2.2.2.2.1 p.2.2.2.2.2.2.2.1 p.2.2.2.2.2.2.2.2.1 p.2.2.2.2.2.2.2.2.2.1 p.2.2.2.2.2.2.2.2.2.2.1 p.2.2.2.2.2.2.2.2.2.2.2) (C:=fun f p=>c_Z129 (fun x0 x1 x2 x3 x4 x5 x6 x7 x8 x9 x10 x11=>f (x0,x1,x2,x3,x4,x5,x6,x7,x8,x9,x10,x11)) p.1 p.2.1 p.2.2.1 p.2.2.2.1 p.2.2.2.2.1 p.2.2.2.2.2.1 p.2.2.2.2.2.2.1 p.2.2.2.2.2.2.2.1 p.2.2.2.2.2.2.2.2.1 p.2.2.2.2.2.2.2.2.2.1 p.2.2.2.2.2.2.2.2.2.2.1 p.2.2.2.2.2.2.2.2.2.2.2 some) (fun _=>rfl) (fun _ _=>rfl) (fun hD f fs h p=>by
  unfold c_Z129
  repeat' first | exact Lim.const hD | exact h _ | apply Lim.ite | apply Lim.cond | apply Lim.bind hD | apply Lim.sum | intro _) (x0,x1,x2,x3,x4,x5,x6,x7,x8,x9,x10,x11)
theorem Z130_fx (x0 x1:List D) (x2 x3:Int) (x4 x5 x6 x7:List D):Z130 x0 x1 x2 x3 x4 x5 x6 x7=c_Z130 (Z130) x0 x1 x2 x3 x4 x5 x6 x7 some:=
 J8 (N:=fun n (p:List D×List D×Int×Int×List D×List D×List D×List D)=>n_Z130 n p.1 p.2.1 p.2.2.1 p.2.2.2.1 p.2.2.2.2.1 p.2.2.2.2.2.1 p.2.2.2.2.2.2.1 p.2.2.2.2.2.2.2) (C:=fun f p=>c_Z130 (fun x0 x1 x2 x3 x4 x5 x6 x7=>f (x0,x1,x2,x3,x4,x5,x6,x7)) p.1 p.2.1 p.2.2.1 p.2.2.2.1 p.2.2.2.2.1 p.2.2.2.2.2.1 p.2.2.2.2.2.2.1 p.2.2.2.2.2.2.2 some) (fun _=>rfl) (fun _ _=>rfl) (fun hD f fs h p=>by
  unfold c_Z130
  repeat' first | exact Lim.const hD | exact h _ | apply Lim.ite | apply Lim.cond | apply Lim.bind hD | apply Lim.sum | intro _) (x0,x1,x2,x3,x4,x5,x6,x7)
theorem Z132_fx (x0:List D) (x1 x2:Int):Z132 x0 x1 x2=c_Z132 (Z132) x0 x1 x2 some:=
 J8 (N:=fun n (p:List D×Int×Int)=>n_Z132 n p.1 p.2.1 p.2.2) (C:=fun f p=>c_Z132 (fun x0 x1 x2=>f (x0,x1,x2)) p.1 p.2.1 p.2.2 some) (fun _=>rfl) (fun _ _=>rfl) (fun hD f fs h p=>by
  unfold c_Z132
  repeat' first | exact Lim.const hD | exact h _ | apply Lim.ite | apply Lim.cond | apply Lim.bind hD | apply Lim.sum | intro _) (x0,x1,x2)
theorem Z134_fx (x0:List D) (x1 x2:Int):Z134 x0 x1 x2=c_Z134 (Z134) x0 x1 x2 some:=
 J8 (N:=fun n (p:List D×Int×Int)=>n_Z134 n p.1 p.2.1 p.2.2) (C:=fun f p=>c_Z134 (fun x0 x1 x2=>f (x0,x1,x2)) p.1 p.2.1 p.2.2 some) (fun _=>rfl) (fun _ _=>rfl) (fun hD f fs h p=>by
  unfold c_Z134
  repeat' first | exact Lim.const hD | exact h _ | apply Lim.ite | apply Lim.cond | apply Lim.bind hD | apply Lim.sum | intro _) (x0,x1,x2)
theorem Z137_fx (x0 x1 x2:Int) (x3 x4 x5:List D):Z137 x0 x1 x2 x3 x4 x5=c_Z137 (Z137) x0 x1 x2 x3 x4 x5 some:=
 J8 (N:=fun n (p:Int×Int×Int×List D×List D×List D)=>n_Z137 n p.1 p.2.1 p.2.2.1 p.2.2.2.1 p.2.2.2.2.1 p.2.2.2.2.2) (C:=fun f p=>c_Z137 (fun x0 x1 x2 x3 x4 x5=>f (x0,x1,x2,x3,x4,x5)) p.1 p.2.1 p.2.2.1 p.2.2.2.1 p.2.2.2.2.1 p.2.2.2.2.2 some) (fun _=>rfl) (fun _ _=>rfl) (fun hD f fs h p=>by
  unfold c_Z137
  repeat' first | exact Lim.const hD | exact h _ | apply Lim.ite | apply Lim.cond | apply Lim.bind hD | apply Lim.sum | intro _) (x0,x1,x2,x3,x4,x5)
theorem Z138_fx (x0 x1:Int) (x2 x3 x4:List D):Z138 x0 x1 x2 x3 x4=c_Z138 (Z138) x0 x1 x2 x3 x4 some:=
 J8 (N:=fun n (p:Int×Int×List D×List D×List D)=>n_Z138 n p.1 p.2.1 p.2.2.1 p.2.2.2.1 p.2.2.2.2) (C:=fun f p=>c_Z138 (fun x0 x1 x2 x3 x4=>f (x0,x1,x2,x3,x4)) p.1 p.2.1 p.2.2.1 p.2.2.2.1 p.2.2.2.2 some) (fun _=>rfl) (fun _ _=>rfl) (fun hD f fs h p=>by
  unfold c_Z138
  repeat' first | exact Lim.const hD | exact h _ | apply Lim.ite | apply Lim.cond | apply Lim.bind hD | apply Lim.sum | intro _) (x0,x1,x2,x3,x4)
theorem Z139_fx (x0 x1 x2 x3:Int) (x4:List D):Z139 x0 x1 x2 x3 x4=c_Z139 (Z139) x0 x1 x2 x3 x4 some:=
 J8 (N:=fun n (p:Int×Int×Int×Int×List D)=>n_Z139 n p.1 p.2.1 p.2.2.1 p.2.2.2.1 p.2.2.2.2) (C:=fun f p=>c_Z139 (fun x0 x1 x2 x3 x4=>f (x0,x1,x2,x3,x4)) p.1 p.2.1 p.2.2.1 p.2.2.2.1 p.2.2.2.2 some) (fun _=>rfl) (fun _ _=>rfl) (fun hD f fs h p=>by
  unfold c_Z139
  repeat' first | exact Lim.const hD | exact h _ | apply Lim.ite | apply Lim.cond | apply Lim.bind hD | apply Lim.sum | intro _) (x0,x1,x2,x3,x4)
def Tt {ι β:Type} (I:ι→Prop) (P:β→Prop) (e:ι→Option β):Prop:=∃ y,P y∧∀ i,I i→e i=some y
theorem Tt.pure {ι β:Type} {I:ι→Prop} {P:β→Prop} {y:β} (h:P y):Tt I P (fun _=>some y):=⟨y,h,fun _ _=>rfl⟩
theorem Tt.bind {ι α β:Type} {I:ι→Prop} {Q:α→Prop} {P:β→Prop} {t:ι→Option α} {f:α→ι→Option β} (h:Tt I Q t) (k:∀ v,Q v→Tt I P (fun i=>f v i)) :
  Tt I P (fun i=>(t i).bind (fun v=>f v i)):=by
 obtain ⟨v,hv,ht⟩:=h
 obtain ⟨y,hy,hk⟩:=k v hv
 exact ⟨y,hy,fun i hi=>by show (t i).bind _=_; rw [ht i hi]; exact hk i hi⟩
theorem Tt.ite {ι β:Type} {I:ι→Prop} {P:β→Prop} {c:Prop} [Decidable c] {x y:ι→Option β} (h:c) (k:Tt I P x):Tt I P (fun i=>if c then x i else y i):=by
 simpa only [if_pos h] using k
theorem Tt.cnd {ι β:Type} {I:ι→Prop} {P:β→Prop} {b:Bool} {x y:ι→Option β} (h1:b=true→Tt I P x) (h2:b=false→Tt I P y):Tt I P (fun i=>bif b then x i else y i):=by
 cases b with
 | true=>exact h1 rfl
 | false=>exact h2 rfl
theorem Tt.dec {ι β:Type} {I:ι→Prop} {P:β→Prop} {p:Prop} [Decidable p] {x y:ι→Option β} (h1:p→Tt I P x) (h2:¬ p→Tt I P y):Tt I P (fun i=>bif decide p then x i else y i):=
 Tt.cnd (fun h=>h1 (of_decide_eq_true h)) (fun h=>h2 (of_decide_eq_false h))
theorem Tt.ndec {ι β:Type} {I:ι→Prop} {P:β→Prop} {p:Prop} [Decidable p] {x y:ι→Option β} (h1:¬ p→Tt I P x) (h2:p→Tt I P y):Tt I P (fun i=>bif !decide p then x i else y i):=by
 by_cases h:p
 ·simpa only [decide_eq_true h,Bool.not_true,cond_false] using h2 h
 ·simpa only [decide_eq_false h,Bool.not_false,cond_true] using h1 h
theorem Tt.con {ι β:Type} {I:ι→Prop} {Q:β→Prop} {t:Option β} (h:∃ y,t=some y∧Q y):Tt I Q (fun _=>t):=by
 obtain ⟨y,h1,h2⟩:=h
 exact ⟨y,h2,fun _ _=>h1⟩
theorem Tt.mono {ι β:Type} {I J:ι→Prop} {P Q:β→Prop} {e:ι→Option β} (h:Tt I P e) (hI:∀ i,J i→I i) (hP:∀ y,P y→Q y):Tt J Q e:=by
 obtain ⟨y,h1,h2⟩:=h
 exact ⟨y,hP y h1,fun i hi=>h2 i (hI i hi)⟩
theorem Tt.out {β:Type} {P:β→Prop} {t:Option β} (h:Tt (fun _:Unit=>True) P (fun _=>t)):∃ y,t=some y∧P y:=by
 obtain ⟨y,h1,h2⟩:=h
 exact ⟨y,h2 () trivial,h1⟩
theorem Tt.loop {X Y:Type} (N:Nat→X→Option Y) (Inv:X→Prop) (μ:X→Nat) (Post:X→Y→Prop)
  (step:∀ x,Inv x→(∀ x',Inv x'→μ x'<μ x→Tt (fun m=>μ x≤m) (Post x') (fun m=>N m x'))→Tt (fun m=>μ x≤m) (Post x) (fun m=>N (m+1) x)) :
  ∀ x,Inv x→∃ y,ev (fun n=>N n x)=some y∧Post x y:=by
 have key:∀ k x,Inv x→μ x≤k→Tt (fun m=>μ x<m) (Post x) (fun m=>N m x):=by
  intro k
  induction k with
  | zero=>
   intro x hi hk
   obtain ⟨y,h1,h2⟩:=step x hi (fun x' _ h=>absurd h (by omega))
   refine ⟨y,h1,fun m hm=>?_⟩
   obtain ⟨m,rfl⟩:∃ m',m=m'+1:=⟨m - 1,by omega⟩
   exact h2 m (by omega)
  | succ k ih=>
   intro x hi hk
   obtain ⟨y,h1,h2⟩:=step x hi (fun x' hx' h=>(ih x' hx' (by omega)).mono (fun m hm=>by omega) (fun _ h=>h))
   refine ⟨y,h1,fun m hm=>?_⟩
   obtain ⟨m,rfl⟩:∃ m',m=m'+1:=⟨m - 1,by omega⟩
   exact h2 m (by omega)
 intro x hi
 obtain ⟨y,h1,h2⟩:=key (μ x) x hi (Nat.le_refl _)
 exact ⟨y,H3 (μ x+1) (fun m hm=>h2 m (by omega)),h1⟩
theorem wq (n:Int):IntKind.i64.wrap n=(n+9223372036854775808) % 18446744073709551616 - 9223372036854775808:=by
 unfold IntKind.wrap
 simp [IntKind.signed,IntKind.bits]
 omega
def okC (c:List D):Prop:=c.length≤65536∧∀ d∈c,0≤d.toInt∧d.toInt≤255
theorem uwrap (n:Int):IntKind.u64.wrap n=n % 18446744073709551616:=by
 unfold IntKind.wrap
 simp [IntKind.signed,IntKind.bits]
theorem and255 (r:Int):0≤IntKind.i64.wrap (IntKind.u64.wrap (((BitVec.ofInt IntKind.u64.bits r &&& BitVec.ofInt IntKind.u64.bits 255).toNat:Nat):Int))∧IntKind.i64.wrap (IntKind.u64.wrap (((BitVec.ofInt IntKind.u64.bits r &&& BitVec.ofInt IntKind.u64.bits 255).toNat:Nat):Int))≤255:=by
 have h2:(BitVec.ofInt IntKind.u64.bits r &&& BitVec.ofInt IntKind.u64.bits 255).toNat≤(BitVec.ofInt IntKind.u64.bits 255).toNat:=by
  rw [BitVec.toNat_and]; exact Nat.and_le_right
 have h3:(BitVec.ofInt IntKind.u64.bits 255).toNat=255:=by decide
 rw [h3] at h2
 rw [uwrap,wq]
 omega
theorem next_tot (c:List D) (h:okC c) (p s:Int) (hp:0≤p∧p≤1099511627776):∃ y,Z2 c p s=some y∧(0≤y.1∧y.1≤255∧y.2.1=c∧y.2.2.1=p+1):=by
 have hw:IntKind.i64.wrap (p+1)=p+1:=Ux (by omega) (by omega)
 have a1:=fun r=>and255 r
 refine Tt.out ?_
 unfold Z2 c_Z2
 rw [hw]
 by_cases hpl:p<(c.length:Int)
 ·rw [decide_eq_true hpl,cond_true]
  have hd:=h.2 _ (KV (show p.toNat<c.length by omega))
  have hv:IntKind.i64.wrap (c.getD p.toNat (D.int 0)).toInt=(c.getD p.toNat (D.int 0)).toInt:=Ux (by omega) (by omega)
  refine Tt.ite (by omega) ?_
  refine Tt.dec (fun _=>?_) (fun hn=>absurd (show p+1≤(c.length:Int) by omega) hn)
  refine Tt.pure ?_
  exact ⟨by rw [hv]; exact hd.1,by rw [hv]; exact hd.2,rfl,rfl⟩
 ·rw [decide_eq_false hpl,cond_false]
  refine Tt.dec (fun hn=>by exfalso; omega) (fun _=>?_)
  refine Tt.ite (by decide) ?_
  refine Tt.pure ?_
  exact ⟨(a1 _).1,(a1 _).2,rfl,rfl⟩
attribute [local irreducible] Z2
theorem pick_tot (c:List D) (h:okC c) (p s n:Int) (hp:0≤p∧p≤1099511627770) (hn:n≤65536):∃ y,Z3 c p s n=some y∧(0≤y.1∧(y.1<n∨y.1=0)∧y.2.1=c∧p≤y.2.2.1∧y.2.2.1≤p+2):=by
 refine Tt.out ?_
 unfold Z3 c_Z3
 refine Tt.dec (fun _=>?_) (fun hn1=>?_)
 ·refine Tt.pure ?_
  exact ⟨by simp,.inr rfl,rfl,by simp,by simp only; omega⟩
 ·refine Tt.bind (Tt.con (next_tot c h p s (by omega))) (fun v hv=>?_)
  obtain ⟨v1,v2,v3,v4⟩:=hv
  rw [v3,v4]
  refine Tt.dec (fun _=>?_) (fun _=>?_)
  ·refine Tt.bind (Tt.con (next_tot c h (p+1) _ (by omega))) (fun w hw=>?_)
   obtain ⟨w1,w2,w3,w4⟩:=hw
   refine Tt.ite (by omega) ?_
   have hq:IntKind.i64.wrap (IntKind.i64.wrap (v.1 * 256)+w.1)=v.1 * 256+w.1:=by
    rw [Ux (n:=v.1 * 256) (by omega) (by omega),Ux (by omega) (by omega)]
   have hm:(v.1 * 256+w.1).tmod n=(v.1 * 256+w.1) % n:=Int.tmod_eq_emod_of_nonneg (by omega)
   have m1:=Int.emod_nonneg (v.1 * 256+w.1) (show n≠0 by omega)
   have m2:=Int.emod_lt_of_pos (v.1 * 256+w.1) (show 0<n by omega)
   refine Tt.pure ?_
   exact ⟨by simp only; rw [hq,hm]; exact m1,.inl (by simp only; rw [hq,hm]; exact m2),w3,by simp only; omega,by simp only; omega⟩
  ·refine Tt.ite (by omega) ?_
   have hm:v.1.tmod n=v.1 % n:=Int.tmod_eq_emod_of_nonneg v1
   have m1:=Int.emod_nonneg v.1 (show n≠0 by omega)
   have m2:=Int.emod_lt_of_pos v.1 (show 0<n by omega)
   refine Tt.pure ?_
   exact ⟨by simp only; rw [hm]; exact m1,.inl (by simp only; rw [hm]; exact m2),rfl,by simp only; omega,by simp only; omega⟩
attribute [local irreducible] Z3
theorem among_tot (c:List D) (h:okC c) (p s:Int) (l:List D) (hp:0≤p∧p≤1099511627770) (hl:1≤l.length∧l.length≤65536):∃ y,Z16 c p s l=some y∧((∃ d∈l,y.1=d.toInt)∧y.2.1=c∧p≤y.2.2.1∧y.2.2.1≤p+2):=by
 refine Tt.out ?_
 unfold Z16 c_Z16
 refine Tt.bind (Tt.con (pick_tot c h p s _ hp (by omega))) (fun v hv=>?_)
 refine Tt.ite (by omega) ?_
 refine Tt.ite (by omega) ?_
 refine Tt.pure ?_
 exact ⟨⟨_,KV (show v.1.toNat<l.length by omega),rfl⟩,hv.2.2.1,hv.2.2.2.1,hv.2.2.2.2⟩
attribute [local irreducible] Z16
theorem okB {d:D} (h:wfD (.int .u8) d):0≤d.toInt∧d.toInt≤255:=by
 obtain ⟨n,rfl,h2⟩:=h
 simp [Lit.wf,IntKind.min,IntKind.max,IntKind.signed,IntKind.bits] at h2
 simp only [Od]; omega
theorem pick_tot' (c:List D) (h:okC c) (p s n:Int) (hp:0≤p∧p≤1099511627770) (hn:n≤65536):∃ y,Z3 c p s n=some y∧((0≤y.1∧(y.1<n∨y.1=0))∧y.2.1=c∧p≤y.2.2.1∧y.2.2.1≤p+2):=by
 obtain ⟨y,h1,h2,h3,h4⟩:=pick_tot c h p s n hp hn
 exact ⟨y,h1,⟨h2,h3⟩,h4⟩
theorem one_tot (c:List D) (h:okC c) (p s n:Int) (hp:0≤p∧p≤1099511627770) (hn:n≤65536):∃ y,Z4 c p s n=some y∧(y.2.1=c∧p≤y.2.2.1∧y.2.2.1≤p+2):=by
 refine Tt.out ?_
 unfold Z4 c_Z4
 refine Tt.bind (Tt.con (pick_tot c h p s n hp hn)) (fun v hv=>?_)
 refine Tt.pure ?_
 exact ⟨hv.2.2.1,hv.2.2.2.1,hv.2.2.2.2⟩
attribute [local irreducible] Z4
theorem one_tot' (c:List D) (h:okC c) (p s n:Int) (hp:0≤p∧p≤1099511627770) (hn:n≤65536):∃ y,Z4 c p s n=some y∧(True∧y.2.1=c∧p≤y.2.2.1∧y.2.2.1≤p+2):=by
 obtain ⟨y,h1,h2⟩:=one_tot c h p s n hp hn
 exact ⟨y,h1,trivial,h2⟩
theorem l1In_eq (x a b:Int):Z35 x a b=some (btw x a b):=by
 unfold Z35 c_Z35 btw
 by_cases h:a≤x <;> simp [h]
theorem within_eq (x a b:Int):Z50 x a b=some (btw x a b):=by
 unfold Z50 c_Z50 btw
 by_cases h:a≤x <;> simp [h]
def cmpV (x y:Int):Int:=if x<y then -1 else if y<x then 1 else 0
theorem compare_eq (x y:Int):Z59 x y=some (cmpV x y):=by
 simp only [Z59,c_Z59,Z58,c_Z58,Option.bind_some,decide_true,Bool.not_true,cond_false,cmpV]
 by_cases h:x<y
 ·simp [h]
 ·by_cases h2:y<x <;> simp [h,h2]
theorem or_eq (a b:Int):Z61 [.int a,.int b]=some (if a=0 then b else a):=by
 have w1:IntKind.i64.wrap 1=1:=by decide
 have w2:IntKind.i64.wrap 2=2:=by decide
 have key:∃ y,Z60 0 [.int a,.int b] 2 0=some y∧(match y with | .inl z=>z.1 | .inr z=>z)=(if a=0 then b else a):=by
  by_cases ha:a=0
  ·by_cases hb:b=0
   ·refine ⟨.inr 0,H3 (f:=fun m=>n_Z60 m 0 [.int a,.int b] 2 0) 3 (fun m hm=>?_),by simp [ha,hb]⟩
    obtain ⟨m,rfl⟩:∃ m',m=m'+3:=⟨m - 3,by omega⟩
    simp [n_Z60,c_Z60,ha,hb,Od,w1,w2]
   ·refine ⟨.inl (b,0),H3 (f:=fun m=>n_Z60 m 0 [.int a,.int b] 2 0) 2 (fun m hm=>?_),by simp [ha]⟩
    obtain ⟨m,rfl⟩:∃ m',m=m'+2:=⟨m - 2,by omega⟩
    simp [n_Z60,c_Z60,ha,hb,Od,w1]
  ·refine ⟨.inl (a,0),H3 (f:=fun m=>n_Z60 m 0 [.int a,.int b] 2 0) 1 (fun m hm=>?_),by simp [ha]⟩
   obtain ⟨m,rfl⟩:∃ m',m=m'+1:=⟨m - 1,by omega⟩
   simp [n_Z60,c_Z60,ha,Od]
 obtain ⟨y,h1,h2⟩:=key
 rw [← h2]
 simp only [Z61,c_Z61,show (([D.int a,D.int b]:List D).length:Int)=2 from rfl,h1,Option.bind_some]
 cases y <;> rfl
theorem fxScan {α:Type} {F:Int→Option α} {len:Nat} (p:Nat→Bool) (bad:Nat→α) {fin:α}
  (hs:∀ i:Nat,i<len→F (i:Int)=bif p i then some (bad i) else F ((i+1:Nat):Int)) (he:F (len:Int)=some fin) :
  F 0=some (match Qi p len with | some i=>bad i | none=>fin):=by
 have key:∀ k (i:Nat),i+k=len→(∀ j,j<i→p j=false)→F (i:Int)=some (match Qi p len with | some i=>bad i | none=>fin):=by
  intro k
  induction k with
  | zero=>
   intro i h1 h3
   have hi:i=len:=by omega
   subst hi
   rw [he]
   cases hf:Qi p i with
   | none=>rfl
   | some j=>
    obtain ⟨q1,q2,_⟩:=Oe hf
    rw [h3 j q1] at q2
    cases q2
  | succ k ih=>
   intro i h1 h3
   rw [hs i (by omega)]
   cases hp:p i with
   | true=>
    rw [cond_true]
    have:Qi p len=some i:=by
     unfold Qi
     rw [List.find?_range_eq_some]
     exact ⟨hp,List.mem_range.2 (by omega),fun j hj=>by simp [h3 j hj]⟩
    rw [this]
   | false=>
    rw [cond_false]
    refine ih (i+1) (by omega) (fun j hj=>?_)
    by_cases hji:j=i
    ·subst hji; exact hp
    ·exact h3 j (by omega)
 exact key len 0 (by omega) (fun j hj=>by omega)
def allN (p:Nat→Bool) (len:Nat):Bool:=(Qi (fun i=>!p i) len).isNone
theorem allN_iff {p:Nat→Bool} {len:Nat}:allN p len=true↔∀ i,i<len→p i=true:=by
 unfold allN
 constructor
 ·intro h i hi
  cases hf:Qi (fun i=>!p i) len with
  | none=>simpa using X5 hf i hi
  | some j=>rw [hf] at h; cases h
 ·intro h
  cases hf:Qi (fun i=>!p i) len with
  | none=>rfl
  | some i=>obtain ⟨h1,h2,_⟩:=Oe hf; rw [h i h1] at h2; cases h2
theorem fxAll {α:Type} {F:Int→Option α} {len:Nat} (p:Nat→Bool) (bad:α) {fin:α}
  (hs:∀ i:Nat,i<len→F (i:Int)=bif p i then F ((i+1:Nat):Int) else some bad) (he:F (len:Int)=some fin) :
  F 0=some (bif allN p len then fin else bad):=by
 have:=fxScan (F:=F) (len:=len) (fun i=>!p i) (fun _=>bad) (fin:=fin) (fun i hi=>by rw [hs i hi]; cases p i <;> rfl) he
 rw [this]
 unfold allN
 cases Qi (fun i=>!p i) len <;> rfl
def find2 (C:List D) (n:Int):Int:=match Qi (fun i=>decide (((C[i]?.getD (.int 0)).fld 0).toInt=n)) C.length with | some i=>(i:Int) | none=>-1
theorem l2Find_eq (C R:List D) (n:Int) (hC:C.length≤100000):Z25 C R n=some (find2 C n):=by
 have h:=fxScan (F:=fun i=>Z24 n i C R) (len:=C.length) (fun i=>decide (((C[i]?.getD (.int 0)).fld 0).toInt=n)) (fun i=>.inl (i:Int)) (fin:=.inr ()) (fun i hi=>by
  show Z24 n i C R=_
  rw [Z24_fx]
  unfold c_Z24
  have h1:(i:Int)<C.length:=by omega
  simp only [h1,decide_true,cond_true,Int.natCast_nonneg,and_self,if_true,Int.toNat_natCast,List.getD_eq_getElem?_getD,Qf (show i<4611686018427387904 by omega),Option.bind_fun_some])
  (by
   show Z24 n C.length C R=_
   rw [Z24_fx]; unfold c_Z24; simp)
 have h':Z24 n 0 C R=_:=h
 simp only [Z25,c_Z25,h',Option.bind_some,find2]
 cases Qi (fun i=>decide (((C[i]?.getD (.int 0)).fld 0).toInt=n)) C.length <;> rfl
theorem indexOf_eq (C R:List D) (n:Int) (hC:C.length≤100000):Z57 C R n=some (find2 C n):=by
 have h:=fxScan (F:=fun i=>Z55 C n C.length i) (len:=C.length) (fun i=>decide (((C[i]?.getD (.int 0)).fld 0).toInt=n)) (fun i=>.inl (i:Int)) (fin:=.inr ()) (fun i hi=>by
  show Z55 C n C.length i=_
  rw [Z55_fx]
  unfold c_Z55
  have h1:(i:Int)<C.length:=by omega
  simp only [h1,decide_true,cond_true,Int.natCast_nonneg,and_self,if_true,Int.toNat_natCast,List.getD_eq_getElem?_getD,Z54,c_Z54,Option.bind_some,Qf (show i<4611686018427387904 by omega),Option.bind_fun_some])
  (by
   show Z55 C n C.length C.length=_
   rw [Z55_fx]; unfold c_Z55; simp)
 have h':Z55 C n C.length 0=_:=h
 simp only [Z57,c_Z57,Z56,c_Z56,h',Option.bind_some,find2]
 cases Qi (fun i=>decide (((C[i]?.getD (.int 0)).fld 0).toInt=n)) C.length <;> rfl
theorem find2_some {C:List D} {n:Int} (h:0≤find2 C n):∃ i,i<C.length∧find2 C n=(i:Int)∧((C[i]?.getD (.int 0)).fld 0).toInt=n:=by
 unfold find2 at h ⊢
 cases hf:Qi (fun i=>decide (((C[i]?.getD (.int 0)).fld 0).toInt=n)) C.length with
 | none=>rw [hf] at h; simp at h
 | some i=>
  obtain ⟨h1,h2,_⟩:=Oe hf
  exact ⟨i,h1,rfl,of_decide_eq_true h2⟩
def cOk (C:List D) (i:Nat):Bool:=btw ((C[i]?.getD (.int 0)).fld 0).toInt 1 999&&(btw ((C[i]?.getD (.int 0)).fld 1).toInt 1 4&&(decide (i=0)||decide (((C[i - 1]?.getD (.int 0)).fld 0).toInt<((C[i]?.getD (.int 0)).fld 0).toInt)))
def lexB (a b c d:Int):Bool:=decide (a<c)||(decide (a=c)&&decide (b<d))
def rOk (C R:List D) (i:Nat):Bool:=!decide (((R[i]?.getD (.int 0)).fld 0).toInt=((R[i]?.getD (.int 0)).fld 1).toInt)&&(decide (0≤find2 C ((R[i]?.getD (.int 0)).fld 0).toInt)&&(decide (0≤find2 C ((R[i]?.getD (.int 0)).fld 1).toInt)&&(decide (i=0)||lexB ((R[i - 1]?.getD (.int 0)).fld 0).toInt ((R[i - 1]?.getD (.int 0)).fld 1).toInt ((R[i]?.getD (.int 0)).fld 0).toInt ((R[i]?.getD (.int 0)).fld 1).toInt)))
def validB (C R:List D):Bool:=decide (C.length≤10)&&(decide (R.length≤24)&&(allN (cOk C) C.length&&allN (rOk C R) R.length))
theorem before_eq (a b c d:Int):Z7 a b c d=some (lexB a b c d):=by
 unfold Z7 c_Z7 lexB
 by_cases h:a<c
 ·simp [h]
 ·by_cases h2:a=c <;> simp [h,h2]
theorem l2Good_eq (C R:List D):Z38 C R=some (validB C R):=by
 unfold Z38 c_Z38 validB
 by_cases hC:C.length≤10
 ·have hC':¬ (10:Int)<C.length:=by omega
  by_cases hR:R.length≤24
  ·have hR':¬ (24:Int)<R.length:=by omega
   have h1:=fxAll (F:=fun i=>Z36 i C R) (len:=C.length) (cOk C) (.inl (false,C,R)) (fin:=.inr (C,R)) (fun i hi=>by
    show Z36 i C R=_
    rw [Z36_fx]
    unfold c_Z36
    have h1:(i:Int)<C.length:=by omega
    simp only [h1,decide_true,cond_true,Int.natCast_nonneg,and_self,if_true,Int.toNat_natCast,List.getD_eq_getElem?_getD,l1In_eq,Option.bind_some,Qf (show i<4611686018427387904 by omega),Option.bind_fun_some,cOk]
    cases btw ((C[i]?.getD (.int 0)).fld 0).toInt 1 999 with
    | false=>rfl
    | true=>
     cases btw ((C[i]?.getD (.int 0)).fld 1).toInt 1 4 with
     | false=>rfl
     | true=>
      by_cases h0:i=0
      ·subst h0; simp
      ·have h2:(0:Int)<i:=by omega
       have h3:((i - 1:Nat):Int)<C.length:=by omega
       simp only [VJ (show i<4611686018427387904 by omega) (show 0<i by omega),h2,h3,h0,Int.natCast_nonneg,and_self,if_true,Int.toNat_natCast,decide_true,decide_false,cond_true,cond_false,Bool.not_true,Bool.true_and,Bool.false_or]
       by_cases h4:((C[i]?.getD (.int 0)).fld 0).toInt≤((C[i - 1]?.getD (.int 0)).fld 0).toInt
       ·have:¬ ((C[i - 1]?.getD (.int 0)).fld 0).toInt<((C[i]?.getD (.int 0)).fld 0).toInt:=by omega
        simp [h4,this]
       ·have:((C[i - 1]?.getD (.int 0)).fld 0).toInt<((C[i]?.getD (.int 0)).fld 0).toInt:=by omega
        simp [h4,this])
    (by
     show Z36 C.length C R=_
     rw [Z36_fx]; unfold c_Z36; simp)
   have h1':Z36 0 C R=_:=h1
   have h2:=fxAll (F:=fun i=>Z37 i C R) (len:=R.length) (rOk C R) (.inl false) (fin:=.inr ()) (fun i hi=>by
    show Z37 i C R=_
    rw [Z37_fx]
    unfold c_Z37
    have h1:(i:Int)<R.length:=by omega
    simp only [h1,decide_true,cond_true,Int.natCast_nonneg,and_self,if_true,Int.toNat_natCast,List.getD_eq_getElem?_getD,l2Find_eq C R _ (show C.length≤100000 by omega),before_eq,Option.bind_some,Qf (show i<4611686018427387904 by omega),Option.bind_fun_some,rOk]
    by_cases e1:((R[i]?.getD (.int 0)).fld 0).toInt=((R[i]?.getD (.int 0)).fld 1).toInt
    ·simp [e1]
    ·by_cases e2:find2 C ((R[i]?.getD (.int 0)).fld 0).toInt<0
     ·have:¬ 0≤find2 C ((R[i]?.getD (.int 0)).fld 0).toInt:=by omega
      simp [e1,e2,this]
     ·have e2':0≤find2 C ((R[i]?.getD (.int 0)).fld 0).toInt:=by omega
      by_cases e3:find2 C ((R[i]?.getD (.int 0)).fld 1).toInt<0
      ·have:¬ 0≤find2 C ((R[i]?.getD (.int 0)).fld 1).toInt:=by omega
       simp [e1,e2,e2',e3,this]
      ·have e3':0≤find2 C ((R[i]?.getD (.int 0)).fld 1).toInt:=by omega
       by_cases h0:i=0
       ·subst h0; simp [e1,e2,e2',e3,e3']
       ·have h2:(0:Int)<i:=by omega
        have h3:((i - 1:Nat):Int)<R.length:=by omega
        simp only [VJ (show i<4611686018427387904 by omega) (show 0<i by omega),e1,e2,e2',e3,e3',h2,h3,h0,Int.natCast_nonneg,and_self,if_true,Int.toNat_natCast,decide_true,decide_false,cond_true,cond_false,Bool.not_true,Bool.not_false,Bool.true_and,Bool.false_or]
        cases lexB ((R[i - 1]?.getD (.int 0)).fld 0).toInt ((R[i - 1]?.getD (.int 0)).fld 1).toInt ((R[i]?.getD (.int 0)).fld 0).toInt ((R[i]?.getD (.int 0)).fld 1).toInt <;> rfl)
    (by
     show Z37 R.length C R=_
     rw [Z37_fx]; unfold c_Z37; simp)
   have h2':Z37 0 C R=_:=h2
   simp only [hC',hR',hC,hR,decide_true,decide_false,cond_false,Bool.true_and,h1',Option.bind_some]
   cases allN (cOk C) C.length with
   | false=>rfl
   | true=>
    simp only [cond_true,Sum.elim_inr,h2',Option.bind_some,Bool.true_and]
    cases allN (rOk C R) R.length <;> rfl
  ·have hR':(24:Int)<R.length:=by omega
   simp only [hC',hR',hR,decide_true,decide_false,cond_true,cond_false,Bool.false_and,Bool.and_false]
 ·have hC':(10:Int)<C.length:=by omega
  simp only [hC',hC,decide_true,decide_false,cond_true,Bool.false_and]
theorem number_eq (n:Int):Z51 n=some (btw n 1 999):=by
 simp only [Z51,c_Z51,within_eq,Option.bind_some]
theorem kind_eq (n:Int):Z52 n=some (btw n 1 4):=by
 simp only [Z52,c_Z52,within_eq,Option.bind_some]
theorem cmpRel_eq (a b c d:Int):∃ v,Z62 a b c d=some v∧decide (0≤v)=!lexB a b c d:=by
 simp only [Z62,c_Z62,compare_eq,or_eq,Option.bind_some]
 refine ⟨_,rfl,?_⟩
 unfold cmpV lexB
 by_cases h1:a<c
 ·simp [h1]
 ·by_cases h2:c<a
  ·have:¬ a=c:=by omega
   simp [h1,h2,this]
  ·have:a=c:=by omega
   subst this
   by_cases h3:b<d
   ·simp [h3]
   ·by_cases h4:d<b <;> simp [h3,h4]
theorem valid_eq (C R:List D):Z64 C R=some (validB C R):=by
 unfold Z64 c_Z64 validB
 by_cases hC:C.length≤10
 ·have hC':¬ (10:Int)<C.length:=by omega
  by_cases hR:R.length≤24
  ·have hR':¬ (24:Int)<R.length:=by omega
   have h1:=fxAll (F:=fun i=>Z53 C C.length i C R) (len:=C.length) (cOk C) (.inl (false,C,R)) (fin:=.inr (C,R)) (fun i hi=>by
    show Z53 C C.length i C R=_
    rw [Z53_fx]
    unfold c_Z53
    have h1:(i:Int)<C.length:=by omega
    simp only [h1,decide_true,cond_true,Int.natCast_nonneg,and_self,if_true,Int.toNat_natCast,List.getD_eq_getElem?_getD,number_eq,kind_eq,Option.bind_some,Qf (show i<4611686018427387904 by omega),Option.bind_fun_some,cOk]
    cases btw ((C[i]?.getD (.int 0)).fld 0).toInt 1 999 with
    | false=>rfl
    | true=>
     cases btw ((C[i]?.getD (.int 0)).fld 1).toInt 1 4 with
     | false=>rfl
     | true=>
      by_cases h0:i=0
      ·subst h0; simp
      ·have h2:(0:Int)<i:=by omega
       have h3:((i - 1:Nat):Int)<C.length:=by omega
       simp only [VJ (show i<4611686018427387904 by omega) (show 0<i by omega),h2,h3,h0,Int.natCast_nonneg,and_self,if_true,Int.toNat_natCast,decide_true,decide_false,cond_true,cond_false,Bool.not_true,Bool.true_and,Bool.false_or]
       by_cases h4:((C[i]?.getD (.int 0)).fld 0).toInt≤((C[i - 1]?.getD (.int 0)).fld 0).toInt
       ·have:¬ ((C[i - 1]?.getD (.int 0)).fld 0).toInt<((C[i]?.getD (.int 0)).fld 0).toInt:=by omega
        simp [h4,this]
       ·have:((C[i - 1]?.getD (.int 0)).fld 0).toInt<((C[i]?.getD (.int 0)).fld 0).toInt:=by omega
        simp [h4,this])
    (by
     show Z53 C C.length C.length C R=_
     rw [Z53_fx]; unfold c_Z53; simp)
   have h1':Z53 C C.length 0 C R=_:=h1
   have h2:=fxAll (F:=fun i=>Z63 R R.length i C R) (len:=R.length) (rOk C R) (.inl false) (fin:=.inr ()) (fun i hi=>by
    show Z63 R R.length i C R=_
    rw [Z63_fx]
    unfold c_Z63
    have h1:(i:Int)<R.length:=by omega
    simp only [h1,decide_true,cond_true,Int.natCast_nonneg,and_self,if_true,Int.toNat_natCast,List.getD_eq_getElem?_getD,indexOf_eq C R _ (show C.length≤100000 by omega),Option.bind_some,Qf (show i<4611686018427387904 by omega),Option.bind_fun_some,rOk]
    by_cases e1:((R[i]?.getD (.int 0)).fld 0).toInt=((R[i]?.getD (.int 0)).fld 1).toInt
    ·simp [e1]
    ·by_cases e2:find2 C ((R[i]?.getD (.int 0)).fld 0).toInt<0
     ·have:¬ 0≤find2 C ((R[i]?.getD (.int 0)).fld 0).toInt:=by omega
      simp [e1,e2,this]
     ·have e2':0≤find2 C ((R[i]?.getD (.int 0)).fld 0).toInt:=by omega
      by_cases e3:find2 C ((R[i]?.getD (.int 0)).fld 1).toInt<0
      ·have:¬ 0≤find2 C ((R[i]?.getD (.int 0)).fld 1).toInt:=by omega
       simp [e1,e2,e2',e3,this]
      ·have e3':0≤find2 C ((R[i]?.getD (.int 0)).fld 1).toInt:=by omega
       by_cases h0:i=0
       ·subst h0; simp [e1,e2,e2',e3,e3']
       ·have h2:(0:Int)<i:=by omega
        have h3:((i - 1:Nat):Int)<R.length:=by omega
        obtain ⟨v,v1,v2⟩:=cmpRel_eq ((R[i - 1]?.getD (.int 0)).fld 0).toInt ((R[i - 1]?.getD (.int 0)).fld 1).toInt ((R[i]?.getD (.int 0)).fld 0).toInt ((R[i]?.getD (.int 0)).fld 1).toInt
        simp only [VJ (show i<4611686018427387904 by omega) (show 0<i by omega),e1,e2,e2',e3,e3',h2,h3,h0,v1,v2,Option.bind_some,Int.natCast_nonneg,and_self,if_true,Int.toNat_natCast,decide_true,decide_false,cond_true,cond_false,Bool.not_true,Bool.not_false,Bool.true_and,Bool.false_or]
        cases lexB ((R[i - 1]?.getD (.int 0)).fld 0).toInt ((R[i - 1]?.getD (.int 0)).fld 1).toInt ((R[i]?.getD (.int 0)).fld 0).toInt ((R[i]?.getD (.int 0)).fld 1).toInt <;> rfl)
    (by
     show Z63 R R.length R.length C R=_
     rw [Z63_fx]; unfold c_Z63; simp)
   have h2':Z63 R R.length 0 C R=_:=h2
   simp only [hC',hR',hC,hR,decide_true,decide_false,cond_false,Bool.true_and,h1',Option.bind_some]
   cases allN (cOk C) C.length with
   | false=>rfl
   | true=>
    simp only [cond_true,Sum.elim_inr,h2',Option.bind_some,Bool.true_and]
    cases allN (rOk C R) R.length <;> rfl
  ·have hR':(24:Int)<R.length:=by omega
   simp only [hC',hR',hR,decide_true,decide_false,cond_true,cond_false,Bool.false_and,Bool.and_false]
 ·have hC':(10:Int)<C.length:=by omega
  simp only [hC',hC,decide_true,decide_false,cond_true,Bool.false_and]
theorem ctxsL_tot (c:List D) (hc:okC c):∀ (k:Nat) (n i num p s:Int) (acc:List D),(n - i).toNat=k→0≤i→i≤n→n≤10→0≤p→p+4 * k≤1099511627000→(acc.length:Int)=i →
  ∃ y,Z5 n num i c p s acc=some y∧(y.1=c∧p≤y.2.1∧y.2.1≤p+4 * k∧(y.2.2.2.length:Int)=n):=by
 intro k
 induction k with
 | zero=>
  intro n i num p s acc hk h0 h1 h2 h3 h4 h5
  refine Tt.out ?_
  rw [Z5_fx]
  unfold c_Z5
  refine Tt.dec (fun hn=>by exfalso; omega) (fun _=>Tt.pure ⟨rfl,by simp only; omega,by simp only; omega,by simp only; omega⟩)
 | succ k ih=>
  intro n i num p s acc hk h0 h1 h2 h3 h4 h5
  refine Tt.out ?_
  rw [Z5_fx]
  unfold c_Z5
  refine Tt.dec (fun hn=>?_) (fun hn=>by exfalso; omega)
  (refine Tt.bind (Tt.con (pick_tot' _ hc _ _ _ (by omega) (by omega))) ?_; rintro ⟨v,c',p',s'⟩ ⟨hv,rfl,hp1,hp2⟩; dsimp only at hv hp1 hp2 ⊢)
  (refine Tt.bind (Tt.con (pick_tot' _ hc _ _ _ (by omega) (by omega))) ?_; rintro ⟨v,c',p',s'⟩ ⟨hv,rfl,hp1,hp2⟩; dsimp only at hv hp1 hp2 ⊢)
  refine Tt.ite (by simp only [List.length_cons,List.length_nil]; omega) ?_
  rw [Ux (n:=i+1) (by omega) (by omega)]
  refine Tt.bind (Tt.con (ih n (i+1) _ _ _ _ (by omega) (by omega) (by omega) (by omega) (by omega) (by omega) (by simp only [List.length_append,List.length_cons,List.length_nil]; omega))) ?_
  rintro ⟨c2,p2,s2,l2⟩ ⟨e1,e2,e3,e4⟩
  simp only at e1 e2 e3 e4
  exact Tt.pure ⟨e1,by simp only; omega,by simp only; omega,by simp only; omega⟩
theorem ctxs_tot (c:List D) (hc:okC c) (p s n:Int) (hn:0≤n∧n≤10) (hp:0≤p∧p≤1099511620000):∃ y,Z6 c p s n=some y∧(y.2.1=c∧p≤y.2.2.1∧y.2.2.1≤p+40∧(y.1.length:Int)=n):=by
 refine Tt.out ?_
 unfold Z6 c_Z6
 refine Tt.bind (Tt.con (ctxsL_tot c hc _ n 0 0 p s [] rfl (by omega) (by omega) (by omega) (by omega) (by omega) (by simp))) ?_
 rintro ⟨c2,p2,s2,l2⟩ ⟨e1,e2,e3,e4⟩
 simp only at e1 e2 e3 e4
 exact Tt.pure ⟨e1,by simp only; omega,by simp only; omega,by simp only; omega⟩
theorem linkL2_tot (C R:List D) (u v:Int) (hR:R.length≤100000):∀ (m i:Nat),i+m=R.length →
  ∃ y,Z11 i C R u v=some y∧(0≤y.1∧y.1≤R.length∧y.2.1=C∧y.2.2.1=R∧y.2.2.2.1=u∧y.2.2.2.2=v):=by
 intro m
 induction m with
 | zero=>
  intro i hi
  refine Tt.out ?_
  rw [Z11_fx]
  unfold c_Z11
  refine Tt.dec (fun hn=>by exfalso; omega) (fun _=>Tt.pure ⟨by simp only; omega,by simp only; omega,rfl,rfl,rfl,rfl⟩)
 | succ m ih=>
  intro i hi
  refine Tt.out ?_
  rw [Z11_fx]
  unfold c_Z11
  refine Tt.dec (fun hn=>?_) (fun hn=>by exfalso; omega)
  refine Tt.ite (by omega) ?_
  rw [before_eq,Qf (show i<4611686018427387904 by omega)]
  refine Tt.bind (Q:=fun _=>True) (Tt.con ⟨_,rfl,trivial⟩) ?_
  rintro b -
  refine Tt.cnd (fun _=>?_) (fun _=>?_)
  ·refine Tt.bind (Tt.con (ih (i+1) (by omega))) ?_
   intro y hy
   exact Tt.pure hy
  ·exact Tt.pure ⟨by simp only; omega,by simp only; omega,rfl,rfl,rfl,rfl⟩
theorem own2_eq (C R:List D) (hC:C.length≤100000) (hR:R.length≤100000):Z9 C R=some (C,R):=by
 unfold Z9 c_Z9
 rw [if_pos (by simp; omega),if_pos (by simp; omega)]
 rfl
def InR (C R:List D):Prop:=∀ d∈R,0≤find2 C (d.fld 0).toInt∧0≤find2 C (d.fld 1).toInt
theorem num_in {C:List D} {i:Int} (h0:0≤i) (h1:i<C.length):0≤find2 C ((C.getD i.toNat (.int 0)).fld 0).toInt:=by
 unfold find2
 cases hf:Qi (fun k=>decide (((C[k]?.getD (.int 0)).fld 0).toInt=((C.getD i.toNat (.int 0)).fld 0).toInt)) C.length with
 | none=>
  have:=X5 hf i.toNat (by omega)
  rw [List.getD_eq_getElem?_getD] at this
  simp at this
 | some k=>simp only; omega
theorem link_in (C R:List D) (u v:Int) (hC:C.length≤100000) (hR:R.length≤99999):∃ y,Z12 C R u v=some y∧(y.1=C∧R.length≤y.2.length∧y.2.length≤R.length+1∧∀ d∈y.2,d∈R∨d=.node [.int u,.int v]):=by
 refine Tt.out ?_
 unfold Z12 c_Z12
 refine Tt.bind (Tt.con (linkL2_tot C R u v (by omega) R.length 0 (by omega))) ?_
 rintro ⟨i,C',R',u',v'⟩ ⟨h1,h2,e1,e2,e3,e4⟩
 dsimp only at h1 h2 e1 e2 e3 e4 ⊢
 subst e1 e2 e3 e4
 rw [own2_eq _ _ hC (by omega)]
 refine Tt.bind (Q:=fun y=>y=(C',R')) (Tt.con ⟨_,rfl,rfl⟩) ?_
 rintro y rfl
 dsimp only
 have app:Tt (fun _:Unit=>True) (fun y:List D×List D=>y.1=C'∧R'.length≤y.2.length∧y.2.length≤R'.length+1∧∀ d∈y.2,d∈R'∨d=.node [.int u',.int v']) (fun _=>some (C',[]++List.take (i.toNat - 0) (List.drop 0 R')++[D.node [D.int u',D.int v']]++List.take (R'.length - i.toNat) (List.drop i.toNat R'))):=by
  refine Tt.pure ⟨rfl,?_,?_,fun d hd=>?_⟩
  ·simp only [List.nil_append,List.length_append,List.length_take,List.length_drop,List.length_cons,List.length_nil]; omega
  ·simp only [List.nil_append,List.length_append,List.length_take,List.length_drop,List.length_cons,List.length_nil]; omega
  ·simp only [List.nil_append,List.mem_append,List.mem_singleton] at hd
   rcases hd with (h | h) | h
   ·exact .inl (List.mem_of_mem_drop (List.mem_of_mem_take h))
   ·exact .inr h
   ·exact .inl (List.mem_of_mem_drop (List.mem_of_mem_take h))
 refine Tt.dec (fun hn=>?_) (fun hn=>?_)
 ·refine Tt.ite (by omega) ?_
  refine Tt.cnd (fun _=>?_) (fun _=>?_)
  ·exact Tt.pure ⟨rfl,by simp only; omega,by simp only; omega,fun d hd=>.inl hd⟩
  ·refine Tt.ite (by omega) ?_
   refine Tt.ite (by simp only [List.length_take,List.length_drop,List.length_nil]; omega) ?_
   refine Tt.ite (by simp only [List.nil_append,List.length_take,List.length_drop,List.length_cons,List.length_nil]; omega) ?_
   refine Tt.ite (by omega) ?_
   refine Tt.ite (by simp only [List.nil_append,List.length_append,List.length_take,List.length_drop,List.length_cons,List.length_nil]; omega) ?_
   exact app
 ·refine Tt.ite (by omega) ?_
  refine Tt.ite (by simp only [List.length_take,List.length_drop,List.length_nil]; omega) ?_
  refine Tt.ite (by simp only [List.nil_append,List.length_take,List.length_drop,List.length_cons,List.length_nil]; omega) ?_
  refine Tt.ite (by omega) ?_
  refine Tt.ite (by simp only [List.nil_append,List.length_append,List.length_take,List.length_drop,List.length_cons,List.length_nil]; omega) ?_
  exact app
theorem link0_in (C:List D) (u v:Int) (hC:C.length≤100000):∃ y,Z10 C u v=some y∧(y.1=C∧y.2.length≤1∧∀ d∈y.2,d=.node [.int u,.int v]):=by
 have h0:Z8 0 C [] u v=some (0,C,[],u,v):=by
  rw [Z8_fx]
  unfold c_Z8
  simp
 refine ⟨(C,[D.node [D.int u,D.int v]]),?_,rfl,by simp,by simp⟩
 unfold Z10 c_Z10
 simp only [h0,Option.bind_some,own2_eq C [] hC (by simp)]
 simp
def recI (c:List D) (p q:Int) (a b:Nat) (y:List D×List D×List D×Int×Int):Prop:=y.2.2.1=c∧p≤y.2.2.2.1∧y.2.2.2.1≤q∧y.1.length≤a∧y.2.1.length≤b
theorem recL2_in (c:List D) (hc:okC c):∀ (k:Nat) (n m p s:Int) (C R:List D),m.toNat=k→n=C.length→C.length≤100→R.length+k≤1000→InR C R→0≤p→p+6 * k≤1099511627000 →
  ∃ y,Z13 n m c p s C R=some y∧(y.1=c∧p≤y.2.1∧y.2.1≤p+6 * k∧y.2.2.2.1=C∧y.2.2.2.2.length≤R.length+k∧InR C y.2.2.2.2):=by
 intro k
 induction k with
 | zero=>
  intro n m p s C R hm hn hC hR hI h0 h1
  refine Tt.out ?_
  rw [Z13_fx]
  unfold c_Z13
  refine Tt.dec (fun hn=>by exfalso; omega) (fun _=>Tt.pure ⟨rfl,by simp only; omega,by simp only; omega,rfl,by simp only; omega,hI⟩)
 | succ k ih=>
  intro n m p s C R hm hn hC hR hI h0 h1
  refine Tt.out ?_
  rw [Z13_fx]
  unfold c_Z13
  refine Tt.dec (fun hm0=>?_) (fun hm0=>by exfalso; omega)
  have go:∀ (p' s':Int) (R':List D),p≤p'→p'≤p+6→R'.length≤R.length+1→InR C R'→Tt (fun _:Unit=>True) (fun y:List D×Int×Int×List D×List D=>y.1=c∧p≤y.2.1∧y.2.1≤p+6 * ((k+1:Nat):Int)∧y.2.2.2.1=C∧y.2.2.2.2.length≤R.length+(k+1)∧InR C y.2.2.2.2) (fun _=>(Z13 n (IntKind.i64.wrap (m - 1)) c p' s' C R').bind some):=by
   intro p' s' R' g1 g2 g3 g4
   rw [Ux (n:=m - 1) (by omega) (by omega)]
   refine Tt.bind (Tt.con (ih n (m - 1) p' s' C R' (by omega) hn hC (by omega) g4 (by omega) (by omega))) ?_
   rintro ⟨c2,p2,s2,C2,R2⟩ ⟨e1,e2,e3,e4,e5,e6⟩
   simp only at e1 e2 e3 e4 e5 e6
   exact Tt.pure ⟨e1,by simp only; omega,by simp only; omega,e4,by simp only; omega,e6⟩
  refine Tt.dec (fun hn1=>?_) (fun _=>Tt.pure ⟨rfl,by simp only; omega,by simp only; omega,rfl,by simp only; omega,hI⟩)
  refine Tt.bind (Tt.con (pick_tot' _ hc _ _ _ (by omega) (by omega))) ?_
  rintro ⟨i,c1,p1,s1⟩ ⟨hi,e1,hp1,hp2⟩
  dsimp only at hi e1 hp1 hp2 ⊢
  rw [e1]
  refine Tt.bind (Tt.con (pick_tot' _ hc _ _ _ (by omega) (by omega))) ?_
  rintro ⟨j,c2,p2,s2⟩ ⟨hj,e2,hp3,hp4⟩
  dsimp only at hj e2 hp3 hp4 ⊢
  rw [e2]
  have linkT:∀ (u v p' s':Int),p≤p'→p'≤p+6→0≤find2 C u→0≤find2 C v→Tt (fun _:Unit=>True) (fun y:List D×Int×Int×List D×List D=>y.1=c∧p≤y.2.1∧y.2.1≤p+6 * ((k+1:Nat):Int)∧y.2.2.2.1=C∧y.2.2.2.2.length≤R.length+(k+1)∧InR C y.2.2.2.2)
    (fun _=>(Z12 C R u v).bind (fun z=>(Z13 n (IntKind.i64.wrap (m - 1)) c p' s' z.1 z.2).bind some)):=by
   intro u v p' s' g1 g2 gu gv
   refine Tt.bind (Tt.con (link_in C R u v (by omega) (by omega))) ?_
   rintro ⟨C3,R3⟩ ⟨rfl,q1,q2,q3⟩
   dsimp only at q1 q2 q3 hI gu gv ⊢
   exact go p' s' R3 g1 g2 q2 (fun d hd=>by
    rcases q3 d hd with h | h
    ·exact hI d h
    ·subst h; exact ⟨gu,gv⟩)
  refine Tt.dec (fun _=>?_) (fun _=>?_)
  ·refine Tt.bind (Tt.con (one_tot' _ hc _ _ _ (by omega) (by omega))) ?_
   rintro ⟨w,c3,p3,s3⟩ ⟨_,e3,hp5,hp6⟩
   dsimp only at e3 hp5 hp6 ⊢
   rw [e3]
   refine Tt.cnd (fun _=>?_) (fun _=>?_)
   ·refine Tt.ndec (fun _=>?_) (fun _=>go _ _ R (by omega) (by omega) (by omega) hI)
    repeat refine Tt.ite (by omega) ?_
    exact linkT _ _ _ _ (by omega) (by omega) (num_in (by omega) (by omega)) (num_in (by omega) (by omega))
   ·refine Tt.ndec (fun _=>?_) (fun _=>go _ _ R (by omega) (by omega) (by omega) hI)
    repeat refine Tt.ite (by omega) ?_
    exact linkT _ _ _ _ (by omega) (by omega) (num_in (by omega) (by omega)) (num_in (by omega) (by omega))
  ·refine Tt.ndec (fun _=>?_) (fun _=>go _ _ R (by omega) (by omega) (by omega) hI)
   repeat refine Tt.ite (by omega) ?_
   exact linkT _ _ _ _ (by omega) (by omega) (num_in (by omega) (by omega)) (num_in (by omega) (by omega))
theorem recL_in (c:List D) (hc:okC c):∀ (k:Nat) (n m p s:Int) (C:List D),m.toNat=k→n=C.length→C.length≤100→k≤100→0≤p→p+6 * k≤1099511627000 →
  ∃ y,Z14 n m c p s C=some y∧(match y with
   | .inl y=>y.1=c∧p≤y.2.1∧y.2.1≤p+6 * k∧y.2.2.2.1=C∧y.2.2.2.2.length≤k∧InR C y.2.2.2.2
   | .inr y=>y.1=c∧p≤y.2.1∧y.2.1≤p+6 * k∧y.2.2.2=C):=by
 intro k
 induction k with
 | zero=>
  intro n m p s C hm hn hC hR h0 h1
  refine Tt.out ?_
  rw [Z14_fx]
  unfold c_Z14
  refine Tt.dec (fun hn=>by exfalso; omega) (fun _=>Tt.pure ⟨rfl,by simp only; omega,by simp only; omega,rfl⟩)
 | succ k ih=>
  intro n m p s C hm hn hC hR h0 h1
  refine Tt.out ?_
  rw [Z14_fx]
  unfold c_Z14
  refine Tt.dec (fun hm0=>?_) (fun hm0=>by exfalso; omega)
  let PP':(List D×Int×Int×List D×List D)⊕(List D×Int×Int×List D)→Prop:=fun y=>match y with
   | .inl y=>y.1=c∧p≤y.2.1∧y.2.1≤p+6 * ((k+1:Nat):Int)∧y.2.2.2.1=C∧y.2.2.2.2.length≤k+1∧InR C y.2.2.2.2
   | .inr y=>y.1=c∧p≤y.2.1∧y.2.1≤p+6 * ((k+1:Nat):Int)∧y.2.2.2=C
  have go:∀ (p' s':Int),p≤p'→p'≤p+6→Tt (fun _:Unit=>True) PP' (fun _=>(Z14 n (IntKind.i64.wrap (m - 1)) c p' s' C).bind some):=by
   intro p' s' g1 g2
   rw [Ux (n:=m - 1) (by omega) (by omega)]
   refine Tt.bind (Tt.con (ih n (m - 1) p' s' C (by omega) hn hC (by omega) (by omega) (by omega))) ?_
   rintro (⟨c2,p2,s2,C2,R2⟩ | ⟨c2,p2,s2,C2⟩) h
   ·obtain ⟨e1,e2,e3,e4,e5,e6⟩:=h
    simp only at e1 e2 e3 e4 e5 e6
    exact Tt.pure ⟨e1,by simp only; omega,by simp only; omega,e4,by simp only; omega,e6⟩
   ·obtain ⟨e1,e2,e3,e4⟩:=h
    simp only at e1 e2 e3 e4
    exact Tt.pure ⟨e1,by simp only; omega,by simp only; omega,e4⟩
  refine Tt.dec (fun hn1=>?_) (fun _=>Tt.pure ⟨rfl,by simp only; omega,by simp only; omega,rfl⟩)
  refine Tt.bind (Tt.con (pick_tot' _ hc _ _ _ (by omega) (by omega))) ?_
  rintro ⟨i,c1,p1,s1⟩ ⟨hi,e1,hp1,hp2⟩
  dsimp only at hi e1 hp1 hp2 ⊢
  rw [e1]
  refine Tt.bind (Tt.con (pick_tot' _ hc _ _ _ (by omega) (by omega))) ?_
  rintro ⟨j,c2,p2,s2⟩ ⟨hj,e2,hp3,hp4⟩
  dsimp only at hj e2 hp3 hp4 ⊢
  rw [e2]
  have linkT:∀ (u v p' s':Int),p≤p'→p'≤p+6→0≤find2 C u→0≤find2 C v→Tt (fun _:Unit=>True) PP'
    (fun _=>(Z10 C u v).bind (fun z=>(Z13 n (IntKind.i64.wrap (m - 1)) c p' s' z.1 z.2).bind (fun w=>some (.inl (w.1,w.2.1,w.2.2.1,w.2.2.2.1,w.2.2.2.2))))):=by
   intro u v p' s' g1 g2 gu gv
   refine Tt.bind (Tt.con (link0_in C u v (by omega))) ?_
   rintro ⟨C3,R3⟩ ⟨rfl,q1,q3⟩
   dsimp only at q1 q3 gu gv ⊢
   rw [Ux (n:=m - 1) (by omega) (by omega)]
   refine Tt.bind (Tt.con (recL2_in c hc k n (m - 1) p' s' C3 R3 (by omega) hn hC (by omega) (fun d hd=>by rw [q3 d hd]; exact ⟨gu,gv⟩) (by omega) (by omega))) ?_
   rintro ⟨c2,p2,s2,C2,R2⟩ ⟨e1,e2,e3,e4,e5,e6⟩
   simp only at e1 e2 e3 e4 e5 e6
   exact Tt.pure ⟨e1,by simp only; omega,by simp only; omega,e4,by simp only; omega,e6⟩
  refine Tt.dec (fun _=>?_) (fun _=>?_)
  ·refine Tt.bind (Tt.con (one_tot' _ hc _ _ _ (by omega) (by omega))) ?_
   rintro ⟨w,c3,p3,s3⟩ ⟨_,e3,hp5,hp6⟩
   dsimp only at e3 hp5 hp6 ⊢
   rw [e3]
   refine Tt.cnd (fun _=>?_) (fun _=>?_)
   ·refine Tt.ndec (fun _=>?_) (fun _=>go _ _ (by omega) (by omega))
    repeat refine Tt.ite (by omega) ?_
    exact linkT _ _ _ _ (by omega) (by omega) (num_in (by omega) (by omega)) (num_in (by omega) (by omega))
   ·refine Tt.ndec (fun _=>?_) (fun _=>go _ _ (by omega) (by omega))
    repeat refine Tt.ite (by omega) ?_
    exact linkT _ _ _ _ (by omega) (by omega) (num_in (by omega) (by omega)) (num_in (by omega) (by omega))
  ·refine Tt.ndec (fun _=>?_) (fun _=>go _ _ (by omega) (by omega))
   repeat refine Tt.ite (by omega) ?_
   exact linkT _ _ _ _ (by omega) (by omega) (num_in (by omega) (by omega)) (num_in (by omega) (by omega))
theorem record_in (c:List D) (hc:okC c) (p s:Int) (hp:0≤p∧p≤1099511619000):∃ y,Z15 c p s=some y∧(recI c p (p+200) 10 20 y∧InR y.1 y.2.1):=by
 refine Tt.out ?_
 unfold Z15 c_Z15
 (refine Tt.bind (Tt.con (pick_tot' _ hc _ _ _ (by omega) (by omega))) ?_; rintro ⟨v,c',p',s'⟩ ⟨hv,rfl,hp1,hp2⟩; dsimp only at hv hp1 hp2 ⊢)
 refine Tt.bind (Tt.con (ctxs_tot _ hc _ _ _ (by omega) (by omega))) ?_
 rintro ⟨C,c2,p2,s2⟩ ⟨rfl,e2,e3,e4⟩
 dsimp only at e2 e3 e4 ⊢
 (refine Tt.bind (Tt.con (pick_tot' _ hc _ _ _ (by omega) (by omega))) ?_; rintro ⟨v,c',p',s'⟩ ⟨hv,rfl,hp1,hp2⟩; dsimp only at hv hp1 hp2 ⊢)
 refine Tt.bind (Tt.con (recL_in _ hc _ _ _ _ _ C rfl rfl (by omega) (by omega) (by omega) (by omega))) ?_
 rintro (⟨c5,p5,s5,C5,R5⟩ | ⟨c5,p5,s5,C5⟩) h
 ·obtain ⟨g1,g2,g3,g4,g5,g6⟩:=h
  simp only at g1 g2 g3 g4 g5 g6
  subst g4
  exact Tt.pure ⟨⟨g1,by simp only; omega,by simp only; omega,by simp only; omega,by simp only; omega⟩,g6⟩
 ·obtain ⟨g1,g2,g3,g4⟩:=h
  simp only at g1 g2 g3 g4
  subst g4
  exact Tt.pure ⟨⟨g1,by simp only; omega,by simp only; omega,by simp only; omega,by simp only [List.length_nil]; omega⟩,fun d hd=>by cases hd⟩
theorem link_tot (C R:List D) (u v:Int) (hC:C.length≤100000) (hR:R.length≤99999):∃ y,Z12 C R u v=some y∧(y.1=C∧R.length≤y.2.length∧y.2.length≤R.length+1):=by
 obtain ⟨y,h1,h2,h3,h4,_⟩:=link_in C R u v hC hR
 exact ⟨y,h1,h2,h3,h4⟩
theorem record_tot (c:List D) (hc:okC c) (p s:Int) (hp:0≤p∧p≤1099511619000):∃ y,Z15 c p s=some y∧recI c p (p+200) 10 20 y:=by
 obtain ⟨y,h1,h2,_⟩:=record_in c hc p s hp
 exact ⟨y,h1,h2⟩
theorem anyL17v_tot (c:List D) (hc:okC c):∀ (k:Nat) (n p s:Int) (R C:List D),(12 - n).toNat=k→0≤n→n≤12→C.length+k≤1000→0≤p→p+2 * (k+1)≤1099511627000 →
  ∃ y,Z17 n c p s R C=some y∧(y.1=c∧p≤y.2.1∧y.2.1≤p+2 * (k+1)∧y.2.2.2.1=R∧y.2.2.2.2.length≤C.length+k):=by
 intro k
 induction k with
 | zero=>
  intro n p s R C hk h0 h1 h2 h3 h4
  refine Tt.out ?_
  rw [Z17_fx]
  unfold c_Z17
  (refine Tt.bind (Tt.con (pick_tot' _ hc _ _ _ (by omega) (by omega))) ?_; rintro ⟨v,c',p',s'⟩ ⟨hv,rfl,hp1,hp2⟩; dsimp only at hv hp1 hp2 ⊢)
  refine Tt.dec (fun _=>?_) (fun _=>Tt.pure ⟨rfl,by simp only; omega,by simp only; omega,rfl,by simp only; omega⟩)
  refine Tt.dec (fun _=>by exfalso; omega) (fun _=>Tt.pure ⟨rfl,by simp only; omega,by simp only; omega,rfl,by simp only; omega⟩)
 | succ k ih=>
  intro n p s R C hk h0 h1 h2 h3 h4
  refine Tt.out ?_
  rw [Z17_fx]
  unfold c_Z17
  (refine Tt.bind (Tt.con (pick_tot' _ hc _ _ _ (by omega) (by omega))) ?_; rintro ⟨v,c',p',s'⟩ ⟨hv,rfl,hp1,hp2⟩; dsimp only at hv hp1 hp2 ⊢)
  refine Tt.dec (fun _=>?_) (fun _=>Tt.pure ⟨rfl,by simp only; omega,by simp only; omega,rfl,by simp only; omega⟩)
  refine Tt.dec (fun _=>?_) (fun _=>Tt.pure ⟨rfl,by simp only; omega,by simp only; omega,rfl,by simp only; omega⟩)
  refine Tt.ite (by simp only [List.length_cons,List.length_nil]; omega) ?_
  rw [Ux (n:=n+1) (by omega) (by omega)]
  refine Tt.bind (Tt.con (ih (n+1) _ _ R _ (by omega) (by omega) (by omega) (by simp only [List.length_append,List.length_cons,List.length_nil]; omega) (by omega) (by omega))) ?_
  rintro ⟨c2,p2,s2,R2,C2⟩ ⟨e1,e2,e3,e4,e5⟩
  simp only [List.length_append,List.length_cons,List.length_nil] at e1 e2 e3 e4 e5
  exact Tt.pure ⟨e1,by simp only; omega,by simp only; omega,e4,by simp only; omega⟩
theorem anyL17_tot (c:List D) (hc:okC c) (p s:Int) (C R:List D) (hp:0≤p∧p≤1099511620000) (hC:C.length≤100):∃ y,Z18 0 c p s C R=some y∧(match y with
   | .inl y=>y.1=c∧p≤y.2.1∧y.2.1≤p+100∧y.2.2.2.1=R∧y.2.2.2.2.length≤C.length+12
   | .inr y=>y.1=c∧p≤y.2.1∧y.2.1≤p+100∧y.2.2.2.1=C∧y.2.2.2.2=R):=by
 refine Tt.out ?_
 rw [Z18_fx]
 unfold c_Z18
 (refine Tt.bind (Tt.con (pick_tot' _ hc _ _ _ (by omega) (by omega))) ?_; rintro ⟨v,c',p',s'⟩ ⟨hv,rfl,hp1,hp2⟩; dsimp only at hv hp1 hp2 ⊢)
 refine Tt.dec (fun _=>?_) (fun _=>Tt.pure ⟨rfl,by simp only; omega,by simp only; omega,rfl,rfl⟩)
 refine Tt.dec (fun _=>?_) (fun _=>Tt.pure ⟨rfl,by simp only; omega,by simp only; omega,rfl,rfl⟩)
 refine Tt.ite (by simp only [List.length_cons,List.length_nil]; omega) ?_
 refine Tt.bind (Tt.con (anyL17v_tot _ hc 11 1 _ _ R _ (by decide) (by omega) (by omega) (by simp only [List.length_append,List.length_cons,List.length_nil]; omega) (by omega) (by omega))) ?_
 rintro ⟨c2,p2,s2,R2,C2⟩ ⟨e1,e2,e3,e4,e5⟩
 simp only [List.length_append,List.length_cons,List.length_nil] at e1 e2 e3 e4 e5
 exact Tt.pure ⟨e1,by simp only; omega,by simp only; omega,e4,by simp only; omega⟩
def rowN (r a b:Nat):Nat:=min 25 (r+(7 - b) - (if b≤a then 1 else 0))
theorem anyL28v_tot (c:List D) (p s:Int) (C:List D) (hC:C.length=7) (a:Nat) (ha:a<7):∀ (m b:Nat) (R:List D),b+m=7→R.length≤25 →
  ∃ R',Z19 a b c p s C R=some ((a:Int),c,p,s,C,R')∧R'.length=rowN R.length a b:=by
 intro m
 induction m with
 | zero=>
  intro b R hb hR
  refine ⟨R,?_,?_⟩
  ·rw [Z19_fx]
   unfold c_Z19
   have h1:¬ (b:Int)<7:=by omega
   simp only [h1,decide_false,cond_false]
  ·unfold rowN; split <;> omega
 | succ m ih=>
  intro b R hb hR
  rw [Z19_fx]
  unfold c_Z19
  have h1:(b:Int)<7:=by omega
  simp only [h1,decide_true,cond_true]
  by_cases h25:R.length<25
  ·have h2:(R.length:Int)<25:=by omega
   simp only [h2,decide_true,cond_true,Qf (show b<4611686018427387904 by omega)]
   by_cases hab:a=b
   ·have h3:(a:Int)=(b:Int):=by omega
    simp only [h3,decide_true,Bool.not_true,cond_false]
    obtain ⟨R',e1,e2⟩:=ih (b+1) R (by omega) hR
    rw [hab] at e1
    refine ⟨R',by rw [e1]; rfl,?_⟩
    rw [e2]
    unfold rowN
    rw [if_neg (by omega),if_pos (by omega)]
    omega
   ·have h3:¬ (a:Int)=(b:Int):=by omega
    have g1:(0:Int)≤(a:Int)∧(a:Int)<C.length:=by omega
    have g2:a+1≤C.length:=by omega
    have g3:(0:Int)≤(b:Int)∧(b:Int)<C.length:=by omega
    have g4:b+1≤C.length:=by omega
    have g5:R.length+[D.node [D.int ((C.getD a (.int 0)).fld 0).toInt,D.int ((C.getD b (.int 0)).fld 0).toInt]].length≤4294967296:=by
     simp only [List.length_cons,List.length_nil]; omega
    simp only [h3,decide_false,Bool.not_false,cond_true,if_pos g1,Int.toNat_natCast,if_pos g2,if_pos g3,if_pos g4,if_pos g5]
    obtain ⟨R',e1,e2⟩:=ih (b+1) (R++[D.node [D.int ((C.getD a (.int 0)).fld 0).toInt,D.int ((C.getD b (.int 0)).fld 0).toInt]]) (by omega) (by simp; omega)
    refine ⟨R',by rw [e1]; rfl,?_⟩
    rw [e2]
    unfold rowN
    simp only [List.length_append,List.length_cons,List.length_nil]
    by_cases hle:b≤a
    ·rw [if_pos (by omega),if_pos hle]; omega
    ·rw [if_neg (by omega),if_neg hle]; omega
  ·have h2:¬ (R.length:Int)<25:=by omega
   simp only [h2,decide_false,cond_false]
   refine ⟨R,rfl,?_⟩
   unfold rowN
   split <;> omega
theorem anyL28_tot (c:List D) (p s:Int) (C:List D) (hC:C.length=7) (a:Nat) (ha:a<7):∀ (m b:Nat) (R:List D),b+m=7→R.length≤25 →
  ∃ R',(Z20 a b c p s C R=some (.inl ((a:Int),c,p,s,C,R'))∨Z20 a b c p s C R=some (.inr ((a:Int),c,p,s,C,R')))∧R'.length=rowN R.length a b:=by
 intro m
 induction m with
 | zero=>
  intro b R hb hR
  refine ⟨R,.inr ?_,?_⟩
  ·rw [Z20_fx]
   unfold c_Z20
   have h1:¬ (b:Int)<7:=by omega
   simp only [h1,decide_false,cond_false]
  ·unfold rowN; split <;> omega
 | succ m ih=>
  intro b R hb hR
  rw [Z20_fx]
  unfold c_Z20
  have h1:(b:Int)<7:=by omega
  simp only [h1,decide_true,cond_true]
  by_cases h25:R.length<25
  ·have h2:(R.length:Int)<25:=by omega
   simp only [h2,decide_true,cond_true,Qf (show b<4611686018427387904 by omega)]
   by_cases hab:a=b
   ·have h3:(a:Int)=(b:Int):=by omega
    simp only [h3,decide_true,Bool.not_true,cond_false]
    obtain ⟨R',e1,e2⟩:=ih (b+1) R (by omega) hR
    rw [hab] at e1
    refine ⟨R',by rcases e1 with e1 | e1 <;> rw [e1] <;> simp,?_⟩
    rw [e2]
    unfold rowN
    rw [if_neg (by omega),if_pos (by omega)]
    omega
   ·have h3:¬ (a:Int)=(b:Int):=by omega
    have g1:(0:Int)≤(a:Int)∧(a:Int)<C.length:=by omega
    have g2:a+1≤C.length:=by omega
    have g3:(0:Int)≤(b:Int)∧(b:Int)<C.length:=by omega
    have g4:b+1≤C.length:=by omega
    have g5:R.length+[D.node [D.int ((C.getD a (.int 0)).fld 0).toInt,D.int ((C.getD b (.int 0)).fld 0).toInt]].length≤4294967296:=by
     simp only [List.length_cons,List.length_nil]; omega
    simp only [h3,decide_false,Bool.not_false,cond_true,if_pos g1,Int.toNat_natCast,if_pos g2,if_pos g3,if_pos g4,if_pos g5]
    obtain ⟨R',e1,e2⟩:=anyL28v_tot c p s C hC a ha m (b+1) (R++[D.node [D.int ((C.getD a (.int 0)).fld 0).toInt,D.int ((C.getD b (.int 0)).fld 0).toInt]]) (by omega) (by simp; omega)
    refine ⟨R',.inl (by rw [e1]; rfl),?_⟩
    rw [e2]
    unfold rowN
    simp only [List.length_append,List.length_cons,List.length_nil]
    by_cases hle:b≤a
    ·rw [if_pos (by omega),if_pos hle]; omega
    ·rw [if_neg (by omega),if_neg hle]; omega
  ·have h2:¬ (R.length:Int)<25:=by omega
   simp only [h2,decide_false,cond_false]
   refine ⟨R,.inr rfl,?_⟩
   unfold rowN
   split <;> omega
theorem rowN0 {r a:Nat}:rowN r a 0=min 25 (r+6):=by unfold rowN; rw [if_pos (by omega)]; omega
theorem anyL25v_tot (c:List D) (p s:Int) (C:List D) (hC:C.length=7):∀ (m a:Nat) (R:List D),a+m=7→R.length≤25 →
  ∃ R',Z21 a c p s C R=some (c,p,s,C,R')∧R'.length=min 25 (R.length+6 * m):=by
 intro m
 induction m with
 | zero=>
  intro a R ha hR
  refine ⟨R,?_,by omega⟩
  rw [Z21_fx]
  unfold c_Z21
  have h1:¬ (a:Int)<7:=by omega
  simp only [h1,decide_false,cond_false]
 | succ m ih=>
  intro a R ha hR
  obtain ⟨R1,e1,e2⟩:=anyL28v_tot c p s C hC a (by omega) 7 0 R (by omega) hR
  have e1':Z19 a 0 c p s C R=_:=e1
  rw [rowN0] at e2
  obtain ⟨R2,f1,f2⟩:=ih (a+1) R1 (by omega) (by omega)
  refine ⟨R2,?_,by omega⟩
  rw [Z21_fx]
  unfold c_Z21
  have h1:(a:Int)<7:=by omega
  simp only [h1,decide_true,cond_true,e1',Option.bind_some,Qf (show a<4611686018427387904 by omega),f1]
theorem anyL25_tot (c:List D) (p s:Int) (C:List D) (hC:C.length=7):∀ (m a:Nat) (R:List D),a+m=7→R.length≤25 →
  ∃ R',(Z22 a c p s C R=some (.inl (c,p,s,C,R'))∨Z22 a c p s C R=some (.inr (c,p,s,C,R')))∧R'.length=min 25 (R.length+6 * m):=by
 intro m
 induction m with
 | zero=>
  intro a R ha hR
  refine ⟨R,.inr ?_,by omega⟩
  rw [Z22_fx]
  unfold c_Z22
  have h1:¬ (a:Int)<7:=by omega
  simp only [h1,decide_false,cond_false]
 | succ m ih=>
  intro a R ha hR
  obtain ⟨R1,e1,e2⟩:=anyL28_tot c p s C hC a (by omega) 7 0 R (by omega) hR
  rw [rowN0] at e2
  have h1:(a:Int)<7:=by omega
  rcases e1 with e1 | e1
  ·have e1':Z20 a 0 c p s C R=_:=e1
   obtain ⟨R2,f1,f2⟩:=anyL25v_tot c p s C hC m (a+1) R1 (by omega) (by omega)
   refine ⟨R2,.inl ?_,by omega⟩
   rw [Z22_fx]
   unfold c_Z22
   simp only [h1,decide_true,cond_true,e1',Option.bind_some,Sum.elim_inl,Qf (show a<4611686018427387904 by omega),f1]
  ·have e1':Z20 a 0 c p s C R=_:=e1
   obtain ⟨R2,f1,f2⟩:=ih (a+1) R1 (by omega) (by omega)
   refine ⟨R2,?_,by omega⟩
   rw [Z22_fx]
   unfold c_Z22
   simp only [h1,decide_true,cond_true,e1',Option.bind_some,Sum.elim_inr,Qf (show a<4611686018427387904 by omega)]
   rcases f1 with f1 | f1 <;> rw [f1] <;> simp
theorem any_tot (c:List D) (hc:okC c) (p s:Int) (hp:0≤p∧p≤1099511610000):∃ y,Z23 c p s=some y∧recI c p (p+500) 100 100 y:=by
 refine Tt.out ?_
 unfold Z23 c_Z23
 refine Tt.bind (Tt.con (record_tot _ hc _ _ (by omega))) ?_
 rintro ⟨C,R,c1,p1,s1⟩ ⟨rfl,q1,q2,q3,q4⟩
 dsimp only at q1 q2 q3 q4 ⊢
 refine Tt.dec (fun _=>Tt.pure ⟨rfl,by simp only; omega,by simp only; omega,by simp only; omega,by simp only; omega⟩) (fun hne=>?_)
 refine Tt.bind (Tt.con (pick_tot' _ hc _ _ _ (by omega) (by omega))) ?_
 rintro ⟨i,c2,p2,s2⟩ ⟨hi,rfl,hp1,hp2⟩
 dsimp only at hi hp1 hp2 ⊢
 refine Tt.ite (by omega) ?_
 refine Tt.ite (by omega) ?_
 refine Tt.bind (Tt.con (pick_tot' _ hc _ _ _ (by omega) (by omega))) ?_
 rintro ⟨w,c3,p3,s3⟩ ⟨hw,rfl,hp3,hp4⟩
 dsimp only at hw hp3 hp4 ⊢
 refine Tt.dec (fun _=>?_) (fun _=>?_)
 ·(refine Tt.bind (Tt.con (among_tot _ hc _ _ _ (by omega) (by simp))) ?_; rintro ⟨v,c',p',s'⟩ ⟨hv,rfl,hp1,hp2⟩; dsimp only at hv hp1 hp2 ⊢)
  refine Tt.ite (by omega) ?_
  refine Tt.ite (by omega) ?_
  exact Tt.pure ⟨rfl,by simp only; omega,by simp only; omega,by simp only [List.length_set]; omega,by simp only; omega⟩
 ·refine Tt.dec (fun _=>?_) (fun _=>?_)
  ·(refine Tt.bind (Tt.con (pick_tot' _ hc _ _ _ (by omega) (by omega))) ?_; rintro ⟨v,c',p',s'⟩ ⟨hv,rfl,hp1,hp2⟩; dsimp only at hv hp1 hp2 ⊢)
   refine Tt.ite (by omega) ?_
   refine Tt.ite (by omega) ?_
   exact Tt.pure ⟨rfl,by simp only; omega,by simp only; omega,by simp only [List.length_set]; omega,by simp only; omega⟩
  ·refine Tt.dec (fun _=>?_) (fun _=>?_)
   ·refine Tt.ite (by simp only [List.length_cons,List.length_nil]; omega) ?_
    refine Tt.ite (by omega) ?_
    refine Tt.ite (by omega) ?_
    exact Tt.pure ⟨rfl,by simp only; omega,by simp only; omega,by simp only [List.length_set]; omega,by simp only [List.length_append,List.length_cons,List.length_nil]; omega⟩
   ·refine Tt.dec (fun _=>?_) (fun _=>?_)
    ·(refine Tt.bind (Tt.con (pick_tot' _ hc _ _ _ (by omega) (by omega))) ?_; rintro ⟨v,c',p',s'⟩ ⟨hv,rfl,hp1,hp2⟩; dsimp only at hv hp1 hp2 ⊢)
     (refine Tt.bind (Tt.con (pick_tot' _ hc _ _ _ (by omega) (by omega))) ?_; rintro ⟨v,c',p',s'⟩ ⟨hv,rfl,hp1,hp2⟩; dsimp only at hv hp1 hp2 ⊢)
     refine Tt.ite (by simp only [List.length_cons,List.length_nil]; omega) ?_
     refine Tt.ite (by omega) ?_
     refine Tt.ite (by omega) ?_
     exact Tt.pure ⟨rfl,by simp only; omega,by simp only; omega,by simp only [List.length_set]; omega,by simp only [List.length_append,List.length_cons,List.length_nil]; omega⟩
    ·refine Tt.dec (fun _=>?_) (fun _=>?_)
     ·refine Tt.bind (Tt.con (anyL17_tot _ hc _ _ C R (by omega) (by omega))) ?_
      rintro (⟨c5,p5,s5,R5,C5⟩ | ⟨c5,p5,s5,C5,R5⟩) h
      ·obtain ⟨g1,g2,g3,g4,g5⟩:=h
       simp only at g1 g2 g3 g4 g5
       exact Tt.pure ⟨g1,by simp only; omega,by simp only; omega,by simp only; omega,by simp only [g4]; omega⟩
      ·obtain ⟨g1,g2,g3,g4,g5⟩:=h
       simp only at g1 g2 g3 g4 g5
       exact Tt.pure ⟨g1,by simp only; omega,by simp only; omega,by simp only [g4]; omega,by simp only [g5]; omega⟩
     ·refine Tt.dec (fun _=>?_) (fun _=>?_)
      ·refine Tt.bind (Tt.con (ctxs_tot _ hc _ _ _ (by omega) (by omega))) ?_
       rintro ⟨C6,c6,p6,s6⟩ ⟨rfl,e2,e3,e4⟩
       dsimp only at e2 e3 e4 ⊢
       obtain ⟨R7,f1,f2⟩:=anyL25_tot c6 p6 s6 C6 (by omega) 7 0 [] (by omega) (by simp)
       simp only [List.length_nil] at f2
       have fin:Tt (fun _:Unit=>True) (recI c6 p (p+500) 100 100) (fun _=>(Z3 c6 p6 s6 2).bind (fun y11=>if (0:Int)≤0∧0≤IntKind.i64.wrap (24+y11.1)∧IntKind.i64.wrap (24+y11.1)≤R7.length then (if 0+((IntKind.i64.wrap (24+y11.1)).toNat - 0)≤R7.length then some (C6,List.take ((IntKind.i64.wrap (24+y11.1)).toNat - 0) (List.drop 0 R7),y11.2.1,y11.2.2.1,y11.2.2.2) else none) else none)):=by
        refine Tt.bind (Tt.con (pick_tot' _ hc _ _ _ (by omega) (by omega))) ?_
        rintro ⟨x,c8,p8,s8⟩ ⟨hx,rfl,r1,r2⟩
        dsimp only at hx r1 r2 ⊢
        rw [Ux (n:=24+x) (by omega) (by omega)]
        refine Tt.ite (by omega) ?_
        refine Tt.ite (by omega) ?_
        exact Tt.pure ⟨rfl,by simp only; omega,by simp only; omega,by simp only; omega,by simp only [List.length_take,List.length_drop]; omega⟩
       rcases f1 with f1 | f1
       ·have f1':Z22 0 c6 p6 s6 C6 []=_:=f1
        rw [f1']
        exact fin
       ·have f1':Z22 0 c6 p6 s6 C6 []=_:=f1
        rw [f1']
        exact fin
      ·refine Tt.ite (by omega) ?_
       refine Tt.ite (by omega) ?_
       exact Tt.pure ⟨rfl,by simp only; omega,by simp only; omega,by simp only [List.length_set]; omega,by simp only; omega⟩
def at2 (M:List D) (i k:Nat):Bool:=((M.getD i (.int 0)).items.getD k (.int 0)).toBool
def set2 (M:List D) (i k:Nat) (b:Bool):List D:=M.set i (.node ((M.getD i (.int 0)).items.set k (.bool b)))
structure Sq (n:Nat) (M:List D):Prop where
 len:M.length=n
 row:∀ i,i<n→(M.getD i (.int 0)).items.length=n
theorem getD_set {l:List D} {i j:Nat} {x:D} (h:i<l.length):(l.set i x).getD j (.int 0)=if i=j then x else l.getD j (.int 0):=by
 rw [List.getD_eq_getElem?_getD,List.getD_eq_getElem?_getD,List.getElem?_set]
 by_cases e:i=j
 ·subst e; simp [h]
 ·simp [e]
theorem Sq.set {n:Nat} {M:List D} (h:Sq n M) {i k:Nat} (hi:i<n) (b:Bool):Sq n (set2 M i k b):=by
 refine ⟨by simp [set2,h.len],fun j hj=>?_⟩
 unfold set2
 rw [getD_set (by rw [h.len]; exact hi)]
 split
 ·simp only [X4,List.length_set]; exact h.row i hi
 ·exact h.row j hj
theorem at2_set {n:Nat} {M:List D} (h:Sq n M) {i k a c:Nat} (hi:i<n) (hk:k<n) (b:Bool):at2 (set2 M i k b) a c=if a=i∧c=k then b else at2 M a c:=by
 unfold at2 set2
 rw [getD_set (by rw [h.len]; exact hi)]
 by_cases e:i=a
 ·subst e
  rw [if_pos rfl]
  simp only [X4]
  rw [getD_set (by rw [h.row i hi]; exact hk)]
  by_cases e2:k=c
  ·subst e2; simp [qN]
  ·have:¬ c=k:=fun e=>e2 e.symm
   simp [e2,this]
 ·have:¬ a=i:=fun e'=>e e'.symm
  rw [if_neg e]
  simp [this]
theorem at2_lt {n:Nat} {M:List D} (h:Sq n M) {a c:Nat} (hv:at2 M a c=true):a<n∧c<n:=by
 unfold at2 at hv
 by_cases ha:a<n
 ·refine ⟨ha,?_⟩
  by_cases hc:c<n
  ·exact hc
  ·rw [List.getD_eq_getElem?_getD (l:=(M.getD a (.int 0)).items),List.getElem?_eq_none (by rw [h.row a ha]; omega)] at hv
   cases hv
 ·rw [List.getD_eq_getElem?_getD (l:=M),List.getElem?_eq_none (by rw [h.len]; omega)] at hv
  simp [D.items] at hv
  cases hv
structure Clo (n:Nat) (M M':List D):Prop where
 sq:Sq n M'
 mono:∀ a b,at2 M a b=true→at2 M' a b=true
 sound:∀ T:Nat→Nat→Prop,(∀ a b c,T a b→T b c→T a c)→(∀ a b,at2 M a b=true→T a b)→∀ a b,at2 M' a b=true→T a b
theorem Clo.refl {n:Nat} {M:List D} (h:Sq n M):Clo n M M:=⟨h,fun _ _ h=>h,fun _ _ h=>h⟩
theorem Clo.trans {n:Nat} {M M' M'':List D} (h:Clo n M M') (k:Clo n M' M''):Clo n M M'':=
 ⟨k.sq,fun a b q=>k.mono a b (h.mono a b q),fun T hT hb=>k.sound T hT (h.sound T hT hb)⟩
theorem Clo.step {n:Nat} {M:List D} (h:Sq n M) {i j k:Nat} (hi:i<n) (hk:k<n) {v:Bool} (h1:at2 M i k=true→v=true) (h2:v=true→at2 M i k=true∨(at2 M i j=true∧at2 M j k=true)):Clo n M (set2 M i k v):=by
 refine ⟨h.set hi v,fun a b q=>?_,fun T hT hb a b q=>?_⟩
 ·rw [at2_set h hi hk]
  split
  ·rename_i e; rw [e.1,e.2] at q; exact h1 q
  ·exact q
 ·rw [at2_set h hi hk] at q
  split at q
  ·rename_i e
   rw [e.1,e.2]
   rcases h2 q with h2 | h2
   ·exact hb _ _ h2
   ·exact hT _ _ _ (hb _ _ h2.1) (hb _ _ h2.2)
  ·exact hb a b q
theorem squareL_eq (n:Nat) (hn:n≤100000):∀ (m i:Nat) (M:List D),i+m=n→M.length=n→(∀ j,j<i→M.getD j (.int 0)=.node (List.replicate n (.bool false))) →
  ∃ M',Z65 n n i M=some M'∧M'.length=n∧∀ j,j<n→M'.getD j (.int 0)=.node (List.replicate n (.bool false)):=by
 intro m
 induction m with
 | zero=>
  intro i M hi hl hj
  have:i=n:=by omega
  subst this
  refine ⟨M,?_,hl,hj⟩
  rw [Z65_fx]
  unfold c_Z65
  simp
 | succ m ih=>
  intro i M hi hl hj
  rw [Z65_fx]
  unfold c_Z65
  have h1:(i:Int)<n:=by omega
  have h2:(0:Int)≤n∧(n:Int)≤n∧(n:Int)≤4294967296:=by omega
  have h3:(0:Int)≤(i:Int)∧(i:Int)<M.length:=by omega
  have h4:i+1≤M.length:=by omega
  obtain ⟨M',e1,e2,e3⟩:=ih (i+1) (M.set i (.node (List.replicate n (.bool false)))) (by omega) (by simp [hl]) (fun j hj'=>by
   rw [getD_set (by omega)]
   split
   ·rfl
   ·exact hj j (by omega))
  refine ⟨M',?_,e2,e3⟩
  simp only [h1,decide_true,cond_true,if_pos h2,if_pos h3,if_pos h4,Qf (show i<4611686018427387904 by omega),Int.toNat_natCast,e1,Option.bind_some]
theorem square_eq (n:Nat) (hn:n≤100000):∃ M,Z66 n=some M∧Sq n M∧∀ a b,at2 M a b=false:=by
 obtain ⟨M,e1,e2,e3⟩:=squareL_eq n hn n 0 (List.replicate n (.node [])) (by omega) (by simp) (fun j hj=>by omega)
 have e1':Z65 n n 0 (List.replicate n (.node []))=some M:=e1
 have h2:(0:Int)≤n∧(n:Int)≤n∧(n:Int)≤4294967296:=by omega
 have hs:Sq n M:=⟨e2,fun i hi=>by rw [e3 i hi]; simp [X4]⟩
 refine ⟨M,?_,hs,fun a b=>?_⟩
 ·simp only [Z66,c_Z66,if_pos h2,Int.toNat_natCast,List.length_replicate,e1',Option.bind_some]
 ·cases hq:at2 M a b with
  | false=>rfl
  | true=>
   obtain ⟨ha,hb⟩:=at2_lt hs hq
   unfold at2 at hq
   rw [e3 a ha,X4,List.getD_eq_getElem?_getD,List.getElem?_replicate,if_pos hb] at hq
   cases hq
def nums (C:List D):List D:=C.map (fun d=>.int (d.fld 0).toInt)
theorem numsL_eq (C R A L:List D) (x0:Int) (hC:C.length≤100000):∀ (m i:Nat) (acc:List D),i+m=C.length→acc.length=i →
  Z67 x0 C C.length i C R acc A L=some (x0,C,R,acc++nums (C.drop i),A,L):=by
 intro m
 induction m with
 | zero=>
  intro i acc hi ha
  have:i=C.length:=by omega
  subst this
  rw [Z67_fx]
  unfold c_Z67
  simp [nums]
 | succ m ih=>
  intro i acc hi ha
  rw [Z67_fx]
  unfold c_Z67
  have h1:(i:Int)<C.length:=by omega
  have h3:(0:Int)≤(i:Int)∧(i:Int)<C.length:=by omega
  have h4:acc.length+[D.int ((C.getD i (.int 0)).fld 0).toInt].length≤4294967296:=by
   simp only [List.length_cons,List.length_nil]; omega
  simp only [h1,decide_true,cond_true,if_pos h3,if_pos h4,Qf (show i<4611686018427387904 by omega),Int.toNat_natCast]
  rw [ih (i+1) _ (by omega) (by simp [ha])]
  rw [qP (show i<C.length by omega)]
  simp [nums]
def edgeAt (C R:List D) (j a b:Nat):Prop:=j<R.length∧find2 C ((R[j]?.getD (.int 0)).fld 0).toInt=a∧find2 C ((R[j]?.getD (.int 0)).fld 1).toInt=b
def edge (C R:List D) (a b:Nat):Prop:=∃ j,edgeAt C R j a b
theorem rOk_at {C R:List D} (h:validB C R=true) {j:Nat} (hj:j<R.length):∃ a b,a<C.length∧b<C.length∧a≠b∧find2 C ((R[j]?.getD (.int 0)).fld 0).toInt=(a:Int)∧find2 C ((R[j]?.getD (.int 0)).fld 1).toInt=(b:Int) ∧
  ((C[a]?.getD (.int 0)).fld 0).toInt=((R[j]?.getD (.int 0)).fld 0).toInt∧((C[b]?.getD (.int 0)).fld 0).toInt=((R[j]?.getD (.int 0)).fld 1).toInt:=by
 simp only [validB,Bool.and_eq_true] at h
 have:=allN_iff.1 h.2.2.2 j hj
 simp only [rOk,Bool.and_eq_true,Bool.not_eq_true',decide_eq_true_eq,decide_eq_false_iff_not] at this
 obtain ⟨h0,h1,h2,_⟩:=this
 obtain ⟨a,a1,a2,a3⟩:=find2_some h1
 obtain ⟨b,b1,b2,b3⟩:=find2_some h2
 refine ⟨a,b,a1,b1,fun e=>h0 ?_,a2,b2,a3,b3⟩
 rw [← a3,← b3,e]
theorem edge_lt {C R:List D} (h:validB C R=true) {a b:Nat} (he:edge C R a b):a<C.length∧b<C.length∧a≠b:=by
 obtain ⟨j,hj,e1,e2⟩:=he
 obtain ⟨a',b',q1,q2,q3,q4,q5,_⟩:=rOk_at h hj
 rw [q4] at e1; rw [q5] at e2
 have e1':a'=a:=by omega
 have e2':b'=b:=by omega
 subst e1'; subst e2'
 exact ⟨q1,q2,q3⟩
theorem relsL_eq (C R nm:List D) (n:Nat) (hv:validB C R=true) (hC:C.length=n) (hR:R.length≤24) (hn:n≤10):∀ (m j:Nat) (A L:List D),j+m=R.length→Sq n A→Sq n L →
  ∃ A' L',Z69 n R R.length j C R nm A L=some ((n:Int),nm,A',L')∧Sq n A'∧Sq n L' ∧
   (∀ a b,at2 A' a b=true↔at2 A a b=true∨∃ k,j≤k∧edgeAt C R k a b)∧(∀ a b,at2 L' a b=true↔at2 L a b=true∨∃ k,j≤k∧edgeAt C R k a b):=by
 intro m
 induction m with
 | zero=>
  intro j A L hj hA hL
  have:j=R.length:=by omega
  subst this
  refine ⟨A,L,?_,hA,hL,fun a b=>⟨.inl,?_⟩,fun a b=>⟨.inl,?_⟩⟩
  ·rw [Z69_fx]
   unfold c_Z69
   simp
  ·rintro (h | ⟨k,h1,h2⟩)
   ·exact h
   ·have:=h2.1; omega
  ·rintro (h | ⟨k,h1,h2⟩)
   ·exact h
   ·have:=h2.1; omega
 | succ m ih=>
  intro j A L hj hA hL
  obtain ⟨a,b,q1,q2,q3,q4,q5,_⟩:=rOk_at hv (show j<R.length by omega)
  rw [hC] at q1 q2
  obtain ⟨A',L',e1,e2,e3,e4,e5⟩:=ih (j+1) (set2 A a b true) (set2 L a b true) (by omega) (hA.set q1 true) (hL.set q1 true)
  have key:∀ (X X':List D),Sq n X→(∀ c d,at2 X' c d=true↔at2 (set2 X a b true) c d=true∨∃ k,j+1≤k∧edgeAt C R k c d)→∀ c d,at2 X' c d=true↔at2 X c d=true∨∃ k,j≤k∧edgeAt C R k c d:=by
   intro X X' hX h c d
   rw [h,at2_set hX q1 q2]
   constructor
   ·rintro (h | ⟨k,h1,h2⟩)
    ·split at h
     ·rename_i e
      exact .inr ⟨j,Nat.le_refl _,by omega,by rw [e.1]; exact q4,by rw [e.2]; exact q5⟩
     ·exact .inl h
    ·exact .inr ⟨k,by omega,h2⟩
   ·rintro (h | ⟨k,h1,h2⟩)
    ·left
     split
     ·rfl
     ·exact h
    ·by_cases hk:k=j
     ·subst hk
      left
      obtain ⟨_,g1,g2⟩:=h2
      rw [q4] at g1; rw [q5] at g2
      rw [if_pos ⟨by omega,by omega⟩]
     ·exact .inr ⟨k,by omega,h2⟩
  refine ⟨A',L',?_,e2,e3,key A A' hA e4,key L L' hL e5⟩
  rw [Z69_fx]
  unfold c_Z69
  have h1:(j:Int)<R.length:=by omega
  have h3:(0:Int)≤(j:Int)∧(j:Int)<R.length:=by omega
  have g1:(0:Int)≤(a:Int)∧(a:Int)<A.length:=by rw [hA.len]; omega
  have g2:a+1≤A.length:=by rw [hA.len]; omega
  have g3:(0:Int)≤(b:Int)∧(b:Int)<(A.getD a (.int 0)).items.length:=by rw [hA.row a q1]; omega
  have g4:b+1≤(A.getD a (.int 0)).items.length:=by rw [hA.row a q1]; omega
  have k1:(0:Int)≤(a:Int)∧(a:Int)<L.length:=by rw [hL.len]; omega
  have k2:a+1≤L.length:=by rw [hL.len]; omega
  have k3:(0:Int)≤(b:Int)∧(b:Int)<(L.getD a (.int 0)).items.length:=by rw [hL.row a q1]; omega
  have k4:b+1≤(L.getD a (.int 0)).items.length:=by rw [hL.row a q1]; omega
  rw [← List.getD_eq_getElem?_getD] at q4 q5
  simp only [h1,decide_true,cond_true,if_pos h3,Int.toNat_natCast,indexOf_eq C R _ (show C.length≤100000 by omega),q4,q5,Option.bind_some,if_pos g1,if_pos g2,if_pos g3,if_pos g4,if_pos k1,if_pos k2,if_pos k3,if_pos k4,Qf (show j<4611686018427387904 by omega)]
  rw [show Z69 n R R.length ((j+1:Nat):Int) C R nm (A.set a (.node ((A.getD a (.int 0)).items.set b (.bool true)))) (L.set a (.node ((L.getD a (.int 0)).items.set b (.bool true))))=some ((n:Int),nm,A',L') from e1]
  rfl
theorem clK (n i j:Nat) (hn:n≤10) (hi:i<n) (hj:j<n) (a3 a4 a5 a6:Int) (nm A:List D):∀ (m k:Nat) (M:List D),k+m=n→Sq n M →
  ∃ M',Z70 n j i a3 a4 a5 a6 n k nm A M=some ((n:Int),(j:Int),a3,a4,a5,a6,nm,A,M')∧Clo n M M'∧∀ b,k≤b→b<n→at2 M i j=true→at2 M j b=true→at2 M' i b=true:=by
 intro m
 induction m with
 | zero=>
  intro k M hk hM
  have:k=n:=by omega
  subst this
  refine ⟨M,?_,Clo.refl hM,fun b h1 h2=>by omega⟩
  rw [Z70_fx]
  unfold c_Z70
  simp
 | succ m ih=>
  intro k M hk hM
  have hkn:k<n:=by omega
  let v:Bool:=at2 M i k||(at2 M i j&&at2 M j k)
  have hc:Clo n M (set2 M i k v):=Clo.step (j:=j) hM hi hkn (fun h=>by simp [v,h]) (fun h=>by
   simp only [v,Bool.or_eq_true,Bool.and_eq_true] at h; exact h)
  obtain ⟨M',e1,e2,e3⟩:=ih (k+1) (set2 M i k v) (by omega) hc.sq
  refine ⟨M',?_,hc.trans e2,fun b h1 h2 h3 h4=>?_⟩
  ·rw [Z70_fx]
   unfold c_Z70
   have h1:(k:Int)<n:=by omega
   have g1:(0:Int)≤(i:Int)∧(i:Int)<M.length:=by rw [hM.len]; omega
   have g2:i+1≤M.length:=by rw [hM.len]; omega
   have g3:(0:Int)≤(k:Int)∧(k:Int)<(M.getD i (.int 0)).items.length:=by rw [hM.row i hi]; omega
   have g4:k+1≤(M.getD i (.int 0)).items.length:=by rw [hM.row i hi]; omega
   have g5:(0:Int)≤(j:Int)∧(j:Int)<(M.getD i (.int 0)).items.length:=by rw [hM.row i hi]; omega
   have g6:j+1≤(M.getD i (.int 0)).items.length:=by rw [hM.row i hi]; omega
   have k1:(0:Int)≤(j:Int)∧(j:Int)<M.length:=by rw [hM.len]; omega
   have k2:j+1≤M.length:=by rw [hM.len]; omega
   have k3:(0:Int)≤(k:Int)∧(k:Int)<(M.getD j (.int 0)).items.length:=by rw [hM.row j hj]; omega
   have k4:k+1≤(M.getD j (.int 0)).items.length:=by rw [hM.row j hj]; omega
   have r1:((M.getD i (.int 0)).items.getD k (.int 0)).toBool=at2 M i k:=rfl
   have r2:((M.getD i (.int 0)).items.getD j (.int 0)).toBool=at2 M i j:=rfl
   have r3:((M.getD j (.int 0)).items.getD k (.int 0)).toBool=at2 M j k:=rfl
   simp only [h1,decide_true,cond_true,Int.toNat_natCast,if_pos g1,if_pos g2,if_pos g3,if_pos g4,if_pos g5,if_pos g6,if_pos k1,if_pos k2,if_pos k3,if_pos k4,r1,r2,r3,Qf (show k<4611686018427387904 by omega)]
   have fin:∀ u:Bool,v=u→(Z70 n j i a3 a4 a5 a6 n ((k+1:Nat):Int) nm A (M.set i (.node ((M.getD i (.int 0)).items.set k (.bool u))))).bind some=some ((n:Int),(j:Int),a3,a4,a5,a6,nm,A,M'):=fun u hu=>by
    subst hu
    rw [show Z70 n j i a3 a4 a5 a6 n ((k+1:Nat):Int) nm A (M.set i (.node ((M.getD i (.int 0)).items.set k (.bool v))))=_ from e1]
    rfl
   cases hik:at2 M i k with
   | true=>exact fin true (by simp [v,hik])
   | false=>
    cases hij:at2 M i j with
    | true=>exact fin (at2 M j k) (by simp [v,hik,hij])
    | false=>exact fin false (by simp [v,hik,hij])
  ·by_cases hbk:b=k
   ·subst hbk
    refine e2.mono _ _ ?_
    rw [at2_set hM hi hkn,if_pos ⟨rfl,rfl⟩]
    simp [v,h3,h4]
   ·exact e3 b (by omega) h2 (hc.mono _ _ h3) (hc.mono _ _ h4)
theorem clI (n j:Nat) (hn:n≤10) (hj:j<n) (nm A:List D):∀ (m i:Nat) (M:List D),i+m=n→Sq n M →
  ∃ M',Z71 n j n j n i nm A M=some ((n:Int),(n:Int),(j:Int),nm,A,M')∧Clo n M M'∧∀ a b,i≤a→a<n→b<n→at2 M a j=true→at2 M j b=true→at2 M' a b=true:=by
 intro m
 induction m with
 | zero=>
  intro i M hi hM
  have:i=n:=by omega
  subst this
  refine ⟨M,?_,Clo.refl hM,fun a b h1 h2=>by omega⟩
  rw [Z71_fx]
  unfold c_Z71
  simp
 | succ m ih=>
  intro i M hi hM
  obtain ⟨M1,d1,d2,d3⟩:=clK n i j hn (by omega) hj n j n i nm A n 0 M (by omega) hM
  have d1':Z70 n j i n j n i n 0 nm A M=_:=d1
  obtain ⟨M2,e1,e2,e3⟩:=ih (i+1) M1 (by omega) d2.sq
  refine ⟨M2,?_,d2.trans e2,fun a b h1 h2 h3 h4 h5=>?_⟩
  ·rw [Z71_fx]
   unfold c_Z71
   have h1:(i:Int)<n:=by omega
   simp only [h1,decide_true,cond_true,d1',Option.bind_some,Qf (show i<4611686018427387904 by omega),e1]
  ·by_cases hai:a=i
   ·subst hai
    exact e2.mono _ _ (d3 b (by omega) h3 h4 h5)
   ·exact e3 a b (by omega) h2 h3 (d2.mono _ _ h4) (d2.mono _ _ h5)
def PP (E:Nat→Nat→Prop):Nat→Nat→Nat→Prop
 | 0,a,b=>E a b
 | j+1,a,b=>PP E j a b∨(PP E j a j∧PP E j j b)
theorem PP_trans {E:Nat→Nat→Prop}:∀ {j k a b:Nat},k<j→PP E j a k→PP E j k b→PP E j a b
 | 0,k,a,b,h,_,_=>by omega
 | j+1,k,a,b,h,h1,h2=>by
  have left:∀ {x:Nat},PP E (j+1) x j→PP E j x j:=fun h=>h.elim id (fun h=>h.1)
  have right:∀ {x:Nat},PP E (j+1) j x→PP E j j x:=fun h=>h.elim id (fun h=>h.2)
  by_cases hk:k=j
  ·subst hk
   exact .inr ⟨left h1,right h2⟩
  ·have hk':k<j:=by omega
   rcases h1 with h1 | ⟨h1,h1'⟩
   ·rcases h2 with h2 | ⟨h2,h2'⟩
    ·exact .inl (PP_trans hk' h1 h2)
    ·exact .inr ⟨PP_trans hk' h1 h2,h2'⟩
   ·rcases h2 with h2 | ⟨h2,h2'⟩
    ·exact .inr ⟨h1,PP_trans hk' h1' h2⟩
    ·exact .inr ⟨h1,h2'⟩
theorem PP_base {E:Nat→Nat→Prop}:∀ {j a b:Nat},E a b→PP E j a b
 | 0,_,_,h=>h
 | j+1,_,_,h=>.inl (PP_base h)
theorem clJ (n:Nat) (hn:n≤10) (E:Nat→Nat→Prop) (nm A:List D):∀ (m j:Nat) (M:List D),j+m=n→Sq n M→(∀ a b,a<n→b<n→PP E j a b→at2 M a b=true) →
  ∃ M',Z72 n n j nm A M=some (nm,A,M')∧Clo n M M'∧∀ a b,a<n→b<n→PP E n a b→at2 M' a b=true:=by
 intro m
 induction m with
 | zero=>
  intro j M hj hM hP
  have:j=n:=by omega
  subst this
  refine ⟨M,?_,Clo.refl hM,hP⟩
  rw [Z72_fx]
  unfold c_Z72
  simp
 | succ m ih=>
  intro j M hj hM hP
  have hjn:j<n:=by omega
  obtain ⟨M1,d1,d2,d3⟩:=clI n j hn hjn nm A n 0 M (by omega) hM
  have d1':Z71 n j n j n 0 nm A M=_:=d1
  obtain ⟨M2,e1,e2,e3⟩:=ih (j+1) M1 (by omega) d2.sq (fun a b ha hb h=>by
   rcases h with h | ⟨h1,h2⟩
   ·exact d2.mono _ _ (hP a b ha hb h)
   ·exact d3 a b (by omega) ha hb (hP a j ha hjn h1) (hP j b hjn hb h2))
  refine ⟨M2,?_,d2.trans e2,e3⟩
  rw [Z72_fx]
  unfold c_Z72
  have h1:(j:Int)<n:=by omega
  simp only [h1,decide_true,cond_true,d1',Option.bind_some,Qf (show j<4611686018427387904 by omega),e1]
structure Later (n:Nat) (E:Nat→Nat→Prop) (L:List D):Prop where
 sq:Sq n L
 base:∀ a b,E a b→at2 L a b=true
 trans:∀ a b c,at2 L a b=true→at2 L b c=true→at2 L a c=true
 min:∀ T:Nat→Nat→Prop,(∀ a b c,T a b→T b c→T a c)→(∀ a b,E a b→T a b)→∀ a b,at2 L a b=true→T a b
theorem order_eq (C R:List D) (hv:validB C R=true):∃ A L,Z77 C R=some (nums C,A,L)∧Sq C.length A∧(∀ a b,at2 A a b=true↔edge C R a b)∧Later C.length (edge C R) L:=by
 have hv':=hv
 simp only [validB,Bool.and_eq_true,decide_eq_true_eq] at hv'
 obtain ⟨hC,hR,_,_⟩:=hv'
 obtain ⟨M0,s1,s2,s3⟩:=square_eq C.length (by omega)
 obtain ⟨A,L0,r1,r2,r3,r4,r5⟩:=relsL_eq C R (nums C) C.length hv rfl hR hC R.length 0 M0 M0 (by omega) s2 s2
 have r1':Z69 C.length R R.length 0 C R (nums C) M0 M0=_:=r1
 have hA:∀ X:List D,(∀ a b,at2 X a b=true↔at2 M0 a b=true∨∃ k,0≤k∧edgeAt C R k a b)→∀ a b,at2 X a b=true↔edge C R a b:=by
  intro X h a b
  rw [h]
  constructor
  ·rintro (h | ⟨k,_,h⟩)
   ·rw [s3] at h; cases h
   ·exact ⟨k,h⟩
  ·rintro ⟨k,h⟩
   exact .inr ⟨k,Nat.zero_le _,h⟩
 obtain ⟨L,c1,c2,c3⟩:=clJ C.length hC (edge C R) (nums C) A C.length 0 L0 (by omega) r3 (fun a b _ _ h=>(hA L0 r5 a b).2 h)
 have c1':Z72 C.length C.length 0 (nums C) A L0=_:=c1
 have Z0:∀ a b,at2 L a b=true→a<C.length∧b<C.length∧PP (edge C R) C.length a b:=by
  refine c2.sound (fun a b=>a<C.length∧b<C.length∧PP (edge C R) C.length a b) (fun a b c h1 h2=>⟨h1.1,h2.2.1,PP_trans h1.2.1 h1.2.2 h2.2.2⟩) (fun a b h=>?_)
  have he:=(hA L0 r5 a b).1 h
  have:=edge_lt hv he
  exact ⟨this.1,this.2.1,PP_base he⟩
 have hLater:Later C.length (edge C R) L:=by
  refine ⟨c2.sq,fun a b h=>c2.mono _ _ ((hA L0 r5 a b).2 h),fun a b c h1 h2=>?_,fun T hT hb=>c2.sound T hT (fun a b h=>hb a b ((hA L0 r5 a b).1 h))⟩
  have q1:=Z0 a b h1
  have q2:=Z0 b c h2
  exact c3 a c q1.1 q2.2.1 (PP_trans q1.2.1 q1.2.2 q2.2.2)
 refine ⟨A,L,?_,r2,hA A r4,hLater⟩
 unfold Z77 c_Z77
 simp only [s1,Option.bind_some]
 cases hl:C with
 | nil=>
  subst hl
  have hR0:R=[]:=by
   cases R with
   | nil=>rfl
   | cons d R=>
    obtain ⟨a,b,q1,_⟩:=rOk_at hv (show 0<(d::R).length by simp)
    simp at q1
  subst hR0
  have hM0:M0=[]:=List.eq_nil_of_length_eq_zero s2.len
  subst hM0
  have x1:Z68 0 [] 0 0 [] [] [] [] []=some (.inr (0,[],[],[],[],[])):=by
   rw [Z68_fx]; unfold c_Z68; simp
  have x2:Z73 0 [] 0 0 [] [] [] [] []=some (0,[],[],[]):=by
   rw [Z73_fx]; unfold c_Z73; simp
  have x3:Z76 0 0 0 [] [] []=some ([],[],[]):=by
   rw [Z76_fx]; unfold c_Z76; simp
  have hAe:A=[]:=List.eq_nil_of_length_eq_zero r2.len
  have hLe:L=[]:=List.eq_nil_of_length_eq_zero c2.sq.len
  simp only [List.length_nil,Int.natCast_zero] at x1 x2 x3 ⊢
  rw [hAe,hLe]
  simp only [Int.ofNat_zero,Int.natCast_zero,x1,x2,x3,Option.bind_some,Sum.elim_inr,nums,List.map_nil,List.length_nil]
 | cons d C'=>
  rw [← hl]
  have hpos:0<C.length:=by rw [hl]; simp
  have x1:Z68 C.length C C.length 0 C R [] M0 M0=some (.inl (C.length,C,R,nums C,M0,M0)):=by
   rw [Z68_fx]
   unfold c_Z68
   have h1:(0:Int)<C.length:=by omega
   have h3:(0:Int)≤0∧(0:Int)<C.length:=by omega
   have:=numsL_eq C R M0 M0 C.length (by omega) (C.length - 1) 1 [.int ((C.getD 0 (.int 0)).fld 0).toInt] (by omega) rfl
   have w1:IntKind.i64.wrap (0+1)=((1:Nat):Int):=by decide
   have hd:[D.int ((C.getD 0 (.int 0)).fld 0).toInt]++nums (C.drop 1)=nums C:=by rw [hl]; simp [nums]
   rw [hd] at this
   simp only [h1,decide_true,cond_true,if_pos h3,Int.toNat_zero,List.nil_append,List.length_cons,List.length_nil,w1,this,Option.bind_some]
   rfl
  simp only [x1,Option.bind_some,Sum.elim_inl,r1',c1']
def numAt (C:List D) (i:Nat):Int:=((C[i]?.getD (.int 0)).fld 0).toInt
theorem nums_at {C:List D} {i:Nat} (h:i<C.length):((nums C).getD i (.int 0)).toInt=numAt C i:=by
 unfold nums numAt
 rw [List.getD_eq_getElem?_getD,List.getElem?_map,List.getElem?_eq_getElem h]
 rfl
theorem numAt_lt {C R:List D} (hv:validB C R=true):∀ (k i:Nat),i+k<C.length→0<k→numAt C i<numAt C (i+k):=by
 simp only [validB,Bool.and_eq_true] at hv
 have step:∀ i,i+1<C.length→numAt C i<numAt C (i+1):=by
  intro i hi
  have:=allN_iff.1 hv.2.2.1 (i+1) hi
  simp only [cOk,Bool.and_eq_true,Bool.or_eq_true,decide_eq_true_eq] at this
  rcases this.2.2 with h | h
  ·omega
  ·exact h
 intro k
 induction k with
 | zero=>intro i _ h; omega
 | succ k ih=>
  intro i hi _
  by_cases hk:k=0
  ·subst hk; exact step i hi
  ·have:=ih i (by omega) (by omega)
   have:=step (i+k) (by omega)
   rw [show i+(k+1)=i+k+1 by omega]
   omega
theorem numAt_inj {C R:List D} (hv:validB C R=true) {i j:Nat} (hi:i<C.length) (hj:j<C.length) (h:numAt C i=numAt C j):i=j:=by
 by_cases h1:i<j
 ·have:=numAt_lt hv (j - i) i (by omega) (by omega)
  rw [show i+(j - i)=j by omega] at this
  omega
 ·by_cases h2:j<i
  ·have:=numAt_lt hv (i - j) j (by omega) (by omega)
   rw [show j+(i - j)=i by omega] at this
   omega
  ·omega
theorem uw (n:Int) (h:0≤n∧n<1000):IntKind.u64.wrap n=n:=by
 rw [uwrap]; omega
theorem bv_nat (n:Nat) (h:n<18446744073709551616):(BitVec.ofInt IntKind.i64.bits (n:Int)).toNat=n:=by
 simp only [IntKind.bits,BitVec.toNat_ofInt]
 omega
theorem or_bits (a b:Nat) (ha:a<1024) (hb:b<1024):IntKind.i64.wrap (((BitVec.ofInt IntKind.i64.bits (a:Int) ||| BitVec.ofInt IntKind.i64.bits (b:Int)).toNat:Nat):Int)=((a ||| b:Nat):Int)∧a ||| b<1024:=by
 have h:a ||| b<2 ^ 10:=Nat.or_lt_two_pow (by omega) (by omega)
 rw [BitVec.toNat_or,bv_nat a (by omega),bv_nat b (by omega),Ux (by omega) (by omega)]
 exact ⟨rfl,by omega⟩
theorem shl_bit (k:Nat) (hk:k<10):IntKind.i64.wrap (1 * 2 ^ Min.min ((k:Int)).toNat IntKind.i64.bits)=((2 ^ k:Nat):Int)∧2 ^ k<1024:=by
 have h1:Min.min ((k:Int)).toNat IntKind.i64.bits=k:=by simp only [Int.toNat_natCast,IntKind.bits]; omega
 have h2:2 ^ k<2 ^ 10:=Nat.pow_lt_pow_right (by omega) hk
 have h3:(1:Int) * 2 ^ k=((2 ^ k:Nat):Int):=by simp
 have key:∀ x:Nat,x<1024→IntKind.i64.wrap (x:Int)=x∧x<1024:=fun x hx=>⟨Ux (by omega) (by omega),hx⟩
 rw [h1,h3]
 exact key _ (Nat.lt_of_lt_of_le h2 (by decide))
theorem and_bit (v k:Nat) (hv:v<1024) (hk:k<10):decide (IntKind.i64.wrap (((BitVec.ofInt IntKind.i64.bits ((v:Int).fdiv (2 ^ Min.min ((k:Int)).toNat IntKind.i64.bits)) &&& BitVec.ofInt IntKind.i64.bits 1).toNat:Nat):Int)=1)=v.testBit k:=by
 have h1:Min.min ((k:Int)).toNat IntKind.i64.bits=k:=by simp only [Int.toNat_natCast,IntKind.bits]; omega
 have h2:(v:Int).fdiv (2 ^ k)=((v / 2 ^ k:Nat):Int):=by
  rw [Int.fdiv_eq_ediv_of_nonneg _ (by exact Int.le_of_lt (Int.pow_pos (by decide)))]
  simp
 have h3:v / 2 ^ k≤v:=Nat.div_le_self _ _
 have h4:(BitVec.ofInt IntKind.i64.bits 1).toNat=1:=by decide
 rw [h1,h2,BitVec.toNat_and,bv_nat _ (by omega),h4,Nat.and_one_is_mod,Nat.testBit_eq_decide_div_mod_eq,Ux (by omega) (by omega)]
 by_cases h:v / 2 ^ k % 2=1
 ·rw [decide_eq_true h,decide_eq_true (by omega)]
 ·rw [decide_eq_false h,decide_eq_false (by omega)]
def b2 (B:List D) (i k:Nat):Bool:=(B.getD i (.int 0)).toInt.toNat.testBit k
structure Bq (n:Nat) (B:List D):Prop where
 len:B.length=n
 rng:∀ i,i<n→∃ v:Nat,(B.getD i (.int 0)).toInt=v∧v<1024
theorem b2_set {n:Nat} {B:List D} (h:Bq n B) {i a c v:Nat} (hi:i<n):b2 (B.set i (.int (v:Nat))) a c=if a=i then v.testBit c else b2 B a c:=by
 unfold b2
 rw [getD_set (by rw [h.len]; exact hi)]
 by_cases e:i=a
 ·subst e; simp [Od]
 ·have:¬ a=i:=fun e'=>e e'.symm
  simp [e,this]
theorem Bq.set {n:Nat} {B:List D} (h:Bq n B) {i v:Nat} (hi:i<n) (hv:v<1024):Bq n (B.set i (.int (v:Nat))):=by
 refine ⟨by simp [h.len],fun j hj=>?_⟩
 rw [getD_set (by rw [h.len]; exact hi)]
 split
 ·exact ⟨v,rfl,hv⟩
 ·exact h.rng j hj
theorem b2_lt {n:Nat} {B:List D} (h:Bq n B) {a c:Nat} (hv:b2 B a c=true):a<n∧c<10:=by
 unfold b2 at hv
 by_cases ha:a<n
 ·refine ⟨ha,?_⟩
  obtain ⟨v,e1,e2⟩:=h.rng a ha
  rw [e1,Int.toNat_natCast] at hv
  by_cases hc:c<10
  ·exact hc
  ·rw [Nat.testBit_lt_two_pow (Nat.lt_of_lt_of_le (show v<2 ^ 10 by omega) (Nat.pow_le_pow_right (by omega) (by omega)))] at hv
   cases hv
 ·rw [List.getD_eq_getElem?_getD,List.getElem?_eq_none (by rw [h.len]; omega)] at hv
  simp [Od] at hv
theorem rOk_in {C R:List D} (h:InR C R) {j:Nat} (hj:j<R.length):∃ a b,a<C.length∧b<C.length∧True∧find2 C ((R[j]?.getD (.int 0)).fld 0).toInt=(a:Int)∧find2 C ((R[j]?.getD (.int 0)).fld 1).toInt=(b:Int)∧True:=by
 obtain ⟨h1,h2⟩:=h _ (qO hj)
 obtain ⟨a,a1,a2,_⟩:=find2_some h1
 obtain ⟨b,b1,b2,_⟩:=find2_some h2
 exact ⟨a,b,a1,b1,trivial,a2,b2,trivial⟩
theorem inR_of {C R:List D} (hv:validB C R=true):InR C R:=by
 intro d hd
 obtain ⟨j,hj,rfl⟩:=List.getElem_of_mem hd
 obtain ⟨a,b,q1,q2,q3,q4,q5,_⟩:=rOk_at hv hj
 have e:R[j]?.getD (.int 0)=R[j]:=by simp [hj]
 rw [e] at q4 q5
 rw [q4,q5]
 exact ⟨by omega,by omega⟩
theorem bitsR_in (C R:List D) (n:Nat) (hv:InR C R) (hC:C.length=n) (hn:n≤10) (hR:R.length≤24):∀ (m j:Nat) (B:List D),j+m=R.length→Bq n B →
  ∃ B',Z26 j C R B=some B'∧Bq n B'∧∀ a b,b2 B' a b=true↔b2 B a b=true∨∃ k,j≤k∧edgeAt C R k a b:=by
 intro m
 induction m with
 | zero=>
  intro j B hj hB
  have:j=R.length:=by omega
  subst this
  refine ⟨B,?_,hB,fun a b=>⟨.inl,?_⟩⟩
  ·rw [Z26_fx]
   unfold c_Z26
   simp
  ·rintro (h | ⟨k,h1,h2⟩)
   ·exact h
   ·have:=h2.1; omega
 | succ m ih=>
  intro j B hj hB
  obtain ⟨a,b,q1,q2,q3,q4,q5,_⟩:=rOk_in hv (show j<R.length by omega)
  rw [hC] at q1 q2
  obtain ⟨v,v1,v2⟩:=hB.rng a q1
  obtain ⟨s1,s2⟩:=shl_bit b (by omega)
  obtain ⟨o1,o2⟩:=or_bits v (2 ^ b) v2 s2
  obtain ⟨B',e1,e2,e3⟩:=ih (j+1) (B.set a (.int ((v ||| 2 ^ b:Nat):Int))) (by omega) (hB.set q1 o2)
  refine ⟨B',?_,e2,fun c d=>?_⟩
  ·rw [Z26_fx]
   unfold c_Z26
   have h1:(j:Int)<R.length:=by omega
   have g1:(a:Int)<B.length:=by rw [hB.len]; omega
   have g2:a+1≤B.length:=by rw [hB.len]; omega
   rw [← List.getD_eq_getElem?_getD] at q4 q5
   simp only [h1,g1,decide_true,cond_true,Int.natCast_nonneg,and_self,if_true,Int.toNat_natCast,l2Find_eq C R _ (show C.length≤100000 by omega),q4,q5,Option.bind_some,if_pos g2,uw (b:Int) (by omega),v1]
   rw [show IntKind.i64.wrap (1 * 2 ^ Min.min b IntKind.i64.bits)=((2 ^ b:Nat):Int) from s1,o1,Qf (show j<4611686018427387904 by omega),e1]
   rfl
  ·rw [e3,b2_set hB q1]
   have hb:∀ d,(v ||| 2 ^ b).testBit d=true↔v.testBit d=true∨d=b:=by
    intro d
    rw [Nat.testBit_or,Bool.or_eq_true,Nat.testBit_two_pow,decide_eq_true_eq]
    exact ⟨fun h=>h.imp id (fun h=>h.symm),fun h=>h.imp id (fun h=>h.symm)⟩
   have hv':∀ d,b2 B a d=v.testBit d:=fun d=>by unfold b2; rw [v1,Int.toNat_natCast]
   constructor
   ·rintro (h | ⟨k,h1,h2⟩)
    ·split at h
     ·rename_i e
      rw [hb] at h
      rcases h with h | h
      ·left; rw [e,hv']; exact h
      ·exact .inr ⟨j,Nat.le_refl _,by omega,by rw [e]; exact q4,by rw [h]; exact q5⟩
     ·exact .inl h
    ·exact .inr ⟨k,by omega,h2⟩
   ·rintro (h | ⟨k,h1,h2⟩)
    ·left
     split
     ·rename_i e; rw [hb]; left; rw [e,hv'] at h; exact h
     ·exact h
    ·by_cases hk:k=j
     ·subst hk
      left
      obtain ⟨_,g1,g2⟩:=h2
      rw [q4] at g1; rw [q5] at g2
      rw [if_pos (by omega),hb]
      right; omega
     ·exact .inr ⟨k,by omega,h2⟩
structure CloB (n:Nat) (M M':List D):Prop where
 sq:Bq n M'
 mono:∀ a b,b2 M a b=true→b2 M' a b=true
 sound:∀ T:Nat→Nat→Prop,(∀ a b c,T a b→T b c→T a c)→(∀ a b,b2 M a b=true→T a b)→∀ a b,b2 M' a b=true→T a b
theorem CloB.refl {n:Nat} {M:List D} (h:Bq n M):CloB n M M:=⟨h,fun _ _ h=>h,fun _ _ h=>h⟩
theorem CloB.trans {n:Nat} {M M' M'':List D} (h:CloB n M M') (k:CloB n M' M''):CloB n M M'':=
 ⟨k.sq,fun a b q=>k.mono a b (h.mono a b q),fun T hT hb=>k.sound T hT (h.sound T hT hb)⟩
theorem bitsI_eq (n j:Nat) (hn:n≤10) (hj:j<n):∀ (m i:Nat) (B:List D),i+m=n→Bq n B →
  ∃ B',Z27 j i B=some ((j:Int),B')∧CloB n B B'∧∀ a b,i≤a→a<n→b2 B a j=true→b2 B j b=true→b2 B' a b=true:=by
 intro m
 induction m with
 | zero=>
  intro i B hi hB
  have:i=n:=by omega
  subst this
  refine ⟨B,?_,CloB.refl hB,fun a b h1 h2=>by omega⟩
  rw [Z27_fx]
  unfold c_Z27
  simp [hB.len]
 | succ m ih=>
  intro i B hi hB
  have hin:i<n:=by omega
  obtain ⟨v,v1,v2⟩:=hB.rng i hin
  obtain ⟨u,u1,u2⟩:=hB.rng j hj
  obtain ⟨o1,o2⟩:=or_bits v u v2 u2
  have hbit:b2 B i j=v.testBit j:=by unfold b2; rw [v1,Int.toNat_natCast]
  rw [Z27_fx]
  unfold c_Z27
  have g1:(i:Int)<B.length:=by rw [hB.len]; omega
  have g2:i+1≤B.length:=by rw [hB.len]; omega
  have g3:(j:Int)<B.length:=by rw [hB.len]; omega
  have g4:j+1≤B.length:=by rw [hB.len]; omega
  have ab:=and_bit v j v2 (by omega)
  simp only [Int.toNat_natCast] at ab
  simp only [g1,g3,decide_true,cond_true,Int.natCast_nonneg,and_self,if_true,Int.toNat_natCast,if_pos g2,if_pos g4,uw (j:Int) (by omega),v1,u1,o1,ab,Qf (show i<4611686018427387904 by omega)]
  cases hq:v.testBit j with
  | false=>
   obtain ⟨B',e1,e2,e3⟩:=ih (i+1) B (by omega) hB
   refine ⟨B',by simp only [cond_false,e1,Option.bind_some],e2,fun a b h1 h2 h3 h4=>?_⟩
   by_cases e:a=i
   ·subst e; rw [hbit,hq] at h3; cases h3
   ·exact e3 a b (by omega) h2 h3 h4
  | true=>
   have hc:CloB n B (B.set i (.int ((v ||| u:Nat):Int))):=by
    refine ⟨hB.set hin o2,fun a b h=>?_,fun T hT hb a b h=>?_⟩
    ·rw [b2_set hB hin]
     split
     ·rename_i e
      rw [e] at h
      rw [Nat.testBit_or,Bool.or_eq_true]
      left; unfold b2 at h; rw [v1,Int.toNat_natCast] at h; exact h
     ·exact h
    ·rw [b2_set hB hin] at h
     split at h
     ·rename_i e
      rw [e]
      rw [Nat.testBit_or,Bool.or_eq_true] at h
      rcases h with h | h
      ·exact hb i b (by unfold b2; rw [v1,Int.toNat_natCast]; exact h)
      ·exact hT i j b (hb i j (by rw [hbit,hq])) (hb j b (by unfold b2; rw [u1,Int.toNat_natCast]; exact h))
     ·exact hb a b h
   obtain ⟨B',e1,e2,e3⟩:=ih (i+1) (B.set i (.int ((v ||| u:Nat):Int))) (by omega) hc.sq
   refine ⟨B',by simp only [cond_true,e1,Option.bind_some],hc.trans e2,fun a b h1 h2 h3 h4=>?_⟩
   by_cases e:a=i
   ·subst e
    refine e2.mono _ _ ?_
    rw [b2_set hB hin,if_pos rfl,Nat.testBit_or,Bool.or_eq_true]
    right; unfold b2 at h4; rw [u1,Int.toNat_natCast] at h4; exact h4
   ·exact e3 a b (by omega) h2 (hc.mono _ _ h3) (hc.mono _ _ h4)
theorem bitsJ_eq (n:Nat) (hn:n≤10) (E:Nat→Nat→Prop):∀ (m j:Nat) (B:List D),j+m=n→Bq n B→(∀ a b,a<n→b<n→PP E j a b→b2 B a b=true) →
  ∃ B',Z28 j B=some B'∧CloB n B B'∧∀ a b,a<n→b<n→PP E n a b→b2 B' a b=true:=by
 intro m
 induction m with
 | zero=>
  intro j B hj hB hP
  have:j=n:=by omega
  subst this
  refine ⟨B,?_,CloB.refl hB,hP⟩
  rw [Z28_fx]
  unfold c_Z28
  simp [hB.len]
 | succ m ih=>
  intro j B hj hB hP
  have hjn:j<n:=by omega
  obtain ⟨B1,d1,d2,d3⟩:=bitsI_eq n j hn hjn n 0 B (by omega) hB
  have d1':Z27 j 0 B=_:=d1
  obtain ⟨B2,e1,e2,e3⟩:=ih (j+1) B1 (by omega) d2.sq (fun a b ha hb h=>by
   rcases h with h | ⟨h1,h2⟩
   ·exact d2.mono _ _ (hP a b ha hb h)
   ·exact d3 a b (by omega) ha (hP a j ha hjn h1) (hP j b hjn hb h2))
  refine ⟨B2,?_,d2.trans e2,e3⟩
  rw [Z28_fx]
  unfold c_Z28
  have g1:(j:Int)<B.length:=by rw [hB.len]; omega
  simp only [g1,decide_true,cond_true,d1',Option.bind_some,Qf (show j<4611686018427387904 by omega),e1]
theorem bits_eq (C R:List D) (hv:validB C R=true):∃ B,Z29 C R=some B∧Bq C.length B∧(∀ L,Later C.length (edge C R) L→∀ a b,b2 B a b=at2 L a b):=by
 have hv':=hv
 simp only [validB,Bool.and_eq_true,decide_eq_true_eq] at hv'
 obtain ⟨hC,hR,_,_⟩:=hv'
 have hB0:Bq C.length (List.replicate C.length (D.int 0)):=⟨by simp,fun i hi=>⟨0,by rw [List.getD_eq_getElem?_getD,List.getElem?_replicate,if_pos hi]; rfl,by omega⟩⟩
 have hz:∀ a b,b2 (List.replicate C.length (D.int 0)) a b=false:=by
  intro a b
  unfold b2
  rw [List.getD_eq_getElem?_getD,List.getElem?_replicate]
  split <;> simp [Od]
 obtain ⟨B0,r1,r2,r3⟩:=bitsR_in C R C.length (inR_of hv) rfl hC hR R.length 0 _ (by omega) hB0
 have r1':Z26 0 C R (List.replicate C.length (D.int 0))=_:=r1
 have hE:∀ a b,b2 B0 a b=true↔edge C R a b:=by
  intro a b
  rw [r3,hz]
  constructor
  ·rintro (h | ⟨k,_,h⟩)
   ·cases h
   ·exact ⟨k,h⟩
  ·rintro ⟨k,h⟩
   exact .inr ⟨k,Nat.zero_le _,h⟩
 obtain ⟨B,c1,c2,c3⟩:=bitsJ_eq C.length hC (edge C R) C.length 0 B0 (by omega) r2 (fun a b _ _ h=>(hE a b).2 h)
 have c1':Z28 0 B0=_:=c1
 have Z0:∀ a b,b2 B a b=true→a<C.length∧b<C.length∧PP (edge C R) C.length a b:=by
  refine c2.sound (fun a b=>a<C.length∧b<C.length∧PP (edge C R) C.length a b) (fun a b c h1 h2=>⟨h1.1,h2.2.1,PP_trans h1.2.1 h1.2.2 h2.2.2⟩) (fun a b h=>?_)
  have he:=(hE a b).1 h
  have:=edge_lt hv he
  exact ⟨this.1,this.2.1,PP_base he⟩
 have h2:(0:Int)≤C.length∧(C.length:Int)≤C.length∧(C.length:Int)≤4294967296:=by omega
 refine ⟨B,?_,c2.sq,fun L hL a b=>?_⟩
 ·simp only [Z29,c_Z29,if_pos h2,Int.toNat_natCast,r1',c1',Option.bind_some]
 ·cases hq:at2 L a b with
  | true=>
   refine hL.min (fun a b=>b2 B a b=true) (fun a b c h1 h2=>?_) (fun a b h=>c2.mono _ _ ((hE a b).2 h)) a b hq
   have q1:=Z0 a b h1
   have q2:=Z0 b c h2
   exact c3 a c q1.1 q2.2.1 (PP_trans q1.2.1 q1.2.2 q2.2.2)
  | false=>
   cases hb:b2 B a b with
   | false=>rfl
   | true=>
    have:=c2.sound (fun a b=>at2 L a b=true) hL.trans (fun a b h=>hL.base a b ((hE a b).1 h)) a b hb
    rw [hq] at this; cases this
theorem l4Bit_eq (v k:Nat) (hv:v<1024) (hk:k<10):Z30 v k=some (v.testBit k):=by
 unfold Z30 c_Z30
 have h:=and_bit v k hv hk
 rw [uw (k:Int) (by omega),if_pos (by omega)]
 rw [← h]
theorem cons_tot {C R:List D} (hC:C.length≤10) (hR:R.length≤24) (hI:InR C R):∃ b,Z32 C R=some b:=by
 have hB0:Bq C.length (List.replicate C.length (D.int 0)):=⟨by simp,fun i hi=>⟨0,by rw [List.getD_eq_getElem?_getD,List.getElem?_replicate,if_pos hi]; rfl,by omega⟩⟩
 obtain ⟨B0,r1,r2,r3⟩:=bitsR_in C R C.length hI rfl hC hR R.length 0 _ (by omega) hB0
 have r1':Z26 0 C R (List.replicate C.length (D.int 0))=_:=r1
 obtain ⟨B,c1,c2,c3⟩:=bitsJ_eq C.length hC (fun a b=>b2 B0 a b=true) C.length 0 B0 (by omega) r2 (fun a b _ _ h=>h)
 have c1':Z28 0 B0=_:=c1
 have hB:=c2.sq
 have h2:(0:Int)≤C.length∧(C.length:Int)≤C.length∧(C.length:Int)≤4294967296:=by omega
 have hl:Z29 C R=some B:=by simp only [Z29,c_Z29,if_pos h2,Int.toNat_natCast,r1',c1',Option.bind_some]
 have h:=fxAll (F:=fun i=>Z31 i B) (len:=C.length) (fun i=>!b2 B i i) (.inl false) (fin:=.inr ()) (fun i hi=>by
  show Z31 i B=_
  rw [Z31_fx]
  unfold c_Z31
  have g1:(i:Int)<B.length:=by rw [hB.len]; omega
  have g2:i+1≤B.length:=by rw [hB.len]; omega
  obtain ⟨v,e1,e2⟩:=hB.rng i hi
  have e3:v.testBit i=b2 B i i:=by rw [b2,e1]; rfl
  simp only [g1,g2,decide_true,cond_true,Int.natCast_nonneg,and_self,if_true,Int.toNat_natCast,e1,l4Bit_eq v i e2 (by omega),Option.bind_some,e3,Qf (show i<4611686018427387904 by omega),Option.bind_fun_some]
  cases b2 B i i <;> rfl)
  (by
   show Z31 (C.length:Int) B=_
   rw [Z31_fx]; unfold c_Z31; simp [hB.len])
 have h:Z31 0 B=_:=h
 unfold Z32 c_Z32
 simp only [hl,h,Option.bind_some]
 cases allN (fun i=>!b2 B i i) C.length <;> exact ⟨_,rfl⟩
theorem consistent_tot (c:List D) (hc:okC c) (p s:Int) (hp:0≤p∧p≤1099511619000):∃ y,Z33 c p s=some y∧recI c p (p+200) 10 20 y:=by
 refine Tt.out ?_
 unfold Z33 c_Z33
 refine Tt.bind (Tt.con (record_in _ hc _ _ (by omega))) ?_
 rintro ⟨C,R,c1,p1,s1⟩ ⟨⟨g1,g2,g3,g4,g5⟩,g6⟩
 simp only at g1 g2 g3 g4 g5 g6
 obtain ⟨b,hb⟩:=cons_tot (C:=C) (R:=R) (by omega) (by omega) g6
 dsimp only
 rw [hb]
 cases b with
 | false=>exact Tt.pure ⟨g1,by simp only; omega,by simp only; omega,by simp only; omega,by simp only [List.length_nil]; omega⟩
 | true=>exact Tt.pure ⟨g1,by simp only; omega,by simp only; omega,by simp only; omega,by simp only; omega⟩
theorem ordered_tot (c:List D) (hc:okC c) (p s:Int) (hp:0≤p∧p≤1099511600000):∃ y,Z34 c p s=some y∧recI c p (p+600) 100 100 y:=by
 refine Tt.out ?_
 unfold Z34 c_Z34
 (refine Tt.bind (Tt.con (one_tot' _ hc _ _ _ (by omega) (by omega))) ?_; rintro ⟨v,c',p',s'⟩ ⟨hv,rfl,hp1,hp2⟩; dsimp only at hv hp1 hp2 ⊢)
 refine Tt.cnd (fun _=>?_) (fun _=>?_)
 ·refine Tt.bind (Tt.con (any_tot _ hc _ _ (by omega))) ?_
  rintro ⟨C,R,c1,p1,s1⟩ ⟨g1,g2,g3,g4,g5⟩
  simp only at g1 g2 g3 g4 g5
  exact Tt.pure ⟨g1,by simp only; omega,by simp only; omega,by simp only; omega,by simp only; omega⟩
 ·refine Tt.bind (Tt.con (consistent_tot _ hc _ _ (by omega))) ?_
  rintro ⟨C,R,c1,p1,s1⟩ ⟨g1,g2,g3,g4,g5⟩
  simp only at g1 g2 g3 g4 g5
  exact Tt.pure ⟨g1,by simp only; omega,by simp only; omega,by simp only; omega,by simp only; omega⟩
theorem consistent_eq (C A L:List D) (hL:Sq C.length L) (hC:C.length≤10):Z79 (nums C) A L=some (allN (fun i=>!at2 L i i) C.length):=by
 have hn:(nums C).length=C.length:=by simp [nums]
 have h:=fxAll (F:=fun i=>Z78 (nums C) A L C.length i) (len:=C.length) (fun i=>!at2 L i i) (.inl false) (fin:=.inr ()) (fun i hi=>by
  show Z78 (nums C) A L C.length i=_
  rw [Z78_fx]
  unfold c_Z78
  have h1:(i:Int)<C.length:=by omega
  have g1:(0:Int)≤(i:Int)∧(i:Int)<L.length:=by rw [hL.len]; omega
  have g2:(0:Int)≤(i:Int)∧(i:Int)<(L.getD i (.int 0)).items.length:=by rw [hL.row i hi]; omega
  have r1:((L.getD i (.int 0)).items.getD i (.int 0)).toBool=at2 L i i:=rfl
  simp only [h1,decide_true,cond_true,Int.toNat_natCast,if_pos g1,if_pos g2,r1,Qf (show i<4611686018427387904 by omega),Option.bind_fun_some]
  cases at2 L i i <;> rfl)
  (by
   show Z78 (nums C) A L C.length C.length=_
   rw [Z78_fx]; unfold c_Z78; simp)
 have h':Z78 (nums C) A L C.length 0=_:=h
 simp only [Z79,c_Z79,hn,h',Option.bind_some]
 cases allN (fun i=>!at2 L i i) C.length <;> rfl
structure Good5 (C R A L B:List D):Prop where
 l5:Z39 C R=some true
 cons:Z80 C R=some (.inr (nums C,A,L,true))
 later:Z29 C R=some B
 bq:Bq C.length B
 hb:∀ a b,b2 B a b=at2 L a b
 sq:Sq C.length L
 hn:C.length≤10
 trans:∀ a b c,at2 L a b=true→at2 L b c=true→at2 L a c=true
 irr:∀ a,at2 L a a=false
 v:validB C R=true
theorem l4Consistent_eq {C R B L:List D} (h1:Z29 C R=some B) (hB:Bq C.length B) (hb:∀ a b,b2 B a b=at2 L a b) (hn:C.length≤10):Z32 C R=some (allN (fun i=>!at2 L i i) C.length):=by
 have h:=fxAll (F:=fun i=>Z31 i B) (len:=C.length) (fun i=>!at2 L i i) (.inl false) (fin:=.inr ()) (fun i hi=>by
  show Z31 i B=_
  rw [Z31_fx]
  unfold c_Z31
  have g1:(i:Int)<B.length:=by rw [hB.len]; omega
  have g2:i+1≤B.length:=by rw [hB.len]; omega
  obtain ⟨v,e1,e2⟩:=hB.rng i hi
  have e3:v.testBit i=at2 L i i:=by rw [← hb,b2,e1]; rfl
  simp only [g1,g2,decide_true,cond_true,Int.natCast_nonneg,and_self,if_true,Int.toNat_natCast,e1,l4Bit_eq v i e2 (by omega),Option.bind_some,e3,Qf (show i<4611686018427387904 by omega),Option.bind_fun_some]
  cases at2 L i i <;> rfl)
  (by
   show Z31 (C.length:Int) B=_
   rw [Z31_fx]; unfold c_Z31; simp [hB.len])
 have h:Z31 0 B=_:=h
 simp only [Z32,c_Z32,h1,h,Option.bind_some]
 cases allN (fun i=>!at2 L i i) C.length <;> rfl
theorem cases5 (C R:List D):(Z39 C R=some false∧(Z80 C R=some (.inl false)∨∃ a b c,Z80 C R=some (.inr (a,b,c,false))))∨∃ A L B,Good5 C R A L B:=by
 have hl:=l2Good_eq C R
 have hv:=valid_eq C R
 cases hb:validB C R with
 | false=>
  left
  rw [hb] at hl hv
  constructor
  ·simp only [Z39,c_Z39,hl,Option.bind_some,cond_false]
  ·left; simp only [Z80,c_Z80,hv,Option.bind_some,Bool.not_false,cond_true]
 | true=>
  rw [hb] at hl hv
  have hC:C.length≤10:=by
   have h:=hb
   simp only [validB,Bool.and_eq_true,decide_eq_true_eq] at h
   exact h.1
  obtain ⟨A,L,o1,o2,o3,o4⟩:=order_eq C R hb
  obtain ⟨B,b1,b2',b3⟩:=bits_eq C R hb
  have hbb:=b3 L o4
  have hcons:=consistent_eq C A L o4.sq hC
  have hs:=l4Consistent_eq b1 b2' hbb hC
  cases hq:allN (fun i=>!at2 L i i) C.length with
  | false=>
   left
   rw [hq] at hcons hs
   constructor
   ·simp only [Z39,c_Z39,hl,Option.bind_some,cond_true,hs]
   ·right
    refine ⟨nums C,A,L,?_⟩
    simp only [Z80,c_Z80,hv,Option.bind_some,Bool.not_true,cond_false,o1,hcons]
  | true=>
   right
   rw [hq] at hcons hs
   have hc:Z80 C R=some (.inr (nums C,A,L,true)):=by
    simp only [Z80,c_Z80,hv,Option.bind_some,Bool.not_true,cond_false,o1,hcons]
   refine ⟨A,L,B,⟨?_,hc,b1,b2',hbb,o4.sq,hC,o4.trans,?_,hb⟩⟩
   ·simp only [Z39,c_Z39,hl,Option.bind_some,cond_true,hs]
   ·intro a
    by_cases ha:a<C.length
    ·have:=allN_iff.1 hq a ha
     simpa using this
    ·cases h:at2 L a a with
     | false=>rfl
     | true=>exact absurd (at2_lt o4.sq h).1 ha
theorem l4Bit_any (v k:Int):∃ b,Z30 v k=some b:=by
 have h:0≤IntKind.u64.wrap k:=by rw [uwrap]; omega
 exact ⟨_,by simp only [Z30,c_Z30,if_pos h]; rfl⟩
theorem ordL11 {n:Nat} {B:List D} (hB:B.length=n) (hn:n≤10) (v q i:Int) (l:List D):∀ (m j:Nat) (b:Bool),j+m=n→∃ b',Z40 v q i b j B l=some (v,q,i,b',B,l):=by
 intro m
 induction m with
 | zero=>
  intro j b hj
  have:j=n:=by omega
  subst this
  rw [Z40_fx]; unfold c_Z40
  exact ⟨b,by simp [hB]⟩
 | succ m ih=>
  intro j b hj
  rw [Z40_fx]
  unfold c_Z40
  have h1:(j:Int)<B.length:=by omega
  have h2:j+1≤B.length:=by omega
  obtain ⟨b1,e1⟩:=l4Bit_any ((B.getD j (.int 0)).toInt) i
  obtain ⟨b2,e2⟩:=l4Bit_any v j
  obtain ⟨u,hu⟩:=ih (j+1) b (by omega)
  obtain ⟨w,hw⟩:=ih (j+1) false (by omega)
  simp only [h1,h2,decide_true,cond_true,Int.natCast_nonneg,and_self,if_true,Int.toNat_natCast,e1,e2,Option.bind_some,Qf (show j<4611686018427387904 by omega),Option.bind_fun_some,hu,hw]
  cases b1
  ·exact ⟨_,rfl⟩
  ·cases b2 <;> exact ⟨_,rfl⟩
theorem ordL7 {n:Nat} {B:List D} (hB:B.length=n) (hn:n≤10) (v:Int) (l:List D):∀ (m j:Nat) (q:Int),j+m=n→q≤10→∃ q',Z41 v q j B l=some (v,q',B,l)∧q'≤10:=by
 intro m
 induction m with
 | zero=>
  intro j q hj hq
  have:j=n:=by omega
  subst this
  rw [Z41_fx]; unfold c_Z41
  exact ⟨q,by simp [hB],hq⟩
 | succ m ih=>
  intro j q hj hq
  rw [Z41_fx]
  unfold c_Z41
  have h1:(j:Int)<B.length:=by omega
  obtain ⟨b2,e2⟩:=l4Bit_any v j
  obtain ⟨b',e3⟩:=ordL11 hB hn v q j l n 0 (!b2) (by omega)
  have e3:Z40 v q j (!b2) 0 B l=_:=e3
  by_cases hq0:q<0
  ·obtain ⟨u,hu,hu2⟩:=ih (j+1) q (by omega) hq
   obtain ⟨w,hw,hw2⟩:=ih (j+1) (j:Int) (by omega) (by omega)
   simp only [h1,hq0,decide_true,cond_true,e2,e3,Option.bind_some,Qf (show j<4611686018427387904 by omega),Option.bind_fun_some,hu,hw]
   cases b'
   ·exact ⟨u,rfl,hu2⟩
   ·exact ⟨w,rfl,hw2⟩
  ·exact ⟨q,by simp only [h1,hq0,decide_true,decide_false,cond_true,cond_false],hq⟩
theorem ordL4 {n:Nat} {B:List D} (hB:B.length=n) (hn:n≤10):∀ (m:Nat) (v:Int) (l:List D),l.length+m=n→∃ y:List D,(Z42 v B l=some (.inl y)∨Z42 v B l=some (.inr y))∧y.length≤10:=by
 intro m
 induction m with
 | zero=>
  intro v l hl
  rw [Z42_fx]; unfold c_Z42
  have h1:¬ (l.length:Int)<B.length:=by omega
  exact ⟨l,.inr (by simp only [h1,decide_false,cond_false]),by omega⟩
 | succ m ih=>
  intro v l hl
  rw [Z42_fx]; unfold c_Z42
  have h1:(l.length:Int)<B.length:=by omega
  obtain ⟨q,e1,e2⟩:=ordL7 hB hn v l n 0 (-1) (by omega) (by omega)
  have e1:Z41 v (-1) 0 B l=_:=e1
  by_cases hq:q<0
  ·exact ⟨l,.inl (by simp only [h1,hq,e1,Option.bind_some,decide_true,cond_true]),by omega⟩
  ·have h2:l.length+[D.int q].length≤4294967296:=by simp; omega
   have h3:0≤IntKind.u64.wrap q:=by rw [uwrap]; omega
   obtain ⟨y,hy,hy2⟩:=ih (IntKind.i64.wrap (((BitVec.ofInt IntKind.i64.bits v ||| BitVec.ofInt IntKind.i64.bits (IntKind.i64.wrap (1 * 2 ^ Min.min (IntKind.u64.wrap q).toNat IntKind.i64.bits))).toNat:Nat):Int)) (l++[.int q]) (by simp; omega)
   refine ⟨y,?_,hy2⟩
   simp only [h1,hq,e1,Option.bind_some,decide_true,decide_false,cond_true,cond_false,h2,h3,if_true,Option.bind_fun_some]
   exact hy
theorem ord_tot {C R A L B:List D} (g:Good5 C R A L B):∃ y,Z43 C R=some y∧y.length≤10:=by
 have hn:=g.hn
 obtain ⟨y,h1,h2⟩:=ordL4 g.bq.len hn C.length 0 [] (by simp)
 refine ⟨y,?_,h2⟩
 rcases h1 with h1 | h1 <;> simp only [Z43,c_Z43,g.later,h1,Option.bind_some,Sum.elim_inl,Sum.elim_inr]
theorem l5At_tot (l:List D) (x:Int) (hl:l.length≤1000):∃ y,Z45 l x=some y∧True:=by
 have h:=fxScan (F:=fun i=>Z44 l x i) (len:=l.length) (fun i=>decide ((l.getD i (.int 0)).toInt=x)) (fun i=>.inl (i:Int)) (fin:=.inr ()) (fun i hi=>by
  show Z44 l x i=_
  rw [Z44_fx]
  unfold c_Z44
  have h1:(i:Int)<l.length:=by omega
  simp only [h1,decide_true,cond_true,Int.natCast_nonneg,and_self,if_true,Int.toNat_natCast,Qf (show i<4611686018427387904 by omega),Option.bind_fun_some])
  (by
   show Z44 l x l.length=_
   rw [Z44_fx]; unfold c_Z44; simp)
 have h':Z44 l x 0=_:=h
 simp only [Z45,c_Z45,h',Option.bind_some]
 cases Qi (fun i=>decide ((l.getD i (.int 0)).toInt=x)) l.length <;> exact ⟨_,rfl,trivial⟩
theorem evL7 (c:List D) (hc:okC c) (C R O:List D) (hC:C.length≤100) (hO:O.length≤1000):∀ (m i:Nat) (p s:Int) (E:List D),i+m=C.length→E.length≤i→0≤p→p+20 * m≤1099511627000 →
  ∃ y,Z46 i c p s C R E O=some y∧(y.1=c∧p≤y.2.1∧y.2.1≤p+20 * m∧y.2.2.2.1=C∧y.2.2.2.2.1=R∧y.2.2.2.2.2.length≤C.length):=by
 intro m
 induction m with
 | zero=>
  intro i p s E hi hE hp hm
  have:i=C.length:=by omega
  subst this
  refine Tt.out ?_
  rw [Z46_fx]
  unfold c_Z46
  refine Tt.dec (fun hn=>by exfalso; omega) (fun _=>Tt.pure ⟨rfl,by simp only; omega,by simp only; omega,rfl,rfl,by simp only; omega⟩)
 | succ m ih=>
  intro i p s E hi hE hp hm
  refine Tt.out ?_
  rw [Z46_fx]
  unfold c_Z46
  have hw:=Qf (show i<4611686018427387904 by omega)
  rw [hw]
  have g1:i+1≤C.length:=by omega
  have z1:(0:Int)≤i∧(i:Int)<C.length:=by omega
  simp only [Int.toNat_natCast]
  refine Tt.dec (fun hn=>?_) (fun hn=>by exfalso; omega)
  (refine Tt.bind (Tt.con (one_tot' _ hc _ _ _ (by omega) (by omega))) ?_; rintro ⟨v,c',p',s'⟩ ⟨hv,rfl,hp1,hp2⟩; dsimp only at hv hp1 hp2 ⊢)
  refine Tt.cnd (fun _=>?_) (fun _=>?_)
  ·refine Tt.bind (Tt.con (ih (i+1) _ _ E (by omega) (by omega) (by omega) (by omega))) ?_
   rintro ⟨c2,p2,s2,C2,R2,E2⟩ ⟨e1,e2,e3,e4,e5,e6⟩
   simp only at e1 e2 e3 e4 e5 e6
   exact Tt.pure ⟨e1,by simp only; omega,by simp only; omega,e4,e5,e6⟩
  ·refine Tt.bind (Tt.con (l5At_tot O i hO)) ?_
   rintro at0 _
   (refine Tt.bind (Tt.con (one_tot' _ hc _ _ _ (by omega) (by omega))) ?_; rintro ⟨v,c',p',s'⟩ ⟨hv,rfl,hp1,hp2⟩; dsimp only at hv hp1 hp2 ⊢)
   refine Tt.cnd (fun _=>?_) (fun _=>?_)
   ·(refine Tt.bind (Tt.con (pick_tot' _ hc _ _ _ (by omega) (by omega))) ?_; rintro ⟨v,c',p',s'⟩ ⟨hv,rfl,hp1,hp2⟩; dsimp only at hv hp1 hp2 ⊢)
    (refine Tt.bind (Tt.con (pick_tot' _ hc _ _ _ (by omega) (by omega))) ?_; rintro ⟨v,c',p',s'⟩ ⟨hv,rfl,hp1,hp2⟩; dsimp only at hv hp1 hp2 ⊢)
    refine Tt.ite z1 ?_
    refine Tt.ite g1 ?_
    refine Tt.ite g1 ?_
    (refine Tt.bind (Tt.con (pick_tot' _ hc _ _ _ (by omega) (by omega))) ?_; rintro ⟨v,c',p',s'⟩ ⟨hv,rfl,hp1,hp2⟩; dsimp only at hv hp1 hp2 ⊢)
    refine Tt.ite (by simp only [List.length_cons,List.length_nil]; omega) ?_
    refine Tt.bind (Tt.con (ih (i+1) _ _ _ (by omega) (by simp only [List.length_append,List.length_cons,List.length_nil]; omega) (by omega) (by omega))) ?_
    rintro ⟨c2,p2,s2,C2,R2,E2⟩ ⟨e1,e2,e3,e4,e5,e6⟩
    simp only at e1 e2 e3 e4 e5 e6
    exact Tt.pure ⟨e1,by simp only; omega,by simp only; omega,e4,e5,e6⟩
   ·(refine Tt.bind (Tt.con (pick_tot' _ hc _ _ _ (by omega) (by omega))) ?_; rintro ⟨v,c',p',s'⟩ ⟨hv,rfl,hp1,hp2⟩; dsimp only at hv hp1 hp2 ⊢)
    refine Tt.ite z1 ?_
    refine Tt.ite g1 ?_
    refine Tt.ite g1 ?_
    (refine Tt.bind (Tt.con (pick_tot' _ hc _ _ _ (by omega) (by omega))) ?_; rintro ⟨v,c',p',s'⟩ ⟨hv,rfl,hp1,hp2⟩; dsimp only at hv hp1 hp2 ⊢)
    refine Tt.ite (by simp only [List.length_cons,List.length_nil]; omega) ?_
    refine Tt.bind (Tt.con (ih (i+1) _ _ _ (by omega) (by simp only [List.length_append,List.length_cons,List.length_nil]; omega) (by omega) (by omega))) ?_
    rintro ⟨c2,p2,s2,C2,R2,E2⟩ ⟨e1,e2,e3,e4,e5,e6⟩
    simp only at e1 e2 e3 e4 e5 e6
    exact Tt.pure ⟨e1,by simp only; omega,by simp only; omega,e4,e5,e6⟩
theorem evid_tot (c:List D) (hc:okC c) (p s:Int) (hp:0≤p∧p≤1099511600000):∃ y,Z47 c p s=some y∧(y.1.length≤100∧y.2.1.length≤100∧y.2.2.1.length≤101):=by
 refine Tt.out ?_
 unfold Z47 c_Z47
 refine Tt.bind (Tt.con (ordered_tot _ hc _ _ (by omega))) ?_
 rintro ⟨C,R,c1,p1,s1⟩ ⟨rfl,g2,g3,g4,g5⟩
 dsimp only at g2 g3 g4 g5 ⊢
 rcases cases5 C R with ⟨h5,_⟩ | ⟨A,L,B,g⟩
 ·simp only [h5,Option.bind_some,cond_false]
  refine Tt.bind (Tt.con (evL7 _ hc C R [] (by omega) (by simp) C.length 0 _ _ [] (by omega) (by simp) (by omega) (by omega))) ?_
  rintro ⟨c2,p2,s2,C2,R2,E2⟩ ⟨e1,e2,e3,e4,e5,e6⟩
  dsimp only at e1 e2 e3 e4 e5 e6 ⊢
  subst e1 e4 e5
  refine Tt.dec (fun _=>?_) (fun h0=>?_)
  ·exact Tt.pure ⟨by simp only; omega,by simp only; omega,by simp only [List.length_set,List.length_append,List.length_cons,List.length_nil]; omega⟩
  (refine Tt.bind (Tt.con (pick_tot' _ hc _ _ _ (by omega) (by omega))) ?_; rintro ⟨v,c',p',s'⟩ ⟨hv,rfl,hp1,hp2⟩; dsimp only at hv hp1 hp2 ⊢)
  refine Tt.ite (by omega) ?_
  refine Tt.ite (by omega) ?_
  (refine Tt.bind (Tt.con (pick_tot' _ hc _ _ _ (by omega) (by omega))) ?_; rintro ⟨v,c',p',s'⟩ ⟨hv,rfl,hp1,hp2⟩; dsimp only at hv hp1 hp2 ⊢)
  refine Tt.dec (fun _=>?_) (fun _=>?_)
  ·(refine Tt.bind (Tt.con (pick_tot' _ hc _ _ _ (by omega) (by omega))) ?_; rintro ⟨v,c',p',s'⟩ ⟨hv,rfl,hp1,hp2⟩; dsimp only at hv hp1 hp2 ⊢)
   refine Tt.ite (by omega) ?_
   refine Tt.ite (by omega) ?_
   exact Tt.pure ⟨by simp only; omega,by simp only; omega,by simp only [List.length_set,List.length_append,List.length_cons,List.length_nil]; omega⟩
  refine Tt.dec (fun _=>?_) (fun _=>?_)
  ·(refine Tt.bind (Tt.con (among_tot _ hc _ _ _ (by omega) (by simp))) ?_; rintro ⟨v,c',p',s'⟩ ⟨hv,rfl,hp1,hp2⟩; dsimp only at hv hp1 hp2 ⊢)
   refine Tt.ite (by omega) ?_
   refine Tt.ite (by omega) ?_
   exact Tt.pure ⟨by simp only; omega,by simp only; omega,by simp only [List.length_set,List.length_append,List.length_cons,List.length_nil]; omega⟩
  refine Tt.dec (fun _=>?_) (fun _=>?_)
  ·(refine Tt.bind (Tt.con (among_tot _ hc _ _ _ (by omega) (by simp))) ?_; rintro ⟨v,c',p',s'⟩ ⟨hv,rfl,hp1,hp2⟩; dsimp only at hv hp1 hp2 ⊢)
   refine Tt.ite (by omega) ?_
   refine Tt.ite (by omega) ?_
   exact Tt.pure ⟨by simp only; omega,by simp only; omega,by simp only [List.length_set,List.length_append,List.length_cons,List.length_nil]; omega⟩
  refine Tt.dec (fun _=>?_) (fun _=>?_)
  ·refine Tt.ite (by simp only [List.length_cons,List.length_nil]; omega) ?_
   refine Tt.ite (by simp only [List.length_append,List.length_cons,List.length_nil]; omega) ?_
   refine Tt.ite (by simp only [List.length_append,List.length_cons,List.length_nil]; omega) ?_
   exact Tt.pure ⟨by simp only; omega,by simp only; omega,by simp only [List.length_set,List.length_append,List.length_cons,List.length_nil]; omega⟩
  ·refine Tt.ite (by omega) ?_
   refine Tt.ite (by omega) ?_
   exact Tt.pure ⟨by simp only; omega,by simp only; omega,by simp only [List.length_set,List.length_append,List.length_cons,List.length_nil]; omega⟩
 ·simp only [g.l5,Option.bind_some,cond_true]
  refine Tt.bind (Tt.con (ord_tot g)) ?_
  rintro O hO
  refine Tt.bind (Tt.con (evL7 _ hc C R O (by omega) (by omega) C.length 0 _ _ [] (by omega) (by simp) (by omega) (by omega))) ?_
  rintro ⟨c2,p2,s2,C2,R2,E2⟩ ⟨e1,e2,e3,e4,e5,e6⟩
  dsimp only at e1 e2 e3 e4 e5 e6 ⊢
  subst e1 e4 e5
  refine Tt.dec (fun _=>?_) (fun h0=>?_)
  ·exact Tt.pure ⟨by simp only; omega,by simp only; omega,by simp only [List.length_set,List.length_append,List.length_cons,List.length_nil]; omega⟩
  (refine Tt.bind (Tt.con (pick_tot' _ hc _ _ _ (by omega) (by omega))) ?_; rintro ⟨v,c',p',s'⟩ ⟨hv,rfl,hp1,hp2⟩; dsimp only at hv hp1 hp2 ⊢)
  refine Tt.ite (by omega) ?_
  refine Tt.ite (by omega) ?_
  (refine Tt.bind (Tt.con (pick_tot' _ hc _ _ _ (by omega) (by omega))) ?_; rintro ⟨v,c',p',s'⟩ ⟨hv,rfl,hp1,hp2⟩; dsimp only at hv hp1 hp2 ⊢)
  refine Tt.dec (fun _=>?_) (fun _=>?_)
  ·(refine Tt.bind (Tt.con (pick_tot' _ hc _ _ _ (by omega) (by omega))) ?_; rintro ⟨v,c',p',s'⟩ ⟨hv,rfl,hp1,hp2⟩; dsimp only at hv hp1 hp2 ⊢)
   refine Tt.ite (by omega) ?_
   refine Tt.ite (by omega) ?_
   exact Tt.pure ⟨by simp only; omega,by simp only; omega,by simp only [List.length_set,List.length_append,List.length_cons,List.length_nil]; omega⟩
  refine Tt.dec (fun _=>?_) (fun _=>?_)
  ·(refine Tt.bind (Tt.con (among_tot _ hc _ _ _ (by omega) (by simp))) ?_; rintro ⟨v,c',p',s'⟩ ⟨hv,rfl,hp1,hp2⟩; dsimp only at hv hp1 hp2 ⊢)
   refine Tt.ite (by omega) ?_
   refine Tt.ite (by omega) ?_
   exact Tt.pure ⟨by simp only; omega,by simp only; omega,by simp only [List.length_set,List.length_append,List.length_cons,List.length_nil]; omega⟩
  refine Tt.dec (fun _=>?_) (fun _=>?_)
  ·(refine Tt.bind (Tt.con (among_tot _ hc _ _ _ (by omega) (by simp))) ?_; rintro ⟨v,c',p',s'⟩ ⟨hv,rfl,hp1,hp2⟩; dsimp only at hv hp1 hp2 ⊢)
   refine Tt.ite (by omega) ?_
   refine Tt.ite (by omega) ?_
   exact Tt.pure ⟨by simp only; omega,by simp only; omega,by simp only [List.length_set,List.length_append,List.length_cons,List.length_nil]; omega⟩
  refine Tt.dec (fun _=>?_) (fun _=>?_)
  ·refine Tt.ite (by simp only [List.length_cons,List.length_nil]; omega) ?_
   refine Tt.ite (by simp only [List.length_append,List.length_cons,List.length_nil]; omega) ?_
   refine Tt.ite (by simp only [List.length_append,List.length_cons,List.length_nil]; omega) ?_
   exact Tt.pure ⟨by simp only; omega,by simp only; omega,by simp only [List.length_set,List.length_append,List.length_cons,List.length_nil]; omega⟩
  ·refine Tt.ite (by omega) ?_
   refine Tt.ite (by omega) ?_
   exact Tt.pure ⟨by simp only; omega,by simp only; omega,by simp only [List.length_set,List.length_append,List.length_cons,List.length_nil]; omega⟩
def mkP (n:Nat) (f g:Nat→Int):List D:=(List.range n).map (fun i=>D.node [D.int (f i),D.int (g i)])
theorem mkP_len {n:Nat} {f g:Nat→Int}:(mkP n f g).length=n:=by simp [mkP]
theorem mkP_get {n:Nat} {f g:Nat→Int} {i:Nat} (h:i<n):(mkP n f g).getD i (.int 0)=.node [.int (f i),.int (g i)]:=by
 simp [mkP,List.getD_eq_getElem?_getD,h]
theorem node_fld0 (a b:Int):((D.node [D.int a,D.int b]).fld 0).toInt=a:=rfl
theorem node_fld1 (a b:Int):((D.node [D.int a,D.int b]).fld 1).toInt=b:=rfl
theorem mkP_congr {n:Nat} {f g f' g':Nat→Int} (h1:∀ i,i<n→f i=f' i) (h2:∀ i,i<n→g i=g' i):mkP n f g=mkP n f' g':=by
 unfold mkP
 refine List.map_congr_left (fun i hi=>?_)
 rw [List.mem_range] at hi
 rw [h1 i hi,h2 i hi]
theorem mkP_set {n:Nat} {f g:Nat→Int} {i:Nat} (h:i<n) (a b:Int):(mkP n f g).set i (.node [.int a,.int b])=mkP n (fun j=>if j=i then a else f j) (fun j=>if j=i then b else g j):=by
 refine List.ext_getElem (by simp [mkP]) (fun j h1 h2=>?_)
 simp only [mkP,List.getElem_set,List.getElem_map,List.getElem_range]
 by_cases e:i=j
 ·subst e; simp
 ·have e':¬ j=i:=fun h=>e h.symm
  simp [e,e']
theorem mkP_succ {n:Nat} {f g:Nat→Int}:mkP n f g++[D.node [D.int (f n),D.int (g n)]]=mkP (n+1) f g:=by simp [mkP,List.range_succ]
theorem mkP_rep {n:Nat} (a b:Int):List.replicate n (D.node [D.int a,D.int b])=mkP n (fun _=>a) (fun _=>b):=by
 refine List.ext_getElem (by simp [mkP]) (fun j h1 h2=>?_)
 simp [mkP]
def eN (E:List D) (j:Nat):Int:=((E.getD j (.int 0)).fld 0).toInt
def eL (E:List D) (j:Nat):Int:=(((E.getD j (.int 0)).fld 1).fld 0).toInt
def eH (E:List D) (j:Nat):Int:=(((E.getD j (.int 0)).fld 1).fld 1).toInt
def ivB (a b:Int):Bool:=btw a (-20000) 2100&&(btw b (-20000) 2100&&decide (a≤b))
def eOk (C E:List D) (i:Nat):Bool:=decide (0≤find2 C (eN E i))&&(ivB (eL E i) (eH E i)&&(decide (i=0)||decide (eN E (i - 1)<eN E i)))
def bT (E:List D) (x:Int):Nat→Int×Int
 | 0=>(-20000,2100)
 | j+1=>if eN E j=x then (eL E j,eH E j) else bT E x j
def loC (C E:List D) (j i:Nat):Int:=(bT E (numAt C i) j).1
def hiC (C E:List D) (j i:Nat):Int:=(bT E (numAt C i) j).2
theorem year_i (x:Int):Z85 x=some (btw x (-20000) 2100):=by simp only [Z85,c_Z85,within_eq,Option.bind_some]
theorem year_s (x:Int):Z102 x=some (btw x (-20000) 2100):=by simp only [Z102,c_Z102,l1In_eq,Option.bind_some]
theorem iv_i (a b:Int):Z86 a b=some (ivB a b):=by
 simp only [Z86,c_Z86,year_i,Option.bind_some,ivB]
 cases btw a (-20000) 2100 <;> cases btw b (-20000) 2100 <;> rfl
theorem iv_s (a b:Int):Z103 a b=some (ivB a b):=by
 simp only [Z103,c_Z103,year_s,Option.bind_some,ivB]
 cases btw a (-20000) 2100 <;> cases btw b (-20000) 2100 <;> rfl
theorem l9L4_eq (C R E:List D) (hC:C.length≤100000) (hE:E.length≤100000):Z104 E 0 C R=some (bif allN (eOk C E) E.length then .inr () else .inl false):=by
 have h:=fxAll (F:=fun i=>Z104 E i C R) (len:=E.length) (eOk C E) (.inl false) (fin:=.inr ()) (fun i hi=>by
  show Z104 E i C R=_
  rw [Z104_fx]
  unfold c_Z104 eOk
  have h1:(i:Int)<E.length:=by omega
  have f0:(((E.getD i (.int 0)).fld 0).toInt)=eN E i:=rfl
  have f1:(((E.getD i (.int 0)).fld 1).fld 0).toInt=eL E i:=rfl
  have f2:(((E.getD i (.int 0)).fld 1).fld 1).toInt=eH E i:=rfl
  simp only [h1,decide_true,cond_true,Int.natCast_nonneg,and_self,if_true,Int.toNat_natCast,f0,f1,f2,l2Find_eq C R _ hC,iv_s,Option.bind_some,Qf (show i<4611686018427387904 by omega),Option.bind_fun_some]
  by_cases hf:find2 C (eN E i)<0
  ·have hf':¬ 0≤find2 C (eN E i):=by omega
   simp [hf,hf']
  ·have hf':0≤find2 C (eN E i):=by omega
   cases hiv:ivB (eL E i) (eH E i) with
   | false=>simp [hf,hf']
   | true=>
    by_cases h0:i=0
    ·subst h0
     simp [hf,hf']
    ·have h2:(0:Int)<i:=by omega
     have hp:IntKind.i64.wrap ((i:Int) - 1)=((i - 1:Nat):Int):=VJ (by omega) (by omega)
     have h3:((i - 1:Nat):Int)<E.length:=by omega
     have f3:(((E.getD (i - 1) (.int 0)).fld 0).toInt)=eN E (i - 1):=rfl
     simp only [hf,hf',h0,h2,hp,h3,f3,decide_true,decide_false,cond_true,cond_false,Bool.not_true,Bool.true_and,Bool.false_or,Int.natCast_nonneg,and_self,if_true,Int.toNat_natCast]
     by_cases hl:eN E i≤eN E (i - 1)
     ·have hl':¬ eN E (i - 1)<eN E i:=by omega
      simp [hl,hl']
     ·have hl':eN E (i - 1)<eN E i:=by omega
      simp [hl,hl'])
  (by
   show Z104 E E.length C R=_
   rw [Z104_fx]; unfold c_Z104; simp)
 exact h
theorem mul_eq:∀ n:Nat,n≤10→Z82 1 n=some (0,(n:Int))
 | 0,_=>rfl
 | 1,_=>rfl
 | 2,_=>rfl
 | 3,_=>rfl
 | 4,_=>rfl
 | 5,_=>rfl
 | 6,_=>rfl
 | 7,_=>rfl
 | 8,_=>rfl
 | 9,_=>rfl
 | 10,_=>rfl
 | n+11,h=>by omega
theorem repL8 (d:D) (n:Nat) (hn:n≤1000):∀ (k i:Nat) (l:List D),n - i≤k→1≤i→i≤n→l.length=n→l.take i=List.replicate i d→Z83 i l=some (List.replicate n d):=by
 intro k
 induction k with
 | zero=>
  intro i l hk h1 h2 hl ht
  have:i=n:=by omega
  subst this
  rw [Z83_fx]; unfold c_Z83
  have c1:¬ (i:Int)<l.length:=by omega
  rw [List.take_of_length_le (by omega)] at ht
  simp [c1,ht]
 | succ k ih=>
  intro i l hk h1 h2 hl ht
  by_cases hin:i=n
  ·exact ih i l (by omega) h1 h2 hl ht
  rw [Z83_fx]; unfold c_Z83
  have c1:(i:Int)<l.length:=by omega
  have c2:(0:Int)≤i∧(i:Int)≤l.length∧(l.length:Int)≤l.length:=by omega
  have c3:(0:Int)≤0∧(0:Int)≤i∧(i:Int)≤l.length:=by omega
  have c4:0+(i - 0)≤l.length:=by omega
  have c5:i+(l.length - i)≤l.length:=by omega
  have z0:(0:Int).toNat=0:=rfl
  have e1:List.take (l.length - i) (List.take (i - 0) (List.drop 0 l))=List.replicate (min (n - i) i) d:=by
   rw [List.drop_zero,Nat.sub_zero,ht,List.take_replicate,hl]
  simp only [c1,c2,c3,z0,decide_true,cond_true,Int.toNat_natCast,and_self,if_true,c4,c5,e1,List.length_replicate,Option.bind_fun_some,ht]
  have e2:IntKind.i64.wrap ((i:Int)+((min (n - i) i:Nat):Int))=((i+min (n - i) i:Nat):Int):=by rw [Ux (by omega) (by omega)]; omega
  rw [e2]
  refine ih _ _ (by omega) (by omega) (by omega) ?_ ?_
  ·simp only [List.length_append,List.length_replicate,List.length_drop]; omega
  ·rw [List.replicate_append_replicate,List.take_append_of_le_length (by simp),List.take_of_length_le (by simp)]
theorem repeat_eq (n:Nat) (hn:n≤10):Z84 [D.node [D.int (-20000),D.int 2100]] n=some (mkP n (fun _=>-20000) (fun _=>2100)):=by
 have c0:¬ (n:Int)<0:=by omega
 have u1:IntKind.u64.wrap (([D.node [D.int (-20000),D.int 2100]].length:Nat):Int)=1:=rfl
 have u2:IntKind.u64.wrap (n:Int)=n:=uw _ (by omega)
 have w:IntKind.i64.wrap (n:Int)=n:=Ux (by omega) (by omega)
 have c1:¬ (0:Int)<0:=by omega
 have c2:¬ (9223372036854775807:Int)<n:=by omega
 have c3:(0:Int)≤n∧(n:Int)≤n∧(n:Int)≤4294967296:=by omega
 unfold Z84 c_Z84
 simp only [c0,u1,u2,mul_eq n hn,Option.bind_some,c1,c2,w,c3,decide_false,cond_false,if_true,and_self,Int.toNat_natCast,List.length_replicate]
 by_cases h0:n=0
 ·subst h0
  have e:Z83 0 []=some []:=by rw [Z83_fx]; unfold c_Z83; simp
  simp [e,mkP]
 ·have e1:List.take n [D.node [D.int (-20000),D.int 2100]]=[D.node [D.int (-20000),D.int 2100]]:=List.take_of_length_le (by simp; omega)
  have h8:=repL8 (D.node [D.int (-20000),D.int 2100]) n (by omega) n 1 ([D.node [D.int (-20000),D.int 2100]]++List.drop 1 (List.replicate n (D.node [D.int 0,D.int 0]))) (by omega) (by omega) (by omega) (by simp; omega) rfl
  simp only [e1]
  rw [mkP_rep (-20000) 2100] at h8
  have h8:Z83 1 ([D.node [D.int (-20000),D.int 2100]]++List.drop 1 (List.replicate n (D.node [D.int 0,D.int 0])))=_:=h8
  simp only [List.take_zero,List.nil_append,List.length_cons,List.length_nil,Nat.zero_add]
  show (Z83 1 _).bind _=_
  rw [h8]; rfl
theorem find2_at {C R:List D} (hv:validB C R=true) {x:Int} (h:0≤find2 C x):∃ a,a<C.length∧find2 C x=(a:Int)∧numAt C a=x:=find2_some h
theorem readL6 {C R:List D} (hv:validB C R=true) (E nm A L:List D) (hC:C.length≤10) (hE:E.length≤1000):∀ (m j:Nat),j+m=E.length→(∀ i,i<j→eOk C E i=true) →
  ∃ Q,Z87 E E E.length j C R nm A L (mkP C.length (loC C E j) (hiC C E j))=some (bif allN (eOk C E) E.length then .inr (nm,A,L,mkP C.length (loC C E E.length) (hiC C E E.length)) else .inl (false,nm,A,L,Q)):=by
 intro m
 induction m with
 | zero=>
  intro j hj hp
  have:j=E.length:=by omega
  subst this
  rw [Z87_fx]; unfold c_Z87
  exact ⟨[],by simp [allN_iff.2 hp]⟩
 | succ m ih=>
  intro j hj hp
  have hje:j<E.length:=by omega
  rw [Z87_fx]; unfold c_Z87
  have h1:(j:Int)<E.length:=by omega
  have f0:(((E.getD j (.int 0)).fld 0).toInt)=eN E j:=rfl
  have f1:(((E.getD j (.int 0)).fld 1).fld 0).toInt=eL E j:=rfl
  have f2:(((E.getD j (.int 0)).fld 1).fld 1).toInt=eH E j:=rfl
  simp only [h1,decide_true,cond_true,Int.natCast_nonneg,and_self,if_true,Int.toNat_natCast,f0,f1,f2,indexOf_eq C R _ (by omega),iv_i,Option.bind_some,Qf (show j<4611686018427387904 by omega),Option.bind_fun_some]
  have bad:eOk C E j=false→allN (eOk C E) E.length=false:=fun h=>by
   cases ha:allN (eOk C E) E.length with
   | false=>rfl
   | true=>rw [allN_iff.1 ha j hje] at h; cases h
  by_cases hf:find2 C (eN E j)<0
  ·have hf':¬ 0≤find2 C (eN E j):=by omega
   have hb:=bad (by simp [eOk,hf'])
   exact ⟨_,by simp only [hf,decide_true,cond_true,hb,cond_false]; rfl⟩
  ·have hf':0≤find2 C (eN E j):=by omega
   obtain ⟨a,ha,e1,e2⟩:=find2_at hv hf'
   have hstep:eOk C E j=true→∃ Q,Z87 E E E.length ((j+1:Nat):Int) C R nm A L ((mkP C.length (loC C E j) (hiC C E j)).set a (.node [.int (eL E j),.int (eH E j)]))=some (bif allN (eOk C E) E.length then .inr (nm,A,L,mkP C.length (loC C E E.length) (hiC C E E.length)) else .inl (false,nm,A,L,Q)):=fun hok=>by
    rw [mkP_set ha]
    have hc:mkP C.length (fun i=>if i=a then eL E j else loC C E j i) (fun i=>if i=a then eH E j else hiC C E j i)=mkP C.length (loC C E (j+1)) (hiC C E (j+1)):=by
     refine mkP_congr (fun i hi=>?_) (fun i hi=>?_)
     ·unfold loC
      rw [bT]
      by_cases hia:i=a
      ·subst hia; rw [if_pos rfl,if_pos e2.symm]
      ·rw [if_neg hia,if_neg (fun h=>hia (numAt_inj hv hi ha (by rw [e2,h])))]
     ·unfold hiC
      rw [bT]
      by_cases hia:i=a
      ·subst hia; rw [if_pos rfl,if_pos e2.symm]
      ·rw [if_neg hia,if_neg (fun h=>hia (numAt_inj hv hi ha (by rw [e2,h])))]
    rw [hc]
    exact ih (j+1) (by omega) (fun i hi=>by
     by_cases hij:i=j
     ·subst hij; exact hok
     ·exact hp i (by omega))
   have ha0:¬ (a:Int)<0:=by omega
   have h4:(a:Int)<(mkP C.length (loC C E j) (hiC C E j)).length:=by rw [mkP_len]; omega
   have h5:a+1≤(mkP C.length (loC C E j) (hiC C E j)).length:=by rw [mkP_len]; omega
   cases hiv:ivB (eL E j) (eH E j) with
   | false=>
    have hb:=bad (by simp [eOk,hiv])
    exact ⟨_,by simp only [hf,decide_false,Bool.not_false,cond_true,hb,cond_false]; rfl⟩
   | true=>
    by_cases h0:j=0
    ·obtain ⟨Q,hQ⟩:=hstep (by subst h0; simp [eOk,hf',hiv])
     have h2:¬ (0:Int)<j:=by omega
     exact ⟨Q,by simp only [hf,h2,decide_false,Bool.not_true,cond_false,e1,ha0,h4,h5,Int.natCast_nonneg,and_self,if_true,Int.toNat_natCast,hQ]⟩
    ·have h2:(0:Int)<j:=by omega
     have hp':IntKind.i64.wrap ((j:Int) - 1)=((j - 1:Nat):Int):=VJ (by omega) (by omega)
     have h3:((j - 1:Nat):Int)<E.length:=by omega
     have f3:(((E.getD (j - 1) (.int 0)).fld 0).toInt)=eN E (j - 1):=rfl
     by_cases hl:eN E j≤eN E (j - 1)
     ·have hl':¬ eN E (j - 1)<eN E j:=by omega
      have hb:=bad (by simp [eOk,h0,hl'])
      exact ⟨_,by simp only [hf,h2,hp',h3,f3,hl,decide_true,decide_false,Bool.not_true,cond_true,cond_false,Int.natCast_nonneg,and_self,if_true,Int.toNat_natCast,hb]; rfl⟩
     ·have hl':eN E (j - 1)<eN E j:=by omega
      obtain ⟨Q,hQ⟩:=hstep (by simp [eOk,hf',hiv,hl'])
      exact ⟨Q,by simp only [hf,h2,hp',h3,f3,hl,decide_true,decide_false,Bool.not_true,cond_true,cond_false,e1,ha0,h4,h5,Int.natCast_nonneg,and_self,if_true,Int.toNat_natCast,hQ]⟩
theorem ownL7 (C R E acc:List D) (i:Nat) (hi:i<C.length) (hE:E.length≤1000):∀ (m j:Nat),j+m=E.length →
  Z106 E i j C R acc (bT E (numAt C i) j).1 (bT E (numAt C i) j).2=some (E,(i:Int),C,R,acc,loC C E E.length i,hiC C E E.length i):=by
 intro m
 induction m with
 | zero=>
  intro j hj
  have:j=E.length:=by omega
  subst this
  rw [Z106_fx]; unfold c_Z106; simp [loC,hiC]
 | succ m ih=>
  intro j hj
  rw [Z106_fx]; unfold c_Z106
  have h1:(j:Int)<E.length:=by omega
  have h2:(i:Int)<C.length:=by omega
  have f0:(((E.getD j (.int 0)).fld 0).toInt)=eN E j:=rfl
  have f1:(((E.getD j (.int 0)).fld 1).fld 0).toInt=eL E j:=rfl
  have f2:(((E.getD j (.int 0)).fld 1).fld 1).toInt=eH E j:=rfl
  have f3:((C.getD i (.int 0)).fld 0).toInt=numAt C i:=by rw [List.getD_eq_getElem?_getD]; rfl
  have hs:=ih (j+1) (by omega)
  rw [bT] at hs
  simp only [h1,h2,decide_true,cond_true,Int.natCast_nonneg,and_self,if_true,Int.toNat_natCast,f0,f1,f2,f3,Qf (show j<4611686018427387904 by omega),Option.bind_fun_some]
  by_cases e:eN E j=numAt C i
  ·simp only [e,if_true] at hs
   simp only [e,decide_true,cond_true]
   exact hs
  ·simp only [e,if_false] at hs
   simp only [e,decide_false,cond_false]
   exact hs
theorem ownL3 (C R E:List D) (hE:E.length≤1000) (hC:C.length≤1000):∀ (m i:Nat),i+m=C.length →
  Z107 E i C R (mkP i (loC C E E.length) (hiC C E E.length))=some (mkP C.length (loC C E E.length) (hiC C E E.length)):=by
 intro m
 induction m with
 | zero=>
  intro i hi
  have:i=C.length:=by omega
  subst this
  rw [Z107_fx]; unfold c_Z107; simp
 | succ m ih=>
  intro i hi
  rw [Z107_fx]; unfold c_Z107
  have h1:(i:Int)<C.length:=by omega
  have h7:=ownL7 C R E (mkP i (loC C E E.length) (hiC C E E.length)) i (by omega) hE E.length 0 (by omega)
  have h7:Z106 E i 0 C R (mkP i (loC C E E.length) (hiC C E E.length)) (-20000) 2100=_:=h7
  have h2:(mkP i (loC C E E.length) (hiC C E E.length)).length+[D.node [D.int (loC C E E.length i),D.int (hiC C E E.length i)]].length≤4294967296:=by rw [mkP_len]; simp; omega
  simp only [h1,decide_true,cond_true,h7,Option.bind_some,h2,if_true,Qf (show i<4611686018427387904 by omega),Option.bind_fun_some,mkP_succ]
  exact ih (i+1) (by omega)
theorem own_eq (C R E:List D) (hE:E.length≤1000) (hC:C.length≤1000):Z108 C R E=some (mkP C.length (loC C E E.length) (hiC C E E.length)):=by
 have h:=ownL3 C R E hE hC C.length 0 (by omega)
 have h:Z107 E 0 C R []=_:=h
 simp only [Z108,c_Z108,h,Option.bind_some]
structure Good9 (C R A L B E:List D):Prop where
 g:Good5 C R A L B
 l9:Z105 C R E=some true
 read:Z88 C R E=some (.inr (nums C,A,L,mkP C.length (loC C E E.length) (hiC C E E.length),true))
 iv:∀ i,-20000≤loC C E E.length i∧loC C E E.length i≤hiC C E E.length i∧hiC C E E.length i≤2100
theorem cases9 (C R E:List D) (hE:E.length≤1000):(Z105 C R E=some false∧Z88 C R E=some (.inl ([],false)))∨∃ A L B,Good9 C R A L B E:=by
 rcases cases5 C R with ⟨h1,h2⟩ | ⟨A,L,B,g⟩
 ·left
  constructor
  ·simp only [Z105,c_Z105,h1,Option.bind_some,Bool.not_false,cond_true]
  ·rcases h2 with h2 | ⟨a,b,c,h2⟩ <;> simp only [Z88,c_Z88,h2,Option.bind_some,Sum.elim_inl,Sum.elim_inr,Bool.not_false,cond_true]
 ·have hn:=g.hn
  have s1:=l9L4_eq C R E (by omega) (by omega)
  have hnm:(nums C).length=C.length:=by simp [nums]
  obtain ⟨Q,s2⟩:=readL6 g.v E (nums C) A L hn hE E.length 0 (by omega) (fun i hi=>by omega)
  have s2:Z87 E E E.length 0 C R (nums C) A L (mkP C.length (fun _=>-20000) (fun _=>2100))=_:=s2
  cases ha:allN (eOk C E) E.length with
  | false=>
   rw [ha] at s1 s2
   left
   constructor
   ·simp only [Z105,c_Z105,g.l5,s1,Option.bind_some,Bool.not_true,cond_false,Sum.elim_inl]
   ·simp only [Z88,c_Z88,g.cons,Option.bind_some,Sum.elim_inr,Bool.not_true,cond_false,hnm,repeat_eq C.length hn,s2,Sum.elim_inl]
  | true=>
   rw [ha] at s1 s2
   right
   refine ⟨A,L,B,g,?_,?_,?_⟩
   ·simp only [Z105,c_Z105,g.l5,s1,Option.bind_some,Bool.not_true,cond_false,cond_true,Sum.elim_inr]
   ·simp only [Z88,c_Z88,g.cons,Option.bind_some,Sum.elim_inr,Bool.not_true,cond_false,cond_true,hnm,repeat_eq C.length hn,s2]
   ·intro i
    unfold loC hiC
    have key:∀ j,j≤E.length→-20000≤(bT E (numAt C i) j).1∧(bT E (numAt C i) j).1≤(bT E (numAt C i) j).2∧(bT E (numAt C i) j).2≤2100:=by
     intro j
     induction j with
     | zero=>intro _; rw [bT]; omega
     | succ j ih=>
      intro hj
      rw [bT]
      split
      ·have hok:=allN_iff.1 ha j (by omega)
       simp only [eOk,ivB,btw,Bool.and_eq_true,decide_eq_true_eq] at hok
       simp only; omega
      ·exact ih (by omega)
    exact key _ (Nat.le_refl _)
def mxs (p:Nat→Bool) (f:Nat→Int) (b:Int):Nat→Int
 | 0=>b
 | k+1=>if p k=true then max (mxs p f b k) (f k) else mxs p f b k
def mns (p:Nat→Bool) (f:Nat→Int) (b:Int):Nat→Int
 | 0=>b
 | k+1=>if p k=true then min (mns p f b k) (f k) else mns p f b k
theorem mxs_le {p:Nat→Bool} {f:Nat→Int} {b v:Int}:∀ {n:Nat},mxs p f b n≤v↔b≤v∧∀ k,k<n→p k=true→f k≤v
 | 0=>by simp [mxs]
 | n+1=>by
  have ih:=mxs_le (p:=p) (f:=f) (b:=b) (v:=v) (n:=n)
  rw [mxs]
  constructor
  ·intro h
   have h1:mxs p f b n≤v:=by split at h <;> omega
   obtain ⟨q1,q2⟩:=ih.1 h1
   refine ⟨q1,fun k hk hp=>?_⟩
   by_cases e:k=n
   ·subst e; rw [if_pos hp] at h; omega
   ·exact q2 k (by omega) hp
  ·rintro ⟨h1,h2⟩
   have h3:=ih.2 ⟨h1,fun k hk=>h2 k (by omega)⟩
   split
   ·rename_i hp
    have:=h2 n (by omega) hp
    omega
   ·exact h3
theorem le_mns {p:Nat→Bool} {f:Nat→Int} {b v:Int}:∀ {n:Nat},v≤mns p f b n↔v≤b∧∀ k,k<n→p k=true→v≤f k
 | 0=>by simp [mns]
 | n+1=>by
  have ih:=le_mns (p:=p) (f:=f) (b:=b) (v:=v) (n:=n)
  rw [mns]
  constructor
  ·intro h
   have h1:v≤mns p f b n:=by split at h <;> omega
   obtain ⟨q1,q2⟩:=ih.1 h1
   refine ⟨q1,fun k hk hp=>?_⟩
   by_cases e:k=n
   ·subst e; rw [if_pos hp] at h; omega
   ·exact q2 k (by omega) hp
  ·rintro ⟨h1,h2⟩
   have h3:=ih.2 ⟨h1,fun k hk=>h2 k (by omega)⟩
   split
   ·rename_i hp
    have:=h2 n (by omega) hp
    omega
   ·exact h3
def tlo (L:List D) (lo:Nat→Int) (n i:Nat):Int:=mxs (at2 L i) lo (lo i) n
def thi (L:List D) (hi:Nat→Int) (n i:Nat):Int:=mns (fun a=>at2 L a i) hi (hi i) n
theorem most_max (a b:Int):Z109 a b=some (max a b):=by
 unfold Z109 c_Z109
 by_cases h:b<a
 ·rw [decide_eq_true h,cond_true]; exact congrArg some (by omega)
 ·rw [decide_eq_false h,cond_false]; exact congrArg some (by omega)
theorem least_min (a b:Int):Z110 a b=some (min a b):=by
 unfold Z110 c_Z110
 by_cases h:a<b
 ·rw [decide_eq_true h,cond_true]; exact congrArg some (by omega)
 ·rw [decide_eq_false h,cond_false]; exact congrArg some (by omega)
theorem allN_succ (p:Nat→Bool) (i:Nat):allN p (i+1)=(allN p i&&p i):=by
 rw [Bool.eq_iff_iff,Bool.and_eq_true,allN_iff,allN_iff]
 constructor
 ·intro h
  exact ⟨fun j hj=>h j (by omega),h i (by omega)⟩
 ·rintro ⟨h1,h2⟩ j hj
  by_cases e:j=i
  ·subst e; exact h2
  ·exact h1 j (by omega)
section
variable {n:Nat} {L B:List D} {lo hi:Nat→Int} (hn:n≤10) (hL:Sq n L) (hB:Bq n B) (hb:∀ a b,b2 B a b=at2 L a b)
include hn hB hb
theorem bit_at {i k:Nat} (h:i<n) (hk:k<n):Z30 (B.getD i (.int 0)).toInt k=some (at2 L i k):=by
 obtain ⟨v,e1,e2⟩:=hB.rng i h
 rw [e1,l4Bit_eq v k e2 (by omega),← hb,b2,e1]
 rfl
theorem tL10 (b:Bool) {i:Nat} (h:i<n) (acc:List D):∀ (m k:Nat),k+m=n →
  Z111 b i k (mkP n lo hi) B acc (mxs (at2 L i) lo (lo i) k) (mns (fun a=>at2 L a i) hi (hi i) k)=some (b,(i:Int),mkP n lo hi,B,acc,tlo L lo n i,thi L hi n i):=by
 intro m
 induction m with
 | zero=>
  intro k hk
  have:k=n:=by omega
  subst this
  rw [Z111_fx]; unfold c_Z111; simp [mkP_len,tlo,thi]
 | succ m ih=>
  intro k hk
  have hkn:k<n:=by omega
  rw [Z111_fx]; unfold c_Z111
  have h1:(k:Int)<n:=by omega
  have h2:(i:Int)<B.length:=by rw [hB.len]; omega
  have h3:i+1≤B.length:=by rw [hB.len]; omega
  have h4:(k:Int)<B.length:=by rw [hB.len]; omega
  have h5:k+1≤B.length:=by rw [hB.len]; omega
  have h6:k+1≤n:=hkn
  have hs:=ih (k+1) (by omega)
  rw [mxs,mns] at hs
  simp only [mkP_len,h1,h2,h3,h4,h5,h6,decide_true,cond_true,Int.natCast_nonneg,and_self,if_true,Int.toNat_natCast,bit_at hn hB hb h hkn,bit_at hn hB hb hkn h,Option.bind_some,mkP_get hkn,node_fld0,node_fld1,most_max,least_min,Qf (show k<4611686018427387904 by omega),Option.bind_fun_some]
  cases q1:at2 L i k <;> cases q2:at2 L k i <;> simp only [q1,q2,cond_true,cond_false,if_true,Bool.false_eq_true,if_false] at hs ⊢ <;> exact hs
theorem tL6:∀ (m i:Nat),i+m=n →
  Z112 (allN (fun i=>decide (tlo L lo n i≤thi L hi n i)) i) i (mkP n lo hi) B (mkP i (tlo L lo n) (thi L hi n))=some (allN (fun i=>decide (tlo L lo n i≤thi L hi n i)) n,mkP n (tlo L lo n) (thi L hi n)):=by
 intro m
 induction m with
 | zero=>
  intro i h
  have:i=n:=by omega
  subst this
  rw [Z112_fx]; unfold c_Z112; simp [mkP_len]
 | succ m ih=>
  intro i h
  have hin:i<n:=by omega
  rw [Z112_fx]; unfold c_Z112
  have h1:(i:Int)<n:=by omega
  have h10:=tL10 (L:=L) (lo:=lo) (hi:=hi) hn hB hb (allN (fun i=>decide (tlo L lo n i≤thi L hi n i)) i) hin (mkP i (tlo L lo n) (thi L hi n)) n 0 (by omega)
  rw [mxs,mns] at h10
  have h10:Z111 (allN (fun i=>decide (tlo L lo n i≤thi L hi n i)) i) i 0 (mkP n lo hi) B (mkP i (tlo L lo n) (thi L hi n)) (lo i) (hi i)=_:=h10
  have h6:i+1≤n:=hin
  have h7:i+[D.node [D.int (tlo L lo n i),D.int (thi L hi n i)]].length≤4294967296:=by simp; omega
  have hs:=ih (i+1) (by omega)
  rw [allN_succ] at hs
  simp only [mkP_len,h1,h6,decide_true,cond_true,Int.natCast_nonneg,and_self,if_true,Int.toNat_natCast,mkP_get hin,node_fld0,node_fld1,h10,Option.bind_some,h7,Qf (show i<4611686018427387904 by omega),Option.bind_fun_some,mkP_succ]
  cases q:allN (fun i=>decide (tlo L lo n i≤thi L hi n i)) i <;> simp only [q,Bool.false_and,Bool.true_and,cond_true,cond_false] at hs ⊢ <;> exact hs
end
def rowLo (L:List D) (lo:Nat→Int) (i k:Nat) (f:Nat→Int) (a:Nat):Int:=if a=i then mxs (at2 L i) lo (f i) k else f a
def rowHi (L:List D) (hi:Nat→Int) (i k:Nat) (g:Nat→Int) (b:Nat):Int:=if b<k∧at2 L i b=true then min (g b) (hi i) else g b
def loI (L:List D) (lo:Nat→Int) (n i a:Nat):Int:=if a<i then tlo L lo n a else lo a
def hiI (L:List D) (hi:Nat→Int) (i b:Nat):Int:=mns (fun a=>at2 L a b) hi (hi b) i
section
variable {n:Nat} {L:List D} {lo hi:Nat→Int} (hn:n≤10) (hL:Sq n L)
include hn hL
theorem pL6' {i:Nat} (h:i<n) (f g:Nat→Int):∀ (m k:Nat),k+m=n →
  Z91 (mkP n lo hi) i L n i (L.getD i (.int 0)).items ((L.getD i (.int 0)).items.length:Int) k (mkP n (rowLo L lo i k f) (rowHi L hi i k g))=some (mkP n lo hi,L,(n:Int),(i:Int),mkP n (rowLo L lo i n f) (rowHi L hi i n g)):=by
 have hrow:=hL.row i h
 intro m
 induction m with
 | zero=>
  intro k hk
  have:k=n:=by omega
  subst this
  rw [hrow,Z91_fx]; unfold c_Z91; simp
 | succ m ih=>
  intro k hk
  have hkn:k<n:=by omega
  rw [Z91_fx]; unfold c_Z91
  have h1:(k:Int)<n:=by omega
  have h2:(i:Int)<n:=by omega
  have h3:i+1≤n:=h
  have h4:k+1≤n:=hkn
  have hat:((L.getD i (.int 0)).items.getD k (.int 0)).toBool=at2 L i k:=rfl
  have hs:=ih (k+1) (by omega)
  rw [hrow] at hs ⊢
  simp only [h1,hrow,decide_true,cond_true,Int.natCast_nonneg,and_self,if_true,Int.toNat_natCast,hat,Qf (show k<4611686018427387904 by omega),Option.bind_fun_some]
  cases q:at2 L i k with
  | false=>
   rw [cond_false]
   have e:mkP n (rowLo L lo i (k+1) f) (rowHi L hi i (k+1) g)=mkP n (rowLo L lo i k f) (rowHi L hi i k g):=by
    refine mkP_congr (fun a ha=>?_) (fun b hb=>?_)
    ·simp only [rowLo,mxs,q,Bool.false_eq_true,if_false]
    ·unfold rowHi
     by_cases e:b=k
     ·subst e; simp [q]
     ·have:b<k+1↔b<k:=by omega
      simp only [this]
   rw [e] at hs
   exact hs
  | true=>
   rw [cond_true]
   simp only [Z0,mkP_len,h1,h2,h3,h4,Int.natCast_nonneg,and_self,if_true,Int.toNat_natCast,mkP_get h,mkP_get hkn,node_fld0,node_fld1,mkP_set h,mkP_set hkn]
   have e:mkP n (rowLo L lo i (k+1) f) (rowHi L hi i (k+1) g)=mkP n (fun j=>if j=k then (if k=i then (if lo k > rowLo L lo i k f i then lo k else rowLo L lo i k f i) else rowLo L lo i k f k) else if j=i then (if lo k > rowLo L lo i k f i then lo k else rowLo L lo i k f i) else rowLo L lo i k f j)
     (fun j=>if j=k then (if hi i<(if k=i then rowHi L hi i k g i else rowHi L hi i k g k) then hi i else (if k=i then rowHi L hi i k g i else rowHi L hi i k g k)) else if j=i then rowHi L hi i k g i else rowHi L hi i k g j):=by
    refine mkP_congr (fun a ha=>?_) (fun b hb=>?_)
    ·simp only [rowLo,mxs,q,if_true]
     by_cases e1:a=k
     ·subst e1
      by_cases e2:a=i
      ·subst e2; simp only [if_true]; split <;> omega
      ·simp only [e2,if_true,if_false]
     ·by_cases e2:a=i
      ·subst e2; simp only [e1,if_true,if_false]; split <;> omega
      ·simp only [e1,e2,if_false]
    ·unfold rowHi
     by_cases e1:b=k
     ·subst e1
      have t1:b<b+1:=by omega
      have t2:¬ b<b:=by omega
      by_cases e2:b=i
      ·subst e2
       simp only [t1,t2,q,true_and,false_and,if_true,if_false]
       split <;> omega
      ·simp only [t1,t2,e2,q,true_and,false_and,if_true,if_false]
       split <;> omega
     ·have:b<k+1↔b<k:=by omega
      by_cases e2:b=i
      ·subst e2; simp only [this,e1,if_true,if_false]
      ·simp only [this,e1,e2,if_false]
   rw [e] at hs
   exact hs
theorem pL3':∀ (m i:Nat),i+m=n→Z92 (mkP n lo hi) L n i (mkP n (loI L lo n i) (hiI L hi i))=some (mkP n (tlo L lo n) (thi L hi n)):=by
 intro m
 induction m with
 | zero=>
  intro i h
  have:i=n:=by omega
  subst this
  rw [Z92_fx]; unfold c_Z92
  have e:mkP i (loI L lo i i) (hiI L hi i)=mkP i (tlo L lo i) (thi L hi i):=mkP_congr (fun a ha=>by simp [loI,ha]) (fun b hb=>rfl)
  simp [e]
 | succ m ih=>
  intro i h
  have hin:i<n:=by omega
  rw [Z92_fx]; unfold c_Z92
  have h1:(i:Int)<n:=by omega
  have h2:(i:Int)<L.length:=by rw [hL.len]; omega
  have h6:=pL6' (lo:=lo) (hi:=hi) hn hL hin (loI L lo n i) (hiI L hi i) n 0 (by omega)
  have e0:mkP n (rowLo L lo i 0 (loI L lo n i)) (rowHi L hi i 0 (hiI L hi i))=mkP n (loI L lo n i) (hiI L hi i):=mkP_congr (fun a ha=>by
   unfold rowLo mxs
   by_cases e:a=i
   ·subst e; simp
   ·simp [e]) (fun b hb=>by simp [rowHi])
  rw [e0] at h6
  have h6:Z91 (mkP n lo hi) i L n i (L.getD i (.int 0)).items ((L.getD i (.int 0)).items.length:Int) 0 (mkP n (loI L lo n i) (hiI L hi i))=_:=h6
  have e1:mkP n (rowLo L lo i n (loI L lo n i)) (rowHi L hi i n (hiI L hi i))=mkP n (loI L lo n (i+1)) (hiI L hi (i+1)):=mkP_congr (fun a ha=>by
   unfold rowLo loI
   by_cases e:a=i
   ·subst e
    have t1:¬ a<a:=by omega
    have t2:a<a+1:=by omega
    simp only [t1,t2,if_true,if_false]; rfl
   ·have:a<i+1↔a<i:=by omega
    simp only [e,this,if_false]) (fun b hb=>by
   unfold rowHi hiI
   simp only [hb,true_and,mns])
  simp only [h1,h2,decide_true,cond_true,Int.natCast_nonneg,and_self,if_true,Int.toNat_natCast,h6,Option.bind_some,Qf (show i<4611686018427387904 by omega),Option.bind_fun_some,e1]
  exact ih (i+1) (by omega)
end
theorem clone_eq (l:List D) (hl:l.length≤1048576):Z89 l=some l:=by
 simp only [Z89,c_Z89]
 by_cases h:1≤l.length
 ·rw [if_pos h,if_pos (by simp; omega)]; simp
 ·obtain rfl:l=[]:=List.eq_nil_of_length_eq_zero (by omega)
  rw [if_neg h,if_pos (by simp)]
  unfold C4
  simp
theorem crossed_eq {n:Nat} (hn:n≤1000) (f g:Nat→Int):Z96 (mkP n f g)=some (!allN (fun i=>decide (f i≤g i)) n):=by
 have h:=fxScan (F:=fun i=>Z94 (mkP n f g) n i) (len:=n) (fun i=>!decide (f i≤g i)) (fun i=>.inl (i:Int)) (fin:=.inr ()) (fun i hi=>by
  show Z94 (mkP n f g) n i=_
  rw [Z94_fx]
  unfold c_Z94
  have h1:(i:Int)<n:=by omega
  have e:decide (g i<f i)=!decide (f i≤g i):=by
   by_cases h:f i≤g i
   ·have h':¬ g i<f i:=by omega
    simp [h,h']
   ·have h':g i<f i:=by omega
    simp [h,h']
  simp only [mkP_len,h1,decide_true,cond_true,Int.natCast_nonneg,and_self,if_true,Int.toNat_natCast,mkP_get hi,node_fld0,node_fld1,Z93,c_Z93,e,Option.bind_some,Qf (show i<4611686018427387904 by omega),Option.bind_fun_some])
  (by
   show Z94 (mkP n f g) n n=_
   rw [Z94_fx]; unfold c_Z94; simp)
 have h':Z94 (mkP n f g) n 0=_:=h
 simp only [Z96,c_Z96,Z95,c_Z95,mkP_len,h',Option.bind_some,allN]
 cases Qi (fun i=>!decide (f i≤g i)) n with
 | none=>rfl
 | some i=>simp
def okT (L:List D) (lo hi:Nat→Int) (n:Nat):Bool:=allN (fun i=>decide (tlo L lo n i≤thi L hi n i)) n
theorem prop_i {C R A L B E:List D} (h:Good9 C R A L B E):Z98 C R E=some (bif okT L (loC C E E.length) (hiC C E E.length) C.length then (mkP C.length (tlo L (loC C E E.length) C.length) (thi L (hiC C E E.length) C.length),true) else ([],false)):=by
 have hn:=h.g.hn
 have h3:=pL3' (lo:=loC C E E.length) (hi:=hiC C E E.length) hn h.g.sq C.length 0 (by omega)
 have e0:mkP C.length (loI L (loC C E E.length) C.length 0) (hiI L (hiC C E E.length) 0)=mkP C.length (loC C E E.length) (hiC C E E.length):=mkP_congr (fun a ha=>by simp [loI]) (fun b hb=>rfl)
 rw [e0] at h3
 have h3:Z92 (mkP C.length (loC C E E.length) (hiC C E E.length)) L C.length 0 (mkP C.length (loC C E E.length) (hiC C E E.length))=_:=h3
 have hcl:=clone_eq (mkP C.length (loC C E E.length) (hiC C E E.length)) (by rw [mkP_len]; omega)
 simp only [Z98,c_Z98,h.read,Option.bind_some,Sum.elim_inr,Bool.not_true,cond_false,Z97,c_Z97,hcl,h.g.sq.len,h3,crossed_eq (show C.length≤1000 by omega),okT,Bool.not_not]
 cases allN (fun i=>decide (tlo L (loC C E E.length) C.length i≤thi L (hiC C E E.length) C.length i)) C.length <;> rfl
theorem prop_s {C R A L B E:List D} (h:Good9 C R A L B E) (hE:E.length≤1000):Z114 C R E=some (bif okT L (loC C E E.length) (hiC C E E.length) C.length then (mkP C.length (tlo L (loC C E E.length) C.length) (thi L (hiC C E E.length) C.length),true) else ([],false)):=by
 have hn:=h.g.hn
 have h6:=tL6 (L:=L) (lo:=loC C E E.length) (hi:=hiC C E E.length) hn h.g.bq h.g.hb C.length 0 (by omega)
 have h6:Z112 true 0 (mkP C.length (loC C E E.length) (hiC C E E.length)) B []=_:=h6
 simp only [Z114,c_Z114,h.l9,Option.bind_some,Bool.not_true,cond_false,Z113,c_Z113,own_eq C R E hE (by omega),h.g.later,h6,okT]
 cases allN (fun i=>decide (tlo L (loC C E E.length) C.length i≤thi L (hiC C E E.length) C.length i)) C.length <;> rfl
theorem firstN_iff0 {p:Nat→Bool} {len:Nat}:(Qi p len).isNone=true↔∀ j,j<len→p j=false:=by
 constructor
 ·intro h j hj
  cases hf:Qi p len with
  | none=>exact X5 hf j hj
  | some i=>rw [hf] at h; cases h
 ·intro h
  cases hf:Qi p len with
  | none=>rfl
  | some i=>obtain ⟨h1,h2,_⟩:=Oe hf; rw [h i h1] at h2; cases h2
def conf (L:List D) (lo hi:Nat→Int) (i k:Nat):Bool:=at2 L i k&&decide (hi i<lo k)
theorem anyN_iff {p:Nat→Bool} {n:Nat}:(Qi p n).isSome=true↔∃ i,i<n∧p i=true:=by
 constructor
 ·intro h
  cases hf:Qi p n with
  | none=>rw [hf] at h; cases h
  | some i=>obtain ⟨h1,h2,_⟩:=Oe hf; exact ⟨i,h1,h2⟩
 ·rintro ⟨i,h1,h2⟩
  cases hf:Qi p n with
  | none=>rw [X5 hf i h1] at h2; cases h2
  | some i=>rfl
def conflB (L:List D) (lo hi:Nat→Int) (n:Nat):Bool:=(Qi (fun i=>(Qi (conf L lo hi i) n).isSome) n).isSome
theorem conflL8 {n:Nat} {L:List D} {lo hi:Nat→Int} (hn:n≤10) (hL:Sq n L) {i:Nat} (h:i<n) (nm A:List D) (hnm:nm.length=n) :
  Z99 i n i i n 0 nm A L (mkP n lo hi)=some (match Qi (conf L lo hi i) n with
   | some k=>.inl ((nm.getD i (.int 0)).toInt,(nm.getD k (.int 0)).toInt,true,true,(n:Int),(i:Int),nm,A,L,mkP n lo hi)
   | none=>.inr ((n:Int),(i:Int),nm,A,L,mkP n lo hi)):=by
 have hrow:=hL.row i h
 have hfx:=fxScan (F:=fun k=>Z99 i n i i n k nm A L (mkP n lo hi)) (len:=n) (conf L lo hi i)
  (fun k=>.inl ((nm.getD i (.int 0)).toInt,(nm.getD k (.int 0)).toInt,true,true,(n:Int),(i:Int),nm,A,L,mkP n lo hi)) (fin:=.inr ((n:Int),(i:Int),nm,A,L,mkP n lo hi)) (fun k hk=>by
  show Z99 i n i i n k nm A L (mkP n lo hi)=_
  rw [Z99_fx]
  unfold c_Z99 conf
  have h1:(k:Int)<n:=by omega
  have h2:i+1≤L.length:=by rw [hL.len]; omega
  have h3:(i:Int)<n:=by omega
  have h4:i+1≤n:=h
  have h5:k+1≤n:=hk
  have hat:((L.getD i (.int 0)).items.getD k (.int 0)).toBool=at2 L i k:=rfl
  simp only [h1,h2,h3,h4,h5,hrow,hnm,mkP_len,hat,decide_true,cond_true,Int.natCast_nonneg,and_self,if_true,Int.toNat_natCast,mkP_get h,mkP_get hk,node_fld0,node_fld1,Qf (show k<4611686018427387904 by omega),Option.bind_fun_some]
  cases at2 L i k with
  | false=>rfl
  | true=>
   by_cases e:hi i<lo k
   ·simp [e]
   ·simp [e])
  (by
   show Z99 i n i i n n nm A L (mkP n lo hi)=_
   rw [Z99_fx]; unfold c_Z99; simp)
 exact hfx
theorem confl_eq {C R A L B E:List D} (h:Good9 C R A L B E):∃ a b,Z101 C R E=some (a,b,conflB L (loC C E E.length) (hiC C E E.length) C.length,true):=by
 have hn:=h.g.hn
 have hL:=h.g.sq
 have hnm:(nums C).length=C.length:=by simp [nums]
 have hfx:=fxScan (F:=fun i=>Z100 C.length i (nums C) A L (mkP C.length (loC C E E.length) (hiC C E E.length))) (len:=C.length) (fun i=>(Qi (conf L (loC C E E.length) (hiC C E E.length) i) C.length).isSome)
  (fun i=>match Qi (conf L (loC C E E.length) (hiC C E E.length) i) C.length with
   | some k=>.inl (((nums C).getD i (.int 0)).toInt,((nums C).getD k (.int 0)).toInt,true,true)
   | none=>.inr ()) (fin:=.inr ()) (fun i hi=>by
  show Z100 C.length i (nums C) A L (mkP C.length (loC C E E.length) (hiC C E E.length))=_
  rw [Z100_fx]
  unfold c_Z100
  have h1:(i:Int)<C.length:=by omega
  have h2:(i:Int)<L.length:=by rw [hL.len]; omega
  have h3:i+1≤L.length:=by rw [hL.len]; omega
  have h8:=conflL8 (lo:=loC C E E.length) (hi:=hiC C E E.length) hn hL hi (nums C) A hnm
  simp only [h1,h2,h3,hL.row i hi,decide_true,cond_true,Int.natCast_nonneg,and_self,if_true,Int.toNat_natCast,h8,Option.bind_some]
  cases Qi (conf L (loC C E E.length) (hiC C E E.length) i) C.length with
  | none=>simp only [Sum.elim_inr,Qf (show i<4611686018427387904 by omega),Option.bind_fun_some,Option.isSome_none,cond_false]
  | some k=>simp only [Sum.elim_inl,Option.isSome_some,cond_true])
  (by
   show Z100 C.length C.length (nums C) A L (mkP C.length (loC C E E.length) (hiC C E E.length))=_
   rw [Z100_fx]; unfold c_Z100; simp)
 have hfx:Z100 C.length 0 (nums C) A L (mkP C.length (loC C E E.length) (hiC C E E.length))=_:=hfx
 simp only [Z101,c_Z101,h.read,Option.bind_some,Sum.elim_inr,Bool.not_true,cond_false,hL.len,hfx,conflB]
 cases hq:Qi (fun i=>(Qi (conf L (loC C E E.length) (hiC C E E.length) i) C.length).isSome) C.length with
 | none=>exact ⟨_,_,rfl⟩
 | some i=>
  obtain ⟨_,h2,_⟩:=Oe hq
  cases hk:Qi (conf L (loC C E E.length) (hiC C E E.length) i) C.length with
  | none=>rw [hk] at h2; cases h2
  | some k=>exact ⟨_,_,by simp only [hk,Sum.elim_inl,Option.isSome_some]; rfl⟩
theorem ok_confl {C R A L B E:List D} (h:Good9 C R A L B E):okT L (loC C E E.length) (hiC C E E.length) C.length=!conflB L (loC C E E.length) (hiC C E E.length) C.length:=by
 have hlt:∀ {a b},at2 L a b=true→a<C.length∧b<C.length:=fun hv=>at2_lt h.g.sq hv
 cases hc:conflB L (loC C E E.length) (hiC C E E.length) C.length with
 | true=>
  obtain ⟨i,hi,hp⟩:=anyN_iff.1 hc
  obtain ⟨k,hk,hp⟩:=anyN_iff.1 hp
  simp only [conf,Bool.and_eq_true,decide_eq_true_eq] at hp
  cases ho:okT L (loC C E E.length) (hiC C E E.length) C.length with
  | false=>rfl
  | true=>
   exfalso
   have:=allN_iff.1 ho i hi
   simp only [decide_eq_true_eq] at this
   unfold tlo thi at this
   have h1:loC C E E.length k≤mxs (at2 L i) (loC C E E.length) (loC C E E.length i) C.length:=(mxs_le.1 (Int.le_refl _)).2 k hk hp.1
   have h2:mns (fun a=>at2 L a i) (hiC C E E.length) (hiC C E E.length i) C.length≤hiC C E E.length i:=(le_mns.1 (Int.le_refl _)).1
   omega
 | false=>
  have hno:∀ i k,at2 L i k=true→loC C E E.length k≤hiC C E E.length i:=by
   intro i k hik
   obtain ⟨hi,hk⟩:=hlt hik
   by_cases hle:loC C E E.length k≤hiC C E E.length i
   ·exact hle
   ·exfalso
    have:conflB L (loC C E E.length) (hiC C E E.length) C.length=true:=anyN_iff.2 ⟨i,hi,anyN_iff.2 ⟨k,hk,by simp only [conf,hik,Bool.true_and,decide_eq_true_eq]; omega⟩⟩
    rw [hc] at this; cases this
  show okT L (loC C E E.length) (hiC C E E.length) C.length=true
  refine allN_iff.2 (fun i hi=>?_)
  simp only [decide_eq_true_eq]
  unfold tlo thi
  have hiv:=h.iv i
  refine mxs_le.2 ⟨le_mns.2 ⟨hiv.2.1,fun a ha hp=>?_⟩,fun k hk hp=>le_mns.2 ⟨hno i k hp,fun a ha hp2=>?_⟩⟩
  ·exact hno a i hp
  ·exact hno a k (h.g.trans a i k hp2 hp)
def ys (n:Nat) (f:Nat→Int):List D:=(List.range n).map (fun i=>D.int (f i))
theorem ys_len {n:Nat} {f:Nat→Int}:(ys n f).length=n:=by simp [ys]
theorem ys_get {n:Nat} {f:Nat→Int} {i:Nat} (h:i<n):((ys n f).getD i (.int 0)).toInt=f i:=by
 simp [ys,List.getD_eq_getElem?_getD,h,Od]
theorem ys_succ {n:Nat} {f:Nat→Int}:ys n f++[D.int (f n)]=ys (n+1) f:=by simp [ys,List.range_succ]
theorem early_eq {n:Nat} (hn:n≤1000) (f g:Nat→Int):Z118 (mkP n f g)=some (ys n f):=by
 have key:∀ m i,i+m=n→Z117 (mkP n f g) n i (ys i f)=some (ys n f):=by
  intro m
  induction m with
  | zero=>
   intro i h
   have:i=n:=by omega
   subst this
   rw [Z117_fx]; unfold c_Z117; simp
  | succ m ih=>
   intro i h
   have hin:i<n:=by omega
   rw [Z117_fx]; unfold c_Z117
   have h1:(i:Int)<n:=by omega
   have h2:i+[D.int (f i)].length≤4294967296:=by simp; omega
   simp only [mkP_len,ys_len,h1,decide_true,cond_true,Int.natCast_nonneg,and_self,if_true,Int.toNat_natCast,mkP_get hin,node_fld0,Z116,c_Z116,Option.bind_some,h2,ys_succ,Qf (show i<4611686018427387904 by omega),Option.bind_fun_some]
   exact ih (i+1) (by omega)
 have h:=key n 0 (by omega)
 have h:Z117 (mkP n f g) n 0 []=_:=h
 simp only [Z118,c_Z118,mkP_len,h,Option.bind_some]
theorem late_eq {n:Nat} (hn:n≤1000) (f g:Nat→Int):Z122 (mkP n f g)=some (ys n g):=by
 have key:∀ m i,i+m=n→Z121 (mkP n f g) n i (ys i g)=some (ys n g):=by
  intro m
  induction m with
  | zero=>
   intro i h
   have:i=n:=by omega
   subst this
   rw [Z121_fx]; unfold c_Z121; simp
  | succ m ih=>
   intro i h
   have hin:i<n:=by omega
   rw [Z121_fx]; unfold c_Z121
   have h1:(i:Int)<n:=by omega
   have h2:i+[D.int (g i)].length≤4294967296:=by simp; omega
   simp only [mkP_len,ys_len,h1,decide_true,cond_true,Int.natCast_nonneg,and_self,if_true,Int.toNat_natCast,mkP_get hin,node_fld1,Z120,c_Z120,Option.bind_some,h2,ys_succ,Qf (show i<4611686018427387904 by omega),Option.bind_fun_some]
   exact ih (i+1) (by omega)
 have h:=key n 0 (by omega)
 have h:Z121 (mkP n f g) n 0 []=_:=h
 simp only [Z122,c_Z122,mkP_len,h,Option.bind_some]
theorem notYear_eq {n:Nat} (hn:n≤1000) (f:Nat→Int) (hf:∀ i,i<n→btw (f i) (-20000) 2100=true):Z127 (ys n f)=some false:=by
 have h:=fxScan (F:=fun i=>Z125 (ys n f) n i) (len:=n) (fun _=>false) (fun i=>.inl (i:Int)) (fin:=.inr ()) (fun i hi=>by
  show Z125 (ys n f) n i=_
  rw [Z125_fx]
  unfold c_Z125
  have h1:(i:Int)<n:=by omega
  simp only [ys_len,h1,decide_true,cond_true,Int.natCast_nonneg,and_self,if_true,Int.toNat_natCast,ys_get hi,Z124,c_Z124,year_i,hf i hi,Bool.not_true,cond_false,Option.bind_some,Qf (show i<4611686018427387904 by omega),Option.bind_fun_some])
  (by
   show Z125 (ys n f) n n=_
   rw [Z125_fx]; unfold c_Z125; simp)
 have h':Z125 (ys n f) n 0=_:=h
 have e:Qi (fun _=>false) n=none:=by
  cases hf:Qi (fun _=>false) n with
  | none=>rfl
  | some i=>obtain ⟨_,h2,_⟩:=Oe hf; cases h2
 rw [e] at h'
 simp only [Z127,c_Z127,Z126,c_Z126,ys_len,h',Option.bind_some,Sum.elim_inr]
 rfl
theorem poss_eq {C R A L B E:List D} (h:Good9 C R A L B E) (f:Nat→Int) (hy:∀ i,i<C.length→loC C E E.length i≤f i∧f i≤hiC C E E.length i) (ho:∀ i k,at2 L i k=true→f k≤f i):Z131 C R E (ys C.length f)=some (true,true):=by
 have hn:=h.g.hn
 have hL:=h.g.sq
 have hny:=notYear_eq (n:=C.length) (by omega) f (fun i hi=>by
  have h1:=hy i hi
  have h2:=h.iv i
  simp only [btw,Bool.and_eq_true,decide_eq_true_eq]; omega)
 have h10:∀ i,i<C.length→∀ m k,k+m=C.length→Z129 (ys C.length f) (f i) (ys C.length f) C.length i i C.length k (nums C) A L (mkP C.length (loC C E E.length) (hiC C E E.length))=some (.inr (ys C.length f,ys C.length f,(C.length:Int),(i:Int),nums C,A,L,mkP C.length (loC C E E.length) (hiC C E E.length))):=by
  intro i hi m
  have hrow:=hL.row i hi
  induction m with
  | zero=>
   intro k hk
   have:k=C.length:=by omega
   subst this
   rw [Z129_fx]; unfold c_Z129; simp
  | succ m ih=>
   intro k hk
   have hkn:k<C.length:=by omega
   rw [Z129_fx]; unfold c_Z129
   have h1:(k:Int)<C.length:=by omega
   have h2:i+1≤L.length:=by rw [hL.len]; omega
   have h5:k+1≤C.length:=hkn
   have hat:((L.getD i (.int 0)).items.getD k (.int 0)).toBool=at2 L i k:=rfl
   have hs:=ih (k+1) (by omega)
   simp only [ys_len,h1,h2,h5,hrow,hat,decide_true,cond_true,Int.natCast_nonneg,and_self,if_true,Int.toNat_natCast,ys_get hkn,Qf (show k<4611686018427387904 by omega),Option.bind_fun_some]
   cases q:at2 L i k with
   | false=>rw [cond_false]; exact hs
   | true=>
    have h6:¬ f i<f k:=by have:=ho i k q; omega
    simp only [h6,decide_false,cond_true,cond_false]
    exact hs
 have h5:∀ m i,i+m=C.length→Z130 (ys C.length f) (ys C.length f) C.length i (nums C) A L (mkP C.length (loC C E E.length) (hiC C E E.length))=some (.inr ()):=by
  intro m
  induction m with
  | zero=>
   intro i hi
   have:i=C.length:=by omega
   subst this
   rw [Z130_fx]; unfold c_Z130; simp
  | succ m ih=>
   intro i him
   have hi:i<C.length:=by omega
   rw [Z130_fx]; unfold c_Z130
   have h1:(i:Int)<C.length:=by omega
   have h2:i+1≤C.length:=hi
   have h3:(i:Int)<L.length:=by rw [hL.len]; omega
   have h4:i+1≤L.length:=by rw [hL.len]; omega
   have hw:btw (f i) (loC C E E.length i) (hiC C E E.length i)=true:=by
    have:=hy i hi
    simp only [btw,Bool.and_eq_true,decide_eq_true_eq]; omega
   have h9:=h10 i hi C.length 0 (by omega)
   have h9:Z129 (ys C.length f) (f i) (ys C.length f) C.length i i C.length 0 (nums C) A L (mkP C.length (loC C E E.length) (hiC C E E.length))=_:=h9
   simp only [ys_len,mkP_len,h1,h2,h3,h4,decide_true,cond_true,Int.natCast_nonneg,and_self,if_true,Int.toNat_natCast,ys_get hi,mkP_get hi,node_fld0,node_fld1,within_eq,hw,Option.bind_some,Bool.not_true,cond_false,hL.row i hi,h9,Sum.elim_inr,Qf (show i<4611686018427387904 by omega),Option.bind_fun_some]
   exact ih (i+1) (by omega)
 have h5':=h5 C.length 0 (by omega)
 have h5':Z130 (ys C.length f) (ys C.length f) C.length 0 (nums C) A L (mkP C.length (loC C E E.length) (hiC C E E.length))=_:=h5'
 simp only [Z131,c_Z131,h.read,Option.bind_some,Sum.elim_inr,Bool.not_true,cond_false,ys_len,mkP_len,decide_true,hny,h5']
theorem max_eq {n:Nat} (hn:n≤1000) (f:Nat→Int) (h0:1≤n):∃ M,Z133 (ys n f)=some M∧∃ i,i<n∧M=f i:=by
 have key:∀ m i M,i+m=n→(∃ j,j<n∧M=f j)→∃ M',Z132 (ys n f) M i=some M'∧∃ j,j<n∧M'=f j:=by
  intro m
  induction m with
  | zero=>
   intro i M h hM
   have:i=n:=by omega
   subst this
   rw [Z132_fx]; unfold c_Z132
   exact ⟨M,by simp [ys_len],hM⟩
  | succ m ih=>
   intro i M h hM
   have hin:i<n:=by omega
   rw [Z132_fx]; unfold c_Z132
   have h1:(i:Int)<n:=by omega
   obtain ⟨M',q1,q2⟩:=ih (i+1) (if f i > M then f i else M) (by omega) (by
    split
    ·exact ⟨i,hin,rfl⟩
    ·exact hM)
   refine ⟨M',?_,q2⟩
   simp only [ys_len,h1,decide_true,cond_true,Int.natCast_nonneg,and_self,if_true,Int.toNat_natCast,ys_get hin,Qf (show i<4611686018427387904 by omega),Option.bind_fun_some]
   exact q1
 obtain ⟨M,q1,q2⟩:=key (n - 1) 1 (f 0) (by omega) ⟨0,by omega,rfl⟩
 refine ⟨M,?_,q2⟩
 have c1:¬ (n:Int)<1:=by omega
 have c2:(0:Int)<n:=by omega
 have z0:(0:Int).toNat=0:=rfl
 have q1:Z132 (ys n f) (f 0) 1=_:=q1
 simp only [Z133,c_Z133,ys_len,c1,c2,z0,decide_false,cond_false,Int.le_refl,and_self,if_true,ys_get (show 0<n by omega),q1,Option.bind_some]
theorem min_eq {n:Nat} (hn:n≤1000) (f:Nat→Int) (h0:1≤n):∃ M,Z135 (ys n f)=some M∧∃ i,i<n∧M=f i:=by
 have key:∀ m i M,i+m=n→(∃ j,j<n∧M=f j)→∃ M',Z134 (ys n f) M i=some M'∧∃ j,j<n∧M'=f j:=by
  intro m
  induction m with
  | zero=>
   intro i M h hM
   have:i=n:=by omega
   subst this
   rw [Z134_fx]; unfold c_Z134
   exact ⟨M,by simp [ys_len],hM⟩
  | succ m ih=>
   intro i M h hM
   have hin:i<n:=by omega
   rw [Z134_fx]; unfold c_Z134
   have h1:(i:Int)<n:=by omega
   obtain ⟨M',q1,q2⟩:=ih (i+1) (if f i<M then f i else M) (by omega) (by
    split
    ·exact ⟨i,hin,rfl⟩
    ·exact hM)
   refine ⟨M',?_,q2⟩
   simp only [ys_len,h1,decide_true,cond_true,Int.natCast_nonneg,and_self,if_true,Int.toNat_natCast,ys_get hin,Qf (show i<4611686018427387904 by omega),Option.bind_fun_some]
   exact q1
 obtain ⟨M,q1,q2⟩:=key (n - 1) 1 (f 0) (by omega) ⟨0,by omega,rfl⟩
 refine ⟨M,?_,q2⟩
 have c1:¬ (n:Int)<1:=by omega
 have c2:(0:Int)<n:=by omega
 have z0:(0:Int).toNat=0:=rfl
 have q1:Z134 (ys n f) (f 0) 1=_:=q1
 simp only [Z135,c_Z135,ys_len,c1,c2,z0,decide_false,cond_false,Int.le_refl,and_self,if_true,ys_get (show 0<n by omega),q1,Option.bind_some]
theorem drawP_tot (c:List D) (hc:okC c):∃ y,Z49 c=some y∧(y.1.length≤100∧y.2.1.length≤100∧y.2.2.length≤101):=by
 obtain ⟨y,h1,h2⟩:=evid_tot c hc 0 0 (by omega)
 exact ⟨(y.1,y.2.1,y.2.2.1),by simp only [Z49,c_Z49,Z48,c_Z48,h1,Option.bind_some],h2⟩
theorem dL24 {n:Nat} {f g:Nat→Int} {S:Int} (T:List D) (hn:n≤1000) (h1:n=1→S≤0):∀ m j i,i<n→j+m=n→Z137 S i j T (ys n f) (ys n g)=some (.inr (S,(i:Int),T,ys n f,ys n g)):=by
 intro m
 induction m with
 | zero=>
  intro j i hi h
  have:j=n:=by omega
  subst this
  rw [Z137_fx]; unfold c_Z137; simp [ys_len]
 | succ m ih=>
  intro j i hi h
  have hj:j<n:=by omega
  rw [Z137_fx]; unfold c_Z137
  have c1:(j:Int)<n:=by omega
  have c2:(i:Int)<n:=by omega
  have c3:i+1≤n:=hi
  have c4:j+1≤n:=hj
  have hs:=ih (j+1) i hi (by omega)
  simp only [ys_len,c1,c2,c3,c4,decide_true,cond_true,Int.natCast_nonneg,and_self,if_true,Int.toNat_natCast,ys_get hi,ys_get hj,Qf (show j<4611686018427387904 by omega),Option.bind_fun_some]
  by_cases hn1:n=1
  ·have e:i=j:=by omega
   have hS:=h1 hn1
   have w:IntKind.i64.wrap (f j - f j)=0:=by rw [wq]; omega
   have c5:¬ (0:Int)<S:=by omega
   subst e
   simp only [w,c5,decide_false,cond_false]
   exact hs
  ·have c5:¬ (n:Int)=1:=by omega
   simp only [c5,decide_false,cond_false,hs]
   cases decide (IntKind.i64.wrap (f i - f j)<S) <;> rfl
theorem dL19 {n:Nat} {f g:Nat→Int} {S:Int} (hn:n≤1000) (h1:n=1→S≤0):∀ m i,i+m=n→Z138 S i (mkP n f g) (ys n f) (ys n g)=some (.inr (S,ys n f)):=by
 intro m
 induction m with
 | zero=>
  intro i h
  have:i=n:=by omega
  subst this
  rw [Z138_fx]; unfold c_Z138; simp [ys_len]
 | succ m ih=>
  intro i h
  have hi:i<n:=by omega
  rw [Z138_fx]; unfold c_Z138
  have c2:(i:Int)<n:=by omega
  have c3:i+1≤n:=hi
  have h24:=dL24 (f:=f) (g:=g) (mkP n f g) hn h1 n 0 i hi (by omega)
  have h24:Z137 S i 0 (mkP n f g) (ys n f) (ys n g)=_:=h24
  simp only [ys_len,mkP_len,c2,c3,decide_true,cond_true,Bool.not_true,cond_false,Int.natCast_nonneg,and_self,if_true,Int.toNat_natCast,ys_get hi,mkP_get hi,node_fld0,node_fld1,h24,Option.bind_some,Sum.elim_inr,Qf (show i<4611686018427387904 by omega),Option.bind_fun_some]
  exact ih (i+1) (by omega)
theorem dL30 {n:Nat} {f:Nat→Int} {S:Int} (hn:n≤1000) (hb:∀ i,i<n→-20000≤f i∧f i≤2100):∀ m i (a b:Int),i+m=n→(-20000≤a∧a≤2100∧-20000≤b∧b≤2100)→(i=0→a=0∧b=0)→(∀ j,j<i→b≤f j∧f j≤a) →
  ∃ a' b':Int,Z139 S a b i (ys n f)=some (S,a',b')∧(-20000≤a'∧a'≤2100∧-20000≤b'∧b'≤2100)∧(n=0→a'=0∧b'=0)∧(∀ j,j<n→b'≤f j∧f j≤a'):=by
 intro m
 induction m with
 | zero=>
  intro i a b h h2 h3 h4
  have:i=n:=by omega
  subst this
  rw [Z139_fx]; unfold c_Z139
  exact ⟨a,b,by simp [ys_len],h2,h3,h4⟩
 | succ m ih=>
  intro i a b h h2 h3 h4
  have hi:i<n:=by omega
  have hbi:=hb i hi
  have nx:∀ a2 b2:Int,(-20000≤a2∧a2≤2100∧-20000≤b2∧b2≤2100)→(∀ j,j<i→b2≤f j∧f j≤a2)→b2≤f i∧f i≤a2→_:=fun a2 b2 k1 k2 k3=>ih (i+1) a2 b2 (by omega) k1 (by omega) (fun j hj=>by
   by_cases e:j=i
   ·subst e; exact k3
   ·exact k2 j (by omega))
  rw [Z139_fx]; unfold c_Z139
  have c2:(i:Int)<n:=by omega
  have c3:i+1≤n:=hi
  simp only [ys_len,c2,c3,decide_true,cond_true,Int.natCast_nonneg,and_self,if_true,Int.toNat_natCast,ys_get hi,Qf (show i<4611686018427387904 by omega),Option.bind_fun_some]
  by_cases h0:i=0
  ·have c5:(i:Int)=0:=by omega
   simp only [c5,decide_true,cond_true]
   exact nx _ _ (by omega) (fun j hj=>by omega) (by omega)
  ·have c5:¬ (i:Int)=0:=by omega
   simp only [c5,decide_false,cond_false]
   by_cases c6:a<f i
   ·by_cases c7:f i<b
    ·simp only [c6,c7,decide_true,cond_true]
     exact nx _ _ (by omega) (fun j hj=>by have:=h4 j hj; omega) (by omega)
    ·simp only [c6,c7,decide_true,decide_false,cond_true,cond_false]
     exact nx _ _ (by omega) (fun j hj=>by have:=h4 j hj; omega) (by omega)
   ·by_cases c7:f i<b
    ·simp only [c6,c7,decide_true,decide_false,cond_true,cond_false]
     exact nx _ _ (by omega) (fun j hj=>by have:=h4 j hj; omega) (by omega)
    ·simp only [c6,c7,decide_false,cond_false]
     exact nx _ _ (by omega) (fun j hj=>by have:=h4 j hj; omega) (by omega)
theorem span_eq {C R A L B E:List D} (h:Good9 C R A L B E) (hE:E.length≤1000) (ok:okT L (loC C E E.length) (hiC C E E.length) C.length=true) :
  let f:=tlo L (loC C E E.length) C.length
  let g:=thi L (hiC C E E.length) C.length
  ∃ S:Int,Z136 C R E=some (S,true)∧(C.length≤1→S≤0)∧(∀ a b:Int,(-20000≤a∧a≤2100∧-20000≤b∧b≤2100)→(C.length=0→a=0∧b=0)→(∀ j,j<C.length→b≤f j∧f j≤a)→S≤IntKind.i64.wrap (a - b)):=by
 intro f g
 have hn:=h.g.hn
 have hp:=prop_i h
 rw [ok,cond_true] at hp
 have hfg:∀ i,i<C.length→f i≤g i∧-20000≤f i∧g i≤2100:=fun i hi=>by
  have h1:=allN_iff.1 ok i hi
  simp only [decide_eq_true_eq] at h1
  have h2:loC C E E.length i≤f i:=(mxs_le.1 (Int.le_refl _)).1
  have h3:g i≤hiC C E E.length i:=(le_mns.1 (Int.le_refl _)).1
  have h4:=h.iv i
  exact ⟨h1,by omega,by omega⟩
 have he:Z119 C R E=some (ys C.length f,true):=by
  simp only [Z119,c_Z119,hp,Option.bind_some,Bool.not_true,cond_false,early_eq (show C.length≤1000 by omega)]; rfl
 have hl:Z123 C R E=some (ys C.length g,true):=by
  simp only [Z123,c_Z123,hp,Option.bind_some,Bool.not_true,cond_false,late_eq (show C.length≤1000 by omega)]; rfl
 by_cases h0:C.length=0
 ·refine ⟨0,?_,fun _=>Int.le_refl _,fun a b k1 k2 _=>?_⟩
  ·have c:(C.length:Int)=0:=by omega
   simp only [Z136,c_Z136,he,hl,Option.bind_some,Bool.not_true,cond_false,ys_len,c,decide_true,cond_true]
  ·obtain ⟨rfl,rfl⟩:=k2 h0
   decide
 ·have c:¬ (C.length:Int)=0:=by omega
  obtain ⟨M,m1,i,hi,rfl⟩:=max_eq (n:=C.length) (by omega) f (by omega)
  obtain ⟨N,n1,j,hj,rfl⟩:=min_eq (n:=C.length) (by omega) g (by omega)
  have hfi:=hfg i hi
  have hgj:=hfg j hj
  have w:IntKind.i64.wrap (f i - g j)=f i - g j:=Ux (by omega) (by omega)
  refine ⟨if f i - g j > 0 then f i - g j else 0,?_,fun h1=>?_,fun a b k1 k2 k3=>?_⟩
  ·simp only [Z136,c_Z136,he,hl,Option.bind_some,Bool.not_true,cond_false,ys_len,c,decide_false,m1,n1,w]
  ·have e:i=j:=by omega
   subst e
   split <;> omega
  ·have q1:=k3 i hi
   have q2:=k3 j hj
   rw [Ux (n:=a - b) (by omega) (by omega)]
   split <;> omega
theorem pure_FnDates (x0:List D) (h0:x0.length≤maxLen) (w0:∀ d∈x0,wfD (.int .u8) d):Z140 x0=some true:=by
 have hvb:Z1 x0=some (decide ((65536:Int)<(x0.length:Int))):=rfl
 by_cases hbig:(65536:Int)<(x0.length:Int)
 ·rw [decide_eq_true hbig] at hvb
  simp only [Z140,c_Z140,hvb,Option.bind_some,cond_true]
 rw [decide_eq_false hbig] at hvb
 have hc:okC x0:=⟨by omega,fun d hd=>okB (w0 d hd)⟩
 obtain ⟨⟨C,R,E⟩,hd,hlen1,hlen2,hlen3⟩:=drawP_tot x0 hc
 simp only at hlen1 hlen2 hlen3
 unfold Z140 c_Z140
 simp only [hvb,Option.bind_some,cond_false,hd]
 rcases cases9 C R E (by omega) with ⟨h1,h2⟩ | ⟨A,L,B,h⟩
 ·have p1:Z98 C R E=some ([],false):=by simp only [Z98,c_Z98,h2,Option.bind_some,Sum.elim_inl,Bool.not_false,cond_true]
  have p2:Z101 C R E=some (0,0,false,false):=by simp only [Z101,c_Z101,h2,Option.bind_some,Sum.elim_inl,Bool.not_false,cond_true]
  have p3:Z114 C R E=some ([],false):=by simp only [Z114,c_Z114,h1,Option.bind_some,Bool.not_false,cond_true]
  have p4:Z115 C R E=some false:=by simp only [Z115,c_Z115,h1,Option.bind_some]
  simp [p1,p2,p3,p4]
 ·have hn:=h.g.hn
  have p1:=prop_i h
  have p3:=prop_s h (by omega)
  obtain ⟨a,b,p2⟩:=confl_eq h
  have p4:Z115 C R E=some true:=by simp only [Z115,c_Z115,h.l9,Option.bind_some]
  have hoc:=ok_confl h
  cases ok:okT L (loC C E E.length) (hiC C E E.length) C.length with
  | false=>
   rw [ok] at p1 p3 hoc
   have hcb:conflB L (loC C E E.length) (hiC C E E.length) C.length=true:=by
    cases hq:conflB L (loC C E E.length) (hiC C E E.length) C.length with
    | true=>rfl
    | false=>rw [hq] at hoc; cases hoc
   rw [hcb] at p2
   simp only [cond_false] at p1 p3
   simp [p1,p2,p3,p4]
  | true=>
   obtain ⟨S,s1,s2,s3⟩:=span_eq h (by omega) ok
   rw [ok] at p1 p3 hoc
   have hcb:conflB L (loC C E E.length) (hiC C E E.length) C.length=false:=by
    cases hq:conflB L (loC C E E.length) (hiC C E E.length) C.length with
    | false=>rfl
    | true=>rw [hq] at hoc; cases hoc
   rw [hcb] at p2
   simp only [cond_true] at p1 p3
   have hfg:∀ i,i<C.length→tlo L (loC C E E.length) C.length i≤thi L (hiC C E E.length) C.length i:=fun i hi=>by
    have h1:=allN_iff.1 ok i hi
    simpa only [decide_eq_true_eq] using h1
   have hlo:∀ i,loC C E E.length i≤tlo L (loC C E E.length) C.length i:=fun i=>(mxs_le.1 (Int.le_refl _)).1
   have hhi:∀ i,thi L (hiC C E E.length) C.length i≤hiC C E E.length i:=fun i=>(le_mns.1 (Int.le_refl _)).1
   have he:Z119 C R E=some (ys C.length (tlo L (loC C E E.length) C.length),true):=by
    simp only [Z119,c_Z119,p1,Option.bind_some,Bool.not_true,cond_false,early_eq (show C.length≤1000 by omega)]
   have hl:Z123 C R E=some (ys C.length (thi L (hiC C E E.length) C.length),true):=by
    simp only [Z123,c_Z123,p1,Option.bind_some,Bool.not_true,cond_false,late_eq (show C.length≤1000 by omega)]
   have a1:=poss_eq h (tlo L (loC C E E.length) C.length) (fun i hi=>⟨hlo i,Int.le_trans (hfg i hi) (hhi i)⟩) (fun i k hik=>by
    unfold tlo
    refine mxs_le.2 ⟨(mxs_le.1 (Int.le_refl _)).2 k (at2_lt h.g.sq hik).2 hik,fun j hj hkj=>?_⟩
    exact (mxs_le.1 (Int.le_refl _)).2 j hj (h.g.trans i k j hik hkj))
   have a2:=poss_eq h (thi L (hiC C E E.length) C.length) (fun i hi=>⟨Int.le_trans (hlo i) (hfg i hi),hhi i⟩) (fun i k hik=>by
    unfold thi
    refine le_mns.2 ⟨(le_mns.1 (Int.le_refl _)).2 i (at2_lt h.g.sq hik).1 hik,fun j hj hji=>?_⟩
    exact (le_mns.1 (Int.le_refl _)).2 j hj (h.g.trans j i k hji hik))
   have q19:=dL19 (f:=tlo L (loC C E E.length) C.length) (g:=thi L (hiC C E E.length) C.length) (S:=S) (n:=C.length) (by omega) (fun h1=>s2 (by omega)) C.length 0 (by omega)
   have q19:Z138 S 0 _ _ _=_:=q19
   obtain ⟨a',b',q30,r1,r2,r3⟩:=dL30 (f:=tlo L (loC C E E.length) C.length) (S:=S) (n:=C.length) (by omega) (fun i hi=>by
    have k1:=hlo i
    have k2:=hhi i
    have k3:=hfg i hi
    have k4:=h.iv i
    omega) C.length 0 0 0 (by omega) (by omega) (fun _=>⟨rfl,rfl⟩) (fun j hj=>by omega)
   have q30:Z139 S 0 0 0 _=_:=q30
   have fin:=s3 a' b' r1 r2 r3
   simp [p1,p2,p3,p4,he,hl,a1,a2,s1,q19,q30,fin,ys_len,mkP_len]
end Go.Proofs.Ytdoaceeakjbgfaa
