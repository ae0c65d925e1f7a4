/- The law FnMatrix over plain values. No condition beside those of the statement. -/
import Derived.Test.YtnoccadolcgifaaClMFnMatrix
import Derived.Test.YtnoccadolcgifaaRaiU5
set_option linter.unusedVariables false
set_option linter.unusedSimpArgs false
set_option linter.unusedSectionVars false
set_option maxRecDepth 100000
namespace Go.Proofs.Ytnoccadolcgifaa
open Go Go.Rai
theorem Z4_fx (x0 x1 x2:Int) (x3:List D) (x4 x5:Int) (x6:List D):Z4 x0 x1 x2 x3 x4 x5 x6=c_Z4 (Z4) x0 x1 x2 x3 x4 x5 x6 some:=
 J9 (N:=fun n (p:Int×Int×Int×List D×Int×Int×List D)=>n_Z4 n p.1 p.2.1 p.2.2.1 p.2.2.2.1 p.2.2.2.2.1 p.2.2.2.2.2.1 p.2.2.2.2.2.2) (C:=fun f p=>c_Z4 (fun x0 x1 x2 x3 x4 x5 x6=>f (x0,x1,x2,x3,x4,x5,x6)) p.1 p.2.1 p.2.2.1 p.2.2.2.1 p.2.2.2.2.1 p.2.2.2.2.2.1 p.2.2.2.2.2.2 some) (fun _=>rfl) (fun _ _=>rfl) (fun hD f fs h p=>by
  unfold c_Z4
  repeat' first | exact Lim.const hD|exact h _|apply Lim.ite|apply Lim.cond|apply Lim.bind hD|apply Lim.sum|intro _) (x0,x1,x2,x3,x4,x5,x6)
theorem Z7_fx (x0:Int) (x1 x2:List D) (x3 x4:Int):Z7 x0 x1 x2 x3 x4=c_Z7 (Z7) x0 x1 x2 x3 x4 some:=
 J9 (N:=fun n (p:Int×List D×List D×Int×Int)=>n_Z7 n p.1 p.2.1 p.2.2.1 p.2.2.2.1 p.2.2.2.2) (C:=fun f p=>c_Z7 (fun x0 x1 x2 x3 x4=>f (x0,x1,x2,x3,x4)) p.1 p.2.1 p.2.2.1 p.2.2.2.1 p.2.2.2.2 some) (fun _=>rfl) (fun _ _=>rfl) (fun hD f fs h p=>by
  unfold c_Z7
  repeat' first | exact Lim.const hD|exact h _|apply Lim.ite|apply Lim.cond|apply Lim.bind hD|apply Lim.sum|intro _) (x0,x1,x2,x3,x4)
theorem Z10_fx (x0:Int) (x1 x2:List D) (x3 x4:Int):Z10 x0 x1 x2 x3 x4=c_Z10 (Z10) x0 x1 x2 x3 x4 some:=
 J9 (N:=fun n (p:Int×List D×List D×Int×Int)=>n_Z10 n p.1 p.2.1 p.2.2.1 p.2.2.2.1 p.2.2.2.2) (C:=fun f p=>c_Z10 (fun x0 x1 x2 x3 x4=>f (x0,x1,x2,x3,x4)) p.1 p.2.1 p.2.2.1 p.2.2.2.1 p.2.2.2.2 some) (fun _=>rfl) (fun _ _=>rfl) (fun hD f fs h p=>by
  unfold c_Z10
  repeat' first | exact Lim.const hD|exact h _|apply Lim.ite|apply Lim.cond|apply Lim.bind hD|apply Lim.sum|intro _) (x0,x1,x2,x3,x4)
theorem Z12_fx (x0 x1:Int) (x2:List D) (x3 x4:Int) (x5 x6:List D):Z12 x0 x1 x2 x3 x4 x5 x6=c_Z12 (Z12) x0 x1 x2 x3 x4 x5 x6 some:=
 J9 (N:=fun n (p:Int×Int×List D×Int×Int×List D×List D)=>n_Z12 n p.1 p.2.1 p.2.2.1 p.2.2.2.1 p.2.2.2.2.1 p.2.2.2.2.2.1 p.2.2.2.2.2.2) (C:=fun f p=>c_Z12 (fun x0 x1 x2 x3 x4 x5 x6=>f (x0,x1,x2,x3,x4,x5,x6)) p.1 p.2.1 p.2.2.1 p.2.2.2.1 p.2.2.2.2.1 p.2.2.2.2.2.1 p.2.2.2.2.2.2 some) (fun _=>rfl) (fun _ _=>rfl) (fun hD f fs h p=>by
  unfold c_Z12
  repeat' first | exact Lim.const hD|exact h _|apply Lim.ite|apply Lim.cond|apply Lim.bind hD|apply Lim.sum|intro _) (x0,x1,x2,x3,x4,x5,x6)
theorem Z13_fx (x0 x1:Int) (x2:List D) (x3 x4:Int) (x5:List D):Z13 x0 x1 x2 x3 x4 x5=c_Z13 (Z13) x0 x1 x2 x3 x4 x5 some:=
 J9 (N:=fun n (p:Int×Int×List D×Int×Int×List D)=>n_Z13 n p.1 p.2.1 p.2.2.1 p.2.2.2.1 p.2.2.2.2.1 p.2.2.2.2.2) (C:=fun f p=>c_Z13 (fun x0 x1 x2 x3 x4 x5=>f (x0,x1,x2,x3,x4,x5)) p.1 p.2.1 p.2.2.1 p.2.2.2.1 p.2.2.2.2.1 p.2.2.2.2.2 some) (fun _=>rfl) (fun _ _=>rfl) (fun hD f fs h p=>by
  unfold c_Z13
  repeat' first | exact Lim.const hD|exact h _|apply Lim.ite|apply Lim.cond|apply Lim.bind hD|apply Lim.sum|intro _) (x0,x1,x2,x3,x4,x5)
theorem Z16_fx (x0:Int) (x1:List D) (x2 x3:Int) (x4 x5:List D):Z16 x0 x1 x2 x3 x4 x5=c_Z16 (Z16) x0 x1 x2 x3 x4 x5 some:=
 J9 (N:=fun n (p:Int×List D×Int×Int×List D×List D)=>n_Z16 n p.1 p.2.1 p.2.2.1 p.2.2.2.1 p.2.2.2.2.1 p.2.2.2.2.2) (C:=fun f p=>c_Z16 (fun x0 x1 x2 x3 x4 x5=>f (x0,x1,x2,x3,x4,x5)) p.1 p.2.1 p.2.2.1 p.2.2.2.1 p.2.2.2.2.1 p.2.2.2.2.2 some) (fun _=>rfl) (fun _ _=>rfl) (fun hD f fs h p=>by
  unfold c_Z16
  repeat' first | exact Lim.const hD|exact h _|apply Lim.ite|apply Lim.cond|apply Lim.bind hD|apply Lim.sum|intro _) (x0,x1,x2,x3,x4,x5)
theorem Z17_fx (x0:Int) (x1:List D) (x2 x3:Int) (x4 x5:List D):Z17 x0 x1 x2 x3 x4 x5=c_Z17 (Z17) x0 x1 x2 x3 x4 x5 some:=
 J9 (N:=fun n (p:Int×List D×Int×Int×List D×List D)=>n_Z17 n p.1 p.2.1 p.2.2.1 p.2.2.2.1 p.2.2.2.2.1 p.2.2.2.2.2) (C:=fun f p=>c_Z17 (fun x0 x1 x2 x3 x4 x5=>f (x0,x1,x2,x3,x4,x5)) p.1 p.2.1 p.2.2.1 p.2.2.2.1 p.2.2.2.2.1 p.2.2.2.2.2 some) (fun _=>rfl) (fun _ _=>rfl) (fun hD f fs h p=>by
  unfold c_Z17
  repeat' first | exact Lim.const hD|exact h _|apply Lim.ite|apply Lim.cond|apply Lim.bind hD|apply Lim.sum|intro _) (x0,x1,x2,x3,x4,x5)
theorem Z18_fx (x0 x1:Int) (x2:List D) (x3 x4:Int) (x5 x6:List D):Z18 x0 x1 x2 x3 x4 x5 x6=c_Z18 (Z18) x0 x1 x2 x3 x4 x5 x6 some:=
 J9 (N:=fun n (p:Int×Int×List D×Int×Int×List D×List D)=>n_Z18 n p.1 p.2.1 p.2.2.1 p.2.2.2.1 p.2.2.2.2.1 p.2.2.2.2.2.1 p.2.2.2.2.2.2) (C:=fun f p=>c_Z18 (fun x0 x1 x2 x3 x4 x5 x6=>f (x0,x1,x2,x3,x4,x5,x6)) p.1 p.2.1 p.2.2.1 p.2.2.2.1 p.2.2.2.2.1 p.2.2.2.2.2.1 p.2.2.2.2.2.2 some) (fun _=>rfl) (fun _ _=>rfl) (fun hD f fs h p=>by
  unfold c_Z18
  repeat' first | exact Lim.const hD|exact h _|apply Lim.ite|apply Lim.cond|apply Lim.bind hD|apply Lim.sum|intro _) (x0,x1,x2,x3,x4,x5,x6)
theorem Z19_fx (x0 x1:Int) (x2:List D) (x3 x4:Int) (x5 x6:List D):Z19 x0 x1 x2 x3 x4 x5 x6=c_Z19 (Z19) x0 x1 x2 x3 x4 x5 x6 some:=
 J9 (N:=fun n (p:Int×Int×List D×Int×Int×List D×List D)=>n_Z19 n p.1 p.2.1 p.2.2.1 p.2.2.2.1 p.2.2.2.2.1 p.2.2.2.2.2.1 p.2.2.2.2.2.2) (C:=fun f p=>c_Z19 (fun x0 x1 x2 x3 x4 x5 x6=>f (x0,x1,x2,x3,x4,x5,x6)) p.1 p.2.1 p.2.2.1 p.2.2.2.1 p.2.2.2.2.1 p.2.2.2.2.2.1 p.2.2.2.2.2.2 some) (fun _=>rfl) (fun _ _=>rfl) (fun hD f fs h p=>by
  unfold c_Z19
  repeat' first | exact Lim.const hD|exact h _|apply Lim.ite|apply Lim.cond|apply Lim.bind hD|apply Lim.sum|intro _) (x0,x1,x2,x3,x4,x5,x6)
theorem Z20_fx (x0:Int) (x1:List D) (x2 x3:Int) (x4 x5:List D):Z20 x0 x1 x2 x3 x4 x5=c_Z20 (Z20) x0 x1 x2 x3 x4 x5 some:=
 J9 (N:=fun n (p:Int×List D×Int×Int×List D×List D)=>n_Z20 n p.1 p.2.1 p.2.2.1 p.2.2.2.1 p.2.2.2.2.1 p.2.2.2.2.2) (C:=fun f p=>c_Z20 (fun x0 x1 x2 x3 x4 x5=>f (x0,x1,x2,x3,x4,x5)) p.1 p.2.1 p.2.2.1 p.2.2.2.1 p.2.2.2.2.1 p.2.2.2.2.2 some) (fun _=>rfl) (fun _ _=>rfl) (fun hD f fs h p=>by
  unfold c_Z20
  repeat' first | exact Lim.const hD|exact h _|apply Lim.ite|apply Lim.cond|apply Lim.bind hD|apply Lim.sum|intro _) (x0,x1,x2,x3,x4,x5)
theorem Z21_fx (x0:Int) (x1:List D) (x2 x3:Int) (x4 x5:List D):Z21 x0 x1 x2 x3 x4 x5=c_Z21 (Z21) x0 x1 x2 x3 x4 x5 some:=
 J9 (N:=fun n (p:Int×List D×Int×Int×List D×List D)=>n_Z21 n p.1 p.2.1 p.2.2.1 p.2.2.2.1 p.2.2.2.2.1 p.2.2.2.2.2) (C:=fun f p=>c_Z21 (fun x0 x1 x2 x3 x4 x5=>f (x0,x1,x2,x3,x4,x5)) p.1 p.2.1 p.2.2.1 p.2.2.2.1 p.2.2.2.2.1 p.2.2.2.2.2 some) (fun _=>rfl) (fun _ _=>rfl) (fun hD f fs h p=>by
  unfold c_Z21
  repeat' first | exact Lim.const hD|exact h _|apply Lim.ite|apply Lim.cond|apply Lim.bind hD|apply Lim.sum|intro _) (x0,x1,x2,x3,x4,x5)
theorem Z23_fx (x0 x1:Int) (x2 x3:List D):Z23 x0 x1 x2 x3=c_Z23 (Z23) x0 x1 x2 x3 some:=
 J9 (N:=fun n (p:Int×Int×List D×List D)=>n_Z23 n p.1 p.2.1 p.2.2.1 p.2.2.2) (C:=fun f p=>c_Z23 (fun x0 x1 x2 x3=>f (x0,x1,x2,x3)) p.1 p.2.1 p.2.2.1 p.2.2.2 some) (fun _=>rfl) (fun _ _=>rfl) (fun hD f fs h p=>by
  unfold c_Z23
  repeat' first | exact Lim.const hD|exact h _|apply Lim.ite|apply Lim.cond|apply Lim.bind hD|apply Lim.sum|intro _) (x0,x1,x2,x3)
theorem Z25_fx (x0:Int) (x1 x2 x3:List D):Z25 x0 x1 x2 x3=c_Z25 (Z25) x0 x1 x2 x3 some:=
 J9 (N:=fun n (p:Int×List D×List D×List D)=>n_Z25 n p.1 p.2.1 p.2.2.1 p.2.2.2) (C:=fun f p=>c_Z25 (fun x0 x1 x2 x3=>f (x0,x1,x2,x3)) p.1 p.2.1 p.2.2.1 p.2.2.2 some) (fun _=>rfl) (fun _ _=>rfl) (fun hD f fs h p=>by
  unfold c_Z25
  repeat' first | exact Lim.const hD|exact h _|apply Lim.ite|apply Lim.cond|apply Lim.bind hD|apply Lim.sum|intro _) (x0,x1,x2,x3)
theorem Z26_fx (x0 x1:Int) (x2:List D):Z26 x0 x1 x2=c_Z26 (Z26) x0 x1 x2 some:=
 J9 (N:=fun n (p:Int×Int×List D)=>n_Z26 n p.1 p.2.1 p.2.2) (C:=fun f p=>c_Z26 (fun x0 x1 x2=>f (x0,x1,x2)) p.1 p.2.1 p.2.2 some) (fun _=>rfl) (fun _ _=>rfl) (fun hD f fs h p=>by
  unfold c_Z26
  repeat' first | exact Lim.const hD|exact h _|apply Lim.ite|apply Lim.cond|apply Lim.bind hD|apply Lim.sum|intro _) (x0,x1,x2)
theorem Z27_fx (x0:Int) (x1:List D):Z27 x0 x1=c_Z27 (Z27) x0 x1 some:=
 J9 (N:=fun n (p:Int×List D)=>n_Z27 n p.1 p.2) (C:=fun f p=>c_Z27 (fun x0 x1=>f (x0,x1)) p.1 p.2 some) (fun _=>rfl) (fun _ _=>rfl) (fun hD f fs h p=>by
  unfold c_Z27
  repeat' first | exact Lim.const hD|exact h _|apply Lim.ite|apply Lim.cond|apply Lim.bind hD|apply Lim.sum|intro _) (x0,x1)
theorem Z30_fx (x0:Int) (x1:List D):Z30 x0 x1=c_Z30 (Z30) x0 x1 some:=
 J9 (N:=fun n (p:Int×List D)=>n_Z30 n p.1 p.2) (C:=fun f p=>c_Z30 (fun x0 x1=>f (x0,x1)) p.1 p.2 some) (fun _=>rfl) (fun _ _=>rfl) (fun hD f fs h p=>by
  unfold c_Z30
  repeat' first | exact Lim.const hD|exact h _|apply Lim.ite|apply Lim.cond|apply Lim.bind hD|apply Lim.sum|intro _) (x0,x1)
theorem Z39_fx (x0:List D) (x1 x2:Int) (x3 x4:List D):Z39 x0 x1 x2 x3 x4=c_Z39 (Z39) x0 x1 x2 x3 x4 some:=
 J9 (N:=fun n (p:List D×Int×Int×List D×List D)=>n_Z39 n p.1 p.2.1 p.2.2.1 p.2.2.2.1 p.2.2.2.2) (C:=fun f p=>c_Z39 (fun x0 x1 x2 x3 x4=>f (x0,x1,x2,x3,x4)) p.1 p.2.1 p.2.2.1 p.2.2.2.1 p.2.2.2.2 some) (fun _=>rfl) (fun _ _=>rfl) (fun hD f fs h p=>by
  unfold c_Z39
  repeat' first | exact Lim.const hD|exact h _|apply Lim.ite|apply Lim.cond|apply Lim.bind hD|apply Lim.sum|intro _) (x0,x1,x2,x3,x4)
theorem Z41_fx (x0:List D) (x1 x2 x3:Int):Z41 x0 x1 x2 x3=c_Z41 (Z41) x0 x1 x2 x3 some:=
 J9 (N:=fun n (p:List D×Int×Int×Int)=>n_Z41 n p.1 p.2.1 p.2.2.1 p.2.2.2) (C:=fun f p=>c_Z41 (fun x0 x1 x2 x3=>f (x0,x1,x2,x3)) p.1 p.2.1 p.2.2.1 p.2.2.2 some) (fun _=>rfl) (fun _ _=>rfl) (fun hD f fs h p=>by
  unfold c_Z41
  repeat' first | exact Lim.const hD|exact h _|apply Lim.ite|apply Lim.cond|apply Lim.bind hD|apply Lim.sum|intro _) (x0,x1,x2,x3)
theorem Z49_fx (x0:List D) (x1 x2:Int) (x3 x4:List D):Z49 x0 x1 x2 x3 x4=c_Z49 (Z49) x0 x1 x2 x3 x4 some:=
 J9 (N:=fun n (p:List D×Int×Int×List D×List D)=>n_Z49 n p.1 p.2.1 p.2.2.1 p.2.2.2.1 p.2.2.2.2) (C:=fun f p=>c_Z49 (fun x0 x1 x2 x3 x4=>f (x0,x1,x2,x3,x4)) p.1 p.2.1 p.2.2.1 p.2.2.2.1 p.2.2.2.2 some) (fun _=>rfl) (fun _ _=>rfl) (fun hD f fs h p=>by
  unfold c_Z49
  repeat' first | exact Lim.const hD|exact h _|apply Lim.ite|apply Lim.cond|apply Lim.bind hD|apply Lim.sum|intro _) (x0,x1,x2,x3,x4)
theorem Z51_fx (x0 x1 x2:Int) (x3:List D):Z51 x0 x1 x2 x3=c_Z51 (Z51) x0 x1 x2 x3 some:=
 J9 (N:=fun n (p:Int×Int×Int×List D)=>n_Z51 n p.1 p.2.1 p.2.2.1 p.2.2.2) (C:=fun f p=>c_Z51 (fun x0 x1 x2 x3=>f (x0,x1,x2,x3)) p.1 p.2.1 p.2.2.1 p.2.2.2 some) (fun _=>rfl) (fun _ _=>rfl) (fun hD f fs h p=>by
  unfold c_Z51
  repeat' first | exact Lim.const hD|exact h _|apply Lim.ite|apply Lim.cond|apply Lim.bind hD|apply Lim.sum|intro _) (x0,x1,x2,x3)
theorem Z53_fx (x0:Int) (x1:List D) (x2 x3:Int) (x4 x5 x6 x7 x8:List D):Z53 x0 x1 x2 x3 x4 x5 x6 x7 x8=c_Z53 (Z53) x0 x1 x2 x3 x4 x5 x6 x7 x8 some:=
 J9 (N:=fun n (p:Int×List D×Int×Int×List D×List D×List D×List D×List D)=>n_Z53 n p.1 p.2.1 p.2.2.1 p.2.2.2.1 p.2.2.2.2.1 p.2.2.2.2.2.1 p.2.2.2.2.2.2.1 p.2.2.2.2.2.2.2.1 p.2.2.2.2.2.2.2.2) (C:=fun f p=>c_Z53 (fun x0 x1 x2 x3 x4 x5 x6 x7 x8=>f (x0,x1,x2,x3,x4,x5,x6,x7,x8)) p.1 p.2.1 p.2.2.1 p.2.2.2.1 p.2.2.2.2.1 p.2.2.2.2.2.1 p.2.2.2.2.2.2.1 p.2.2.2.2.2.2.2.1 p.2.2.2.2.2.2.2.2 some) (fun _=>rfl) (fun _ _=>rfl) (fun hD f fs h p=>by
  unfold c_Z53
  repeat' first | exact Lim.const hD|exact h _|apply Lim.ite|apply Lim.cond|apply Lim.bind hD|apply Lim.sum|intro _) (x0,x1,x2,x3,x4,x5,x6,x7,x8)
theorem Z54_fx (x0:Int) (x1:List D) (x2 x3:Int) (x4 x5 x6 x7 x8:List D):Z54 x0 x1 x2 x3 x4 x5 x6 x7 x8=c_Z54 (Z54) x0 x1 x2 x3 x4 x5 x6 x7 x8 some:=
 J9 (N:=fun n (p:Int×List D×Int×Int×List D×List D×List D×List D×List D)=>n_Z54 n p.1 p.2.1 p.2.2.1 p.2.2.2.1 p.2.2.2.2.1 p.2.2.2.2.2.1 p.2.2.2.2.2.2.1 p.2.2.2.2.2.2.2.1 p.2.2.2.2.2.2.2.2) (C:=fun f p=>c_Z54 (fun x0 x1 x2 x3 x4 x5 x6 x7 x8=>f (x0,x1,x2,x3,x4,x5,x6,x7,x8)) p.1 p.2.1 p.2.2.1 p.2.2.2.1 p.2.2.2.2.1 p.2.2.2.2.2.1 p.2.2.2.2.2.2.1 p.2.2.2.2.2.2.2.1 p.2.2.2.2.2.2.2.2 some) (fun _=>rfl) (fun _ _=>rfl) (fun hD f fs h p=>by
  unfold c_Z54
  repeat' first | exact Lim.const hD|exact h _|apply Lim.ite|apply Lim.cond|apply Lim.bind hD|apply Lim.sum|intro _) (x0,x1,x2,x3,x4,x5,x6,x7,x8)
theorem Z55_fx (x0:Int) (x1:List D) (x2 x3:Int) (x4 x5 x6 x7 x8:List D):Z55 x0 x1 x2 x3 x4 x5 x6 x7 x8=c_Z55 (Z55) x0 x1 x2 x3 x4 x5 x6 x7 x8 some:=
 J9 (N:=fun n (p:Int×List D×Int×Int×List D×List D×List D×List D×List D)=>n_Z55 n p.1 p.2.1 p.2.2.1 p.2.2.2.1 p.2.2.2.2.1 p.2.2.2.2.2.1 p.2.2.2.2.2.2.1 p.2.2.2.2.2.2.2.1 p.2.2.2.2.2.2.2.2) (C:=fun f p=>c_Z55 (fun x0 x1 x2 x3 x4 x5 x6 x7 x8=>f (x0,x1,x2,x3,x4,x5,x6,x7,x8)) p.1 p.2.1 p.2.2.1 p.2.2.2.1 p.2.2.2.2.1 p.2.2.2.2.2.1 p.2.2.2.2.2.2.1 p.2.2.2.2.2.2.2.1 p.2.2.2.2.2.2.2.2 some) (fun _=>rfl) (fun _ _=>rfl) (fun hD f fs h p=>by
  unfold c_Z55
  repeat' first | exact Lim.const hD|exact h _|apply Lim.ite|apply Lim.cond|apply Lim.bind hD|apply Lim.sum|intro _) (x0,x1,x2,x3,x4,x5,x6,x7,x8)
theorem Z56_fx (x0 x1 x2 x3 x4 x5 x6 x7 x8:Int) (x9 x10 x11:List D):Z56 x0 x1 x2 x3 x4 x5 x6 x7 x8 x9 x10 x11=c_Z56 (Z56) x0 x1 x2 x3 x4 x5 x6 x7 x8 x9 x10 x11 some:=
 J9 (N:=fun n (p:Int×Int×Int×Int×Int×Int×Int×Int×Int×List D×List D×List D)=>n_Z56 n p.1 p.2.1 p.2.2.1 p.2.2.2.1 p.2.2.2.2.1 p.2.2.2.2.2.1 p.2.2.2.2.2.2.1 p.2.2.2.2.2.2.2.1 p.2.2.2.2.2.2.2.2.1 p.2.2.2.2.2.2.2.2.2.1 p.2.2.2.2.2.2.2.2.2.2.1 p.2.2.2.2.2.2.2.2.2.2.2) (C:=fun f p=>c_Z56 (fun x0 x1 x2 x3 x4 x5 x6 x7 x8 x9 x10 x11=>f (x0,x1,x2,x3,x4,x5,x6,x7,x8,x9,x10,x11)) p.1 p.2.1 p.2.2.1 p.2.2.2.1 p.2.2.2.2.1 p.2.2.2.2.2.1 p.2.2.2.2.2.2.1 p.2.2.2.2.2.2.2.1 p.2.2.2.2.2.2.2.2.1 p.2.2.2.2.2.2.2.2.2.1 p.2.2.2.2.2.2.2.2.2.2.1 p.2.2.2.2.2.2.2.2.2.2.2 some) (fun _=>rfl) (fun _ _=>rfl) (fun hD f fs h p=>by
  unfold c_Z56
  repeat' first | exact Lim.const hD|exact h _|apply Lim.ite|apply Lim.cond|apply Lim.bind hD|apply Lim.sum|intro _) (x0,x1,x2,x3,x4,x5,x6,x7,x8,x9,x10,x11)
theorem Z57_fx (x0 x1 x2 x3 x4 x5:Int) (x6 x7 x8:List D):Z57 x0 x1 x2 x3 x4 x5 x6 x7 x8=c_Z57 (Z57) x0 x1 x2 x3 x4 x5 x6 x7 x8 some:=
 J9 (N:=fun n (p:Int×Int×Int×Int×Int×Int×List D×List D×List D)=>n_Z57 n p.1 p.2.1 p.2.2.1 p.2.2.2.1 p.2.2.2.2.1 p.2.2.2.2.2.1 p.2.2.2.2.2.2.1 p.2.2.2.2.2.2.2.1 p.2.2.2.2.2.2.2.2) (C:=fun f p=>c_Z57 (fun x0 x1 x2 x3 x4 x5 x6 x7 x8=>f (x0,x1,x2,x3,x4,x5,x6,x7,x8)) p.1 p.2.1 p.2.2.1 p.2.2.2.1 p.2.2.2.2.1 p.2.2.2.2.2.1 p.2.2.2.2.2.2.1 p.2.2.2.2.2.2.2.1 p.2.2.2.2.2.2.2.2 some) (fun _=>rfl) (fun _ _=>rfl) (fun hD f fs h p=>by
  unfold c_Z57
  repeat' first | exact Lim.const hD|exact h _|apply Lim.ite|apply Lim.cond|apply Lim.bind hD|apply Lim.sum|intro _) (x0,x1,x2,x3,x4,x5,x6,x7,x8)
theorem Z58_fx (x0 x1 x2:Int) (x3 x4 x5:List D):Z58 x0 x1 x2 x3 x4 x5=c_Z58 (Z58) x0 x1 x2 x3 x4 x5 some:=
 J9 (N:=fun n (p:Int×Int×Int×List D×List D×List D)=>n_Z58 n p.1 p.2.1 p.2.2.1 p.2.2.2.1 p.2.2.2.2.1 p.2.2.2.2.2) (C:=fun f p=>c_Z58 (fun x0 x1 x2 x3 x4 x5=>f (x0,x1,x2,x3,x4,x5)) p.1 p.2.1 p.2.2.1 p.2.2.2.1 p.2.2.2.2.1 p.2.2.2.2.2 some) (fun _=>rfl) (fun _ _=>rfl) (fun hD f fs h p=>by
  unfold c_Z58
  repeat' first | exact Lim.const hD|exact h _|apply Lim.ite|apply Lim.cond|apply Lim.bind hD|apply Lim.sum|intro _) (x0,x1,x2,x3,x4,x5)
theorem Z59_fx (x0:Int) (x1:List D) (x2 x3:Int) (x4 x5 x6 x7 x8:List D):Z59 x0 x1 x2 x3 x4 x5 x6 x7 x8=c_Z59 (Z59) x0 x1 x2 x3 x4 x5 x6 x7 x8 some:=
 J9 (N:=fun n (p:Int×List D×Int×Int×List D×List D×List D×List D×List D)=>n_Z59 n p.1 p.2.1 p.2.2.1 p.2.2.2.1 p.2.2.2.2.1 p.2.2.2.2.2.1 p.2.2.2.2.2.2.1 p.2.2.2.2.2.2.2.1 p.2.2.2.2.2.2.2.2) (C:=fun f p=>c_Z59 (fun x0 x1 x2 x3 x4 x5 x6 x7 x8=>f (x0,x1,x2,x3,x4,x5,x6,x7,x8)) p.1 p.2.1 p.2.2.1 p.2.2.2.1 p.2.2.2.2.1 p.2.2.2.2.2.1 p.2.2.2.2.2.2.1 p.2.2.2.2.2.2.2.1 p.2.2.2.2.2.2.2.2 some) (fun _=>rfl) (fun _ _=>rfl) (fun hD f fs h p=>by
  unfold c_Z59
  repeat' first | exact Lim.const hD|exact h _|apply Lim.ite|apply Lim.cond|apply Lim.bind hD|apply Lim.sum|intro _) (x0,x1,x2,x3,x4,x5,x6,x7,x8)
theorem Z62_fx (x0 x1 x2:Int) (x3 x4 x5:List D):Z62 x0 x1 x2 x3 x4 x5=c_Z62 (Z62) x0 x1 x2 x3 x4 x5 some:=
 J9 (N:=fun n (p:Int×Int×Int×List D×List D×List D)=>n_Z62 n p.1 p.2.1 p.2.2.1 p.2.2.2.1 p.2.2.2.2.1 p.2.2.2.2.2) (C:=fun f p=>c_Z62 (fun x0 x1 x2 x3 x4 x5=>f (x0,x1,x2,x3,x4,x5)) p.1 p.2.1 p.2.2.1 p.2.2.2.1 p.2.2.2.2.1 p.2.2.2.2.2 some) (fun _=>rfl) (fun _ _=>rfl) (fun hD f fs h p=>by
  unfold c_Z62
  repeat' first | exact Lim.const hD|exact h _|apply Lim.ite|apply Lim.cond|apply Lim.bind hD|apply Lim.sum|intro _) (x0,x1,x2,x3,x4,x5)
theorem Z64_fx (x0 x1 x2:List D) (x3 x4:Int):Z64 x0 x1 x2 x3 x4=c_Z64 (Z64) x0 x1 x2 x3 x4 some:=
 J9 (N:=fun n (p:List D×List D×List D×Int×Int)=>n_Z64 n p.1 p.2.1 p.2.2.1 p.2.2.2.1 p.2.2.2.2) (C:=fun f p=>c_Z64 (fun x0 x1 x2 x3 x4=>f (x0,x1,x2,x3,x4)) p.1 p.2.1 p.2.2.1 p.2.2.2.1 p.2.2.2.2 some) (fun _=>rfl) (fun _ _=>rfl) (fun hD f fs h p=>by
  unfold c_Z64
  repeat' first | exact Lim.const hD|exact h _|apply Lim.ite|apply Lim.cond|apply Lim.bind hD|apply Lim.sum|intro _) (x0,x1,x2,x3,x4)
theorem Z71_fx (x0 x1 x2:List D) (x3 x4 x5 x6:Int):Z71 x0 x1 x2 x3 x4 x5 x6=c_Z71 (Z71) x0 x1 x2 x3 x4 x5 x6 some:=
 J9 (N:=fun n (p:List D×List D×List D×Int×Int×Int×Int)=>n_Z71 n p.1 p.2.1 p.2.2.1 p.2.2.2.1 p.2.2.2.2.1 p.2.2.2.2.2.1 p.2.2.2.2.2.2) (C:=fun f p=>c_Z71 (fun x0 x1 x2 x3 x4 x5 x6=>f (x0,x1,x2,x3,x4,x5,x6)) p.1 p.2.1 p.2.2.1 p.2.2.2.1 p.2.2.2.2.1 p.2.2.2.2.2.1 p.2.2.2.2.2.2 some) (fun _=>rfl) (fun _ _=>rfl) (fun hD f fs h p=>by
  unfold c_Z71
  repeat' first | exact Lim.const hD|exact h _|apply Lim.ite|apply Lim.cond|apply Lim.bind hD|apply Lim.sum|intro _) (x0,x1,x2,x3,x4,x5,x6)
theorem Z73_fx (x0 x1 x2:List D) (x3:Bool) (x4:List D) (x5 x6:Int) (x7 x8 x9:List D):Z73 x0 x1 x2 x3 x4 x5 x6 x7 x8 x9=c_Z73 (Z73) x0 x1 x2 x3 x4 x5 x6 x7 x8 x9 some:=
 J9 (N:=fun n (p:List D×List D×List D×Bool×List D×Int×Int×List D×List D×List D)=>n_Z73 n p.1 p.2.1 p.2.2.1 p.2.2.2.1 p.2.2.2.2.1 p.2.2.2.2.2.1 p.2.2.2.2.2.2.1 p.2.2.2.2.2.2.2.1 p.2.2.2.2.2.2.2.2.1 p.2.2.2.2.2.2.2.2.2) (C:=fun f p=>c_Z73 (fun x0 x1 x2 x3 x4 x5 x6 x7 x8 x9=>f (x0,x1,x2,x3,x4,x5,x6,x7,x8,x9)) p.1 p.2.1 p.2.2.1 p.2.2.2.1 p.2.2.2.2.1 p.2.2.2.2.2.1 p.2.2.2.2.2.2.1 p.2.2.2.2.2.2.2.1 p.2.2.2.2.2.2.2.2.1 p.2.2.2.2.2.2.2.2.2 some) (fun _=>rfl) (fun _ _=>rfl) (fun hD f fs h p=>by
  unfold c_Z73
  repeat' first | exact Lim.const hD|exact h _|apply Lim.ite|apply Lim.cond|apply Lim.bind hD|apply Lim.sum|intro _) (x0,x1,x2,x3,x4,x5,x6,x7,x8,x9)
theorem Z77_fx (x0:Int) (x1 x2:List D):Z77 x0 x1 x2=c_Z77 (Z77) x0 x1 x2 some:=
 J9 (N:=fun n (p:Int×List D×List D)=>n_Z77 n p.1 p.2.1 p.2.2) (C:=fun f p=>c_Z77 (fun x0 x1 x2=>f (x0,x1,x2)) p.1 p.2.1 p.2.2 some) (fun _=>rfl) (fun _ _=>rfl) (fun hD f fs h p=>by
  unfold c_Z77
  repeat' first | exact Lim.const hD|exact h _|apply Lim.ite|apply Lim.cond|apply Lim.bind hD|apply Lim.sum|intro _) (x0,x1,x2)
theorem Z78_fx (x0:Int) (x1 x2:List D):Z78 x0 x1 x2=c_Z78 (Z78) x0 x1 x2 some:=
 J9 (N:=fun n (p:Int×List D×List D)=>n_Z78 n p.1 p.2.1 p.2.2) (C:=fun f p=>c_Z78 (fun x0 x1 x2=>f (x0,x1,x2)) p.1 p.2.1 p.2.2 some) (fun _=>rfl) (fun _ _=>rfl) (fun hD f fs h p=>by
  unfold c_Z78
  repeat' first | exact Lim.const hD|exact h _|apply Lim.ite|apply Lim.cond|apply Lim.bind hD|apply Lim.sum|intro _) (x0,x1,x2)
theorem Z81_fx (x0 x1:Int) (x2 x3:List D) (x4 x5:Int) (x6:List D):Z81 x0 x1 x2 x3 x4 x5 x6=c_Z81 (Z81) x0 x1 x2 x3 x4 x5 x6 some:=
 J9 (N:=fun n (p:Int×Int×List D×List D×Int×Int×List D)=>n_Z81 n p.1 p.2.1 p.2.2.1 p.2.2.2.1 p.2.2.2.2.1 p.2.2.2.2.2.1 p.2.2.2.2.2.2) (C:=fun f p=>c_Z81 (fun x0 x1 x2 x3 x4 x5 x6=>f (x0,x1,x2,x3,x4,x5,x6)) p.1 p.2.1 p.2.2.1 p.2.2.2.1 p.2.2.2.2.1 p.2.2.2.2.2.1 p.2.2.2.2.2.2 some) (fun _=>rfl) (fun _ _=>rfl) (fun hD f fs h p=>by
  unfold c_Z81
  repeat' first | exact Lim.const hD|exact h _|apply Lim.ite|apply Lim.cond|apply Lim.bind hD|apply Lim.sum|intro _) (x0,x1,x2,x3,x4,x5,x6)
theorem Z83_fx (x0:Int) (x1 x2 x3 x4:List D):Z83 x0 x1 x2 x3 x4=c_Z83 (Z83) x0 x1 x2 x3 x4 some:=
 J9 (N:=fun n (p:Int×List D×List D×List D×List D)=>n_Z83 n p.1 p.2.1 p.2.2.1 p.2.2.2.1 p.2.2.2.2) (C:=fun f p=>c_Z83 (fun x0 x1 x2 x3 x4=>f (x0,x1,x2,x3,x4)) p.1 p.2.1 p.2.2.1 p.2.2.2.1 p.2.2.2.2 some) (fun _=>rfl) (fun _ _=>rfl) (fun hD f fs h p=>by
  unfold c_Z83
  repeat' first | exact Lim.const hD|exact h _|apply Lim.ite|apply Lim.cond|apply Lim.bind hD|apply Lim.sum|intro _) (x0,x1,x2,x3,x4)
theorem Z84_fx (x0:Int) (x1 x2 x3:List D):Z84 x0 x1 x2 x3=c_Z84 (Z84) x0 x1 x2 x3 some:=
 J9 (N:=fun n (p:Int×List D×List D×List D)=>n_Z84 n p.1 p.2.1 p.2.2.1 p.2.2.2) (C:=fun f p=>c_Z84 (fun x0 x1 x2 x3=>f (x0,x1,x2,x3)) p.1 p.2.1 p.2.2.1 p.2.2.2 some) (fun _=>rfl) (fun _ _=>rfl) (fun hD f fs h p=>by
  unfold c_Z84
  repeat' first | exact Lim.const hD|exact h _|apply Lim.ite|apply Lim.cond|apply Lim.bind hD|apply Lim.sum|intro _) (x0,x1,x2,x3)
theorem Z87_fx (x0 x1 x2:Int) (x3:Nat) (x4 x5:Int) (x6 x7 x8 x9 x10:List D):Z87 x0 x1 x2 x3 x4 x5 x6 x7 x8 x9 x10=c_Z87 (Z87) x0 x1 x2 x3 x4 x5 x6 x7 x8 x9 x10 some:=
 J9 (N:=fun n (p:Int×Int×Int×Nat×Int×Int×List D×List D×List D×List D×List D)=>n_Z87 n p.1 p.2.1 p.2.2.1 p.2.2.2.1 p.2.2.2.2.1 p.2.2.2.2.2.1 p.2.2.2.2.2.2.1 p.2.2.2.2.2.2.2.1 p.2.2.2.2.2.2.2.2.1 p.2.2.2.2.2.2.2.2.2.1 p.2.2.2.2.2.2.2.2.2.2) (C:=fun f p=>c_Z87 (fun x0 x1 x2 x3 x4 x5 x6 x7 x8 x9 x10=>f (x0,x1,x2,x3,x4,x5,x6,x7,x8,x9,x10)) p.1 p.2.1 p.2.2.1 p.2.2.2.1 p.2.2.2.2.1 p.2.2.2.2.2.1 p.2.2.2.2.2.2.1 p.2.2.2.2.2.2.2.1 p.2.2.2.2.2.2.2.2.1 p.2.2.2.2.2.2.2.2.2.1 p.2.2.2.2.2.2.2.2.2.2 some) (fun _=>rfl) (fun _ _=>rfl) (fun hD f fs h p=>by
  unfold c_Z87
  repeat' first | exact Lim.const hD|exact h _|apply Lim.ite|apply Lim.cond|apply Lim.bind hD|apply Lim.sum|intro _) (x0,x1,x2,x3,x4,x5,x6,x7,x8,x9,x10)
theorem Z88_fx (x0 x1 x2:Int) (x3:Nat) (x4 x5:Int) (x6 x7 x8 x9:List D):Z88 x0 x1 x2 x3 x4 x5 x6 x7 x8 x9=c_Z88 (Z88) x0 x1 x2 x3 x4 x5 x6 x7 x8 x9 some:=
 J9 (N:=fun n (p:Int×Int×Int×Nat×Int×Int×List D×List D×List D×List D)=>n_Z88 n p.1 p.2.1 p.2.2.1 p.2.2.2.1 p.2.2.2.2.1 p.2.2.2.2.2.1 p.2.2.2.2.2.2.1 p.2.2.2.2.2.2.2.1 p.2.2.2.2.2.2.2.2.1 p.2.2.2.2.2.2.2.2.2) (C:=fun f p=>c_Z88 (fun x0 x1 x2 x3 x4 x5 x6 x7 x8 x9=>f (x0,x1,x2,x3,x4,x5,x6,x7,x8,x9)) p.1 p.2.1 p.2.2.1 p.2.2.2.1 p.2.2.2.2.1 p.2.2.2.2.2.1 p.2.2.2.2.2.2.1 p.2.2.2.2.2.2.2.1 p.2.2.2.2.2.2.2.2.1 p.2.2.2.2.2.2.2.2.2 some) (fun _=>rfl) (fun _ _=>rfl) (fun hD f fs h p=>by
  unfold c_Z88
  repeat' first | exact Lim.const hD|exact h _|apply Lim.ite|apply Lim.cond|apply Lim.bind hD|apply Lim.sum|intro _) (x0,x1,x2,x3,x4,x5,x6,x7,x8,x9)
theorem Z89_fx (x0 x1:Int) (x2 x3 x4 x5 x6:List D):Z89 x0 x1 x2 x3 x4 x5 x6=c_Z89 (Z89) x0 x1 x2 x3 x4 x5 x6 some:=
 J9 (N:=fun n (p:Int×Int×List D×List D×List D×List D×List D)=>n_Z89 n p.1 p.2.1 p.2.2.1 p.2.2.2.1 p.2.2.2.2.1 p.2.2.2.2.2.1 p.2.2.2.2.2.2) (C:=fun f p=>c_Z89 (fun x0 x1 x2 x3 x4 x5 x6=>f (x0,x1,x2,x3,x4,x5,x6)) p.1 p.2.1 p.2.2.1 p.2.2.2.1 p.2.2.2.2.1 p.2.2.2.2.2.1 p.2.2.2.2.2.2 some) (fun _=>rfl) (fun _ _=>rfl) (fun hD f fs h p=>by
  unfold c_Z89
  repeat' first | exact Lim.const hD|exact h _|apply Lim.ite|apply Lim.cond|apply Lim.bind hD|apply Lim.sum|intro _) (x0,x1,x2,x3,x4,x5,x6)
theorem Z90_fx (x0 x1:Int) (x2 x3 x4 x5:List D):Z90 x0 x1 x2 x3 x4 x5=c_Z90 (Z90) x0 x1 x2 x3 x4 x5 some:=
 J9 (N:=fun n (p:Int×Int×List D×List D×List D×List D)=>n_Z90 n p.1 p.2.1 p.2.2.1 p.2.2.2.1 p.2.2.2.2.1 p.2.2.2.2.2) (C:=fun f p=>c_Z90 (fun x0 x1 x2 x3 x4 x5=>f (x0,x1,x2,x3,x4,x5)) p.1 p.2.1 p.2.2.1 p.2.2.2.1 p.2.2.2.2.1 p.2.2.2.2.2 some) (fun _=>rfl) (fun _ _=>rfl) (fun hD f fs h p=>by
  unfold c_Z90
  repeat' first | exact Lim.const hD|exact h _|apply Lim.ite|apply Lim.cond|apply Lim.bind hD|apply Lim.sum|intro _) (x0,x1,x2,x3,x4,x5)
theorem Z98_fx (x0 x1 x2:List D) (x3 x4 x5 x6 x7 x8 x9:Int) (x10:List D):Z98 x0 x1 x2 x3 x4 x5 x6 x7 x8 x9 x10=c_Z98 (Z98) x0 x1 x2 x3 x4 x5 x6 x7 x8 x9 x10 some:=
 J9 (N:=fun n (p:List D×List D×List D×Int×Int×Int×Int×Int×Int×Int×List D)=>n_Z98 n p.1 p.2.1 p.2.2.1 p.2.2.2.1 p.2.2.2.2.1 p.2.2.2.2.2.1 p.2.2.2.2.2.2.1 p.2.2.2.2.2.2.2.1 p.2.2.2.2.2.2.2.2.1 p.2.2.2.2.2.2.2.2.2.1 p.2.2.2.2.2.2.2.2.2.2) (C:=fun f p=>c_Z98 (fun x0 x1 x2 x3 x4 x5 x6 x7 x8 x9 x10=>f (x0,x1,x2,x3,x4,x5,x6,x7,x8,x9,x10)) p.1 p.2.1 p.2.2.1 p.2.2.2.1 p.2.2.2.2.1 p.2.2.2.2.2.1 p.2.2.2.2.2.2.1 p.2.2.2.2.2.2.2.1 p.2.2.2.2.2.2.2.2.1 p.2.2.2.2.2.2.2.2.2.1 p.2.2.2.2.2.2.2.2.2.2 some) (fun _=>rfl) (fun _ _=>rfl) (fun hD f fs h p=>by
  unfold c_Z98
  repeat' first | exact Lim.const hD|exact h _|apply Lim.ite|apply Lim.cond|apply Lim.bind hD|apply Lim.sum|intro _) (x0,x1,x2,x3,x4,x5,x6,x7,x8,x9,x10)
theorem Z99_fx (x0 x1 x2:List D) (x3 x4 x5 x6:Int) (x7:List D):Z99 x0 x1 x2 x3 x4 x5 x6 x7=c_Z99 (Z99) x0 x1 x2 x3 x4 x5 x6 x7 some:=
 J9 (N:=fun n (p:List D×List D×List D×Int×Int×Int×Int×List D)=>n_Z99 n p.1 p.2.1 p.2.2.1 p.2.2.2.1 p.2.2.2.2.1 p.2.2.2.2.2.1 p.2.2.2.2.2.2.1 p.2.2.2.2.2.2.2) (C:=fun f p=>c_Z99 (fun x0 x1 x2 x3 x4 x5 x6 x7=>f (x0,x1,x2,x3,x4,x5,x6,x7)) p.1 p.2.1 p.2.2.1 p.2.2.2.1 p.2.2.2.2.1 p.2.2.2.2.2.1 p.2.2.2.2.2.2.1 p.2.2.2.2.2.2.2 some) (fun _=>rfl) (fun _ _=>rfl) (fun hD f fs h p=>by
  unfold c_Z99
  repeat' first | exact Lim.const hD|exact h _|apply Lim.ite|apply Lim.cond|apply Lim.bind hD|apply Lim.sum|intro _) (x0,x1,x2,x3,x4,x5,x6,x7)
theorem Z100_fx (x0 x1 x2:List D) (x3 x4:Int) (x5:List D):Z100 x0 x1 x2 x3 x4 x5=c_Z100 (Z100) x0 x1 x2 x3 x4 x5 some:=
 J9 (N:=fun n (p:List D×List D×List D×Int×Int×List D)=>n_Z100 n p.1 p.2.1 p.2.2.1 p.2.2.2.1 p.2.2.2.2.1 p.2.2.2.2.2) (C:=fun f p=>c_Z100 (fun x0 x1 x2 x3 x4 x5=>f (x0,x1,x2,x3,x4,x5)) p.1 p.2.1 p.2.2.1 p.2.2.2.1 p.2.2.2.2.1 p.2.2.2.2.2 some) (fun _=>rfl) (fun _ _=>rfl) (fun hD f fs h p=>by
  unfold c_Z100
  repeat' first | exact Lim.const hD|exact h _|apply Lim.ite|apply Lim.cond|apply Lim.bind hD|apply Lim.sum|intro _) (x0,x1,x2,x3,x4,x5)
theorem Z102_fx (x0 x1 x2:List D) (x3 x4 x5 x6:Int) (x7 x8:List D):Z102 x0 x1 x2 x3 x4 x5 x6 x7 x8=c_Z102 (Z102) x0 x1 x2 x3 x4 x5 x6 x7 x8 some:=
 J9 (N:=fun n (p:List D×List D×List D×Int×Int×Int×Int×List D×List D)=>n_Z102 n p.1 p.2.1 p.2.2.1 p.2.2.2.1 p.2.2.2.2.1 p.2.2.2.2.2.1 p.2.2.2.2.2.2.1 p.2.2.2.2.2.2.2.1 p.2.2.2.2.2.2.2.2) (C:=fun f p=>c_Z102 (fun x0 x1 x2 x3 x4 x5 x6 x7 x8=>f (x0,x1,x2,x3,x4,x5,x6,x7,x8)) p.1 p.2.1 p.2.2.1 p.2.2.2.1 p.2.2.2.2.1 p.2.2.2.2.2.1 p.2.2.2.2.2.2.1 p.2.2.2.2.2.2.2.1 p.2.2.2.2.2.2.2.2 some) (fun _=>rfl) (fun _ _=>rfl) (fun hD f fs h p=>by
  unfold c_Z102
  repeat' first | exact Lim.const hD|exact h _|apply Lim.ite|apply Lim.cond|apply Lim.bind hD|apply Lim.sum|intro _) (x0,x1,x2,x3,x4,x5,x6,x7,x8)
theorem Z103_fx (x0 x1 x2:List D) (x3 x4:Int) (x5 x6:List D):Z103 x0 x1 x2 x3 x4 x5 x6=c_Z103 (Z103) x0 x1 x2 x3 x4 x5 x6 some:=
 J9 (N:=fun n (p:List D×List D×List D×Int×Int×List D×List D)=>n_Z103 n p.1 p.2.1 p.2.2.1 p.2.2.2.1 p.2.2.2.2.1 p.2.2.2.2.2.1 p.2.2.2.2.2.2) (C:=fun f p=>c_Z103 (fun x0 x1 x2 x3 x4 x5 x6=>f (x0,x1,x2,x3,x4,x5,x6)) p.1 p.2.1 p.2.2.1 p.2.2.2.1 p.2.2.2.2.1 p.2.2.2.2.2.1 p.2.2.2.2.2.2 some) (fun _=>rfl) (fun _ _=>rfl) (fun hD f fs h p=>by
  unfold c_Z103
  repeat' first | exact Lim.const hD|exact h _|apply Lim.ite|apply Lim.cond|apply Lim.bind hD|apply Lim.sum|intro _) (x0,x1,x2,x3,x4,x5,x6)
theorem Z106_fx (x0 x1 x2 x3 x4 x5 x6 x7:Int) (x8 x9 x10 x11:List D):Z106 x0 x1 x2 x3 x4 x5 x6 x7 x8 x9 x10 x11=c_Z106 (Z106) x0 x1 x2 x3 x4 x5 x6 x7 x8 x9 x10 x11 some:=
 J9 (N:=fun n (p:Int×Int×Int×Int×Int×Int×Int×Int×List D×List D×List D×List D)=>n_Z106 n p.1 p.2.1 p.2.2.1 p.2.2.2.1 p.2.2.2.2.1 p.2.2.2.2.2.1 p.2.2.2.2.2.2.1 p.2.2.2.2.2.2.2.1 p.2.2.2.2.2.2.2.2.1 p.2.2.2.2.2.2.2.2.2.1 p.2.2.2.2.2.2.2.2.2.2.1 p.2.2.2.2.2.2.2.2.2.2.2) (C:=fun f p=>c_Z106 (fun x0 x1 x2 x3 x4 x5 x6 x7 x8 x9 x10 x11=>f (x0,x1,x2,x3,x4,x5,x6,x7,x8,x9,x10,x11)) p.1 p.2.1 p.2.2.1 p.2.2.2.1 p.2.2.2.2.1 p.2.2.2.2.2.1 p.2.2.2.2.2.2.1 p.2.2.2.2.2.2.2.1 p.2.2.2.2.2.2.2.2.1 p.2.2.2.2.2.2.2.2.2.1 p.2.2.2.2.2.2.2.2.2.2.1 p.2.2.2.2.2.2.2.2.2.2.2 some) (fun _=>rfl) (fun _ _=>rfl) (fun hD f fs h p=>by
  unfold c_Z106
  repeat' first | exact Lim.const hD|exact h _|apply Lim.ite|apply Lim.cond|apply Lim.bind hD|apply Lim.sum|intro _) (x0,x1,x2,x3,x4,x5,x6,x7,x8,x9,x10,x11)
theorem Z107_fx (x0 x1 x2 x3 x4:Int) (x5 x6 x7 x8:List D):Z107 x0 x1 x2 x3 x4 x5 x6 x7 x8=c_Z107 (Z107) x0 x1 x2 x3 x4 x5 x6 x7 x8 some:=
 J9 (N:=fun n (p:Int×Int×Int×Int×Int×List D×List D×List D×List D)=>n_Z107 n p.1 p.2.1 p.2.2.1 p.2.2.2.1 p.2.2.2.2.1 p.2.2.2.2.2.1 p.2.2.2.2.2.2.1 p.2.2.2.2.2.2.2.1 p.2.2.2.2.2.2.2.2) (C:=fun f p=>c_Z107 (fun x0 x1 x2 x3 x4 x5 x6 x7 x8=>f (x0,x1,x2,x3,x4,x5,x6,x7,x8)) p.1 p.2.1 p.2.2.1 p.2.2.2.1 p.2.2.2.2.1 p.2.2.2.2.2.1 p.2.2.2.2.2.2.1 p.2.2.2.2.2.2.2.1 p.2.2.2.2.2.2.2.2 some) (fun _=>rfl) (fun _ _=>rfl) (fun hD f fs h p=>by
  unfold c_Z107
  repeat' first | exact Lim.const hD|exact h _|apply Lim.ite|apply Lim.cond|apply Lim.bind hD|apply Lim.sum|intro _) (x0,x1,x2,x3,x4,x5,x6,x7,x8)
theorem Z108_fx (x0 x1 x2:Int) (x3 x4 x5 x6:List D):Z108 x0 x1 x2 x3 x4 x5 x6=c_Z108 (Z108) x0 x1 x2 x3 x4 x5 x6 some:=
 J9 (N:=fun n (p:Int×Int×Int×List D×List D×List D×List D)=>n_Z108 n p.1 p.2.1 p.2.2.1 p.2.2.2.1 p.2.2.2.2.1 p.2.2.2.2.2.1 p.2.2.2.2.2.2) (C:=fun f p=>c_Z108 (fun x0 x1 x2 x3 x4 x5 x6=>f (x0,x1,x2,x3,x4,x5,x6)) p.1 p.2.1 p.2.2.1 p.2.2.2.1 p.2.2.2.2.1 p.2.2.2.2.2.1 p.2.2.2.2.2.2 some) (fun _=>rfl) (fun _ _=>rfl) (fun hD f fs h p=>by
  unfold c_Z108
  repeat' first | exact Lim.const hD|exact h _|apply Lim.ite|apply Lim.cond|apply Lim.bind hD|apply Lim.sum|intro _) (x0,x1,x2,x3,x4,x5,x6)
theorem Z109_fx (x0:List D) (x1 x2:Int):Z109 x0 x1 x2=c_Z109 (Z109) x0 x1 x2 some:=
 J9 (N:=fun n (p:List D×Int×Int)=>n_Z109 n p.1 p.2.1 p.2.2) (C:=fun f p=>c_Z109 (fun x0 x1 x2=>f (x0,x1,x2)) p.1 p.2.1 p.2.2 some) (fun _=>rfl) (fun _ _=>rfl) (fun hD f fs h p=>by
  unfold c_Z109
  repeat' first | exact Lim.const hD|exact h _|apply Lim.ite|apply Lim.cond|apply Lim.bind hD|apply Lim.sum|intro _) (x0,x1,x2)
theorem Z111_fx (x0:List D) (x1 x2 x3:Int):Z111 x0 x1 x2 x3=c_Z111 (Z111) x0 x1 x2 x3 some:=
 J9 (N:=fun n (p:List D×Int×Int×Int)=>n_Z111 n p.1 p.2.1 p.2.2.1 p.2.2.2) (C:=fun f p=>c_Z111 (fun x0 x1 x2 x3=>f (x0,x1,x2,x3)) p.1 p.2.1 p.2.2.1 p.2.2.2 some) (fun _=>rfl) (fun _ _=>rfl) (fun hD f fs h p=>by
  unfold c_Z111
  repeat' first | exact Lim.const hD|exact h _|apply Lim.ite|apply Lim.cond|apply Lim.bind hD|apply Lim.sum|intro _) (x0,x1,x2,x3)
theorem Z113_fx (x0 x1 x2 x3:Int) (x4 x5 x6 x7 x8:List D):Z113 x0 x1 x2 x3 x4 x5 x6 x7 x8=c_Z113 (Z113) x0 x1 x2 x3 x4 x5 x6 x7 x8 some:=
 J9 (N:=fun n (p:Int×Int×Int×Int×List D×List D×List D×List D×List D)=>n_Z113 n p.1 p.2.1 p.2.2.1 p.2.2.2.1 p.2.2.2.2.1 p.2.2.2.2.2.1 p.2.2.2.2.2.2.1 p.2.2.2.2.2.2.2.1 p.2.2.2.2.2.2.2.2) (C:=fun f p=>c_Z113 (fun x0 x1 x2 x3 x4 x5 x6 x7 x8=>f (x0,x1,x2,x3,x4,x5,x6,x7,x8)) p.1 p.2.1 p.2.2.1 p.2.2.2.1 p.2.2.2.2.1 p.2.2.2.2.2.1 p.2.2.2.2.2.2.1 p.2.2.2.2.2.2.2.1 p.2.2.2.2.2.2.2.2 some) (fun _=>rfl) (fun _ _=>rfl) (fun hD f fs h p=>by
  unfold c_Z113
  repeat' first | exact Lim.const hD|exact h _|apply Lim.ite|apply Lim.cond|apply Lim.bind hD|apply Lim.sum|intro _) (x0,x1,x2,x3,x4,x5,x6,x7,x8)
theorem Z114_fx (x0 x1:Int) (x2 x3 x4 x5 x6:List D):Z114 x0 x1 x2 x3 x4 x5 x6=c_Z114 (Z114) x0 x1 x2 x3 x4 x5 x6 some:=
 J9 (N:=fun n (p:Int×Int×List D×List D×List D×List D×List D)=>n_Z114 n p.1 p.2.1 p.2.2.1 p.2.2.2.1 p.2.2.2.2.1 p.2.2.2.2.2.1 p.2.2.2.2.2.2) (C:=fun f p=>c_Z114 (fun x0 x1 x2 x3 x4 x5 x6=>f (x0,x1,x2,x3,x4,x5,x6)) p.1 p.2.1 p.2.2.1 p.2.2.2.1 p.2.2.2.2.1 p.2.2.2.2.2.1 p.2.2.2.2.2.2 some) (fun _=>rfl) (fun _ _=>rfl) (fun hD f fs h p=>by
  unfold c_Z114
  repeat' first | exact Lim.const hD|exact h _|apply Lim.ite|apply Lim.cond|apply Lim.bind hD|apply Lim.sum|intro _) (x0,x1,x2,x3,x4,x5,x6)
theorem Z117_fx (x0:Bool) (x1 x2 x3:Int) (x4 x5 x6 x7 x8 x9 x10:List D):Z117 x0 x1 x2 x3 x4 x5 x6 x7 x8 x9 x10=c_Z117 (Z117) x0 x1 x2 x3 x4 x5 x6 x7 x8 x9 x10 some:=
 J9 (N:=fun n (p:Bool×Int×Int×Int×List D×List D×List D×List D×List D×List D×List D)=>n_Z117 n p.1 p.2.1 p.2.2.1 p.2.2.2.1 p.2.2.2.2.1 p.2.2.2.2.2.1 p.2.2.2.2.2.2.1 p.2.2.2.2.2.2.2.1 p.2.2.2.2.2.2.2.2.1 p.2.2.2.2.2.2.2.2.2.1 p.2.2.2.2.2.2.2.2.2.2) (C:=fun f p=>c_Z117 (fun x0 x1 x2 x3 x4 x5 x6 x7 x8 x9 x10=>f (x0,x1,x2,x3,x4,x5,x6,x7,x8,x9,x10)) p.1 p.2.1 p.2.2.1 p.2.2.2.1 p.2.2.2.2.1 p.2.2.2.2.2.1 p.2.2.2.2.2.2.1 p.2.2.2.2.2.2.2.1 p.2.2.2.2.2.2.2.2.1 p.2.2.2.2.2.2.2.2.2.1 p.2.2.2.2.2.2.2.2.2.2 some) (fun _=>rfl) (fun _ _=>rfl) (fun hD f fs h p=>by
  unfold c_Z117
  repeat' first | exact Lim.const hD|exact h _|apply Lim.ite|apply Lim.cond|apply Lim.bind hD|apply Lim.sum|intro _) (x0,x1,x2,x3,x4,x5,x6,x7,x8,x9,x10)
theorem Z118_fx (x0:Bool) (x1 x2:Int) (x3 x4 x5 x6 x7 x8 x9:List D):Z118 x0 x1 x2 x3 x4 x5 x6 x7 x8 x9=c_Z118 (Z118) x0 x1 x2 x3 x4 x5 x6 x7 x8 x9 some:=
 J9 (N:=fun n (p:Bool×Int×Int×List D×List D×List D×List D×List D×List D×List D)=>n_Z118 n p.1 p.2.1 p.2.2.1 p.2.2.2.1 p.2.2.2.2.1 p.2.2.2.2.2.1 p.2.2.2.2.2.2.1 p.2.2.2.2.2.2.2.1 p.2.2.2.2.2.2.2.2.1 p.2.2.2.2.2.2.2.2.2) (C:=fun f p=>c_Z118 (fun x0 x1 x2 x3 x4 x5 x6 x7 x8 x9=>f (x0,x1,x2,x3,x4,x5,x6,x7,x8,x9)) p.1 p.2.1 p.2.2.1 p.2.2.2.1 p.2.2.2.2.1 p.2.2.2.2.2.1 p.2.2.2.2.2.2.1 p.2.2.2.2.2.2.2.1 p.2.2.2.2.2.2.2.2.1 p.2.2.2.2.2.2.2.2.2 some) (fun _=>rfl) (fun _ _=>rfl) (fun hD f fs h p=>by
  unfold c_Z118
  repeat' first | exact Lim.const hD|exact h _|apply Lim.ite|apply Lim.cond|apply Lim.bind hD|apply Lim.sum|intro _) (x0,x1,x2,x3,x4,x5,x6,x7,x8,x9)
theorem Z122_fx (x0 x1 x2:Int) (x3 x4:List D):Z122 x0 x1 x2 x3 x4=c_Z122 (Z122) x0 x1 x2 x3 x4 some:=
 J9 (N:=fun n (p:Int×Int×Int×List D×List D)=>n_Z122 n p.1 p.2.1 p.2.2.1 p.2.2.2.1 p.2.2.2.2) (C:=fun f p=>c_Z122 (fun x0 x1 x2 x3 x4=>f (x0,x1,x2,x3,x4)) p.1 p.2.1 p.2.2.1 p.2.2.2.1 p.2.2.2.2 some) (fun _=>rfl) (fun _ _=>rfl) (fun hD f fs h p=>by
  unfold c_Z122
  repeat' first | exact Lim.const hD|exact h _|apply Lim.ite|apply Lim.cond|apply Lim.bind hD|apply Lim.sum|intro _) (x0,x1,x2,x3,x4)
theorem Z124_fx (x0:Bool) (x1 x2:Int) (x3 x4 x5 x6 x7 x8:List D):Z124 x0 x1 x2 x3 x4 x5 x6 x7 x8=c_Z124 (Z124) x0 x1 x2 x3 x4 x5 x6 x7 x8 some:=
 J9 (N:=fun n (p:Bool×Int×Int×List D×List D×List D×List D×List D×List D)=>n_Z124 n p.1 p.2.1 p.2.2.1 p.2.2.2.1 p.2.2.2.2.1 p.2.2.2.2.2.1 p.2.2.2.2.2.2.1 p.2.2.2.2.2.2.2.1 p.2.2.2.2.2.2.2.2) (C:=fun f p=>c_Z124 (fun x0 x1 x2 x3 x4 x5 x6 x7 x8=>f (x0,x1,x2,x3,x4,x5,x6,x7,x8)) p.1 p.2.1 p.2.2.1 p.2.2.2.1 p.2.2.2.2.1 p.2.2.2.2.2.1 p.2.2.2.2.2.2.1 p.2.2.2.2.2.2.2.1 p.2.2.2.2.2.2.2.2 some) (fun _=>rfl) (fun _ _=>rfl) (fun hD f fs h p=>by
  unfold c_Z124
  repeat' first | exact Lim.const hD|exact h _|apply Lim.ite|apply Lim.cond|apply Lim.bind hD|apply Lim.sum|intro _) (x0,x1,x2,x3,x4,x5,x6,x7,x8)
theorem Z125_fx (x0:Bool) (x1:Int) (x2 x3 x4 x5 x6 x7:List D):Z125 x0 x1 x2 x3 x4 x5 x6 x7=c_Z125 (Z125) x0 x1 x2 x3 x4 x5 x6 x7 some:=
 J9 (N:=fun n (p:Bool×Int×List D×List D×List D×List D×List D×List D)=>n_Z125 n p.1 p.2.1 p.2.2.1 p.2.2.2.1 p.2.2.2.2.1 p.2.2.2.2.2.1 p.2.2.2.2.2.2.1 p.2.2.2.2.2.2.2) (C:=fun f p=>c_Z125 (fun x0 x1 x2 x3 x4 x5 x6 x7=>f (x0,x1,x2,x3,x4,x5,x6,x7)) p.1 p.2.1 p.2.2.1 p.2.2.2.1 p.2.2.2.2.1 p.2.2.2.2.2.1 p.2.2.2.2.2.2.1 p.2.2.2.2.2.2.2 some) (fun _=>rfl) (fun _ _=>rfl) (fun hD f fs h p=>by
  unfold c_Z125
  repeat' first | exact Lim.const hD|exact h _|apply Lim.ite|apply Lim.cond|apply Lim.bind hD|apply Lim.sum|intro _) (x0,x1,x2,x3,x4,x5,x6,x7)
def Tt {ι β:Type} (I:ι→Prop) (P:β→Prop) (e:ι→Option β):Prop:=∃ y,P y∧∀ i,I i→e i=some y
theorem Tt.pure {ι β:Type} {I:ι→Prop} {P:β→Prop} {y:β} (h:P y):Tt I P (fun _=>some y):=⟨y,h,fun _ _=>rfl⟩
theorem Tt.bind {ι α β:Type} {I:ι→Prop} {Q:α→Prop} {P:β→Prop} {t:ι→Option α} {f:α→ι→Option β} (h:Tt I Q t) (k:∀ v,Q v→Tt I P (fun i=>f v i)) :
  Tt I P (fun i=>(t i).bind (fun v=>f v i)):=by
 obtain ⟨v,hv,ht⟩:=h
 obtain ⟨y,hy,hk⟩:=k v hv
 exact ⟨y,hy,fun i hi=>by show (t i).bind _=_;rw [ht i hi];exact hk i hi⟩
theorem Tt.ite {ι β:Type} {I:ι→Prop} {P:β→Prop} {c:Prop} [Decidable c] {x y:ι→Option β} (h:c) (k:Tt I P x):Tt I P (fun i=>if c then x i else y i):=by
 simpa only [if_pos h] using k
theorem Tt.cnd {ι β:Type} {I:ι→Prop} {P:β→Prop} {b:Bool} {x y:ι→Option β} (h1:b=true→Tt I P x) (h2:b=false→Tt I P y):Tt I P (fun i=>bif b then x i else y i):=by
 cases b with
 | true=>exact h1 rfl
 | false=>exact h2 rfl
theorem Tt.dec {ι β:Type} {I:ι→Prop} {P:β→Prop} {p:Prop} [Decidable p] {x y:ι→Option β} (h1:p→Tt I P x) (h2:¬ p→Tt I P y):Tt I P (fun i=>bif decide p then x i else y i):=
 Tt.cnd (fun h=>h1 (of_decide_eq_true h)) (fun h=>h2 (of_decide_eq_false h))
theorem Tt.ndec {ι β:Type} {I:ι→Prop} {P:β→Prop} {p:Prop} [Decidable p] {x y:ι→Option β} (h1:¬ p→Tt I P x) (h2:p→Tt I P y):Tt I P (fun i=>bif !decide p then x i else y i):=by
 by_cases h:p
 ·simpa only [decide_eq_true h,Bool.not_true,cond_false] using h2 h
 ·simpa only [decide_eq_false h,Bool.not_false,cond_true] using h1 h
theorem Tt.con {ι β:Type} {I:ι→Prop} {Q:β→Prop} {t:Option β} (h:∃ y,t=some y∧Q y):Tt I Q (fun _=>t):=by
 obtain ⟨y,h1,h2⟩:=h
 exact ⟨y,h2,fun _ _=>h1⟩
theorem Tt.mono {ι β:Type} {I J:ι→Prop} {P Q:β→Prop} {e:ι→Option β} (h:Tt I P e) (hI:∀ i,J i→I i) (hP:∀ y,P y→Q y):Tt J Q e:=by
 obtain ⟨y,h1,h2⟩:=h
 exact ⟨y,hP y h1,fun i hi=>h2 i (hI i hi)⟩
theorem Tt.out {β:Type} {P:β→Prop} {t:Option β} (h:Tt (fun _:Unit=>True) P (fun _=>t)):∃ y,t=some y∧P y:=by
 obtain ⟨y,h1,h2⟩:=h
 exact ⟨y,h2 () trivial,h1⟩
theorem Tt.loop {X Y:Type} (N:Nat→X→Option Y) (Inv:X→Prop) (μ:X→Nat) (Post:X→Y→Prop)
  (step:∀ x,Inv x→(∀ x',Inv x'→μ x'<μ x→Tt (fun m=>μ x≤m) (Post x') (fun m=>N m x'))→Tt (fun m=>μ x≤m) (Post x) (fun m=>N (m+1) x)) :
  ∀ x,Inv x→∃ y,ev (fun n=>N n x)=some y∧Post x y:=by
 have key:∀ k x,Inv x→μ x≤k→Tt (fun m=>μ x<m) (Post x) (fun m=>N m x):=by
  intro k
  induction k with
  | zero=>
   intro x hi hk
   obtain ⟨y,h1,h2⟩:=step x hi (fun x' _ h=>absurd h (by omega))
   refine ⟨y,h1,fun m hm=>?_⟩
   obtain ⟨m,rfl⟩:∃ m',m=m'+1:=⟨m - 1,by omega⟩
   exact h2 m (by omega)
  | succ k ih=>
   intro x hi hk
   obtain ⟨y,h1,h2⟩:=step x hi (fun x' hx' h=>(ih x' hx' (by omega)).mono (fun m hm=>by omega) (fun _ h=>h))
   refine ⟨y,h1,fun m hm=>?_⟩
   obtain ⟨m,rfl⟩:∃ m',m=m'+1:=⟨m - 1,by omega⟩
   exact h2 m (by omega)
 intro x hi
 obtain ⟨y,h1,h2⟩:=key (μ x) x hi (Nat.le_refl _)
 exact ⟨y,H9 (μ x+1) (fun m hm=>h2 m (by omega)),h1⟩
theorem wq (n:Int):IntKind.i64.wrap n=(n+9223372036854775808) % 18446744073709551616 - 9223372036854775808:=by
 unfold IntKind.wrap
 simp [IntKind.signed,IntKind.bits]
 omega
def okC (c:List D):Prop:=c.length≤65536∧∀ d∈c,0≤d.toInt∧d.toInt≤255
theorem uwrap (n:Int):IntKind.u64.wrap n=n % 18446744073709551616:=by
 unfold IntKind.wrap
 simp [IntKind.signed,IntKind.bits]
theorem and255 (r:Int):0≤IntKind.i64.wrap (IntKind.u64.wrap (((BitVec.ofInt IntKind.u64.bits r &&& BitVec.ofInt IntKind.u64.bits 255).toNat:Nat):Int))∧IntKind.i64.wrap (IntKind.u64.wrap (((BitVec.ofInt IntKind.u64.bits r &&& BitVec.ofInt IntKind.u64.bits 255).toNat:Nat):Int))≤255:=by
 have h2:(BitVec.ofInt IntKind.u64.bits r &&& BitVec.ofInt IntKind.u64.bits 255).toNat≤(BitVec.ofInt IntKind.u64.bits 255).toNat:=by
  rw [BitVec.toNat_and];exact Nat.and_le_right
 have h3:(BitVec.ofInt IntKind.u64.bits 255).toNat=255:=by decide
 rw [h3] at h2
 rw [uwrap,wq]
 omega
theorem next_tot (c:List D) (h:okC c) (p s:Int) (hp:0≤p∧p≤1099511627776):∃ y,Z1 c p s=some y∧(0≤y.1∧y.1≤255∧y.2.1=c∧y.2.2.1=p+1):=by
 have hw:IntKind.i64.wrap (p+1)=p+1:=UI (by omega) (by omega)
 have a1:=fun r=>and255 r
 refine Tt.out ?_
 unfold Z1 c_Z1
 rw [hw]
 by_cases hpl:p<(c.length:Int)
 ·rw [decide_eq_true hpl,cond_true]
  have hd:=h.2 _ (Yc (show p.toNat<c.length by omega))
  have hv:IntKind.i64.wrap (c.getD p.toNat (D.int 0)).toInt=(c.getD p.toNat (D.int 0)).toInt:=UI (by omega) (by omega)
  refine Tt.ite (by omega) ?_
  refine Tt.dec (fun _=>?_) (fun hn=>absurd (show p+1≤(c.length:Int) by omega) hn)
  refine Tt.pure ?_
  exact ⟨by rw [hv];exact hd.1,by rw [hv];exact hd.2,rfl,rfl⟩
 ·rw [decide_eq_false hpl,cond_false]
  refine Tt.dec (fun hn=>by exfalso;omega) (fun _=>?_)
  refine Tt.ite (by decide) ?_
  refine Tt.pure ?_
  exact ⟨(a1 _).1,(a1 _).2,rfl,rfl⟩
attribute [local irreducible] Z1
theorem pick_tot (c:List D) (h:okC c) (p s n:Int) (hp:0≤p∧p≤1099511627770) (hn:n≤65536):∃ y,Z2 c p s n=some y∧(0≤y.1∧(y.1<n∨y.1=0)∧y.2.1=c∧p≤y.2.2.1∧y.2.2.1≤p+2):=by
 refine Tt.out ?_
 unfold Z2 c_Z2
 refine Tt.dec (fun _=>?_) (fun hn1=>?_)
 ·refine Tt.pure ?_
  exact ⟨by simp,.inr rfl,rfl,by simp,by simp only;omega⟩
 ·refine Tt.bind (Tt.con (next_tot c h p s (by omega))) (fun v hv=>?_)
  obtain ⟨v1,v2,v3,v4⟩:=hv
  rw [v3,v4]
  refine Tt.dec (fun _=>?_) (fun _=>?_)
  ·refine Tt.bind (Tt.con (next_tot c h (p+1) _ (by omega))) (fun w hw=>?_)
   obtain ⟨w1,w2,w3,w4⟩:=hw
   refine Tt.ite (by omega) ?_
   have hq:IntKind.i64.wrap (IntKind.i64.wrap (v.1 * 256)+w.1)=v.1 * 256+w.1:=by
    rw [UI (n:=v.1 * 256) (by omega) (by omega),UI (by omega) (by omega)]
   have hm:(v.1 * 256+w.1).tmod n=(v.1 * 256+w.1) % n:=Int.tmod_eq_emod_of_nonneg (by omega)
   have m1:=Int.emod_nonneg (v.1 * 256+w.1) (show n≠0 by omega)
   have m2:=Int.emod_lt_of_pos (v.1 * 256+w.1) (show 0<n by omega)
   refine Tt.pure ?_
   exact ⟨by simp only;rw [hq,hm];exact m1,.inl (by simp only;rw [hq,hm];exact m2),w3,by simp only;omega,by simp only;omega⟩
  ·refine Tt.ite (by omega) ?_
   have hm:v.1.tmod n=v.1 % n:=Int.tmod_eq_emod_of_nonneg v1
   have m1:=Int.emod_nonneg v.1 (show n≠0 by omega)
   have m2:=Int.emod_lt_of_pos v.1 (show 0<n by omega)
   refine Tt.pure ?_
   exact ⟨by simp only;rw [hm];exact m1,.inl (by simp only;rw [hm];exact m2),rfl,by simp only;omega,by simp only;omega⟩
attribute [local irreducible] Z2
theorem among_tot (c:List D) (h:okC c) (p s:Int) (l:List D) (hp:0≤p∧p≤1099511627770) (hl:1≤l.length∧l.length≤65536):∃ y,Z15 c p s l=some y∧((∃ d∈l,y.1=d.toInt)∧y.2.1=c∧p≤y.2.2.1∧y.2.2.1≤p+2):=by
 refine Tt.out ?_
 unfold Z15 c_Z15
 refine Tt.bind (Tt.con (pick_tot c h p s _ hp (by omega))) (fun v hv=>?_)
 refine Tt.ite (by omega) ?_
 refine Tt.ite (by omega) ?_
 refine Tt.pure ?_
 exact ⟨⟨_,Yc (show v.1.toNat<l.length by omega),rfl⟩,hv.2.2.1,hv.2.2.2.1,hv.2.2.2.2⟩
attribute [local irreducible] Z15
theorem okB {d:D} (h:wfD (.int .u8) d):0≤d.toInt∧d.toInt≤255:=by
 obtain ⟨n,rfl,h2⟩:=h
 simp [Lit.wf,IntKind.min,IntKind.max,IntKind.signed,IntKind.bits] at h2
 simp only [OU];omega
theorem pick_tot' (c:List D) (h:okC c) (p s n:Int) (hp:0≤p∧p≤1099511627770) (hn:n≤65536):∃ y,Z2 c p s n=some y∧((0≤y.1∧(y.1<n∨y.1=0))∧y.2.1=c∧p≤y.2.2.1∧y.2.2.1≤p+2):=by
 obtain ⟨y,h1,h2,h3,h4⟩:=pick_tot c h p s n hp hn
 exact ⟨y,h1,⟨h2,h3⟩,h4⟩
theorem one_tot (c:List D) (h:okC c) (p s n:Int) (hp:0≤p∧p≤1099511627770) (hn:n≤65536):∃ y,Z3 c p s n=some y∧(y.2.1=c∧p≤y.2.2.1∧y.2.2.1≤p+2):=by
 refine Tt.out ?_
 unfold Z3 c_Z3
 refine Tt.bind (Tt.con (pick_tot c h p s n hp hn)) (fun v hv=>?_)
 refine Tt.pure ?_
 exact ⟨hv.2.2.1,hv.2.2.2.1,hv.2.2.2.2⟩
attribute [local irreducible] Z3
theorem one_tot' (c:List D) (h:okC c) (p s n:Int) (hp:0≤p∧p≤1099511627770) (hn:n≤65536):∃ y,Z3 c p s n=some y∧(True∧y.2.1=c∧p≤y.2.2.1∧y.2.2.1≤p+2):=by
 obtain ⟨y,h1,h2⟩:=one_tot c h p s n hp hn
 exact ⟨y,h1,trivial,h2⟩
theorem l1In_eq (x a b:Int):Z76 x a b=some (btw x a b):=by
 unfold Z76 c_Z76 btw
 by_cases h:a≤x<;>simp [h]
theorem within_eq (x a b:Int):Z36 x a b=some (btw x a b):=by
 unfold Z36 c_Z36 btw
 by_cases h:a≤x<;>simp [h]
def cmpV (x y:Int):Int:=if x<y then -1 else if y<x then 1 else 0
theorem compare_eq (x y:Int):Z45 x y=some (cmpV x y):=by
 simp only [Z45,c_Z45,Z44,c_Z44,ob,decide_true,Bool.not_true,cond_false,cmpV]
 by_cases h:x<y
 ·simp [h]
 ·by_cases h2:y<x<;>simp [h,h2]
theorem or_eq (a b:Int):Z47 [.int a,.int b]=some (if a=0 then b else a):=by
 have w1:IntKind.i64.wrap 1=1:=by decide
 have w2:IntKind.i64.wrap 2=2:=by decide
 have key:∃ y,Z46 0 [.int a,.int b] 2 0=some y∧(match y with | .inl z=>z.1 | .inr z=>z)=(if a=0 then b else a):=by
  by_cases ha:a=0
  ·by_cases hb:b=0
   ·refine ⟨.inr 0,H9 (f:=fun m=>n_Z46 m 0 [.int a,.int b] 2 0) 3 (fun m hm=>?_),by simp [ha,hb]⟩
    obtain ⟨m,rfl⟩:∃ m',m=m'+3:=⟨m - 3,by omega⟩
    simp [n_Z46,c_Z46,ha,hb,OU,w1,w2]
   ·refine ⟨.inl (b,0),H9 (f:=fun m=>n_Z46 m 0 [.int a,.int b] 2 0) 2 (fun m hm=>?_),by simp [ha]⟩
    obtain ⟨m,rfl⟩:∃ m',m=m'+2:=⟨m - 2,by omega⟩
    simp [n_Z46,c_Z46,ha,hb,OU,w1]
  ·refine ⟨.inl (a,0),H9 (f:=fun m=>n_Z46 m 0 [.int a,.int b] 2 0) 1 (fun m hm=>?_),by simp [ha]⟩
   obtain ⟨m,rfl⟩:∃ m',m=m'+1:=⟨m - 1,by omega⟩
   simp [n_Z46,c_Z46,ha,OU]
 obtain ⟨y,h1,h2⟩:=key
 rw [← h2]
 simp only [Z47,c_Z47,show (([D.int a,D.int b]:List D).length:Int)=2 from rfl,h1,ob]
 cases y<;>rfl
theorem fxScan {α:Type} {F:Int→Option α} {len:Nat} (p:Nat→Bool) (bad:Nat→α) {fin:α}
  (hs:∀ i:Nat,i<len→F (i:Int)=bif p i then some (bad i) else F ((i+1:Nat):Int)) (he:F (len:Int)=some fin) :
  F 0=some (match QJ p len with | some i=>bad i | none=>fin):=by
 have key:∀ k (i:Nat),i+k=len→(∀ j,j<i→p j=false)→F (i:Int)=some (match QJ p len with | some i=>bad i | none=>fin):=by
  intro k
  induction k with
  | zero=>
   intro i h1 h3
   have hi:i=len:=by omega
   subst hi
   rw [he]
   cases hf:QJ p i with
   | none=>rfl
   | some j=>
    obtain ⟨q1,q2,_⟩:=VZ hf
    rw [h3 j q1] at q2
    cases q2
  | succ k ih=>
   intro i h1 h3
   rw [hs i (by omega)]
   cases hp:p i with
   | true=>
    rw [cond_true]
    have:QJ p len=some i:=by
     unfold QJ
     rw [List.find?_range_eq_some]
     exact ⟨hp,List.mem_range.2 (by omega),fun j hj=>by simp [h3 j hj]⟩
    rw [this]
   | false=>
    rw [cond_false]
    refine ih (i+1) (by omega) (fun j hj=>?_)
    by_cases hji:j=i
    ·subst hji;exact hp
    ·exact h3 j (by omega)
 exact key len 0 (by omega) (fun j hj=>by omega)
def allN (p:Nat→Bool) (len:Nat):Bool:=(QJ (fun i=>!p i) len).isNone
theorem allN_iff {p:Nat→Bool} {len:Nat}:allN p len=true↔∀ i,i<len→p i=true:=by
 unfold allN
 constructor
 ·intro h i hi
  cases hf:QJ (fun i=>!p i) len with
  | none=>simpa using WR hf i hi
  | some j=>rw [hf] at h;cases h
 ·intro h
  cases hf:QJ (fun i=>!p i) len with
  | none=>rfl
  | some i=>obtain ⟨h1,h2,_⟩:=VZ hf;rw [h i h1] at h2;cases h2
theorem fxAll {α:Type} {F:Int→Option α} {len:Nat} (p:Nat→Bool) (bad:α) {fin:α}
  (hs:∀ i:Nat,i<len→F (i:Int)=bif p i then F ((i+1:Nat):Int) else some bad) (he:F (len:Int)=some fin) :
  F 0=some (bif allN p len then fin else bad):=by
 have:=fxScan (F:=F) (len:=len) (fun i=>!p i) (fun _=>bad) (fin:=fin) (fun i hi=>by rw [hs i hi];cases p i<;>rfl) he
 rw [this]
 unfold allN
 cases QJ (fun i=>!p i) len<;>rfl
def find2 (C:List D) (n:Int):Int:=match QJ (fun i=>decide (((C[i]?.getD (.int 0)).fld 0).toInt=n)) C.length with | some i=>(i:Int) | none=>-1
theorem l2Find_eq (C R:List D) (n:Int) (hC:C.length≤100000):Z24 C R n=some (find2 C n):=by
 have h:=fxScan (F:=fun i=>Z23 n i C R) (len:=C.length) (fun i=>decide (((C[i]?.getD (.int 0)).fld 0).toInt=n)) (fun i=>.inl (i:Int)) (fin:=.inr ()) (fun i hi=>by
  show Z23 n i C R=_
  rw [Z23_fx]
  unfold c_Z23
  have h1:(i:Int)<C.length:=by omega
  simp only [h1,decide_true,cond_true,Int.natCast_nonneg,and_self,if_true,tn,List.getD_eq_getElem?_getD,Qf (show i<4611686018427387904 by omega),Option.bind_fun_some])
  (by
   show Z23 n C.length C R=_
   rw [Z23_fx];unfold c_Z23;simp)
 have h':Z23 n 0 C R=_:=h
 simp only [Z24,c_Z24,h',ob,find2]
 cases QJ (fun i=>decide (((C[i]?.getD (.int 0)).fld 0).toInt=n)) C.length<;>rfl
theorem indexOf_eq (C R:List D) (n:Int) (hC:C.length≤100000):Z43 C R n=some (find2 C n):=by
 have h:=fxScan (F:=fun i=>Z41 C n C.length i) (len:=C.length) (fun i=>decide (((C[i]?.getD (.int 0)).fld 0).toInt=n)) (fun i=>.inl (i:Int)) (fin:=.inr ()) (fun i hi=>by
  show Z41 C n C.length i=_
  rw [Z41_fx]
  unfold c_Z41
  have h1:(i:Int)<C.length:=by omega
  simp only [h1,decide_true,cond_true,Int.natCast_nonneg,and_self,if_true,tn,List.getD_eq_getElem?_getD,Z40,c_Z40,ob,Qf (show i<4611686018427387904 by omega),Option.bind_fun_some])
  (by
   show Z41 C n C.length C.length=_
   rw [Z41_fx];unfold c_Z41;simp)
 have h':Z41 C n C.length 0=_:=h
 simp only [Z43,c_Z43,Z42,c_Z42,h',ob,find2]
 cases QJ (fun i=>decide (((C[i]?.getD (.int 0)).fld 0).toInt=n)) C.length<;>rfl
theorem find2_some {C:List D} {n:Int} (h:0≤find2 C n):∃ i,i<C.length∧find2 C n=(i:Int)∧((C[i]?.getD (.int 0)).fld 0).toInt=n:=by
 unfold find2 at h ⊢
 cases hf:QJ (fun i=>decide (((C[i]?.getD (.int 0)).fld 0).toInt=n)) C.length with
 | none=>rw [hf] at h;simp at h
 | some i=>
  obtain ⟨h1,h2,_⟩:=VZ hf
  exact ⟨i,h1,rfl,of_decide_eq_true h2⟩
def cOk (C:List D) (i:Nat):Bool:=btw ((C[i]?.getD (.int 0)).fld 0).toInt 1 999&&(btw ((C[i]?.getD (.int 0)).fld 1).toInt 1 4&&(decide (i=0)||decide (((C[i - 1]?.getD (.int 0)).fld 0).toInt<((C[i]?.getD (.int 0)).fld 0).toInt)))
def lexB (a b c d:Int):Bool:=decide (a<c)||(decide (a=c)&&decide (b<d))
def rOk (C R:List D) (i:Nat):Bool:=!decide (((R[i]?.getD (.int 0)).fld 0).toInt=((R[i]?.getD (.int 0)).fld 1).toInt)&&(decide (0≤find2 C ((R[i]?.getD (.int 0)).fld 0).toInt)&&(decide (0≤find2 C ((R[i]?.getD (.int 0)).fld 1).toInt)&&(decide (i=0)||lexB ((R[i - 1]?.getD (.int 0)).fld 0).toInt ((R[i - 1]?.getD (.int 0)).fld 1).toInt ((R[i]?.getD (.int 0)).fld 0).toInt ((R[i]?.getD (.int 0)).fld 1).toInt)))
def validB (C R:List D):Bool:=decide (C.length≤10)&&(decide (R.length≤24)&&(allN (cOk C) C.length&&allN (rOk C R) R.length))
theorem before_eq (a b c d:Int):Z6 a b c d=some (lexB a b c d):=by
 unfold Z6 c_Z6 lexB
 by_cases h:a<c
 ·simp [h]
 ·by_cases h2:a=c<;>simp [h,h2]
theorem l2Good_eq (C R:List D):Z79 C R=some (validB C R):=by
 unfold Z79 c_Z79 validB
 by_cases hC:C.length≤10
 ·have hC':¬ (10:Int)<C.length:=by omega
  by_cases hR:R.length≤24
  ·have hR':¬ (24:Int)<R.length:=by omega
   have h1:=fxAll (F:=fun i=>Z77 i C R) (len:=C.length) (cOk C) (.inl (false,C,R)) (fin:=.inr (C,R)) (fun i hi=>by
    show Z77 i C R=_
    rw [Z77_fx]
    unfold c_Z77
    have h1:(i:Int)<C.length:=by omega
    simp only [h1,decide_true,cond_true,Int.natCast_nonneg,and_self,if_true,tn,List.getD_eq_getElem?_getD,l1In_eq,ob,Qf (show i<4611686018427387904 by omega),Option.bind_fun_some,cOk]
    cases btw ((C[i]?.getD (.int 0)).fld 0).toInt 1 999 with
    | false=>rfl
    | true=>
     cases btw ((C[i]?.getD (.int 0)).fld 1).toInt 1 4 with
     | false=>rfl
     | true=>
      by_cases h0:i=0
      ·subst h0;simp
      ·have h2:(0:Int)<i:=by omega
       have h3:((i - 1:Nat):Int)<C.length:=by omega
       simp only [Yd (show i<4611686018427387904 by omega) (show 0<i by omega),h2,h3,h0,Int.natCast_nonneg,and_self,if_true,tn,decide_true,decide_false,cond_true,cond_false,Bool.not_true,Bool.true_and,Bool.false_or]
       by_cases h4:((C[i]?.getD (.int 0)).fld 0).toInt≤((C[i - 1]?.getD (.int 0)).fld 0).toInt
       ·have:¬ ((C[i - 1]?.getD (.int 0)).fld 0).toInt<((C[i]?.getD (.int 0)).fld 0).toInt:=by omega
        simp [h4,this]
       ·have:((C[i - 1]?.getD (.int 0)).fld 0).toInt<((C[i]?.getD (.int 0)).fld 0).toInt:=by omega
        simp [h4,this])
    (by
     show Z77 C.length C R=_
     rw [Z77_fx];unfold c_Z77;simp)
   have h1':Z77 0 C R=_:=h1
   have h2:=fxAll (F:=fun i=>Z78 i C R) (len:=R.length) (rOk C R) (.inl false) (fin:=.inr ()) (fun i hi=>by
    show Z78 i C R=_
    rw [Z78_fx]
    unfold c_Z78
    have h1:(i:Int)<R.length:=by omega
    simp only [h1,decide_true,cond_true,Int.natCast_nonneg,and_self,if_true,tn,List.getD_eq_getElem?_getD,l2Find_eq C R _ (show C.length≤100000 by omega),before_eq,ob,Qf (show i<4611686018427387904 by omega),Option.bind_fun_some,rOk]
    by_cases e1:((R[i]?.getD (.int 0)).fld 0).toInt=((R[i]?.getD (.int 0)).fld 1).toInt
    ·simp [e1]
    ·by_cases e2:find2 C ((R[i]?.getD (.int 0)).fld 0).toInt<0
     ·have:¬ 0≤find2 C ((R[i]?.getD (.int 0)).fld 0).toInt:=by omega
      simp [e1,e2,this]
     ·have e2':0≤find2 C ((R[i]?.getD (.int 0)).fld 0).toInt:=by omega
      by_cases e3:find2 C ((R[i]?.getD (.int 0)).fld 1).toInt<0
      ·have:¬ 0≤find2 C ((R[i]?.getD (.int 0)).fld 1).toInt:=by omega
       simp [e1,e2,e2',e3,this]
      ·have e3':0≤find2 C ((R[i]?.getD (.int 0)).fld 1).toInt:=by omega
       by_cases h0:i=0
       ·subst h0;simp [e1,e2,e2',e3,e3']
       ·have h2:(0:Int)<i:=by omega
        have h3:((i - 1:Nat):Int)<R.length:=by omega
        simp only [Yd (show i<4611686018427387904 by omega) (show 0<i by omega),e1,e2,e2',e3,e3',h2,h3,h0,Int.natCast_nonneg,and_self,if_true,tn,decide_true,decide_false,cond_true,cond_false,Bool.not_true,Bool.not_false,Bool.true_and,Bool.false_or]
        cases lexB ((R[i - 1]?.getD (.int 0)).fld 0).toInt ((R[i - 1]?.getD (.int 0)).fld 1).toInt ((R[i]?.getD (.int 0)).fld 0).toInt ((R[i]?.getD (.int 0)).fld 1).toInt<;>rfl)
    (by
     show Z78 R.length C R=_
     rw [Z78_fx];unfold c_Z78;simp)
   have h2':Z78 0 C R=_:=h2
   simp only [hC',hR',hC,hR,decide_true,decide_false,cond_false,Bool.true_and,h1',ob]
   cases allN (cOk C) C.length with
   | false=>rfl
   | true=>
    simp only [cond_true,Sum.elim_inr,h2',ob,Bool.true_and]
    cases allN (rOk C R) R.length<;>rfl
  ·have hR':(24:Int)<R.length:=by omega
   simp only [hC',hR',hR,decide_true,decide_false,cond_true,cond_false,Bool.false_and,Bool.and_false]
 ·have hC':(10:Int)<C.length:=by omega
  simp only [hC',hC,decide_true,decide_false,cond_true,Bool.false_and]
theorem number_eq (n:Int):Z37 n=some (btw n 1 999):=by
 simp only [Z37,c_Z37,within_eq,ob]
theorem kind_eq (n:Int):Z38 n=some (btw n 1 4):=by
 simp only [Z38,c_Z38,within_eq,ob]
theorem cmpRel_eq (a b c d:Int):∃ v,Z48 a b c d=some v∧decide (0≤v)=!lexB a b c d:=by
 simp only [Z48,c_Z48,compare_eq,or_eq,ob]
 refine ⟨_,rfl,?_⟩
 unfold cmpV lexB
 by_cases h1:a<c
 ·simp [h1]
 ·by_cases h2:c<a
  ·have:¬ a=c:=by omega
   simp [h1,h2,this]
  ·have:a=c:=by omega
   subst this
   by_cases h3:b<d
   ·simp [h3]
   ·by_cases h4:d<b<;>simp [h3,h4]
theorem valid_eq (C R:List D):Z50 C R=some (validB C R):=by
 unfold Z50 c_Z50 validB
 by_cases hC:C.length≤10
 ·have hC':¬ (10:Int)<C.length:=by omega
  by_cases hR:R.length≤24
  ·have hR':¬ (24:Int)<R.length:=by omega
   have h1:=fxAll (F:=fun i=>Z39 C C.length i C R) (len:=C.length) (cOk C) (.inl (false,C,R)) (fin:=.inr (C,R)) (fun i hi=>by
    show Z39 C C.length i C R=_
    rw [Z39_fx]
    unfold c_Z39
    have h1:(i:Int)<C.length:=by omega
    simp only [h1,decide_true,cond_true,Int.natCast_nonneg,and_self,if_true,tn,List.getD_eq_getElem?_getD,number_eq,kind_eq,ob,Qf (show i<4611686018427387904 by omega),Option.bind_fun_some,cOk]
    cases btw ((C[i]?.getD (.int 0)).fld 0).toInt 1 999 with
    | false=>rfl
    | true=>
     cases btw ((C[i]?.getD (.int 0)).fld 1).toInt 1 4 with
     | false=>rfl
     | true=>
      by_cases h0:i=0
      ·subst h0;simp
      ·have h2:(0:Int)<i:=by omega
       have h3:((i - 1:Nat):Int)<C.length:=by omega
       simp only [Yd (show i<4611686018427387904 by omega) (show 0<i by omega),h2,h3,h0,Int.natCast_nonneg,and_self,if_true,tn,decide_true,decide_false,cond_true,cond_false,Bool.not_true,Bool.true_and,Bool.false_or]
       by_cases h4:((C[i]?.getD (.int 0)).fld 0).toInt≤((C[i - 1]?.getD (.int 0)).fld 0).toInt
       ·have:¬ ((C[i - 1]?.getD (.int 0)).fld 0).toInt<((C[i]?.getD (.int 0)).fld 0).toInt:=by omega
        simp [h4,this]
       ·have:((C[i - 1]?.getD (.int 0)).fld 0).toInt<((C[i]?.getD (.int 0)).fld 0).toInt:=by omega
        simp [h4,this])
    (by
     show Z39 C C.length C.length C R=_
     rw [Z39_fx];unfold c_Z39;simp)
   have h1':Z39 C C.length 0 C R=_:=h1
   have h2:=fxAll (F:=fun i=>Z49 R R.length i C R) (len:=R.length) (rOk C R) (.inl false) (fin:=.inr ()) (fun i hi=>by
    show Z49 R R.length i C R=_
    rw [Z49_fx]
    unfold c_Z49
    have h1:(i:Int)<R.length:=by omega
    simp only [h1,decide_true,cond_true,Int.natCast_nonneg,and_self,if_true,tn,List.getD_eq_getElem?_getD,indexOf_eq C R _ (show C.length≤100000 by omega),ob,Qf (show i<4611686018427387904 by omega),Option.bind_fun_some,rOk]
    by_cases e1:((R[i]?.getD (.int 0)).fld 0).toInt=((R[i]?.getD (.int 0)).fld 1).toInt
    ·simp [e1]
    ·by_cases e2:find2 C ((R[i]?.getD (.int 0)).fld 0).toInt<0
     ·have:¬ 0≤find2 C ((R[i]?.getD (.int 0)).fld 0).toInt:=by omega
      simp [e1,e2,this]
     ·have e2':0≤find2 C ((R[i]?.getD (.int 0)).fld 0).toInt:=by omega
      by_cases e3:find2 C ((R[i]?.getD (.int 0)).fld 1).toInt<0
      ·have:¬ 0≤find2 C ((R[i]?.getD (.int 0)).fld 1).toInt:=by omega
       simp [e1,e2,e2',e3,this]
      ·have e3':0≤find2 C ((R[i]?.getD (.int 0)).fld 1).toInt:=by omega
       by_cases h0:i=0
       ·subst h0;simp [e1,e2,e2',e3,e3']
       ·have h2:(0:Int)<i:=by omega
        have h3:((i - 1:Nat):Int)<R.length:=by omega
        obtain ⟨v,v1,v2⟩:=cmpRel_eq ((R[i - 1]?.getD (.int 0)).fld 0).toInt ((R[i - 1]?.getD (.int 0)).fld 1).toInt ((R[i]?.getD (.int 0)).fld 0).toInt ((R[i]?.getD (.int 0)).fld 1).toInt
        simp only [Yd (show i<4611686018427387904 by omega) (show 0<i by omega),e1,e2,e2',e3,e3',h2,h3,h0,v1,v2,ob,Int.natCast_nonneg,and_self,if_true,tn,decide_true,decide_false,cond_true,cond_false,Bool.not_true,Bool.not_false,Bool.true_and,Bool.false_or]
        cases lexB ((R[i - 1]?.getD (.int 0)).fld 0).toInt ((R[i - 1]?.getD (.int 0)).fld 1).toInt ((R[i]?.getD (.int 0)).fld 0).toInt ((R[i]?.getD (.int 0)).fld 1).toInt<;>rfl)
    (by
     show Z49 R R.length R.length C R=_
     rw [Z49_fx];unfold c_Z49;simp)
   have h2':Z49 R R.length 0 C R=_:=h2
   simp only [hC',hR',hC,hR,decide_true,decide_false,cond_false,Bool.true_and,h1',ob]
   cases allN (cOk C) C.length with
   | false=>rfl
   | true=>
    simp only [cond_true,Sum.elim_inr,h2',ob,Bool.true_and]
    cases allN (rOk C R) R.length<;>rfl
  ·have hR':(24:Int)<R.length:=by omega
   simp only [hC',hR',hR,decide_true,decide_false,cond_true,cond_false,Bool.false_and,Bool.and_false]
 ·have hC':(10:Int)<C.length:=by omega
  simp only [hC',hC,decide_true,decide_false,cond_true,Bool.false_and]
theorem ctxsL_tot (c:List D) (hc:okC c):∀ (k:Nat) (n i num p s:Int) (acc:List D),(n - i).toNat=k→0≤i→i≤n→n≤10→0≤p→p+4 * k≤1099511627000→(acc.length:Int)=i →
  ∃ y,Z4 n num i c p s acc=some y∧(y.1=c∧p≤y.2.1∧y.2.1≤p+4 * k∧(y.2.2.2.length:Int)=n):=by
 intro k
 induction k with
 | zero=>
  intro n i num p s acc hk h0 h1 h2 h3 h4 h5
  refine Tt.out ?_
  rw [Z4_fx]
  unfold c_Z4
  refine Tt.dec (fun hn=>by exfalso;omega) (fun _=>Tt.pure ⟨rfl,by simp only;omega,by simp only;omega,by simp only;omega⟩)
 | succ k ih=>
  intro n i num p s acc hk h0 h1 h2 h3 h4 h5
  refine Tt.out ?_
  rw [Z4_fx]
  unfold c_Z4
  refine Tt.dec (fun hn=>?_) (fun hn=>by exfalso;omega)
  (refine Tt.bind (Tt.con (pick_tot' _ hc _ _ _ (by omega) (by omega))) ?_;rintro ⟨v,c',p',s'⟩ ⟨hv,rfl,hp1,hp2⟩;dsimp only at hv hp1 hp2 ⊢)
  (refine Tt.bind (Tt.con (pick_tot' _ hc _ _ _ (by omega) (by omega))) ?_;rintro ⟨v,c',p',s'⟩ ⟨hv,rfl,hp1,hp2⟩;dsimp only at hv hp1 hp2 ⊢)
  refine Tt.ite (by simp only [List.length_cons,List.length_nil];omega) ?_
  rw [UI (n:=i+1) (by omega) (by omega)]
  refine Tt.bind (Tt.con (ih n (i+1) _ _ _ _ (by omega) (by omega) (by omega) (by omega) (by omega) (by omega) (by simp only [List.length_append,List.length_cons,List.length_nil];omega))) ?_
  rintro ⟨c2,p2,s2,l2⟩ ⟨e1,e2,e3,e4⟩
  simp only at e1 e2 e3 e4
  exact Tt.pure ⟨e1,by simp only;omega,by simp only;omega,by simp only;omega⟩
theorem ctxs_tot (c:List D) (hc:okC c) (p s n:Int) (hn:0≤n∧n≤10) (hp:0≤p∧p≤1099511620000):∃ y,Z5 c p s n=some y∧(y.2.1=c∧p≤y.2.2.1∧y.2.2.1≤p+40∧(y.1.length:Int)=n):=by
 refine Tt.out ?_
 unfold Z5 c_Z5
 refine Tt.bind (Tt.con (ctxsL_tot c hc _ n 0 0 p s [] rfl (by omega) (by omega) (by omega) (by omega) (by omega) (by simp))) ?_
 rintro ⟨c2,p2,s2,l2⟩ ⟨e1,e2,e3,e4⟩
 simp only at e1 e2 e3 e4
 exact Tt.pure ⟨e1,by simp only;omega,by simp only;omega,by simp only;omega⟩
theorem linkL2_tot (C R:List D) (u v:Int) (hR:R.length≤100000):∀ (m i:Nat),i+m=R.length →
  ∃ y,Z10 i C R u v=some y∧(0≤y.1∧y.1≤R.length∧y.2.1=C∧y.2.2.1=R∧y.2.2.2.1=u∧y.2.2.2.2=v):=by
 intro m
 induction m with
 | zero=>
  intro i hi
  refine Tt.out ?_
  rw [Z10_fx]
  unfold c_Z10
  refine Tt.dec (fun hn=>by exfalso;omega) (fun _=>Tt.pure ⟨by simp only;omega,by simp only;omega,rfl,rfl,rfl,rfl⟩)
 | succ m ih=>
  intro i hi
  refine Tt.out ?_
  rw [Z10_fx]
  unfold c_Z10
  refine Tt.dec (fun hn=>?_) (fun hn=>by exfalso;omega)
  refine Tt.ite (by omega) ?_
  rw [before_eq,Qf (show i<4611686018427387904 by omega)]
  refine Tt.bind (Q:=fun _=>True) (Tt.con ⟨_,rfl,trivial⟩) ?_
  rintro b -
  refine Tt.cnd (fun _=>?_) (fun _=>?_)
  ·refine Tt.bind (Tt.con (ih (i+1) (by omega))) ?_
   intro y hy
   exact Tt.pure hy
  ·exact Tt.pure ⟨by simp only;omega,by simp only;omega,rfl,rfl,rfl,rfl⟩
theorem own2_eq (C R:List D) (hC:C.length≤100000) (hR:R.length≤100000):Z8 C R=some (C,R):=by
 unfold Z8 c_Z8
 rw [if_pos (by simp;omega),if_pos (by simp;omega)]
 rfl
def InR (C R:List D):Prop:=∀ d∈R,0≤find2 C (d.fld 0).toInt∧0≤find2 C (d.fld 1).toInt
theorem num_in {C:List D} {i:Int} (h0:0≤i) (h1:i<C.length):0≤find2 C ((C.getD i.toNat (.int 0)).fld 0).toInt:=by
 unfold find2
 cases hf:QJ (fun k=>decide (((C[k]?.getD (.int 0)).fld 0).toInt=((C.getD i.toNat (.int 0)).fld 0).toInt)) C.length with
 | none=>
  have:=WR hf i.toNat (by omega)
  rw [List.getD_eq_getElem?_getD] at this
  simp at this
 | some k=>simp only;omega
theorem link_in (C R:List D) (u v:Int) (hC:C.length≤100000) (hR:R.length≤99999):∃ y,Z11 C R u v=some y∧(y.1=C∧R.length≤y.2.length∧y.2.length≤R.length+1∧∀ d∈y.2,d∈R∨d=.node [.int u,.int v]):=by
 refine Tt.out ?_
 unfold Z11 c_Z11
 refine Tt.bind (Tt.con (linkL2_tot C R u v (by omega) R.length 0 (by omega))) ?_
 rintro ⟨i,C',R',u',v'⟩ ⟨h1,h2,e1,e2,e3,e4⟩
 dsimp only at h1 h2 e1 e2 e3 e4 ⊢
 subst e1 e2 e3 e4
 rw [own2_eq _ _ hC (by omega)]
 refine Tt.bind (Q:=fun y=>y=(C',R')) (Tt.con ⟨_,rfl,rfl⟩) ?_
 rintro y rfl
 dsimp only
 have app:Tt (fun _:Unit=>True) (fun y:List D×List D=>y.1=C'∧R'.length≤y.2.length∧y.2.length≤R'.length+1∧∀ d∈y.2,d∈R'∨d=.node [.int u',.int v']) (fun _=>some (C',[]++List.take (i.toNat - 0) (List.drop 0 R')++[D.node [D.int u',D.int v']]++List.take (R'.length - i.toNat) (List.drop i.toNat R'))):=by
  refine Tt.pure ⟨rfl,?_,?_,fun d hd=>?_⟩
  ·simp only [List.nil_append,List.length_append,List.length_take,List.length_drop,List.length_cons,List.length_nil];omega
  ·simp only [List.nil_append,List.length_append,List.length_take,List.length_drop,List.length_cons,List.length_nil];omega
  ·simp only [List.nil_append,List.mem_append,List.mem_singleton] at hd
   rcases hd with (h | h) | h
   ·exact .inl (List.mem_of_mem_drop (List.mem_of_mem_take h))
   ·exact .inr h
   ·exact .inl (List.mem_of_mem_drop (List.mem_of_mem_take h))
 refine Tt.dec (fun hn=>?_) (fun hn=>?_)
 ·refine Tt.ite (by omega) ?_
  refine Tt.cnd (fun _=>?_) (fun _=>?_)
  ·exact Tt.pure ⟨rfl,by simp only;omega,by simp only;omega,fun d hd=>.inl hd⟩
  ·refine Tt.ite (by omega) ?_
   refine Tt.ite (by simp only [List.length_take,List.length_drop,List.length_nil];omega) ?_
   refine Tt.ite (by simp only [List.nil_append,List.length_take,List.length_drop,List.length_cons,List.length_nil];omega) ?_
   refine Tt.ite (by omega) ?_
   refine Tt.ite (by simp only [List.nil_append,List.length_append,List.length_take,List.length_drop,List.length_cons,List.length_nil];omega) ?_
   exact app
 ·refine Tt.ite (by omega) ?_
  refine Tt.ite (by simp only [List.length_take,List.length_drop,List.length_nil];omega) ?_
  refine Tt.ite (by simp only [List.nil_append,List.length_take,List.length_drop,List.length_cons,List.length_nil];omega) ?_
  refine Tt.ite (by omega) ?_
  refine Tt.ite (by simp only [List.nil_append,List.length_append,List.length_take,List.length_drop,List.length_cons,List.length_nil];omega) ?_
  exact app
theorem link0_in (C:List D) (u v:Int) (hC:C.length≤100000):∃ y,Z9 C u v=some y∧(y.1=C∧y.2.length≤1∧∀ d∈y.2,d=.node [.int u,.int v]):=by
 have h0:Z7 0 C [] u v=some (0,C,[],u,v):=by
  rw [Z7_fx]
  unfold c_Z7
  simp
 refine ⟨(C,[D.node [D.int u,D.int v]]),?_,rfl,by simp,by simp⟩
 unfold Z9 c_Z9
 simp only [h0,ob,own2_eq C [] hC (by simp)]
 simp
def recI (c:List D) (p q:Int) (a b:Nat) (y:List D×List D×List D×Int×Int):Prop:=y.2.2.1=c∧p≤y.2.2.2.1∧y.2.2.2.1≤q∧y.1.length≤a∧y.2.1.length≤b
theorem recL2_in (c:List D) (hc:okC c):∀ (k:Nat) (n m p s:Int) (C R:List D),m.toNat=k→n=C.length→C.length≤100→R.length+k≤1000→InR C R→0≤p→p+6 * k≤1099511627000 →
  ∃ y,Z12 n m c p s C R=some y∧(y.1=c∧p≤y.2.1∧y.2.1≤p+6 * k∧y.2.2.2.1=C∧y.2.2.2.2.length≤R.length+k∧InR C y.2.2.2.2):=by
 intro k
 induction k with
 | zero=>
  intro n m p s C R hm hn hC hR hI h0 h1
  refine Tt.out ?_
  rw [Z12_fx]
  unfold c_Z12
  refine Tt.dec (fun hn=>by exfalso;omega) (fun _=>Tt.pure ⟨rfl,by simp only;omega,by simp only;omega,rfl,by simp only;omega,hI⟩)
 | succ k ih=>
  intro n m p s C R hm hn hC hR hI h0 h1
  refine Tt.out ?_
  rw [Z12_fx]
  unfold c_Z12
  refine Tt.dec (fun hm0=>?_) (fun hm0=>by exfalso;omega)
  have go:∀ (p' s':Int) (R':List D),p≤p'→p'≤p+6→R'.length≤R.length+1→InR C R'→Tt (fun _:Unit=>True) (fun y:List D×Int×Int×List D×List D=>y.1=c∧p≤y.2.1∧y.2.1≤p+6 * ((k+1:Nat):Int)∧y.2.2.2.1=C∧y.2.2.2.2.length≤R.length+(k+1)∧InR C y.2.2.2.2) (fun _=>(Z12 n (IntKind.i64.wrap (m - 1)) c p' s' C R').bind some):=by
   intro p' s' R' g1 g2 g3 g4
   rw [UI (n:=m - 1) (by omega) (by omega)]
   refine Tt.bind (Tt.con (ih n (m - 1) p' s' C R' (by omega) hn hC (by omega) g4 (by omega) (by omega))) ?_
   rintro ⟨c2,p2,s2,C2,R2⟩ ⟨e1,e2,e3,e4,e5,e6⟩
   simp only at e1 e2 e3 e4 e5 e6
   exact Tt.pure ⟨e1,by simp only;omega,by simp only;omega,e4,by simp only;omega,e6⟩
  refine Tt.dec (fun hn1=>?_) (fun _=>Tt.pure ⟨rfl,by simp only;omega,by simp only;omega,rfl,by simp only;omega,hI⟩)
  refine Tt.bind (Tt.con (pick_tot' _ hc _ _ _ (by omega) (by omega))) ?_
  rintro ⟨i,c1,p1,s1⟩ ⟨hi,e1,hp1,hp2⟩
  dsimp only at hi e1 hp1 hp2 ⊢
  rw [e1]
  refine Tt.bind (Tt.con (pick_tot' _ hc _ _ _ (by omega) (by omega))) ?_
  rintro ⟨j,c2,p2,s2⟩ ⟨hj,e2,hp3,hp4⟩
  dsimp only at hj e2 hp3 hp4 ⊢
  rw [e2]
  have linkT:∀ (u v p' s':Int),p≤p'→p'≤p+6→0≤find2 C u→0≤find2 C v→Tt (fun _:Unit=>True) (fun y:List D×Int×Int×List D×List D=>y.1=c∧p≤y.2.1∧y.2.1≤p+6 * ((k+1:Nat):Int)∧y.2.2.2.1=C∧y.2.2.2.2.length≤R.length+(k+1)∧InR C y.2.2.2.2)
    (fun _=>(Z11 C R u v).bind (fun z=>(Z12 n (IntKind.i64.wrap (m - 1)) c p' s' z.1 z.2).bind some)):=by
   intro u v p' s' g1 g2 gu gv
   refine Tt.bind (Tt.con (link_in C R u v (by omega) (by omega))) ?_
   rintro ⟨C3,R3⟩ ⟨rfl,q1,q2,q3⟩
   dsimp only at q1 q2 q3 hI gu gv ⊢
   exact go p' s' R3 g1 g2 q2 (fun d hd=>by
    rcases q3 d hd with h | h
    ·exact hI d h
    ·subst h;exact ⟨gu,gv⟩)
  refine Tt.dec (fun _=>?_) (fun _=>?_)
  ·refine Tt.bind (Tt.con (one_tot' _ hc _ _ _ (by omega) (by omega))) ?_
   rintro ⟨w,c3,p3,s3⟩ ⟨_,e3,hp5,hp6⟩
   dsimp only at e3 hp5 hp6 ⊢
   rw [e3]
   refine Tt.cnd (fun _=>?_) (fun _=>?_)
   ·refine Tt.ndec (fun _=>?_) (fun _=>go _ _ R (by omega) (by omega) (by omega) hI)
    repeat refine Tt.ite (by omega) ?_
    exact linkT _ _ _ _ (by omega) (by omega) (num_in (by omega) (by omega)) (num_in (by omega) (by omega))
   ·refine Tt.ndec (fun _=>?_) (fun _=>go _ _ R (by omega) (by omega) (by omega) hI)
    repeat refine Tt.ite (by omega) ?_
    exact linkT _ _ _ _ (by omega) (by omega) (num_in (by omega) (by omega)) (num_in (by omega) (by omega))
  ·refine Tt.ndec (fun _=>?_) (fun _=>go _ _ R (by omega) (by omega) (by omega) hI)
   repeat refine Tt.ite (by omega) ?_
   exact linkT _ _ _ _ (by omega) (by omega) (num_in (by omega) (by omega)) (num_in (by omega) (by omega))
theorem recL_in (c:List D) (hc:okC c):∀ (k:Nat) (n m p s:Int) (C:List D),m.toNat=k→n=C.length→C.length≤100→k≤100→0≤p→p+6 * k≤1099511627000 →
  ∃ y,Z13 n m c p s C=some y∧(match y with
   | .inl y=>y.1=c∧p≤y.2.1∧y.2.1≤p+6 * k∧y.2.2.2.1=C∧y.2.2.2.2.length≤k∧InR C y.2.2.2.2
   | .inr y=>y.1=c∧p≤y.2.1∧y.2.1≤p+6 * k∧y.2.2.2=C):=by
 intro k
 induction k with
 | zero=>
  intro n m p s C hm hn hC hR h0 h1
  refine Tt.out ?_
  rw [Z13_fx]
  unfold c_Z13
  refine Tt.dec (fun hn=>by exfalso;omega) (fun _=>Tt.pure ⟨rfl,by simp only;omega,by simp only;omega,rfl⟩)
 | succ k ih=>
  intro n m p s C hm hn hC hR h0 h1
  refine Tt.out ?_
  rw [Z13_fx]
  unfold c_Z13
  refine Tt.dec (fun hm0=>?_) (fun hm0=>by exfalso;omega)
  let PP':(List D×Int×Int×List D×List D)⊕(List D×Int×Int×List D)→Prop:=fun y=>match y with
   | .inl y=>y.1=c∧p≤y.2.1∧y.2.1≤p+6 * ((k+1:Nat):Int)∧y.2.2.2.1=C∧y.2.2.2.2.length≤k+1∧InR C y.2.2.2.2
   | .inr y=>y.1=c∧p≤y.2.1∧y.2.1≤p+6 * ((k+1:Nat):Int)∧y.2.2.2=C
  have go:∀ (p' s':Int),p≤p'→p'≤p+6→Tt (fun _:Unit=>True) PP' (fun _=>(Z13 n (IntKind.i64.wrap (m - 1)) c p' s' C).bind some):=by
   intro p' s' g1 g2
   rw [UI (n:=m - 1) (by omega) (by omega)]
   refine Tt.bind (Tt.con (ih n (m - 1) p' s' C (by omega) hn hC (by omega) (by omega) (by omega))) ?_
   rintro (⟨c2,p2,s2,C2,R2⟩ | ⟨c2,p2,s2,C2⟩) h
   ·obtain ⟨e1,e2,e3,e4,e5,e6⟩:=h
    simp only at e1 e2 e3 e4 e5 e6
    exact Tt.pure ⟨e1,by simp only;omega,by simp only;omega,e4,by simp only;omega,e6⟩
   ·obtain ⟨e1,e2,e3,e4⟩:=h
    simp only at e1 e2 e3 e4
    exact Tt.pure ⟨e1,by simp only;omega,by simp only;omega,e4⟩
  refine Tt.dec (fun hn1=>?_) (fun _=>Tt.pure ⟨rfl,by simp only;omega,by simp only;omega,rfl⟩)
  refine Tt.bind (Tt.con (pick_tot' _ hc _ _ _ (by omega) (by omega))) ?_
  rintro ⟨i,c1,p1,s1⟩ ⟨hi,e1,hp1,hp2⟩
  dsimp only at hi e1 hp1 hp2 ⊢
  rw [e1]
  refine Tt.bind (Tt.con (pick_tot' _ hc _ _ _ (by omega) (by omega))) ?_
  rintro ⟨j,c2,p2,s2⟩ ⟨hj,e2,hp3,hp4⟩
  dsimp only at hj e2 hp3 hp4 ⊢
  rw [e2]
  have linkT:∀ (u v p' s':Int),p≤p'→p'≤p+6→0≤find2 C u→0≤find2 C v→Tt (fun _:Unit=>True) PP'
    (fun _=>(Z9 C u v).bind (fun z=>(Z12 n (IntKind.i64.wrap (m - 1)) c p' s' z.1 z.2).bind (fun w=>some (.inl (w.1,w.2.1,w.2.2.1,w.2.2.2.1,w.2.2.2.2))))):=by
   intro u v p' s' g1 g2 gu gv
   refine Tt.bind (Tt.con (link0_in C u v (by omega))) ?_
   rintro ⟨C3,R3⟩ ⟨rfl,q1,q3⟩
   dsimp only at q1 q3 gu gv ⊢
   rw [UI (n:=m - 1) (by omega) (by omega)]
   refine Tt.bind (Tt.con (recL2_in c hc k n (m - 1) p' s' C3 R3 (by omega) hn hC (by omega) (fun d hd=>by rw [q3 d hd];exact ⟨gu,gv⟩) (by omega) (by omega))) ?_
   rintro ⟨c2,p2,s2,C2,R2⟩ ⟨e1,e2,e3,e4,e5,e6⟩
   simp only at e1 e2 e3 e4 e5 e6
   exact Tt.pure ⟨e1,by simp only;omega,by simp only;omega,e4,by simp only;omega,e6⟩
  refine Tt.dec (fun _=>?_) (fun _=>?_)
  ·refine Tt.bind (Tt.con (one_tot' _ hc _ _ _ (by omega) (by omega))) ?_
   rintro ⟨w,c3,p3,s3⟩ ⟨_,e3,hp5,hp6⟩
   dsimp only at e3 hp5 hp6 ⊢
   rw [e3]
   refine Tt.cnd (fun _=>?_) (fun _=>?_)
   ·refine Tt.ndec (fun _=>?_) (fun _=>go _ _ (by omega) (by omega))
    repeat refine Tt.ite (by omega) ?_
    exact linkT _ _ _ _ (by omega) (by omega) (num_in (by omega) (by omega)) (num_in (by omega) (by omega))
   ·refine Tt.ndec (fun _=>?_) (fun _=>go _ _ (by omega) (by omega))
    repeat refine Tt.ite (by omega) ?_
    exact linkT _ _ _ _ (by omega) (by omega) (num_in (by omega) (by omega)) (num_in (by omega) (by omega))
  ·refine Tt.ndec (fun _=>?_) (fun _=>go _ _ (by omega) (by omega))
   repeat refine Tt.ite (by omega) ?_
   exact linkT _ _ _ _ (by omega) (by omega) (num_in (by omega) (by omega)) (num_in (by omega) (by omega))
theorem record_in (c:List D) (hc:okC c) (p s:Int) (hp:0≤p∧p≤1099511619000):∃ y,Z14 c p s=some y∧(recI c p (p+200) 10 20 y∧InR y.1 y.2.1):=by
 refine Tt.out ?_
 unfold Z14 c_Z14
 (refine Tt.bind (Tt.con (pick_tot' _ hc _ _ _ (by omega) (by omega))) ?_;rintro ⟨v,c',p',s'⟩ ⟨hv,rfl,hp1,hp2⟩;dsimp only at hv hp1 hp2 ⊢)
 refine Tt.bind (Tt.con (ctxs_tot _ hc _ _ _ (by omega) (by omega))) ?_
 rintro ⟨C,c2,p2,s2⟩ ⟨rfl,e2,e3,e4⟩
 dsimp only at e2 e3 e4 ⊢
 (refine Tt.bind (Tt.con (pick_tot' _ hc _ _ _ (by omega) (by omega))) ?_;rintro ⟨v,c',p',s'⟩ ⟨hv,rfl,hp1,hp2⟩;dsimp only at hv hp1 hp2 ⊢)
 refine Tt.bind (Tt.con (recL_in _ hc _ _ _ _ _ C rfl rfl (by omega) (by omega) (by omega) (by omega))) ?_
 rintro (⟨c5,p5,s5,C5,R5⟩ | ⟨c5,p5,s5,C5⟩) h
 ·obtain ⟨g1,g2,g3,g4,g5,g6⟩:=h
  simp only at g1 g2 g3 g4 g5 g6
  subst g4
  exact Tt.pure ⟨⟨g1,by simp only;omega,by simp only;omega,by simp only;omega,by simp only;omega⟩,g6⟩
 ·obtain ⟨g1,g2,g3,g4⟩:=h
  simp only at g1 g2 g3 g4
  subst g4
  exact Tt.pure ⟨⟨g1,by simp only;omega,by simp only;omega,by simp only;omega,by simp only [List.length_nil];omega⟩,fun d hd=>by cases hd⟩
theorem record_tot (c:List D) (hc:okC c) (p s:Int) (hp:0≤p∧p≤1099511619000):∃ y,Z14 c p s=some y∧recI c p (p+200) 10 20 y:=by
 obtain ⟨y,h1,h2,_⟩:=record_in c hc p s hp
 exact ⟨y,h1,h2⟩
theorem anyL17v_tot (c:List D) (hc:okC c):∀ (k:Nat) (n p s:Int) (R C:List D),(12 - n).toNat=k→0≤n→n≤12→C.length+k≤1000→0≤p→p+2 * (k+1)≤1099511627000 →
  ∃ y,Z16 n c p s R C=some y∧(y.1=c∧p≤y.2.1∧y.2.1≤p+2 * (k+1)∧y.2.2.2.1=R∧y.2.2.2.2.length≤C.length+k):=by
 intro k
 induction k with
 | zero=>
  intro n p s R C hk h0 h1 h2 h3 h4
  refine Tt.out ?_
  rw [Z16_fx]
  unfold c_Z16
  (refine Tt.bind (Tt.con (pick_tot' _ hc _ _ _ (by omega) (by omega))) ?_;rintro ⟨v,c',p',s'⟩ ⟨hv,rfl,hp1,hp2⟩;dsimp only at hv hp1 hp2 ⊢)
  refine Tt.dec (fun _=>?_) (fun _=>Tt.pure ⟨rfl,by simp only;omega,by simp only;omega,rfl,by simp only;omega⟩)
  refine Tt.dec (fun _=>by exfalso;omega) (fun _=>Tt.pure ⟨rfl,by simp only;omega,by simp only;omega,rfl,by simp only;omega⟩)
 | succ k ih=>
  intro n p s R C hk h0 h1 h2 h3 h4
  refine Tt.out ?_
  rw [Z16_fx]
  unfold c_Z16
  (refine Tt.bind (Tt.con (pick_tot' _ hc _ _ _ (by omega) (by omega))) ?_;rintro ⟨v,c',p',s'⟩ ⟨hv,rfl,hp1,hp2⟩;dsimp only at hv hp1 hp2 ⊢)
  refine Tt.dec (fun _=>?_) (fun _=>Tt.pure ⟨rfl,by simp only;omega,by simp only;omega,rfl,by simp only;omega⟩)
  refine Tt.dec (fun _=>?_) (fun _=>Tt.pure ⟨rfl,by simp only;omega,by simp only;omega,rfl,by simp only;omega⟩)
  refine Tt.ite (by simp only [List.length_cons,List.length_nil];omega) ?_
  rw [UI (n:=n+1) (by omega) (by omega)]
  refine Tt.bind (Tt.con (ih (n+1) _ _ R _ (by omega) (by omega) (by omega) (by simp only [List.length_append,List.length_cons,List.length_nil];omega) (by omega) (by omega))) ?_
  rintro ⟨c2,p2,s2,R2,C2⟩ ⟨e1,e2,e3,e4,e5⟩
  simp only [List.length_append,List.length_cons,List.length_nil] at e1 e2 e3 e4 e5
  exact Tt.pure ⟨e1,by simp only;omega,by simp only;omega,e4,by simp only;omega⟩
theorem anyL17_tot (c:List D) (hc:okC c) (p s:Int) (C R:List D) (hp:0≤p∧p≤1099511620000) (hC:C.length≤100):∃ y,Z17 0 c p s C R=some y∧(match y with
   | .inl y=>y.1=c∧p≤y.2.1∧y.2.1≤p+100∧y.2.2.2.1=R∧y.2.2.2.2.length≤C.length+12
   | .inr y=>y.1=c∧p≤y.2.1∧y.2.1≤p+100∧y.2.2.2.1=C∧y.2.2.2.2=R):=by
 refine Tt.out ?_
 rw [Z17_fx]
 unfold c_Z17
 (refine Tt.bind (Tt.con (pick_tot' _ hc _ _ _ (by omega) (by omega))) ?_;rintro ⟨v,c',p',s'⟩ ⟨hv,rfl,hp1,hp2⟩;dsimp only at hv hp1 hp2 ⊢)
 refine Tt.dec (fun _=>?_) (fun _=>Tt.pure ⟨rfl,by simp only;omega,by simp only;omega,rfl,rfl⟩)
 refine Tt.dec (fun _=>?_) (fun _=>Tt.pure ⟨rfl,by simp only;omega,by simp only;omega,rfl,rfl⟩)
 refine Tt.ite (by simp only [List.length_cons,List.length_nil];omega) ?_
 refine Tt.bind (Tt.con (anyL17v_tot _ hc 11 1 _ _ R _ (by decide) (by omega) (by omega) (by simp only [List.length_append,List.length_cons,List.length_nil];omega) (by omega) (by omega))) ?_
 rintro ⟨c2,p2,s2,R2,C2⟩ ⟨e1,e2,e3,e4,e5⟩
 simp only [List.length_append,List.length_cons,List.length_nil] at e1 e2 e3 e4 e5
 exact Tt.pure ⟨e1,by simp only;omega,by simp only;omega,e4,by simp only;omega⟩
def rowN (r a b:Nat):Nat:=min 25 (r+(7 - b) - (if b≤a then 1 else 0))
theorem anyL28v_tot (c:List D) (p s:Int) (C:List D) (hC:C.length=7) (a:Nat) (ha:a<7):∀ (m b:Nat) (R:List D),b+m=7→R.length≤25 →
  ∃ R',Z18 a b c p s C R=some ((a:Int),c,p,s,C,R')∧R'.length=rowN R.length a b:=by
 intro m
 induction m with
 | zero=>
  intro b R hb hR
  refine ⟨R,?_,?_⟩
  ·rw [Z18_fx]
   unfold c_Z18
   have h1:¬ (b:Int)<7:=by omega
   simp only [h1,decide_false,cond_false]
  ·unfold rowN;split<;>omega
 | succ m ih=>
  intro b R hb hR
  rw [Z18_fx]
  unfold c_Z18
  have h1:(b:Int)<7:=by omega
  simp only [h1,decide_true,cond_true]
  by_cases h25:R.length<25
  ·have h2:(R.length:Int)<25:=by omega
   simp only [h2,decide_true,cond_true,Qf (show b<4611686018427387904 by omega)]
   by_cases hab:a=b
   ·have h3:(a:Int)=(b:Int):=by omega
    simp only [h3,decide_true,Bool.not_true,cond_false]
    obtain ⟨R',e1,e2⟩:=ih (b+1) R (by omega) hR
    rw [hab] at e1
    refine ⟨R',by rw [e1];rfl,?_⟩
    rw [e2]
    unfold rowN
    rw [if_neg (by omega),if_pos (by omega)]
    omega
   ·have h3:¬ (a:Int)=(b:Int):=by omega
    have g1:(0:Int)≤(a:Int)∧(a:Int)<C.length:=by omega
    have g2:a+1≤C.length:=by omega
    have g3:(0:Int)≤(b:Int)∧(b:Int)<C.length:=by omega
    have g4:b+1≤C.length:=by omega
    have g5:R.length+[D.node [D.int ((C.getD a (.int 0)).fld 0).toInt,D.int ((C.getD b (.int 0)).fld 0).toInt]].length≤4294967296:=by
     simp only [List.length_cons,List.length_nil];omega
    simp only [h3,decide_false,Bool.not_false,cond_true,if_pos g1,tn,if_pos g2,if_pos g3,if_pos g4,if_pos g5]
    obtain ⟨R',e1,e2⟩:=ih (b+1) (R++[D.node [D.int ((C.getD a (.int 0)).fld 0).toInt,D.int ((C.getD b (.int 0)).fld 0).toInt]]) (by omega) (by simp;omega)
    refine ⟨R',by rw [e1];rfl,?_⟩
    rw [e2]
    unfold rowN
    simp only [List.length_append,List.length_cons,List.length_nil]
    by_cases hle:b≤a
    ·rw [if_pos (by omega),if_pos hle];omega
    ·rw [if_neg (by omega),if_neg hle];omega
  ·have h2:¬ (R.length:Int)<25:=by omega
   simp only [h2,decide_false,cond_false]
   refine ⟨R,rfl,?_⟩
   unfold rowN
   split<;>omega
theorem anyL28_tot (c:List D) (p s:Int) (C:List D) (hC:C.length=7) (a:Nat) (ha:a<7):∀ (m b:Nat) (R:List D),b+m=7→R.length≤25 →
  ∃ R',(Z19 a b c p s C R=some (.inl ((a:Int),c,p,s,C,R'))∨Z19 a b c p s C R=some (.inr ((a:Int),c,p,s,C,R')))∧R'.length=rowN R.length a b:=by
 intro m
 induction m with
 | zero=>
  intro b R hb hR
  refine ⟨R,.inr ?_,?_⟩
  ·rw [Z19_fx]
   unfold c_Z19
   have h1:¬ (b:Int)<7:=by omega
   simp only [h1,decide_false,cond_false]
  ·unfold rowN;split<;>omega
 | succ m ih=>
  intro b R hb hR
  rw [Z19_fx]
  unfold c_Z19
  have h1:(b:Int)<7:=by omega
  simp only [h1,decide_true,cond_true]
  by_cases h25:R.length<25
  ·have h2:(R.length:Int)<25:=by omega
   simp only [h2,decide_true,cond_true,Qf (show b<4611686018427387904 by omega)]
   by_cases hab:a=b
   ·have h3:(a:Int)=(b:Int):=by omega
    simp only [h3,decide_true,Bool.not_true,cond_false]
    obtain ⟨R',e1,e2⟩:=ih (b+1) R (by omega) hR
    rw [hab] at e1
    refine ⟨R',by rcases e1 with e1 | e1<;>rw [e1]<;>simp,?_⟩
    rw [e2]
    unfold rowN
    rw [if_neg (by omega),if_pos (by omega)]
    omega
   ·have h3:¬ (a:Int)=(b:Int):=by omega
    have g1:(0:Int)≤(a:Int)∧(a:Int)<C.length:=by omega
    have g2:a+1≤C.length:=by omega
    have g3:(0:Int)≤(b:Int)∧(b:Int)<C.length:=by omega
    have g4:b+1≤C.length:=by omega
    have g5:R.length+[D.node [D.int ((C.getD a (.int 0)).fld 0).toInt,D.int ((C.getD b (.int 0)).fld 0).toInt]].length≤4294967296:=by
     simp only [List.length_cons,List.length_nil];omega
    simp only [h3,decide_false,Bool.not_false,cond_true,if_pos g1,tn,if_pos g2,if_pos g3,if_pos g4,if_pos g5]
    obtain ⟨R',e1,e2⟩:=anyL28v_tot c p s C hC a ha m (b+1) (R++[D.node [D.int ((C.getD a (.int 0)).fld 0).toInt,D.int ((C.getD b (.int 0)).fld 0).toInt]]) (by omega) (by simp;omega)
    refine ⟨R',.inl (by rw [e1];rfl),?_⟩
    rw [e2]
    unfold rowN
    simp only [List.length_append,List.length_cons,List.length_nil]
    by_cases hle:b≤a
    ·rw [if_pos (by omega),if_pos hle];omega
    ·rw [if_neg (by omega),if_neg hle];omega
  ·have h2:¬ (R.length:Int)<25:=by omega
   simp only [h2,decide_false,cond_false]
   refine ⟨R,.inr rfl,?_⟩
   unfold rowN
   split<;>omega
theorem rowN0 {r a:Nat}:rowN r a 0=min 25 (r+6):=by unfold rowN;rw [if_pos (by omega)];omega
theorem anyL25v_tot (c:List D) (p s:Int) (C:List D) (hC:C.length=7):∀ (m a:Nat) (R:List D),a+m=7→R.length≤25 →
  ∃ R',Z20 a c p s C R=some (c,p,s,C,R')∧R'.length=min 25 (R.length+6 * m):=by
 intro m
 induction m with
 | zero=>
  intro a R ha hR
  refine ⟨R,?_,by omega⟩
  rw [Z20_fx]
  unfold c_Z20
  have h1:¬ (a:Int)<7:=by omega
  simp only [h1,decide_false,cond_false]
 | succ m ih=>
  intro a R ha hR
  obtain ⟨R1,e1,e2⟩:=anyL28v_tot c p s C hC a (by omega) 7 0 R (by omega) hR
  have e1':Z18 a 0 c p s C R=_:=e1
  rw [rowN0] at e2
  obtain ⟨R2,f1,f2⟩:=ih (a+1) R1 (by omega) (by omega)
  refine ⟨R2,?_,by omega⟩
  rw [Z20_fx]
  unfold c_Z20
  have h1:(a:Int)<7:=by omega
  simp only [h1,decide_true,cond_true,e1',ob,Qf (show a<4611686018427387904 by omega),f1]
theorem anyL25_tot (c:List D) (p s:Int) (C:List D) (hC:C.length=7):∀ (m a:Nat) (R:List D),a+m=7→R.length≤25 →
  ∃ R',(Z21 a c p s C R=some (.inl (c,p,s,C,R'))∨Z21 a c p s C R=some (.inr (c,p,s,C,R')))∧R'.length=min 25 (R.length+6 * m):=by
 intro m
 induction m with
 | zero=>
  intro a R ha hR
  refine ⟨R,.inr ?_,by omega⟩
  rw [Z21_fx]
  unfold c_Z21
  have h1:¬ (a:Int)<7:=by omega
  simp only [h1,decide_false,cond_false]
 | succ m ih=>
  intro a R ha hR
  obtain ⟨R1,e1,e2⟩:=anyL28_tot c p s C hC a (by omega) 7 0 R (by omega) hR
  rw [rowN0] at e2
  have h1:(a:Int)<7:=by omega
  rcases e1 with e1 | e1
  ·have e1':Z19 a 0 c p s C R=_:=e1
   obtain ⟨R2,f1,f2⟩:=anyL25v_tot c p s C hC m (a+1) R1 (by omega) (by omega)
   refine ⟨R2,.inl ?_,by omega⟩
   rw [Z21_fx]
   unfold c_Z21
   simp only [h1,decide_true,cond_true,e1',ob,Sum.elim_inl,Qf (show a<4611686018427387904 by omega),f1]
  ·have e1':Z19 a 0 c p s C R=_:=e1
   obtain ⟨R2,f1,f2⟩:=ih (a+1) R1 (by omega) (by omega)
   refine ⟨R2,?_,by omega⟩
   rw [Z21_fx]
   unfold c_Z21
   simp only [h1,decide_true,cond_true,e1',ob,Sum.elim_inr,Qf (show a<4611686018427387904 by omega)]
   rcases f1 with f1 | f1<;>rw [f1]<;>simp
theorem any_tot (c:List D) (hc:okC c) (p s:Int) (hp:0≤p∧p≤1099511610000):∃ y,Z22 c p s=some y∧recI c p (p+500) 100 100 y:=by
 refine Tt.out ?_
 unfold Z22 c_Z22
 refine Tt.bind (Tt.con (record_tot _ hc _ _ (by omega))) ?_
 rintro ⟨C,R,c1,p1,s1⟩ ⟨rfl,q1,q2,q3,q4⟩
 dsimp only at q1 q2 q3 q4 ⊢
 refine Tt.dec (fun _=>Tt.pure ⟨rfl,by simp only;omega,by simp only;omega,by simp only;omega,by simp only;omega⟩) (fun hne=>?_)
 refine Tt.bind (Tt.con (pick_tot' _ hc _ _ _ (by omega) (by omega))) ?_
 rintro ⟨i,c2,p2,s2⟩ ⟨hi,rfl,hp1,hp2⟩
 dsimp only at hi hp1 hp2 ⊢
 refine Tt.ite (by omega) ?_
 refine Tt.ite (by omega) ?_
 refine Tt.bind (Tt.con (pick_tot' _ hc _ _ _ (by omega) (by omega))) ?_
 rintro ⟨w,c3,p3,s3⟩ ⟨hw,rfl,hp3,hp4⟩
 dsimp only at hw hp3 hp4 ⊢
 refine Tt.dec (fun _=>?_) (fun _=>?_)
 ·(refine Tt.bind (Tt.con (among_tot _ hc _ _ _ (by omega) (by simp))) ?_;rintro ⟨v,c',p',s'⟩ ⟨hv,rfl,hp1,hp2⟩;dsimp only at hv hp1 hp2 ⊢)
  refine Tt.ite (by omega) ?_
  refine Tt.ite (by omega) ?_
  exact Tt.pure ⟨rfl,by simp only;omega,by simp only;omega,by simp only [List.length_set];omega,by simp only;omega⟩
 ·refine Tt.dec (fun _=>?_) (fun _=>?_)
  ·(refine Tt.bind (Tt.con (pick_tot' _ hc _ _ _ (by omega) (by omega))) ?_;rintro ⟨v,c',p',s'⟩ ⟨hv,rfl,hp1,hp2⟩;dsimp only at hv hp1 hp2 ⊢)
   refine Tt.ite (by omega) ?_
   refine Tt.ite (by omega) ?_
   exact Tt.pure ⟨rfl,by simp only;omega,by simp only;omega,by simp only [List.length_set];omega,by simp only;omega⟩
  ·refine Tt.dec (fun _=>?_) (fun _=>?_)
   ·refine Tt.ite (by simp only [List.length_cons,List.length_nil];omega) ?_
    refine Tt.ite (by omega) ?_
    refine Tt.ite (by omega) ?_
    exact Tt.pure ⟨rfl,by simp only;omega,by simp only;omega,by simp only [List.length_set];omega,by simp only [List.length_append,List.length_cons,List.length_nil];omega⟩
   ·refine Tt.dec (fun _=>?_) (fun _=>?_)
    ·(refine Tt.bind (Tt.con (pick_tot' _ hc _ _ _ (by omega) (by omega))) ?_;rintro ⟨v,c',p',s'⟩ ⟨hv,rfl,hp1,hp2⟩;dsimp only at hv hp1 hp2 ⊢)
     (refine Tt.bind (Tt.con (pick_tot' _ hc _ _ _ (by omega) (by omega))) ?_;rintro ⟨v,c',p',s'⟩ ⟨hv,rfl,hp1,hp2⟩;dsimp only at hv hp1 hp2 ⊢)
     refine Tt.ite (by simp only [List.length_cons,List.length_nil];omega) ?_
     refine Tt.ite (by omega) ?_
     refine Tt.ite (by omega) ?_
     exact Tt.pure ⟨rfl,by simp only;omega,by simp only;omega,by simp only [List.length_set];omega,by simp only [List.length_append,List.length_cons,List.length_nil];omega⟩
    ·refine Tt.dec (fun _=>?_) (fun _=>?_)
     ·refine Tt.bind (Tt.con (anyL17_tot _ hc _ _ C R (by omega) (by omega))) ?_
      rintro (⟨c5,p5,s5,R5,C5⟩ | ⟨c5,p5,s5,C5,R5⟩) h
      ·obtain ⟨g1,g2,g3,g4,g5⟩:=h
       simp only at g1 g2 g3 g4 g5
       exact Tt.pure ⟨g1,by simp only;omega,by simp only;omega,by simp only;omega,by simp only [g4];omega⟩
      ·obtain ⟨g1,g2,g3,g4,g5⟩:=h
       simp only at g1 g2 g3 g4 g5
       exact Tt.pure ⟨g1,by simp only;omega,by simp only;omega,by simp only [g4];omega,by simp only [g5];omega⟩
     ·refine Tt.dec (fun _=>?_) (fun _=>?_)
      ·refine Tt.bind (Tt.con (ctxs_tot _ hc _ _ _ (by omega) (by omega))) ?_
       rintro ⟨C6,c6,p6,s6⟩ ⟨rfl,e2,e3,e4⟩
       dsimp only at e2 e3 e4 ⊢
       obtain ⟨R7,f1,f2⟩:=anyL25_tot c6 p6 s6 C6 (by omega) 7 0 [] (by omega) (by simp)
       simp only [List.length_nil] at f2
       have fin:Tt (fun _:Unit=>True) (recI c6 p (p+500) 100 100) (fun _=>(Z2 c6 p6 s6 2).bind (fun y11=>if (0:Int)≤0∧0≤IntKind.i64.wrap (24+y11.1)∧IntKind.i64.wrap (24+y11.1)≤R7.length then (if 0+((IntKind.i64.wrap (24+y11.1)).toNat - 0)≤R7.length then some (C6,List.take ((IntKind.i64.wrap (24+y11.1)).toNat - 0) (List.drop 0 R7),y11.2.1,y11.2.2.1,y11.2.2.2) else none) else none)):=by
        refine Tt.bind (Tt.con (pick_tot' _ hc _ _ _ (by omega) (by omega))) ?_
        rintro ⟨x,c8,p8,s8⟩ ⟨hx,rfl,r1,r2⟩
        dsimp only at hx r1 r2 ⊢
        rw [UI (n:=24+x) (by omega) (by omega)]
        refine Tt.ite (by omega) ?_
        refine Tt.ite (by omega) ?_
        exact Tt.pure ⟨rfl,by simp only;omega,by simp only;omega,by simp only;omega,by simp only [List.length_take,List.length_drop];omega⟩
       rcases f1 with f1 | f1
       ·have f1':Z21 0 c6 p6 s6 C6 []=_:=f1
        rw [f1']
        exact fin
       ·have f1':Z21 0 c6 p6 s6 C6 []=_:=f1
        rw [f1']
        exact fin
      ·refine Tt.ite (by omega) ?_
       refine Tt.ite (by omega) ?_
       exact Tt.pure ⟨rfl,by simp only;omega,by simp only;omega,by simp only [List.length_set];omega,by simp only;omega⟩
def at2 (M:List D) (i k:Nat):Bool:=((M.getD i (.int 0)).items.getD k (.int 0)).toBool
def set2 (M:List D) (i k:Nat) (b:Bool):List D:=M.set i (.node ((M.getD i (.int 0)).items.set k (.bool b)))
structure Sq (n:Nat) (M:List D):Prop where
 len:M.length=n
 row:∀ i,i<n→(M.getD i (.int 0)).items.length=n
theorem getD_set {l:List D} {i j:Nat} {x:D} (h:i<l.length):(l.set i x).getD j (.int 0)=if i=j then x else l.getD j (.int 0):=by
 rw [List.getD_eq_getElem?_getD,List.getD_eq_getElem?_getD,List.getElem?_set]
 by_cases e:i=j
 ·subst e;simp [h]
 ·simp [e]
theorem Sq.set {n:Nat} {M:List D} (h:Sq n M) {i k:Nat} (hi:i<n) (b:Bool):Sq n (set2 M i k b):=by
 refine ⟨by simp [set2,h.len],fun j hj=>?_⟩
 unfold set2
 rw [getD_set (by rw [h.len];exact hi)]
 split
 ·simp only [VY,List.length_set];exact h.row i hi
 ·exact h.row j hj
theorem at2_set {n:Nat} {M:List D} (h:Sq n M) {i k a c:Nat} (hi:i<n) (hk:k<n) (b:Bool):at2 (set2 M i k b) a c=if a=i∧c=k then b else at2 M a c:=by
 unfold at2 set2
 rw [getD_set (by rw [h.len];exact hi)]
 by_cases e:i=a
 ·subst e
  rw [if_pos rfl]
  simp only [VY]
  rw [getD_set (by rw [h.row i hi];exact hk)]
  by_cases e2:k=c
  ·subst e2;simp [qW]
  ·have:¬ c=k:=fun e=>e2 e.symm
   simp [e2,this]
 ·have:¬ a=i:=fun e'=>e e'.symm
  rw [if_neg e]
  simp [this]
theorem at2_lt {n:Nat} {M:List D} (h:Sq n M) {a c:Nat} (hv:at2 M a c=true):a<n∧c<n:=by
 unfold at2 at hv
 by_cases ha:a<n
 ·refine ⟨ha,?_⟩
  by_cases hc:c<n
  ·exact hc
  ·rw [List.getD_eq_getElem?_getD (l:=(M.getD a (.int 0)).items),List.getElem?_eq_none (by rw [h.row a ha];omega)] at hv
   cases hv
 ·rw [List.getD_eq_getElem?_getD (l:=M),List.getElem?_eq_none (by rw [h.len];omega)] at hv
  simp [D.items] at hv
  cases hv
structure Clo (n:Nat) (M M':List D):Prop where
 sq:Sq n M'
 mono:∀ a b,at2 M a b=true→at2 M' a b=true
 sound:∀ T:Nat→Nat→Prop,(∀ a b c,T a b→T b c→T a c)→(∀ a b,at2 M a b=true→T a b)→∀ a b,at2 M' a b=true→T a b
theorem Clo.refl {n:Nat} {M:List D} (h:Sq n M):Clo n M M:=⟨h,fun _ _ h=>h,fun _ _ h=>h⟩
theorem Clo.trans {n:Nat} {M M' M'':List D} (h:Clo n M M') (k:Clo n M' M''):Clo n M M'':=
 ⟨k.sq,fun a b q=>k.mono a b (h.mono a b q),fun T hT hb=>k.sound T hT (h.sound T hT hb)⟩
theorem Clo.step {n:Nat} {M:List D} (h:Sq n M) {i j k:Nat} (hi:i<n) (hk:k<n) {v:Bool} (h1:at2 M i k=true→v=true) (h2:v=true→at2 M i k=true∨(at2 M i j=true∧at2 M j k=true)):Clo n M (set2 M i k v):=by
 refine ⟨h.set hi v,fun a b q=>?_,fun T hT hb a b q=>?_⟩
 ·rw [at2_set h hi hk]
  split
  ·rename_i e;rw [e.1,e.2] at q;exact h1 q
  ·exact q
 ·rw [at2_set h hi hk] at q
  split at q
  ·rename_i e
   rw [e.1,e.2]
   rcases h2 q with h2 | h2
   ·exact hb _ _ h2
   ·exact hT _ _ _ (hb _ _ h2.1) (hb _ _ h2.2)
  ·exact hb a b q
theorem squareL_eq (n:Nat) (hn:n≤100000):∀ (m i:Nat) (M:List D),i+m=n→M.length=n→(∀ j,j<i→M.getD j (.int 0)=.node (List.replicate n (.bool false))) →
  ∃ M',Z51 n n i M=some M'∧M'.length=n∧∀ j,j<n→M'.getD j (.int 0)=.node (List.replicate n (.bool false)):=by
 intro m
 induction m with
 | zero=>
  intro i M hi hl hj
  have:i=n:=by omega
  subst this
  refine ⟨M,?_,hl,hj⟩
  rw [Z51_fx]
  unfold c_Z51
  simp
 | succ m ih=>
  intro i M hi hl hj
  rw [Z51_fx]
  unfold c_Z51
  have h1:(i:Int)<n:=by omega
  have h2:(0:Int)≤n∧(n:Int)≤n∧(n:Int)≤4294967296:=by omega
  have h3:(0:Int)≤(i:Int)∧(i:Int)<M.length:=by omega
  have h4:i+1≤M.length:=by omega
  obtain ⟨M',e1,e2,e3⟩:=ih (i+1) (M.set i (.node (List.replicate n (.bool false)))) (by omega) (by simp [hl]) (fun j hj'=>by
   rw [getD_set (by omega)]
   split
   ·rfl
   ·exact hj j (by omega))
  refine ⟨M',?_,e2,e3⟩
  simp only [h1,decide_true,cond_true,if_pos h2,if_pos h3,if_pos h4,Qf (show i<4611686018427387904 by omega),tn,e1,ob]
theorem square_eq (n:Nat) (hn:n≤100000):∃ M,Z52 n=some M∧Sq n M∧∀ a b,at2 M a b=false:=by
 obtain ⟨M,e1,e2,e3⟩:=squareL_eq n hn n 0 (List.replicate n (.node [])) (by omega) (by simp) (fun j hj=>by omega)
 have e1':Z51 n n 0 (List.replicate n (.node []))=some M:=e1
 have h2:(0:Int)≤n∧(n:Int)≤n∧(n:Int)≤4294967296:=by omega
 have hs:Sq n M:=⟨e2,fun i hi=>by rw [e3 i hi];simp [VY]⟩
 refine ⟨M,?_,hs,fun a b=>?_⟩
 ·simp only [Z52,c_Z52,if_pos h2,tn,List.length_replicate,e1',ob]
 ·cases hq:at2 M a b with
  | false=>rfl
  | true=>
   obtain ⟨ha,hb⟩:=at2_lt hs hq
   unfold at2 at hq
   rw [e3 a ha,VY,List.getD_eq_getElem?_getD,List.getElem?_replicate,if_pos hb] at hq
   cases hq
def nums (C:List D):List D:=C.map (fun d=>.int (d.fld 0).toInt)
theorem numsL_eq (C R A L:List D) (x0:Int) (hC:C.length≤100000):∀ (m i:Nat) (acc:List D),i+m=C.length→acc.length=i →
  Z53 x0 C C.length i C R acc A L=some (x0,C,R,acc++nums (C.drop i),A,L):=by
 intro m
 induction m with
 | zero=>
  intro i acc hi ha
  have:i=C.length:=by omega
  subst this
  rw [Z53_fx]
  unfold c_Z53
  simp [nums]
 | succ m ih=>
  intro i acc hi ha
  rw [Z53_fx]
  unfold c_Z53
  have h1:(i:Int)<C.length:=by omega
  have h3:(0:Int)≤(i:Int)∧(i:Int)<C.length:=by omega
  have h4:acc.length+[D.int ((C.getD i (.int 0)).fld 0).toInt].length≤4294967296:=by
   simp only [List.length_cons,List.length_nil];omega
  simp only [h1,decide_true,cond_true,if_pos h3,if_pos h4,Qf (show i<4611686018427387904 by omega),tn]
  rw [ih (i+1) _ (by omega) (by simp [ha])]
  rw [K8 (show i<C.length by omega)]
  simp [nums]
def edgeAt (C R:List D) (j a b:Nat):Prop:=j<R.length∧find2 C ((R[j]?.getD (.int 0)).fld 0).toInt=a∧find2 C ((R[j]?.getD (.int 0)).fld 1).toInt=b
def edge (C R:List D) (a b:Nat):Prop:=∃ j,edgeAt C R j a b
theorem rOk_at {C R:List D} (h:validB C R=true) {j:Nat} (hj:j<R.length):∃ a b,a<C.length∧b<C.length∧a≠b∧find2 C ((R[j]?.getD (.int 0)).fld 0).toInt=(a:Int)∧find2 C ((R[j]?.getD (.int 0)).fld 1).toInt=(b:Int) ∧
  ((C[a]?.getD (.int 0)).fld 0).toInt=((R[j]?.getD (.int 0)).fld 0).toInt∧((C[b]?.getD (.int 0)).fld 0).toInt=((R[j]?.getD (.int 0)).fld 1).toInt:=by
 simp only [validB,Bool.and_eq_true] at h
 have:=allN_iff.1 h.2.2.2 j hj
 simp only [rOk,Bool.and_eq_true,Bool.not_eq_true',decide_eq_true_eq,decide_eq_false_iff_not] at this
 obtain ⟨h0,h1,h2,_⟩:=this
 obtain ⟨a,a1,a2,a3⟩:=find2_some h1
 obtain ⟨b,b1,b2,b3⟩:=find2_some h2
 refine ⟨a,b,a1,b1,fun e=>h0 ?_,a2,b2,a3,b3⟩
 rw [← a3,← b3,e]
theorem edge_lt {C R:List D} (h:validB C R=true) {a b:Nat} (he:edge C R a b):a<C.length∧b<C.length∧a≠b:=by
 obtain ⟨j,hj,e1,e2⟩:=he
 obtain ⟨a',b',q1,q2,q3,q4,q5,_⟩:=rOk_at h hj
 rw [q4] at e1;rw [q5] at e2
 have e1':a'=a:=by omega
 have e2':b'=b:=by omega
 subst e1';subst e2'
 exact ⟨q1,q2,q3⟩
theorem relsL_eq (C R nm:List D) (n:Nat) (hv:validB C R=true) (hC:C.length=n) (hR:R.length≤24) (hn:n≤10):∀ (m j:Nat) (A L:List D),j+m=R.length→Sq n A→Sq n L →
  ∃ A' L',Z55 n R R.length j C R nm A L=some ((n:Int),nm,A',L')∧Sq n A'∧Sq n L' ∧
   (∀ a b,at2 A' a b=true↔at2 A a b=true∨∃ k,j≤k∧edgeAt C R k a b)∧(∀ a b,at2 L' a b=true↔at2 L a b=true∨∃ k,j≤k∧edgeAt C R k a b):=by
 intro m
 induction m with
 | zero=>
  intro j A L hj hA hL
  have:j=R.length:=by omega
  subst this
  refine ⟨A,L,?_,hA,hL,fun a b=>⟨.inl,?_⟩,fun a b=>⟨.inl,?_⟩⟩
  ·rw [Z55_fx]
   unfold c_Z55
   simp
  ·rintro (h | ⟨k,h1,h2⟩)
   ·exact h
   ·have:=h2.1;omega
  ·rintro (h | ⟨k,h1,h2⟩)
   ·exact h
   ·have:=h2.1;omega
 | succ m ih=>
  intro j A L hj hA hL
  obtain ⟨a,b,q1,q2,q3,q4,q5,_⟩:=rOk_at hv (show j<R.length by omega)
  rw [hC] at q1 q2
  obtain ⟨A',L',e1,e2,e3,e4,e5⟩:=ih (j+1) (set2 A a b true) (set2 L a b true) (by omega) (hA.set q1 true) (hL.set q1 true)
  have key:∀ (X X':List D),Sq n X→(∀ c d,at2 X' c d=true↔at2 (set2 X a b true) c d=true∨∃ k,j+1≤k∧edgeAt C R k c d)→∀ c d,at2 X' c d=true↔at2 X c d=true∨∃ k,j≤k∧edgeAt C R k c d:=by
   intro X X' hX h c d
   rw [h,at2_set hX q1 q2]
   constructor
   ·rintro (h | ⟨k,h1,h2⟩)
    ·split at h
     ·rename_i e
      exact .inr ⟨j,Nat.le_refl _,by omega,by rw [e.1];exact q4,by rw [e.2];exact q5⟩
     ·exact .inl h
    ·exact .inr ⟨k,by omega,h2⟩
   ·rintro (h | ⟨k,h1,h2⟩)
    ·left
     split
     ·rfl
     ·exact h
    ·by_cases hk:k=j
     ·subst hk
      left
      obtain ⟨_,g1,g2⟩:=h2
      rw [q4] at g1;rw [q5] at g2
      rw [if_pos ⟨by omega,by omega⟩]
     ·exact .inr ⟨k,by omega,h2⟩
  refine ⟨A',L',?_,e2,e3,key A A' hA e4,key L L' hL e5⟩
  rw [Z55_fx]
  unfold c_Z55
  have h1:(j:Int)<R.length:=by omega
  have h3:(0:Int)≤(j:Int)∧(j:Int)<R.length:=by omega
  have g1:(0:Int)≤(a:Int)∧(a:Int)<A.length:=by rw [hA.len];omega
  have g2:a+1≤A.length:=by rw [hA.len];omega
  have g3:(0:Int)≤(b:Int)∧(b:Int)<(A.getD a (.int 0)).items.length:=by rw [hA.row a q1];omega
  have g4:b+1≤(A.getD a (.int 0)).items.length:=by rw [hA.row a q1];omega
  have k1:(0:Int)≤(a:Int)∧(a:Int)<L.length:=by rw [hL.len];omega
  have k2:a+1≤L.length:=by rw [hL.len];omega
  have k3:(0:Int)≤(b:Int)∧(b:Int)<(L.getD a (.int 0)).items.length:=by rw [hL.row a q1];omega
  have k4:b+1≤(L.getD a (.int 0)).items.length:=by rw [hL.row a q1];omega
  rw [← List.getD_eq_getElem?_getD] at q4 q5
  simp only [h1,decide_true,cond_true,if_pos h3,tn,indexOf_eq C R _ (show C.length≤100000 by omega),q4,q5,ob,if_pos g1,if_pos g2,if_pos g3,if_pos g4,if_pos k1,if_pos k2,if_pos k3,if_pos k4,Qf (show j<4611686018427387904 by omega)]
  rw [show Z55 n R R.length ((j+1:Nat):Int) C R nm (A.set a (.node ((A.getD a (.int 0)).items.set b (.bool true)))) (L.set a (.node ((L.getD a (.int 0)).items.set b (.bool true))))=some ((n:Int),nm,A',L') from e1]
  rfl
theorem clK (n i j:Nat) (hn:n≤10) (hi:i<n) (hj:j<n) (a3 a4 a5 a6:Int) (nm A:List D):∀ (m k:Nat) (M:List D),k+m=n→Sq n M →
  ∃ M',Z56 n j i a3 a4 a5 a6 n k nm A M=some ((n:Int),(j:Int),a3,a4,a5,a6,nm,A,M')∧Clo n M M'∧∀ b,k≤b→b<n→at2 M i j=true→at2 M j b=true→at2 M' i b=true:=by
 intro m
 induction m with
 | zero=>
  intro k M hk hM
  have:k=n:=by omega
  subst this
  refine ⟨M,?_,Clo.refl hM,fun b h1 h2=>by omega⟩
  rw [Z56_fx]
  unfold c_Z56
  simp
 | succ m ih=>
  intro k M hk hM
  have hkn:k<n:=by omega
  let v:Bool:=at2 M i k||(at2 M i j&&at2 M j k)
  have hc:Clo n M (set2 M i k v):=Clo.step (j:=j) hM hi hkn (fun h=>by simp [v,h]) (fun h=>by
   simp only [v,Bool.or_eq_true,Bool.and_eq_true] at h;exact h)
  obtain ⟨M',e1,e2,e3⟩:=ih (k+1) (set2 M i k v) (by omega) hc.sq
  refine ⟨M',?_,hc.trans e2,fun b h1 h2 h3 h4=>?_⟩
  ·rw [Z56_fx]
   unfold c_Z56
   have h1:(k:Int)<n:=by omega
   have g1:(0:Int)≤(i:Int)∧(i:Int)<M.length:=by rw [hM.len];omega
   have g2:i+1≤M.length:=by rw [hM.len];omega
   have g3:(0:Int)≤(k:Int)∧(k:Int)<(M.getD i (.int 0)).items.length:=by rw [hM.row i hi];omega
   have g4:k+1≤(M.getD i (.int 0)).items.length:=by rw [hM.row i hi];omega
   have g5:(0:Int)≤(j:Int)∧(j:Int)<(M.getD i (.int 0)).items.length:=by rw [hM.row i hi];omega
   have g6:j+1≤(M.getD i (.int 0)).items.length:=by rw [hM.row i hi];omega
   have k1:(0:Int)≤(j:Int)∧(j:Int)<M.length:=by rw [hM.len];omega
   have k2:j+1≤M.length:=by rw [hM.len];omega
   have k3:(0:Int)≤(k:Int)∧(k:Int)<(M.getD j (.int 0)).items.length:=by rw [hM.row j hj];omega
   have k4:k+1≤(M.getD j (.int 0)).items.length:=by rw [hM.row j hj];omega
   have r1:((M.getD i (.int 0)).items.getD k (.int 0)).toBool=at2 M i k:=rfl
   have r2:((M.getD i (.int 0)).items.getD j (.int 0)).toBool=at2 M i j:=rfl
   have r3:((M.getD j (.int 0)).items.getD k (.int 0)).toBool=at2 M j k:=rfl
   simp only [h1,decide_true,cond_true,tn,if_pos g1,if_pos g2,if_pos g3,if_pos g4,if_pos g5,if_pos g6,if_pos k1,if_pos k2,if_pos k3,if_pos k4,r1,r2,r3,Qf (show k<4611686018427387904 by omega)]
   have fin:∀ u:Bool,v=u→(Z56 n j i a3 a4 a5 a6 n ((k+1:Nat):Int) nm A (M.set i (.node ((M.getD i (.int 0)).items.set k (.bool u))))).bind some=some ((n:Int),(j:Int),a3,a4,a5,a6,nm,A,M'):=fun u hu=>by
    subst hu
    rw [show Z56 n j i a3 a4 a5 a6 n ((k+1:Nat):Int) nm A (M.set i (.node ((M.getD i (.int 0)).items.set k (.bool v))))=_ from e1]
    rfl
   cases hik:at2 M i k with
   | true=>exact fin true (by simp [v,hik])
   | false=>
    cases hij:at2 M i j with
    | true=>exact fin (at2 M j k) (by simp [v,hik,hij])
    | false=>exact fin false (by simp [v,hik,hij])
  ·by_cases hbk:b=k
   ·subst hbk
    refine e2.mono _ _ ?_
    rw [at2_set hM hi hkn,if_pos ⟨rfl,rfl⟩]
    simp [v,h3,h4]
   ·exact e3 b (by omega) h2 (hc.mono _ _ h3) (hc.mono _ _ h4)
theorem clI (n j:Nat) (hn:n≤10) (hj:j<n) (nm A:List D):∀ (m i:Nat) (M:List D),i+m=n→Sq n M →
  ∃ M',Z57 n j n j n i nm A M=some ((n:Int),(n:Int),(j:Int),nm,A,M')∧Clo n M M'∧∀ a b,i≤a→a<n→b<n→at2 M a j=true→at2 M j b=true→at2 M' a b=true:=by
 intro m
 induction m with
 | zero=>
  intro i M hi hM
  have:i=n:=by omega
  subst this
  refine ⟨M,?_,Clo.refl hM,fun a b h1 h2=>by omega⟩
  rw [Z57_fx]
  unfold c_Z57
  simp
 | succ m ih=>
  intro i M hi hM
  obtain ⟨M1,d1,d2,d3⟩:=clK n i j hn (by omega) hj n j n i nm A n 0 M (by omega) hM
  have d1':Z56 n j i n j n i n 0 nm A M=_:=d1
  obtain ⟨M2,e1,e2,e3⟩:=ih (i+1) M1 (by omega) d2.sq
  refine ⟨M2,?_,d2.trans e2,fun a b h1 h2 h3 h4 h5=>?_⟩
  ·rw [Z57_fx]
   unfold c_Z57
   have h1:(i:Int)<n:=by omega
   simp only [h1,decide_true,cond_true,d1',ob,Qf (show i<4611686018427387904 by omega),e1]
  ·by_cases hai:a=i
   ·subst hai
    exact e2.mono _ _ (d3 b (by omega) h3 h4 h5)
   ·exact e3 a b (by omega) h2 h3 (d2.mono _ _ h4) (d2.mono _ _ h5)
def PP (E:Nat→Nat→Prop):Nat→Nat→Nat→Prop
 | 0,a,b=>E a b
 | j+1,a,b=>PP E j a b∨(PP E j a j∧PP E j j b)
theorem PP_trans {E:Nat→Nat→Prop}:∀ {j k a b:Nat},k<j→PP E j a k→PP E j k b→PP E j a b
 | 0,k,a,b,h,_,_=>by omega
 | j+1,k,a,b,h,h1,h2=>by
  have left:∀ {x:Nat},PP E (j+1) x j→PP E j x j:=fun h=>h.elim id (fun h=>h.1)
  have right:∀ {x:Nat},PP E (j+1) j x→PP E j j x:=fun h=>h.elim id (fun h=>h.2)
  by_cases hk:k=j
  ·subst hk
   exact .inr ⟨left h1,right h2⟩
  ·have hk':k<j:=by omega
   rcases h1 with h1 | ⟨h1,h1'⟩
   ·rcases h2 with h2 | ⟨h2,h2'⟩
    ·exact .inl (PP_trans hk' h1 h2)
    ·exact .inr ⟨PP_trans hk' h1 h2,h2'⟩
   ·rcases h2 with h2 | ⟨h2,h2'⟩
    ·exact .inr ⟨h1,PP_trans hk' h1' h2⟩
    ·exact .inr ⟨h1,h2'⟩
theorem PP_base {E:Nat→Nat→Prop}:∀ {j a b:Nat},E a b→PP E j a b
 | 0,_,_,h=>h
 | j+1,_,_,h=>.inl (PP_base h)
theorem clJ (n:Nat) (hn:n≤10) (E:Nat→Nat→Prop) (nm A:List D):∀ (m j:Nat) (M:List D),j+m=n→Sq n M→(∀ a b,a<n→b<n→PP E j a b→at2 M a b=true) →
  ∃ M',Z58 n n j nm A M=some (nm,A,M')∧Clo n M M'∧∀ a b,a<n→b<n→PP E n a b→at2 M' a b=true:=by
 intro m
 induction m with
 | zero=>
  intro j M hj hM hP
  have:j=n:=by omega
  subst this
  refine ⟨M,?_,Clo.refl hM,hP⟩
  rw [Z58_fx]
  unfold c_Z58
  simp
 | succ m ih=>
  intro j M hj hM hP
  have hjn:j<n:=by omega
  obtain ⟨M1,d1,d2,d3⟩:=clI n j hn hjn nm A n 0 M (by omega) hM
  have d1':Z57 n j n j n 0 nm A M=_:=d1
  obtain ⟨M2,e1,e2,e3⟩:=ih (j+1) M1 (by omega) d2.sq (fun a b ha hb h=>by
   rcases h with h | ⟨h1,h2⟩
   ·exact d2.mono _ _ (hP a b ha hb h)
   ·exact d3 a b (by omega) ha hb (hP a j ha hjn h1) (hP j b hjn hb h2))
  refine ⟨M2,?_,d2.trans e2,e3⟩
  rw [Z58_fx]
  unfold c_Z58
  have h1:(j:Int)<n:=by omega
  simp only [h1,decide_true,cond_true,d1',ob,Qf (show j<4611686018427387904 by omega),e1]
structure Later (n:Nat) (E:Nat→Nat→Prop) (L:List D):Prop where
 sq:Sq n L
 base:∀ a b,E a b→at2 L a b=true
 trans:∀ a b c,at2 L a b=true→at2 L b c=true→at2 L a c=true
 min:∀ T:Nat→Nat→Prop,(∀ a b c,T a b→T b c→T a c)→(∀ a b,E a b→T a b)→∀ a b,at2 L a b=true→T a b
theorem order_eq (C R:List D) (hv:validB C R=true):∃ A L,Z63 C R=some (nums C,A,L)∧Sq C.length A∧(∀ a b,at2 A a b=true↔edge C R a b)∧Later C.length (edge C R) L:=by
 have hv':=hv
 simp only [validB,Bool.and_eq_true,decide_eq_true_eq] at hv'
 obtain ⟨hC,hR,_,_⟩:=hv'
 obtain ⟨M0,s1,s2,s3⟩:=square_eq C.length (by omega)
 obtain ⟨A,L0,r1,r2,r3,r4,r5⟩:=relsL_eq C R (nums C) C.length hv rfl hR hC R.length 0 M0 M0 (by omega) s2 s2
 have r1':Z55 C.length R R.length 0 C R (nums C) M0 M0=_:=r1
 have hA:∀ X:List D,(∀ a b,at2 X a b=true↔at2 M0 a b=true∨∃ k,0≤k∧edgeAt C R k a b)→∀ a b,at2 X a b=true↔edge C R a b:=by
  intro X h a b
  rw [h]
  constructor
  ·rintro (h | ⟨k,_,h⟩)
   ·rw [s3] at h;cases h
   ·exact ⟨k,h⟩
  ·rintro ⟨k,h⟩
   exact .inr ⟨k,Nat.zero_le _,h⟩
 obtain ⟨L,c1,c2,c3⟩:=clJ C.length hC (edge C R) (nums C) A C.length 0 L0 (by omega) r3 (fun a b _ _ h=>(hA L0 r5 a b).2 h)
 have c1':Z58 C.length C.length 0 (nums C) A L0=_:=c1
 have lt:∀ a b,at2 L a b=true→a<C.length∧b<C.length∧PP (edge C R) C.length a b:=by
  refine c2.sound (fun a b=>a<C.length∧b<C.length∧PP (edge C R) C.length a b) (fun a b c h1 h2=>⟨h1.1,h2.2.1,PP_trans h1.2.1 h1.2.2 h2.2.2⟩) (fun a b h=>?_)
  have he:=(hA L0 r5 a b).1 h
  have:=edge_lt hv he
  exact ⟨this.1,this.2.1,PP_base he⟩
 have hLater:Later C.length (edge C R) L:=by
  refine ⟨c2.sq,fun a b h=>c2.mono _ _ ((hA L0 r5 a b).2 h),fun a b c h1 h2=>?_,fun T hT hb=>c2.sound T hT (fun a b h=>hb a b ((hA L0 r5 a b).1 h))⟩
  have q1:=lt a b h1
  have q2:=lt b c h2
  exact c3 a c q1.1 q2.2.1 (PP_trans q1.2.1 q1.2.2 q2.2.2)
 refine ⟨A,L,?_,r2,hA A r4,hLater⟩
 unfold Z63 c_Z63
 simp only [s1,ob]
 cases hl:C with
 | nil=>
  subst hl
  have hR0:R=[]:=by
   cases R with
   | nil=>rfl
   | cons d R=>
    obtain ⟨a,b,q1,_⟩:=rOk_at hv (show 0<(d::R).length by simp)
    simp at q1
  subst hR0
  have hM0:M0=[]:=List.eq_nil_of_length_eq_zero s2.len
  subst hM0
  have x1:Z54 0 [] 0 0 [] [] [] [] []=some (.inr (0,[],[],[],[],[])):=by
   rw [Z54_fx];unfold c_Z54;simp
  have x2:Z59 0 [] 0 0 [] [] [] [] []=some (0,[],[],[]):=by
   rw [Z59_fx];unfold c_Z59;simp
  have x3:Z62 0 0 0 [] [] []=some ([],[],[]):=by
   rw [Z62_fx];unfold c_Z62;simp
  have hAe:A=[]:=List.eq_nil_of_length_eq_zero r2.len
  have hLe:L=[]:=List.eq_nil_of_length_eq_zero c2.sq.len
  simp only [List.length_nil,Int.natCast_zero] at x1 x2 x3 ⊢
  rw [hAe,hLe]
  simp only [Int.ofNat_zero,Int.natCast_zero,x1,x2,x3,ob,Sum.elim_inr,nums,List.map_nil,List.length_nil]
 | cons d C'=>
  rw [← hl]
  have hpos:0<C.length:=by rw [hl];simp
  have x1:Z54 C.length C C.length 0 C R [] M0 M0=some (.inl (C.length,C,R,nums C,M0,M0)):=by
   rw [Z54_fx]
   unfold c_Z54
   have h1:(0:Int)<C.length:=by omega
   have h3:(0:Int)≤0∧(0:Int)<C.length:=by omega
   have:=numsL_eq C R M0 M0 C.length (by omega) (C.length - 1) 1 [.int ((C.getD 0 (.int 0)).fld 0).toInt] (by omega) rfl
   have w1:IntKind.i64.wrap (0+1)=((1:Nat):Int):=by decide
   have hd:[D.int ((C.getD 0 (.int 0)).fld 0).toInt]++nums (C.drop 1)=nums C:=by rw [hl];simp [nums]
   rw [hd] at this
   simp only [h1,decide_true,cond_true,if_pos h3,Int.toNat_zero,List.nil_append,List.length_cons,List.length_nil,w1,this,ob]
   rfl
  simp only [x1,ob,Sum.elim_inl,r1',c1']
def numAt (C:List D) (i:Nat):Int:=((C[i]?.getD (.int 0)).fld 0).toInt
theorem nums_at {C:List D} {i:Nat} (h:i<C.length):((nums C).getD i (.int 0)).toInt=numAt C i:=by
 unfold nums numAt
 rw [List.getD_eq_getElem?_getD,List.getElem?_map,List.getElem?_eq_getElem h]
 rfl
theorem numAt_lt {C R:List D} (hv:validB C R=true):∀ (k i:Nat),i+k<C.length→0<k→numAt C i<numAt C (i+k):=by
 simp only [validB,Bool.and_eq_true] at hv
 have step:∀ i,i+1<C.length→numAt C i<numAt C (i+1):=by
  intro i hi
  have:=allN_iff.1 hv.2.2.1 (i+1) hi
  simp only [cOk,Bool.and_eq_true,Bool.or_eq_true,decide_eq_true_eq] at this
  rcases this.2.2 with h | h
  ·omega
  ·exact h
 intro k
 induction k with
 | zero=>intro i _ h;omega
 | succ k ih=>
  intro i hi _
  by_cases hk:k=0
  ·subst hk;exact step i hi
  ·have:=ih i (by omega) (by omega)
   have:=step (i+k) (by omega)
   rw [show i+(k+1)=i+k+1 by omega]
   omega
theorem numAt_inj {C R:List D} (hv:validB C R=true) {i j:Nat} (hi:i<C.length) (hj:j<C.length) (h:numAt C i=numAt C j):i=j:=by
 by_cases h1:i<j
 ·have:=numAt_lt hv (j - i) i (by omega) (by omega)
  rw [show i+(j - i)=j by omega] at this
  omega
 ·by_cases h2:j<i
  ·have:=numAt_lt hv (i - j) j (by omega) (by omega)
   rw [show j+(i - j)=i by omega] at this
   omega
  ·omega
theorem uw (n:Int) (h:0≤n∧n<1000):IntKind.u64.wrap n=n:=by
 rw [uwrap];omega
theorem bv_nat (n:Nat) (h:n<18446744073709551616):(BitVec.ofInt IntKind.i64.bits (n:Int)).toNat=n:=by
 simp only [IntKind.bits,BitVec.toNat_ofInt]
 omega
theorem or_bits (a b:Nat) (ha:a<1024) (hb:b<1024):IntKind.i64.wrap (((BitVec.ofInt IntKind.i64.bits (a:Int) ||| BitVec.ofInt IntKind.i64.bits (b:Int)).toNat:Nat):Int)=((a ||| b:Nat):Int)∧a ||| b<1024:=by
 have h:a ||| b<2 ^ 10:=Nat.or_lt_two_pow (by omega) (by omega)
 rw [BitVec.toNat_or,bv_nat a (by omega),bv_nat b (by omega),UI (by omega) (by omega)]
 exact ⟨rfl,by omega⟩
theorem shl_bit (k:Nat) (hk:k<10):IntKind.i64.wrap (1 * 2 ^ Min.min ((k:Int)).toNat IntKind.i64.bits)=((2 ^ k:Nat):Int)∧2 ^ k<1024:=by
 have h1:Min.min ((k:Int)).toNat IntKind.i64.bits=k:=by simp only [tn,IntKind.bits];omega
 have h2:2 ^ k<2 ^ 10:=Nat.pow_lt_pow_right (by omega) hk
 have h3:(1:Int) * 2 ^ k=((2 ^ k:Nat):Int):=by simp
 have key:∀ x:Nat,x<1024→IntKind.i64.wrap (x:Int)=x∧x<1024:=fun x hx=>⟨UI (by omega) (by omega),hx⟩
 rw [h1,h3]
 exact key _ (Nat.lt_of_lt_of_le h2 (by decide))
theorem and_bit (v k:Nat) (hv:v<1024) (hk:k<10):decide (IntKind.i64.wrap (((BitVec.ofInt IntKind.i64.bits ((v:Int).fdiv (2 ^ Min.min ((k:Int)).toNat IntKind.i64.bits)) &&& BitVec.ofInt IntKind.i64.bits 1).toNat:Nat):Int)=1)=v.testBit k:=by
 have h1:Min.min ((k:Int)).toNat IntKind.i64.bits=k:=by simp only [tn,IntKind.bits];omega
 have h2:(v:Int).fdiv (2 ^ k)=((v / 2 ^ k:Nat):Int):=by
  rw [Int.fdiv_eq_ediv_of_nonneg _ (by exact Int.le_of_lt (Int.pow_pos (by decide)))]
  simp
 have h3:v / 2 ^ k≤v:=Nat.div_le_self _ _
 have h4:(BitVec.ofInt IntKind.i64.bits 1).toNat=1:=by decide
 rw [h1,h2,BitVec.toNat_and,bv_nat _ (by omega),h4,Nat.and_one_is_mod,Nat.testBit_eq_decide_div_mod_eq,UI (by omega) (by omega)]
 by_cases h:v / 2 ^ k % 2=1
 ·rw [decide_eq_true h,decide_eq_true (by omega)]
 ·rw [decide_eq_false h,decide_eq_false (by omega)]
def b2 (B:List D) (i k:Nat):Bool:=(B.getD i (.int 0)).toInt.toNat.testBit k
structure Bq (n:Nat) (B:List D):Prop where
 len:B.length=n
 rng:∀ i,i<n→∃ v:Nat,(B.getD i (.int 0)).toInt=v∧v<1024
theorem b2_set {n:Nat} {B:List D} (h:Bq n B) {i a c v:Nat} (hi:i<n):b2 (B.set i (.int (v:Nat))) a c=if a=i then v.testBit c else b2 B a c:=by
 unfold b2
 rw [getD_set (by rw [h.len];exact hi)]
 by_cases e:i=a
 ·subst e;simp [OU]
 ·have:¬ a=i:=fun e'=>e e'.symm
  simp [e,this]
theorem Bq.set {n:Nat} {B:List D} (h:Bq n B) {i v:Nat} (hi:i<n) (hv:v<1024):Bq n (B.set i (.int (v:Nat))):=by
 refine ⟨by simp [h.len],fun j hj=>?_⟩
 rw [getD_set (by rw [h.len];exact hi)]
 split
 ·exact ⟨v,rfl,hv⟩
 ·exact h.rng j hj
theorem rOk_in {C R:List D} (h:InR C R) {j:Nat} (hj:j<R.length):∃ a b,a<C.length∧b<C.length∧True∧find2 C ((R[j]?.getD (.int 0)).fld 0).toInt=(a:Int)∧find2 C ((R[j]?.getD (.int 0)).fld 1).toInt=(b:Int)∧True:=by
 obtain ⟨h1,h2⟩:=h _ (K7 hj)
 obtain ⟨a,a1,a2,_⟩:=find2_some h1
 obtain ⟨b,b1,b2,_⟩:=find2_some h2
 exact ⟨a,b,a1,b1,trivial,a2,b2,trivial⟩
theorem inR_of {C R:List D} (hv:validB C R=true):InR C R:=by
 intro d hd
 obtain ⟨j,hj,rfl⟩:=List.getElem_of_mem hd
 obtain ⟨a,b,q1,q2,q3,q4,q5,_⟩:=rOk_at hv hj
 have e:R[j]?.getD (.int 0)=R[j]:=by simp [hj]
 rw [e] at q4 q5
 rw [q4,q5]
 exact ⟨by omega,by omega⟩
theorem bitsR_in (C R:List D) (n:Nat) (hv:InR C R) (hC:C.length=n) (hn:n≤10) (hR:R.length≤24):∀ (m j:Nat) (B:List D),j+m=R.length→Bq n B →
  ∃ B',Z25 j C R B=some B'∧Bq n B'∧∀ a b,b2 B' a b=true↔b2 B a b=true∨∃ k,j≤k∧edgeAt C R k a b:=by
 intro m
 induction m with
 | zero=>
  intro j B hj hB
  have:j=R.length:=by omega
  subst this
  refine ⟨B,?_,hB,fun a b=>⟨.inl,?_⟩⟩
  ·rw [Z25_fx]
   unfold c_Z25
   simp
  ·rintro (h | ⟨k,h1,h2⟩)
   ·exact h
   ·have:=h2.1;omega
 | succ m ih=>
  intro j B hj hB
  obtain ⟨a,b,q1,q2,q3,q4,q5,_⟩:=rOk_in hv (show j<R.length by omega)
  rw [hC] at q1 q2
  obtain ⟨v,v1,v2⟩:=hB.rng a q1
  obtain ⟨s1,s2⟩:=shl_bit b (by omega)
  obtain ⟨o1,o2⟩:=or_bits v (2 ^ b) v2 s2
  obtain ⟨B',e1,e2,e3⟩:=ih (j+1) (B.set a (.int ((v ||| 2 ^ b:Nat):Int))) (by omega) (hB.set q1 o2)
  refine ⟨B',?_,e2,fun c d=>?_⟩
  ·rw [Z25_fx]
   unfold c_Z25
   have h1:(j:Int)<R.length:=by omega
   have g1:(a:Int)<B.length:=by rw [hB.len];omega
   have g2:a+1≤B.length:=by rw [hB.len];omega
   rw [← List.getD_eq_getElem?_getD] at q4 q5
   simp only [h1,g1,decide_true,cond_true,Int.natCast_nonneg,and_self,if_true,tn,l2Find_eq C R _ (show C.length≤100000 by omega),q4,q5,ob,if_pos g2,uw (b:Int) (by omega),v1]
   rw [show IntKind.i64.wrap (1 * 2 ^ Min.min b IntKind.i64.bits)=((2 ^ b:Nat):Int) from s1,o1,Qf (show j<4611686018427387904 by omega),e1]
   rfl
  ·rw [e3,b2_set hB q1]
   have hb:∀ d,(v ||| 2 ^ b).testBit d=true↔v.testBit d=true∨d=b:=by
    intro d
    rw [Nat.testBit_or,Bool.or_eq_true,Nat.testBit_two_pow,decide_eq_true_eq]
    exact ⟨fun h=>h.imp id (fun h=>h.symm),fun h=>h.imp id (fun h=>h.symm)⟩
   have hv':∀ d,b2 B a d=v.testBit d:=fun d=>by unfold b2;rw [v1,tn]
   constructor
   ·rintro (h | ⟨k,h1,h2⟩)
    ·split at h
     ·rename_i e
      rw [hb] at h
      rcases h with h | h
      ·left;rw [e,hv'];exact h
      ·exact .inr ⟨j,Nat.le_refl _,by omega,by rw [e];exact q4,by rw [h];exact q5⟩
     ·exact .inl h
    ·exact .inr ⟨k,by omega,h2⟩
   ·rintro (h | ⟨k,h1,h2⟩)
    ·left
     split
     ·rename_i e;rw [hb];left;rw [e,hv'] at h;exact h
     ·exact h
    ·by_cases hk:k=j
     ·subst hk
      left
      obtain ⟨_,g1,g2⟩:=h2
      rw [q4] at g1;rw [q5] at g2
      rw [if_pos (by omega),hb]
      right;omega
     ·exact .inr ⟨k,by omega,h2⟩
structure CloB (n:Nat) (M M':List D):Prop where
 sq:Bq n M'
 mono:∀ a b,b2 M a b=true→b2 M' a b=true
 sound:∀ T:Nat→Nat→Prop,(∀ a b c,T a b→T b c→T a c)→(∀ a b,b2 M a b=true→T a b)→∀ a b,b2 M' a b=true→T a b
theorem CloB.refl {n:Nat} {M:List D} (h:Bq n M):CloB n M M:=⟨h,fun _ _ h=>h,fun _ _ h=>h⟩
theorem CloB.trans {n:Nat} {M M' M'':List D} (h:CloB n M M') (k:CloB n M' M''):CloB n M M'':=
 ⟨k.sq,fun a b q=>k.mono a b (h.mono a b q),fun T hT hb=>k.sound T hT (h.sound T hT hb)⟩
theorem bitsI_eq (n j:Nat) (hn:n≤10) (hj:j<n):∀ (m i:Nat) (B:List D),i+m=n→Bq n B →
  ∃ B',Z26 j i B=some ((j:Int),B')∧CloB n B B'∧∀ a b,i≤a→a<n→b2 B a j=true→b2 B j b=true→b2 B' a b=true:=by
 intro m
 induction m with
 | zero=>
  intro i B hi hB
  have:i=n:=by omega
  subst this
  refine ⟨B,?_,CloB.refl hB,fun a b h1 h2=>by omega⟩
  rw [Z26_fx]
  unfold c_Z26
  simp [hB.len]
 | succ m ih=>
  intro i B hi hB
  have hin:i<n:=by omega
  obtain ⟨v,v1,v2⟩:=hB.rng i hin
  obtain ⟨u,u1,u2⟩:=hB.rng j hj
  obtain ⟨o1,o2⟩:=or_bits v u v2 u2
  have hbit:b2 B i j=v.testBit j:=by unfold b2;rw [v1,tn]
  rw [Z26_fx]
  unfold c_Z26
  have g1:(i:Int)<B.length:=by rw [hB.len];omega
  have g2:i+1≤B.length:=by rw [hB.len];omega
  have g3:(j:Int)<B.length:=by rw [hB.len];omega
  have g4:j+1≤B.length:=by rw [hB.len];omega
  have ab:=and_bit v j v2 (by omega)
  simp only [tn] at ab
  simp only [g1,g3,decide_true,cond_true,Int.natCast_nonneg,and_self,if_true,tn,if_pos g2,if_pos g4,uw (j:Int) (by omega),v1,u1,o1,ab,Qf (show i<4611686018427387904 by omega)]
  cases hq:v.testBit j with
  | false=>
   obtain ⟨B',e1,e2,e3⟩:=ih (i+1) B (by omega) hB
   refine ⟨B',by simp only [cond_false,e1,ob],e2,fun a b h1 h2 h3 h4=>?_⟩
   by_cases e:a=i
   ·subst e;rw [hbit,hq] at h3;cases h3
   ·exact e3 a b (by omega) h2 h3 h4
  | true=>
   have hc:CloB n B (B.set i (.int ((v ||| u:Nat):Int))):=by
    refine ⟨hB.set hin o2,fun a b h=>?_,fun T hT hb a b h=>?_⟩
    ·rw [b2_set hB hin]
     split
     ·rename_i e
      rw [e] at h
      rw [Nat.testBit_or,Bool.or_eq_true]
      left;unfold b2 at h;rw [v1,tn] at h;exact h
     ·exact h
    ·rw [b2_set hB hin] at h
     split at h
     ·rename_i e
      rw [e]
      rw [Nat.testBit_or,Bool.or_eq_true] at h
      rcases h with h | h
      ·exact hb i b (by unfold b2;rw [v1,tn];exact h)
      ·exact hT i j b (hb i j (by rw [hbit,hq])) (hb j b (by unfold b2;rw [u1,tn];exact h))
     ·exact hb a b h
   obtain ⟨B',e1,e2,e3⟩:=ih (i+1) (B.set i (.int ((v ||| u:Nat):Int))) (by omega) hc.sq
   refine ⟨B',by simp only [cond_true,e1,ob],hc.trans e2,fun a b h1 h2 h3 h4=>?_⟩
   by_cases e:a=i
   ·subst e
    refine e2.mono _ _ ?_
    rw [b2_set hB hin,if_pos rfl,Nat.testBit_or,Bool.or_eq_true]
    right;unfold b2 at h4;rw [u1,tn] at h4;exact h4
   ·exact e3 a b (by omega) h2 (hc.mono _ _ h3) (hc.mono _ _ h4)
theorem bitsJ_eq (n:Nat) (hn:n≤10) (E:Nat→Nat→Prop):∀ (m j:Nat) (B:List D),j+m=n→Bq n B→(∀ a b,a<n→b<n→PP E j a b→b2 B a b=true) →
  ∃ B',Z27 j B=some B'∧CloB n B B'∧∀ a b,a<n→b<n→PP E n a b→b2 B' a b=true:=by
 intro m
 induction m with
 | zero=>
  intro j B hj hB hP
  have:j=n:=by omega
  subst this
  refine ⟨B,?_,CloB.refl hB,hP⟩
  rw [Z27_fx]
  unfold c_Z27
  simp [hB.len]
 | succ m ih=>
  intro j B hj hB hP
  have hjn:j<n:=by omega
  obtain ⟨B1,d1,d2,d3⟩:=bitsI_eq n j hn hjn n 0 B (by omega) hB
  have d1':Z26 j 0 B=_:=d1
  obtain ⟨B2,e1,e2,e3⟩:=ih (j+1) B1 (by omega) d2.sq (fun a b ha hb h=>by
   rcases h with h | ⟨h1,h2⟩
   ·exact d2.mono _ _ (hP a b ha hb h)
   ·exact d3 a b (by omega) ha (hP a j ha hjn h1) (hP j b hjn hb h2))
  refine ⟨B2,?_,d2.trans e2,e3⟩
  rw [Z27_fx]
  unfold c_Z27
  have g1:(j:Int)<B.length:=by rw [hB.len];omega
  simp only [g1,decide_true,cond_true,d1',ob,Qf (show j<4611686018427387904 by omega),e1]
theorem bits_eq (C R:List D) (hv:validB C R=true):∃ B,Z28 C R=some B∧Bq C.length B∧(∀ L,Later C.length (edge C R) L→∀ a b,b2 B a b=at2 L a b):=by
 have hv':=hv
 simp only [validB,Bool.and_eq_true,decide_eq_true_eq] at hv'
 obtain ⟨hC,hR,_,_⟩:=hv'
 have hB0:Bq C.length (List.replicate C.length (D.int 0)):=⟨by simp,fun i hi=>⟨0,by rw [List.getD_eq_getElem?_getD,List.getElem?_replicate,if_pos hi];rfl,by omega⟩⟩
 have hz:∀ a b,b2 (List.replicate C.length (D.int 0)) a b=false:=by
  intro a b
  unfold b2
  rw [List.getD_eq_getElem?_getD,List.getElem?_replicate]
  split<;>simp [OU]
 obtain ⟨B0,r1,r2,r3⟩:=bitsR_in C R C.length (inR_of hv) rfl hC hR R.length 0 _ (by omega) hB0
 have r1':Z25 0 C R (List.replicate C.length (D.int 0))=_:=r1
 have hE:∀ a b,b2 B0 a b=true↔edge C R a b:=by
  intro a b
  rw [r3,hz]
  constructor
  ·rintro (h | ⟨k,_,h⟩)
   ·cases h
   ·exact ⟨k,h⟩
  ·rintro ⟨k,h⟩
   exact .inr ⟨k,Nat.zero_le _,h⟩
 obtain ⟨B,c1,c2,c3⟩:=bitsJ_eq C.length hC (edge C R) C.length 0 B0 (by omega) r2 (fun a b _ _ h=>(hE a b).2 h)
 have c1':Z27 0 B0=_:=c1
 have lt:∀ a b,b2 B a b=true→a<C.length∧b<C.length∧PP (edge C R) C.length a b:=by
  refine c2.sound (fun a b=>a<C.length∧b<C.length∧PP (edge C R) C.length a b) (fun a b c h1 h2=>⟨h1.1,h2.2.1,PP_trans h1.2.1 h1.2.2 h2.2.2⟩) (fun a b h=>?_)
  have he:=(hE a b).1 h
  have:=edge_lt hv he
  exact ⟨this.1,this.2.1,PP_base he⟩
 have h2:(0:Int)≤C.length∧(C.length:Int)≤C.length∧(C.length:Int)≤4294967296:=by omega
 refine ⟨B,?_,c2.sq,fun L hL a b=>?_⟩
 ·simp only [Z28,c_Z28,if_pos h2,tn,r1',c1',ob]
 ·cases hq:at2 L a b with
  | true=>
   refine hL.min (fun a b=>b2 B a b=true) (fun a b c h1 h2=>?_) (fun a b h=>c2.mono _ _ ((hE a b).2 h)) a b hq
   have q1:=lt a b h1
   have q2:=lt b c h2
   exact c3 a c q1.1 q2.2.1 (PP_trans q1.2.1 q1.2.2 q2.2.2)
  | false=>
   cases hb:b2 B a b with
   | false=>rfl
   | true=>
    have:=c2.sound (fun a b=>at2 L a b=true) hL.trans (fun a b h=>hL.base a b ((hE a b).1 h)) a b hb
    rw [hq] at this;cases this
theorem l4Bit_eq (v k:Nat) (hv:v<1024) (hk:k<10):Z29 v k=some (v.testBit k):=by
 unfold Z29 c_Z29
 have h:=and_bit v k hv hk
 rw [uw (k:Int) (by omega),if_pos (by omega)]
 rw [← h]
theorem cons_tot {C R:List D} (hC:C.length≤10) (hR:R.length≤24) (hI:InR C R):∃ b,Z31 C R=some b:=by
 have hB0:Bq C.length (List.replicate C.length (D.int 0)):=⟨by simp,fun i hi=>⟨0,by rw [List.getD_eq_getElem?_getD,List.getElem?_replicate,if_pos hi];rfl,by omega⟩⟩
 obtain ⟨B0,r1,r2,r3⟩:=bitsR_in C R C.length hI rfl hC hR R.length 0 _ (by omega) hB0
 have r1':Z25 0 C R (List.replicate C.length (D.int 0))=_:=r1
 obtain ⟨B,c1,c2,c3⟩:=bitsJ_eq C.length hC (fun a b=>b2 B0 a b=true) C.length 0 B0 (by omega) r2 (fun a b _ _ h=>h)
 have c1':Z27 0 B0=_:=c1
 have hB:=c2.sq
 have h2:(0:Int)≤C.length∧(C.length:Int)≤C.length∧(C.length:Int)≤4294967296:=by omega
 have hl:Z28 C R=some B:=by simp only [Z28,c_Z28,if_pos h2,tn,r1',c1',ob]
 have h:=fxAll (F:=fun i=>Z30 i B) (len:=C.length) (fun i=>!b2 B i i) (.inl false) (fin:=.inr ()) (fun i hi=>by
  show Z30 i B=_
  rw [Z30_fx]
  unfold c_Z30
  have g1:(i:Int)<B.length:=by rw [hB.len];omega
  have g2:i+1≤B.length:=by rw [hB.len];omega
  obtain ⟨v,e1,e2⟩:=hB.rng i hi
  have e3:v.testBit i=b2 B i i:=by rw [b2,e1];rfl
  simp only [g1,g2,decide_true,cond_true,Int.natCast_nonneg,and_self,if_true,tn,e1,l4Bit_eq v i e2 (by omega),ob,e3,Qf (show i<4611686018427387904 by omega),Option.bind_fun_some]
  cases b2 B i i<;>rfl)
  (by
   show Z30 (C.length:Int) B=_
   rw [Z30_fx];unfold c_Z30;simp [hB.len])
 have h:Z30 0 B=_:=h
 unfold Z31 c_Z31
 simp only [hl,h,ob]
 cases allN (fun i=>!b2 B i i) C.length<;>exact ⟨_,rfl⟩
theorem consistent_tot (c:List D) (hc:okC c) (p s:Int) (hp:0≤p∧p≤1099511619000):∃ y,Z32 c p s=some y∧recI c p (p+200) 10 20 y:=by
 refine Tt.out ?_
 unfold Z32 c_Z32
 refine Tt.bind (Tt.con (record_in _ hc _ _ (by omega))) ?_
 rintro ⟨C,R,c1,p1,s1⟩ ⟨⟨g1,g2,g3,g4,g5⟩,g6⟩
 simp only at g1 g2 g3 g4 g5 g6
 obtain ⟨b,hb⟩:=cons_tot (C:=C) (R:=R) (by omega) (by omega) g6
 dsimp only
 rw [hb]
 cases b with
 | false=>exact Tt.pure ⟨g1,by simp only;omega,by simp only;omega,by simp only;omega,by simp only [List.length_nil];omega⟩
 | true=>exact Tt.pure ⟨g1,by simp only;omega,by simp only;omega,by simp only;omega,by simp only;omega⟩
theorem ordered_tot (c:List D) (hc:okC c) (p s:Int) (hp:0≤p∧p≤1099511600000):∃ y,Z33 c p s=some y∧recI c p (p+600) 100 100 y:=by
 refine Tt.out ?_
 unfold Z33 c_Z33
 (refine Tt.bind (Tt.con (one_tot' _ hc _ _ _ (by omega) (by omega))) ?_;rintro ⟨v,c',p',s'⟩ ⟨hv,rfl,hp1,hp2⟩;dsimp only at hv hp1 hp2 ⊢)
 refine Tt.cnd (fun _=>?_) (fun _=>?_)
 ·refine Tt.bind (Tt.con (any_tot _ hc _ _ (by omega))) ?_
  rintro ⟨C,R,c1,p1,s1⟩ ⟨g1,g2,g3,g4,g5⟩
  simp only at g1 g2 g3 g4 g5
  exact Tt.pure ⟨g1,by simp only;omega,by simp only;omega,by simp only;omega,by simp only;omega⟩
 ·refine Tt.bind (Tt.con (consistent_tot _ hc _ _ (by omega))) ?_
  rintro ⟨C,R,c1,p1,s1⟩ ⟨g1,g2,g3,g4,g5⟩
  simp only at g1 g2 g3 g4 g5
  exact Tt.pure ⟨g1,by simp only;omega,by simp only;omega,by simp only;omega,by simp only;omega⟩
theorem consistent_eq (C A L:List D) (hL:Sq C.length L) (hC:C.length≤10):Z65 (nums C) A L=some (allN (fun i=>!at2 L i i) C.length):=by
 have hn:(nums C).length=C.length:=by simp [nums]
 have h:=fxAll (F:=fun i=>Z64 (nums C) A L C.length i) (len:=C.length) (fun i=>!at2 L i i) (.inl false) (fin:=.inr ()) (fun i hi=>by
  show Z64 (nums C) A L C.length i=_
  rw [Z64_fx]
  unfold c_Z64
  have h1:(i:Int)<C.length:=by omega
  have g1:(0:Int)≤(i:Int)∧(i:Int)<L.length:=by rw [hL.len];omega
  have g2:(0:Int)≤(i:Int)∧(i:Int)<(L.getD i (.int 0)).items.length:=by rw [hL.row i hi];omega
  have r1:((L.getD i (.int 0)).items.getD i (.int 0)).toBool=at2 L i i:=rfl
  simp only [h1,decide_true,cond_true,tn,if_pos g1,if_pos g2,r1,Qf (show i<4611686018427387904 by omega),Option.bind_fun_some]
  cases at2 L i i<;>rfl)
  (by
   show Z64 (nums C) A L C.length C.length=_
   rw [Z64_fx];unfold c_Z64;simp)
 have h':Z64 (nums C) A L C.length 0=_:=h
 simp only [Z65,c_Z65,hn,h',ob]
 cases allN (fun i=>!at2 L i i) C.length<;>rfl
structure Good5 (C R A L B:List D):Prop where
 l5:Z80 C R=some true
 cons:Z66 C R=some (.inr (nums C,A,L,true))
 later:Z28 C R=some B
 bq:Bq C.length B
 hb:∀ a b,b2 B a b=at2 L a b
 sq:Sq C.length L
 hn:C.length≤10
 trans:∀ a b c,at2 L a b=true→at2 L b c=true→at2 L a c=true
 irr:∀ a,at2 L a a=false
 v:validB C R=true
theorem l4Consistent_eq {C R B L:List D} (h1:Z28 C R=some B) (hB:Bq C.length B) (hb:∀ a b,b2 B a b=at2 L a b) (hn:C.length≤10):Z31 C R=some (allN (fun i=>!at2 L i i) C.length):=by
 have h:=fxAll (F:=fun i=>Z30 i B) (len:=C.length) (fun i=>!at2 L i i) (.inl false) (fin:=.inr ()) (fun i hi=>by
  show Z30 i B=_
  rw [Z30_fx]
  unfold c_Z30
  have g1:(i:Int)<B.length:=by rw [hB.len];omega
  have g2:i+1≤B.length:=by rw [hB.len];omega
  obtain ⟨v,e1,e2⟩:=hB.rng i hi
  have e3:v.testBit i=at2 L i i:=by rw [← hb,b2,e1];rfl
  simp only [g1,g2,decide_true,cond_true,Int.natCast_nonneg,and_self,if_true,tn,e1,l4Bit_eq v i e2 (by omega),ob,e3,Qf (show i<4611686018427387904 by omega),Option.bind_fun_some]
  cases at2 L i i<;>rfl)
  (by
   show Z30 (C.length:Int) B=_
   rw [Z30_fx];unfold c_Z30;simp [hB.len])
 have h:Z30 0 B=_:=h
 simp only [Z31,c_Z31,h1,h,ob]
 cases allN (fun i=>!at2 L i i) C.length<;>rfl
theorem cases5 (C R:List D):(Z80 C R=some false∧(Z66 C R=some (.inl false)∨∃ a b c,Z66 C R=some (.inr (a,b,c,false))))∨∃ A L B,Good5 C R A L B:=by
 have hl:=l2Good_eq C R
 have hv:=valid_eq C R
 cases hb:validB C R with
 | false=>
  left
  rw [hb] at hl hv
  constructor
  ·simp only [Z80,c_Z80,hl,ob,cond_false]
  ·left;simp only [Z66,c_Z66,hv,ob,Bool.not_false,cond_true]
 | true=>
  rw [hb] at hl hv
  have hC:C.length≤10:=by
   have h:=hb
   simp only [validB,Bool.and_eq_true,decide_eq_true_eq] at h
   exact h.1
  obtain ⟨A,L,o1,o2,o3,o4⟩:=order_eq C R hb
  obtain ⟨B,b1,b2',b3⟩:=bits_eq C R hb
  have hbb:=b3 L o4
  have hcons:=consistent_eq C A L o4.sq hC
  have hs:=l4Consistent_eq b1 b2' hbb hC
  cases hq:allN (fun i=>!at2 L i i) C.length with
  | false=>
   left
   rw [hq] at hcons hs
   constructor
   ·simp only [Z80,c_Z80,hl,ob,cond_true,hs]
   ·right
    refine ⟨nums C,A,L,?_⟩
    simp only [Z66,c_Z66,hv,ob,Bool.not_true,cond_false,o1,hcons]
  | true=>
   right
   rw [hq] at hcons hs
   have hc:Z66 C R=some (.inr (nums C,A,L,true)):=by
    simp only [Z66,c_Z66,hv,ob,Bool.not_true,cond_false,o1,hcons]
   refine ⟨A,L,B,⟨?_,hc,b1,b2',hbb,o4.sq,hC,o4.trans,?_,hb⟩⟩
   ·simp only [Z80,c_Z80,hl,ob,cond_true,hs]
   ·intro a
    by_cases ha:a<C.length
    ·have:=allN_iff.1 hq a ha
     simpa using this
    ·cases h:at2 L a a with
     | false=>rfl
     | true=>exact absurd (at2_lt o4.sq h).1 ha
structure Good6 (C R A L:List D):Prop where
 cons:Z66 C R=some (.inr (nums C,A,L,true))
 ord:Z63 C R=some (nums C,A,L)
 sA:Sq C.length A
 ab:∀ x y,at2 A x y=true↔edge C R x y
 la:Later C.length (edge C R) L
 irr:∀ a,at2 L a a=false
 v:validB C R=true
 hC:C.length≤10
 hR:R.length≤24
theorem good6_of {C R A L B:List D} (g:Good5 C R A L B):Good6 C R A L:=by
 obtain ⟨A',L',o1,o2,o3,o4⟩:=order_eq C R g.v
 have hc:=g.cons
 have hcons:=consistent_eq C A' L' o4.sq g.hn
 simp only [Z66,c_Z66,valid_eq,g.v,ob,Bool.not_true,cond_false,o1,hcons,oj,Sum.inr.injEq,pj,true_and] at hc
 obtain ⟨rfl,rfl,_⟩:=hc
 have hv:=g.v
 simp only [validB,Bool.and_eq_true,decide_eq_true_eq] at hv
 exact ⟨g.cons,o1,o2,o3,o4,g.irr,g.v,hv.1,hv.2.1⟩
theorem good6_mk {C R:List D} (hv:validB C R=true) (hi:∀ L,Later C.length (edge C R) L→∀ a,at2 L a a=false):∃ A L,Good6 C R A L:=by
 have hv':=hv
 simp only [validB,Bool.and_eq_true,decide_eq_true_eq] at hv'
 obtain ⟨A,L,o1,o2,o3,o4⟩:=order_eq C R hv
 have hirr:=hi L o4
 have hcons:=consistent_eq C A L o4.sq hv'.1
 have hall:allN (fun i=>!at2 L i i) C.length=true:=allN_iff.2 (fun i _=>by rw [hirr];rfl)
 refine ⟨A,L,⟨?_,o1,o2,o3,o4,hirr,hv,hv'.1,hv'.2.1⟩⟩
 simp only [Z66,c_Z66,valid_eq,hv,ob,Bool.not_true,cond_false,o1,hcons,hall]
theorem find_numAt {C R:List D} (hv:validB C R=true) {i:Nat} (hi:i<C.length):find2 C (numAt C i)=(i:Int):=by
 have h0:0≤find2 C (numAt C i):=by
  unfold find2
  cases hf:QJ (fun j=>decide (((C[j]?.getD (.int 0)).fld 0).toInt=numAt C i)) C.length with
  | some j=>simp
  | none=>
   have:=WR hf i hi
   simp [numAt] at this
 obtain ⟨j,j1,j2,j3⟩:=find2_some h0
 have:j=i:=numAt_inj hv j1 hi j3
 rw [j2,this]
theorem rel_at {C R:List D} (hv:validB C R=true) {d:D} (hd:d∈R):∃ a b,a<C.length∧b<C.length∧a≠b∧(d.fld 0).toInt=numAt C a∧(d.fld 1).toInt=numAt C b∧find2 C (d.fld 0).toInt=(a:Int)∧find2 C (d.fld 1).toInt=(b:Int)∧edge C R a b:=by
 obtain ⟨j,hj,rfl⟩:=List.getElem_of_mem hd
 obtain ⟨a,b,q1,q2,q3,q4,q5,q6,q7⟩:=rOk_at hv hj
 have e:R[j]?.getD (.int 0)=R[j]:=by simp [hj]
 have hE:edge C R a b:=⟨j,hj,q4,q5⟩
 rw [e] at q4 q5 q6 q7
 exact ⟨a,b,q1,q2,q3,q6.symm,q7.symm,q4,q5,hE⟩
theorem edge_mem {C R:List D} {a b:Nat}:edge C R a b↔∃ d∈R,find2 C (d.fld 0).toInt=(a:Int)∧find2 C (d.fld 1).toInt=(b:Int):=by
 constructor
 ·rintro ⟨j,hj,h1,h2⟩
  exact ⟨_,K7 hj,h1,h2⟩
 ·rintro ⟨d,hd,h1,h2⟩
  obtain ⟨j,hj,rfl⟩:=List.getElem_of_mem hd
  have e:R[j]?.getD (.int 0)=R[j]:=by simp [hj]
  exact ⟨j,hj,by rw [e];exact h1,by rw [e];exact h2⟩
def relLt (x y:D):Prop:=lexB (x.fld 0).toInt (x.fld 1).toInt (y.fld 0).toInt (y.fld 1).toInt=true
theorem lexB_iff {a b c d:Int}:lexB a b c d=true↔a<c∨a=c∧b<d:=by simp [lexB]
theorem relLt_trans {x y z:D} (h1:relLt x y) (h2:relLt y z):relLt x z:=by
 unfold relLt at *
 rw [lexB_iff] at *
 omega
def relOk (C:List D) (d:D):Prop:=(d.fld 0).toInt≠(d.fld 1).toInt∧0≤find2 C (d.fld 0).toInt∧0≤find2 C (d.fld 1).toInt
theorem rOk_iff {C R:List D}:allN (rOk C R) R.length=true↔(∀ d∈R,relOk C d)∧R.Pairwise relLt:=by
 have get:∀ i (h:i<R.length),R[i]?.getD (.int 0)=R[i]:=fun i h=>by simp [h]
 rw [allN_iff]
 constructor
 ·intro h
  refine ⟨fun d hd=>?_,?_⟩
  ·obtain ⟨j,hj,rfl⟩:=List.getElem_of_mem hd
   have:=h j hj
   simp only [rOk,get j hj,Bool.and_eq_true,Bool.not_eq_true',decide_eq_true_eq,decide_eq_false_iff_not] at this
   exact ⟨this.1,this.2.1,this.2.2.1⟩
  ·have step:∀ j (hj:j+1<R.length),relLt (R[j]'(by omega)) R[j+1]:=fun j hj=>by
    have:=h (j+1) hj
    simp only [rOk,Bool.and_eq_true,Bool.or_eq_true,decide_eq_true_eq] at this
    rw [get (j+1) hj,show j+1 - 1=j by omega,get j (by omega)] at this
    rcases this.2.2.2 with h | h
    ·omega
    ·exact h
   have far:∀ k j (hj:j+(k+1)<R.length),relLt (R[j]'(by omega)) R[j+(k+1)]:=by
    intro k
    induction k with
    | zero=>intro j hj;exact step j hj
    | succ k ih=>intro j hj;exact relLt_trans (ih j (by omega)) (step (j+(k+1)) (by omega))
   rw [List.pairwise_iff_getElem]
   intro i j hi hj hij
   have:=far (j - i - 1) i (by omega)
   have e:i+(j - i - 1+1)=j:=by omega
   simp only [e] at this
   exact this
 ·rintro ⟨h1,h2⟩ i hi
  have:=h1 _ (List.getElem_mem hi)
  simp only [rOk,Bool.and_eq_true,Bool.not_eq_true',Bool.or_eq_true,decide_eq_true_eq,decide_eq_false_iff_not,get i hi]
  refine ⟨this.1,this.2.1,this.2.2,?_⟩
  by_cases h0:i=0
  ·exact .inl h0
  ·right
   rw [get (i - 1) (by omega)]
   exact (List.pairwise_iff_getElem.1 h2) (i - 1) i (by omega) hi (by omega)
theorem validB_iff {C R:List D}:validB C R=true↔C.length≤10∧R.length≤24∧allN (cOk C) C.length=true∧(∀ d∈R,relOk C d)∧R.Pairwise relLt:=by
 simp only [validB,Bool.and_eq_true,decide_eq_true_eq,rOk_iff]
def redB (n:Nat) (A L:List D) (i k:Nat):Bool:=!allN (fun j=>!(at2 A i j&&at2 L j k)) n
theorem redB_iff {n:Nat} {A L:List D} {i k:Nat}:redB n A L i k=true↔∃ j,j<n∧at2 A i j=true∧at2 L j k=true:=by
 unfold redB
 constructor
 ·intro h
  apply Classical.byContradiction
  intro hn
  have:allN (fun j=>!(at2 A i j&&at2 L j k)) n=true:=allN_iff.2 (fun j hj=>by
   cases h1:at2 A i j with
   | false=>rfl
   | true=>
    cases h2:at2 L j k with
    | false=>rfl
    | true=>exact absurd ⟨j,hj,h1,h2⟩ hn)
  rw [this] at h;cases h
 ·rintro ⟨j,hj,h1,h2⟩
  cases h:allN (fun j=>!(at2 A i j&&at2 L j k)) n with
  | false=>rfl
  | true=>
   have:=allN_iff.1 h j hj
   rw [h1,h2] at this;cases this
theorem redundant_eq {C A L:List D} (hA:Sq C.length A) (hL:Sq C.length L) (hC:C.length≤10) {i k:Nat} (hi:i<C.length) (hk:k<C.length):Z72 (nums C) A L i k=some (redB C.length A L i k):=by
 have hn:(nums C).length=C.length:=by simp [nums]
 have h:=fxAll (F:=fun j=>Z71 (nums C) A L i k C.length j) (len:=C.length) (fun j=>!(at2 A i j&&at2 L j k)) (.inl true) (fin:=.inr ()) (fun j hj=>by
  show Z71 (nums C) A L i k C.length j=_
  rw [Z71_fx]
  unfold c_Z71
  have h1:(j:Int)<C.length:=by omega
  have g1:(0:Int)≤(i:Int)∧(i:Int)<A.length:=by rw [hA.len];omega
  have g2:(0:Int)≤(j:Int)∧(j:Int)<(A.getD i (.int 0)).items.length:=by rw [hA.row i hi];omega
  have g3:(0:Int)≤(j:Int)∧(j:Int)<L.length:=by rw [hL.len];omega
  have g4:(0:Int)≤(k:Int)∧(k:Int)<(L.getD j (.int 0)).items.length:=by rw [hL.row j hj];omega
  have r1:((A.getD i (.int 0)).items.getD j (.int 0)).toBool=at2 A i j:=rfl
  have r2:((L.getD j (.int 0)).items.getD k (.int 0)).toBool=at2 L j k:=rfl
  simp only [h1,decide_true,cond_true,tn,if_pos g1,if_pos g2,if_pos g3,if_pos g4,r1,r2,Qf (show j<4611686018427387904 by omega),Option.bind_fun_some]
  cases at2 A i j with
  | false=>rfl
  | true=>cases at2 L j k<;>rfl)
  (by
   show Z71 (nums C) A L i k C.length C.length=_
   rw [Z71_fx];unfold c_Z71;simp)
 have h':Z71 (nums C) A L i k C.length 0=_:=h
 unfold redB
 simp only [Z72,c_Z72,hn,h',ob]
 cases allN (fun j=>!(at2 A i j&&at2 L j k)) C.length<;>rfl
def cRel (d:D):D:=.node [.int (d.fld 0).toInt,.int (d.fld 1).toInt]
def redD (C A L:List D) (d:D):Bool:=redB C.length A L (find2 C (d.fld 0).toInt).toNat (find2 C (d.fld 1).toInt).toNat
theorem cRel0 (d:D):((cRel d).fld 0).toInt=(d.fld 0).toInt:=rfl
theorem cRel1 (d:D):((cRel d).fld 1).toInt=(d.fld 1).toInt:=rfl
def redsIf (C R A L:List D) (is:Bool):List D:=(R.filter (fun d=>redD C A L d==is)).map cRel
theorem reds_eq {C R A L:List D} (g:Good6 C R A L) (is:Bool):Z74 C R (nums C) A L is=some (redsIf C R A L is):=by
 have key:∀ (m j:Nat) (acc:List D),j+m=R.length→acc.length≤j→Z73 (nums C) A L is R R.length j C R acc=some (acc++redsIf C (R.drop j) A L is):=by
  intro m
  induction m with
  | zero=>
   intro j acc hj ha
   have:j=R.length:=by omega
   subst this
   rw [Z73_fx]
   unfold c_Z73
   simp [redsIf]
  | succ m ih=>
   intro j acc hj ha
   have hjR:j<R.length:=by omega
   rw [Z73_fx]
   unfold c_Z73
   have h1:(j:Int)<R.length:=by omega
   obtain ⟨a,b,q1,q2,q3,q4,q5,_⟩:=rOk_at g.v hjR
   have hr:redD C A L (R[j]?.getD (.int 0))=redB C.length A L a b:=by
    unfold redD;rw [q4,q5];rfl
   have hR:=g.hR
   have h4:acc.length+[D.node [D.int ((R.getD j (.int 0)).fld 0).toInt,D.int ((R.getD j (.int 0)).fld 1).toInt]].length≤4294967296:=by
    simp only [List.length_cons,List.length_nil];omega
   have hd:redsIf C (R.drop j) A L is=(bif redB C.length A L a b==is then [cRel (R[j]?.getD (.int 0))] else [])++redsIf C (R.drop (j+1)) A L is:=by
    unfold redsIf
    rw [K8 hjR,List.filter_cons,hr]
    cases redB C.length A L a b==is<;>rfl
   rw [hd]
   rw [← List.getD_eq_getElem?_getD] at q4 q5
   simp only [h1,decide_true,cond_true,Int.natCast_nonneg,and_self,if_true,tn,indexOf_eq C R _ (show C.length≤100000 by have:=g.hC;omega),q4,q5,ob,redundant_eq g.sA g.la.sq g.hC q1 q2,if_pos h4,Qf (show j<4611686018427387904 by omega)]
   cases redB C.length A L a b==is with
   | false=>
    simp only [cond_false,List.nil_append]
    rw [ih (j+1) acc (by omega) (by omega)]
    rfl
   | true=>
    simp only [cond_true]
    rw [ih (j+1) _ (by omega) (by simp;omega),List.append_assoc,← List.getD_eq_getElem?_getD]
    rfl
 have h':Z73 (nums C) A L is R R.length 0 C R []=_:=key R.length 0 [] (by omega) (by simp)
 simp only [Z74,c_Z74,h',ob,List.drop_zero,List.nil_append]
theorem countP_lt {l:List Nat} {p q:Nat→Bool} (h:∀ x∈l,p x=true→q x=true) {y:Nat} (hy:y∈l) (hq:q y=true) (hp:p y=false):l.countP p<l.countP q:=by
 induction l with
 | nil=>cases hy
 | cons x l ih=>
  rw [List.countP_cons,List.countP_cons]
  have hle:l.countP p≤l.countP q:=List.countP_mono_left (fun z hz=>h z (List.mem_cons_of_mem _ hz))
  rcases List.mem_cons.1 hy with rfl | hy
  ·rw [hp,hq];simp;omega
  ·have:=ih (fun z hz=>h z (List.mem_cons_of_mem _ hz)) hy
   have hx:=h x (List.mem_cons_self ..)
   cases hpx:p x with
   | false=>simp;omega
   | true=>rw [hx hpx];simp;omega
section
variable {C R A L:List D} (g:Good6 C R A L)
def betw (n:Nat) (L:List D) (i k:Nat):Nat:=(List.range n).countP (fun j=>at2 L i j&&at2 L j k)
include g in
theorem redsIf_valid:validB C (redsIf C R A L false)=true:=by
 have hv:=validB_iff.1 g.v
 obtain ⟨v1,v2,v3,v4,v5⟩:=hv
 refine validB_iff.2 ⟨v1,?_,v3,?_,?_⟩
 ·unfold redsIf
  rw [List.length_map]
  exact Nat.le_trans (List.length_filter_le _ _) v2
 ·intro d hd
  obtain ⟨x,hx,rfl⟩:=List.mem_map.1 hd
  exact v4 x (List.mem_filter.1 hx).1
 ·unfold redsIf
  rw [List.pairwise_map]
  exact List.Pairwise.filter _ v5
include g in
theorem redsIf_edge {a b:Nat}:edge C (redsIf C R A L false) a b↔edge C R a b∧redB C.length A L a b=false:=by
 rw [edge_mem,edge_mem]
 constructor
 ·rintro ⟨d,hd,h1,h2⟩
  obtain ⟨x,hx,rfl⟩:=List.mem_map.1 hd
  obtain ⟨x1,x2⟩:=List.mem_filter.1 hx
  rw [cRel0] at h1;rw [cRel1] at h2
  refine ⟨⟨x,x1,h1,h2⟩,?_⟩
  unfold redD at x2
  rw [h1,h2] at x2
  simpa using x2
 ·rintro ⟨⟨x,x1,h1,h2⟩,h3⟩
  refine ⟨cRel x,List.mem_map.2 ⟨x,List.mem_filter.2 ⟨x1,?_⟩,rfl⟩,h1,h2⟩
  unfold redD
  rw [h1,h2]
  simpa using h3
include g in
theorem reduced_later {L':List D} (h':Later C.length (edge C (redsIf C R A L false)) L'):∀ a b,at2 L' a b=at2 L a b:=by
 have down:∀ a b,at2 L' a b=true→at2 L a b=true:=h'.min (fun a b=>at2 L a b=true) g.la.trans (fun a b he=>g.la.base _ _ ((redsIf_edge g).1 he).1)
 have key:∀ (m a b:Nat),betw C.length L a b≤m→at2 L a b=true→at2 L' a b=true:=by
  intro m
  induction m with
  | zero=>
   intro a b hm hab
   have hlt:=at2_lt g.la.sq hab
   have no:∀ j,at2 L a j=true→at2 L j b=true→False:=fun j h1 h2=>by
    have hj:=at2_lt g.la.sq h1
    have:0<betw C.length L a b:=List.countP_pos_iff.2 ⟨j,List.mem_range.2 hj.2,by simp [h1,h2]⟩
    omega
   refine h'.base _ _ ((redsIf_edge g).2 ⟨?_,?_⟩)
   ·rcases g.la.min (fun x y=>at2 L x y=true∧(edge C R x y∨∃ j,at2 L x j=true∧at2 L j y=true)) (fun x y z h1 h2=>⟨g.la.trans _ _ _ h1.1 h2.1,.inr ⟨y,h1.1,h2.1⟩⟩) (fun x y he=>⟨g.la.base _ _ he,.inl he⟩) a b hab with ⟨_,h | ⟨j,h1,h2⟩⟩
    ·exact h
    ·exact (no j h1 h2).elim
   ·cases hr:redB C.length A L a b with
    | false=>rfl
    | true=>
     obtain ⟨j,_,h1,h2⟩:=redB_iff.1 hr
     exact (no j (g.la.base _ _ ((g.ab _ _).1 h1)) h2).elim
  | succ m ih=>
   intro a b hm hab
   by_cases hno:∃ j,at2 L a j=true∧at2 L j b=true
   ·obtain ⟨j,h1,h2⟩:=hno
    have hj:=at2_lt g.la.sq h1
    have c1:betw C.length L a j<betw C.length L a b:=countP_lt (fun x _ hx=>by
     simp only [Bool.and_eq_true] at hx ⊢
     exact ⟨hx.1,g.la.trans _ _ _ hx.2 h2⟩) (List.mem_range.2 hj.2) (by simp [h1,h2]) (by simp [g.irr])
    have c2:betw C.length L j b<betw C.length L a b:=countP_lt (fun x _ hx=>by
     simp only [Bool.and_eq_true] at hx ⊢
     exact ⟨g.la.trans _ _ _ h1 hx.1,hx.2⟩) (List.mem_range.2 hj.2) (by simp [h1,h2]) (by simp [g.irr])
    exact h'.trans _ _ _ (ih a j (by omega) h1) (ih j b (by omega) h2)
   ·have:betw C.length L a b=0:=by
     apply Nat.eq_zero_of_not_pos
     intro hp
     obtain ⟨j,_,hj⟩:=List.countP_pos_iff.1 hp
     simp only [Bool.and_eq_true] at hj
     exact hno ⟨j,hj.1,hj.2⟩
    exact ih a b (by omega) hab
 intro a b
 cases hab:at2 L a b with
 | true=>exact key _ a b (Nat.le_refl _) hab
 | false=>
  cases h:at2 L' a b with
  | false=>rfl
  | true=>rw [down a b h] at hab;cases hab
include g in
theorem reduced_good:∃ A' L',Good6 C (redsIf C R A L false) A' L'∧(∀ a b,at2 L' a b=at2 L a b)∧redsIf C (redsIf C R A L false) A' L' true=[]:=by
 obtain ⟨A',L',g'⟩:=good6_mk (redsIf_valid g) (fun L' h' a=>by rw [reduced_later g h',g.irr])
 have hl:=reduced_later g g'.la
 refine ⟨A',L',g',hl,?_⟩
 generalize hS:redsIf C R A L false=S at g' ⊢
 unfold redsIf
 rw [List.map_eq_nil_iff,List.filter_eq_nil_iff]
 intro d hd hq
 obtain ⟨a,b,q1,q2,q3,q4,q5,q6,q7,q8⟩:=rel_at g'.v hd
 unfold redD at hq
 rw [q6,q7] at hq
 have hq':redB C.length A' L' a b=true:=by simpa using hq
 obtain ⟨j,j1,j2,j3⟩:=redB_iff.1 hq'
 have e1:=(g'.ab _ _).1 j2
 rw [← hS] at e1 q8
 have e2:=(redsIf_edge g).1 e1
 have e3:=(redsIf_edge g).1 q8
 have:redB C.length A L a b=true:=redB_iff.2 ⟨j,j1,(g.ab _ _).2 e2.1,by rw [← hl];exact j3⟩
 rw [e3.2] at this;cases this
end
def fv (F:List D) (i:Nat):Int:=(F.getD i (.int 0)).toInt
theorem fv_set {F:List D} {i j:Nat} {v:Int} (h:i<F.length):fv (F.set i (.int v)) j=if i=j then v else fv F j:=by
 unfold fv
 rw [getD_set h]
 split<;>rfl
structure Rlx (n:Nat) (F P:Nat→Nat→Prop) (X Y:List D):Prop where
 len:Y.length=n
 mono:∀ i,fv X i≤fv Y i
 rel:∀ j i,P j i→F j i→fv X j+1≤fv Y i
 bnd:∀ b:Nat→Int,(∀ j i,F j i→b j+1≤b i)→(∀ i,fv X i≤b i)→∀ i,fv Y i≤b i
 jus:(∀ i,0<fv X i→∃ j,F j i∧fv X i≤fv X j+1)→∀ i,0<fv Y i→∃ j,F j i∧fv Y i≤fv Y j+1
theorem Rlx.refl {n:Nat} {F:Nat→Nat→Prop} {X:List D} (h:X.length=n):Rlx n F (fun _ _=>False) X X:=
 ⟨h,fun _=>Int.le_refl _,fun _ _ h=>h.elim,fun _ _ h=>h,fun h=>h⟩
theorem Rlx.trans {n:Nat} {F P Q:Nat→Nat→Prop} {X Y Z:List D} (h:Rlx n F P X Y) (k:Rlx n F Q Y Z):Rlx n F (fun j i=>P j i∨Q j i) X Z:=by
 refine ⟨k.len,fun i=>Int.le_trans (h.mono i) (k.mono i),fun j i hp hf=>?_,fun b hb hX=>k.bnd b hb (h.bnd b hb hX),fun hX=>k.jus (h.jus hX)⟩
 rcases hp with hp | hp
 ·exact Int.le_trans (h.rel j i hp hf) (k.mono i)
 ·have h1:=h.mono j
  have h2:=k.rel j i hp hf
  omega
theorem Rlx.imp {n:Nat} {F P Q:Nat→Nat→Prop} {X Y:List D} (h:Rlx n F P X Y) (hq:∀ j i,Q j i→F j i→P j i):Rlx n F Q X Y:=
 ⟨h.len,h.mono,fun j i q f=>h.rel j i (hq j i q f) f,h.bnd,h.jus⟩
theorem Rlx.step {n:Nat} {F:Nat→Nat→Prop} {X:List D} {j i:Nat} (hX:X.length=n) (hi:i<n) (hji:j≠i) (hf:F j i) {v:Int} (hv:v=if fv X j+1 > fv X i then fv X j+1 else fv X i):Rlx n F (fun a b=>a=j∧b=i) X (X.set i (.int v)):=by
 have hs:∀ a,fv (X.set i (.int v)) a=if i=a then v else fv X a:=fun a=>fv_set (by omega)
 have hv1:fv X i≤v:=by rw [hv];split<;>omega
 have hv2:fv X j+1≤v:=by rw [hv];split<;>omega
 refine ⟨by simp [hX],fun a=>?_,fun a b hp hf=>?_,fun b hb hX a=>?_,fun hJ a ha=>?_⟩
 ·rw [hs];split
  ·rename_i e;subst e;exact hv1
  ·exact Int.le_refl _
 ·obtain ⟨rfl,rfl⟩:=hp
  rw [hs,if_pos rfl];exact hv2
 ·rw [hs];split
  ·rename_i e;subst e
   have h1:=hb _ _ hf
   have h2:=hX i
   have h3:=hX j
   rw [hv];split<;>omega
  ·exact hX a
 ·rw [hs] at ha
  split at ha
  ·rename_i e;subst e
   by_cases hc:fv X j+1 > fv X i
   ·refine ⟨j,hf,?_⟩
    rw [hs,hs,if_pos rfl,if_neg (fun e=>hji e.symm),hv,if_pos hc]
    exact Int.le_refl _
   ·rw [if_neg hc] at hv
    obtain ⟨k,k1,k2⟩:=hJ i (by omega)
    refine ⟨k,k1,?_⟩
    rw [hs,hs,if_pos rfl]
    split
    ·omega
    ·omega
  ·rename_i e
   obtain ⟨k,k1,k2⟩:=hJ a ha
   refine ⟨k,k1,?_⟩
   rw [hs,hs,if_neg e]
   split
   ·rename_i e2;subst e2;omega
   ·exact k2
structure Holds (n:Nat) (F:Nat→Nat→Prop) (b:Nat→Int) (r:Int) (X:List D):Prop where
 len:X.length=n
 pos:∀ i,0≤fv X i
 bnd:∀ i,fv X i≤b i
 jus:∀ i,0<fv X i→∃ j,F j i∧fv X i≤fv X j+1
 hold:∀ j i,F j i→b i≤r→fv X j+1≤fv X i
theorem Holds.round {n:Nat} {F P:Nat→Nat→Prop} {b:Nat→Int} (hb:∀ j i,F j i→b j+1≤b i) {r:Int} {X Y:List D} (h:Holds n F b r X) (k:Rlx n F P X Y) (hP:∀ j i,F j i→P j i):Holds n F b (r+1) Y:=by
 refine ⟨k.len,fun i=>Int.le_trans (h.pos i) (k.mono i),k.bnd b hb h.bnd,k.jus h.jus,fun j i hf hi=>?_⟩
 have h1:=hb j i hf
 have h2:fv Y j≤if b j≤r then fv X j else b j:=by
  refine k.bnd (fun i=>if b i≤r then fv X i else b i) (fun a c hac=>?_) (fun a=>?_) j
  ·have h3:=hb a c hac
   have h4:=h.bnd a
   by_cases hc:b c≤r
   ·have:=h.hold a c hac hc
    simp only [if_pos hc,if_pos (show b a≤r by omega)]
    exact this
   ·by_cases ha:b a≤r
    ·simp only [if_neg hc,if_pos ha];omega
    ·simp only [if_neg hc,if_neg ha];omega
  ·split
   ·exact Int.le_refl _
   ·exact h.bnd a
 rw [if_pos (show b j≤r by omega)] at h2
 have h3:=k.rel j i (hP j i hf) hf
 omega
theorem far_end {F:Nat→Nat→Prop} {x y:Nat→Int} (hx0:∀ i,0≤x i) (hx:∀ i,0<x i→∃ j,F j i∧x i≤x j+1) (hxh:∀ j i,F j i→x j+1≤x i) (hy:∀ j i,F j i→y i+1≤y j):∀ (m:Nat) (i:Nat),x i≤m→∃ e,(e=i∨∃ k,F e k)∧y i+x i≤y e:=by
 intro m
 induction m with
 | zero=>
  intro i hi
  have:=hx0 i
  exact ⟨i,.inl rfl,by omega⟩
 | succ m ih=>
  intro i hi
  by_cases h0:0<x i
  ·obtain ⟨j,j1,j2⟩:=hx i h0
   have j3:=hxh j i j1
   obtain ⟨e,e1,e2⟩:=ih j (by omega)
   have h3:=hy j i j1
   refine ⟨e,?_,by omega⟩
   rcases e1 with rfl | e1
   ·exact .inr ⟨i,j1⟩
   ·exact .inr e1
  ·have:=hx0 i
   exact ⟨i,.inl rfl,by omega⟩
theorem Holds.zero {n:Nat} {F:Nat→Nat→Prop} {b:Nat→Int} (h0:∀ i,0≤b i) (hb:∀ j i,F j i→b j+1≤b i):Holds n F b 0 (List.replicate n (.int 0)):=by
 have hz:∀ i,fv (List.replicate n (D.int 0)) i=0:=fun i=>by
  unfold fv
  rw [List.getD_eq_getElem?_getD,List.getElem?_replicate]
  split<;>rfl
 refine ⟨by simp,fun i=>by rw [hz];omega,fun i=>by rw [hz];exact h0 i,fun i hi=>by rw [hz] at hi;omega,fun j i hf hi=>?_⟩
 have:=hb j i hf
 have:=h0 j
 omega
section
variable {n:Nat} {A L nm:List D} {b:Nat→Int} (hn:n≤10) (hA:Sq n A) (hm:nm.length=n) (h0:∀ i,0≤b i) (h1:∀ i,b i≤10)
theorem raise_wrap {X:List D} (hp:∀ i,0≤fv X i) (hX:∀ i,fv X i≤b i) (h1:∀ i,b i≤10) (j:Nat):IntKind.i64.wrap ((X.getD j (.int 0)).toInt+1)=fv X j+1:=by
 have:=hp j
 have:=hX j
 have:=h1 j
 exact UI (show -9223372036854775808≤fv X j+1 by omega) (show fv X j+1≤9223372036854775807 by omega)
include hn hA hm h1 in
theorem depK (hb:∀ j i,at2 A j i=true→b j+1≤b i) {i:Nat} (hi:i<n) (a c d e:Int):∀ (m k:Nat) (X:List D),k+m=n→X.length=n→(∀ i,0≤fv X i)→(∀ i,fv X i≤b i) →
  ∃ Y,Z98 nm A L i a c d e n k X=some (nm,A,L,a,c,d,e,Y)∧Rlx n (fun j i=>at2 A j i=true) (fun j t=>j=i∧k≤t) X Y:=by
 intro m
 induction m with
 | zero=>
  intro k X hk hX hp hq
  have:k=n:=by omega
  subst this
  refine ⟨X,?_,(Rlx.refl hX).imp (fun j t q f=>?_)⟩
  ·rw [Z98_fx]
   unfold c_Z98
   simp
  ·have:=(at2_lt hA f).2;omega
 | succ m ih=>
  intro k X hk hX hp hq
  have hkn:k<n:=by omega
  have g0:(k:Int)<n:=by omega
  have g1:(0:Int)≤(i:Int)∧(i:Int)<A.length:=by rw [hA.len];omega
  have g2:(0:Int)≤(k:Int)∧(k:Int)<(A.getD i (.int 0)).items.length:=by rw [hA.row i hi];omega
  have g3:(0:Int)≤(k:Int)∧(k:Int)<X.length:=by omega
  have g4:k+1≤X.length:=by omega
  have g5:(0:Int)≤(i:Int)∧(i:Int)<X.length:=by omega
  have g6:i+1≤X.length:=by omega
  have r1:((A.getD i (.int 0)).items.getD k (.int 0)).toBool=at2 A i k:=rfl
  have rX:(X.getD k (.int 0)).toInt=fv X k:=rfl
  rw [Z98_fx]
  unfold c_Z98
  simp only [g0,decide_true,cond_true,tn,if_pos g1,if_pos g2,if_pos g3,if_pos g4,if_pos g5,if_pos g6,r1,Qf (show k<4611686018427387904 by omega),raise_wrap hp hq h1 i,rX]
  cases hik:at2 A i k with
  | false=>
   obtain ⟨Y,y1,y2⟩:=ih (k+1) X (by omega) hX hp hq
   simp only [cond_false,y1,ob]
   refine ⟨Y,rfl,y2.imp (fun j t q f=>?_)⟩
   by_cases ht:t=k
   ·obtain ⟨rfl,_⟩:=q;subst ht;rw [hik] at f;cases f
   ·exact ⟨q.1,by omega⟩
  | true=>
   have hik':i≠k:=fun e=>by have:=hb _ _ hik;subst e;omega
   have st:=Rlx.step (F:=fun j i=>at2 A j i=true) hX hkn hik' hik (v:=if fv X i+1 > fv X k then fv X i+1 else fv X k) rfl
   obtain ⟨Y,y1,y2⟩:=ih (k+1) _ (by omega) st.len (fun i=>Int.le_trans (hp i) (st.mono i)) (st.bnd b hb hq)
   simp only [cond_true,y1,ob]
   refine ⟨Y,rfl,(st.trans y2).imp (fun j t q f=>?_)⟩
   by_cases ht:t=k
   ·exact .inl ⟨q.1,ht⟩
   ·exact .inr ⟨q.1,by omega⟩
include hn hA hm h1 in
theorem depI (hb:∀ j i,at2 A j i=true→b j+1≤b i) (a c:Int):∀ (m i:Nat) (X:List D),i+m=n→X.length=n→(∀ i,0≤fv X i)→(∀ i,fv X i≤b i) →
  ∃ Y,Z99 nm A L a c n i X=some (nm,A,L,a,c,Y)∧Rlx n (fun j i=>at2 A j i=true) (fun j t=>i≤j) X Y:=by
 intro m
 induction m with
 | zero=>
  intro i X hi hX hp hq
  have:i=n:=by omega
  subst this
  refine ⟨X,?_,(Rlx.refl hX).imp (fun j t q f=>?_)⟩
  ·rw [Z99_fx]
   unfold c_Z99
   simp
  ·have:=(at2_lt hA f).1;omega
 | succ m ih=>
  intro i X hi hX hp hq
  have g0:(i:Int)<n:=by omega
  obtain ⟨Y,y1,y2⟩:=depK (L:=L) hn hA hm h1 hb (show i<n by omega) a c n i n 0 X (by omega) hX hp hq
  have y1':Z98 nm A L i a c n i n 0 X=_:=y1
  obtain ⟨Z,z1,z2⟩:=ih (i+1) Y (by omega) y2.len (fun i=>Int.le_trans (hp i) (y2.mono i)) (y2.bnd b hb hq)
  rw [Z99_fx]
  unfold c_Z99
  simp only [g0,decide_true,cond_true,hm,y1',ob,Qf (show i<4611686018427387904 by omega),z1]
  refine ⟨Z,rfl,(y2.trans z2).imp (fun j t q f=>?_)⟩
  by_cases hj:j=i
  ·exact .inl ⟨hj,Nat.zero_le _⟩
  ·exact .inr (by omega)
include hn hA hm h0 h1 in
theorem depR (hb:∀ j i,at2 A j i=true→b j+1≤b i):∀ (m r:Nat) (X:List D),r+m=n→Holds n (fun j i=>at2 A j i=true) b r X →
  ∃ Y,Z100 nm A L n r X=some Y∧Holds n (fun j i=>at2 A j i=true) b n Y:=by
 intro m
 induction m with
 | zero=>
  intro r X hr hX
  have:r=n:=by omega
  subst this
  refine ⟨X,?_,hX⟩
  rw [Z100_fx]
  unfold c_Z100
  simp
 | succ m ih=>
  intro r X hr hX
  have g0:(r:Int)<n:=by omega
  obtain ⟨Y,y1,y2⟩:=depI (L:=L) hn hA hm h1 hb n r n 0 X (by omega) hX.len hX.pos hX.bnd
  have y1':Z99 nm A L n r n 0 X=_:=y1
  obtain ⟨Z,z1,z2⟩:=ih (r+1) Y (by omega) (by
   have:=hX.round hb y2 (fun j i _=>Nat.zero_le _)
   exact this)
  refine ⟨Z,?_,z2⟩
  rw [Z100_fx]
  unfold c_Z100
  simp only [g0,decide_true,cond_true,hm,y1',ob,Qf (show r<4611686018427387904 by omega),z1]
include hn hA hm h1 in
theorem behK (hb:∀ j i,at2 A i j=true→b j+1≤b i) {i:Nat} (hi:i<n) (x0 a c d e:Int):∀ (m k:Nat) (X:List D),k+m=n→X.length=n→(∀ i,0≤fv X i)→(∀ i,fv X i≤b i) →
  ∃ Y,Z106 x0 i a c d e n k nm A L X=some (x0,a,c,d,e,nm,A,L,Y)∧Rlx n (fun j i=>at2 A i j=true) (fun j t=>t=i∧k≤j) X Y:=by
 intro m
 induction m with
 | zero=>
  intro k X hk hX hp hq
  have:k=n:=by omega
  subst this
  refine ⟨X,?_,(Rlx.refl hX).imp (fun j t q f=>?_)⟩
  ·rw [Z106_fx]
   unfold c_Z106
   simp
  ·have:=(at2_lt hA f).2;omega
 | succ m ih=>
  intro k X hk hX hp hq
  have hkn:k<n:=by omega
  have g0:(k:Int)<n:=by omega
  have g1:(0:Int)≤(i:Int)∧(i:Int)<A.length:=by rw [hA.len];omega
  have g1':i+1≤A.length:=by rw [hA.len];omega
  have g2:(0:Int)≤(k:Int)∧(k:Int)<(A.getD i (.int 0)).items.length:=by rw [hA.row i hi];omega
  have g2':k+1≤(A.getD i (.int 0)).items.length:=by rw [hA.row i hi];omega
  have g3:(0:Int)≤(k:Int)∧(k:Int)<X.length:=by omega
  have g4:k+1≤X.length:=by omega
  have g5:(0:Int)≤(i:Int)∧(i:Int)<X.length:=by omega
  have g6:i+1≤X.length:=by omega
  have r1:((A.getD i (.int 0)).items.getD k (.int 0)).toBool=at2 A i k:=rfl
  have rX:(X.getD i (.int 0)).toInt=fv X i:=rfl
  rw [Z106_fx]
  unfold c_Z106
  simp only [g0,decide_true,cond_true,tn,if_pos g1,if_pos g1',if_pos g2',if_pos g2,if_pos g3,if_pos g4,if_pos g5,if_pos g6,r1,Qf (show k<4611686018427387904 by omega),raise_wrap hp hq h1 k,rX]
  cases hik:at2 A i k with
  | false=>
   obtain ⟨Y,y1,y2⟩:=ih (k+1) X (by omega) hX hp hq
   simp only [cond_false,y1,ob]
   refine ⟨Y,rfl,y2.imp (fun j t q f=>?_)⟩
   by_cases ht:j=k
   ·obtain ⟨rfl,_⟩:=q;subst ht;rw [hik] at f;cases f
   ·exact ⟨q.1,by omega⟩
  | true=>
   have hik':k≠i:=fun e=>by have:=hb _ _ hik;subst e;omega
   have st:=Rlx.step (F:=fun j i=>at2 A i j=true) hX hi hik' hik (v:=if fv X k+1 > fv X i then fv X k+1 else fv X i) rfl
   obtain ⟨Y,y1,y2⟩:=ih (k+1) _ (by omega) st.len (fun i=>Int.le_trans (hp i) (st.mono i)) (st.bnd b hb hq)
   simp only [cond_true,y1,ob]
   refine ⟨Y,rfl,(st.trans y2).imp (fun j t q f=>?_)⟩
   by_cases ht:j=k
   ·exact .inl ⟨ht,q.1⟩
   ·exact .inr ⟨q.1,by omega⟩
include hn hA hm h1 in
theorem behI (hb:∀ j i,at2 A i j=true→b j+1≤b i) (a c:Int):∀ (m i:Nat) (X:List D),i+m=n→X.length=n→(∀ i,0≤fv X i)→(∀ i,fv X i≤b i) →
  ∃ Y,Z107 n a c n i nm A L X=some ((n:Int),a,c,nm,A,L,Y)∧Rlx n (fun j i=>at2 A i j=true) (fun j t=>i≤t) X Y:=by
 intro m
 induction m with
 | zero=>
  intro i X hi hX hp hq
  have:i=n:=by omega
  subst this
  refine ⟨X,?_,(Rlx.refl hX).imp (fun j t q f=>?_)⟩
  ·rw [Z107_fx]
   unfold c_Z107
   simp
  ·have:=(at2_lt hA f).1;omega
 | succ m ih=>
  intro i X hi hX hp hq
  have g0:(i:Int)<n:=by omega
  obtain ⟨Y,y1,y2⟩:=behK (L:=L) hn hA hm h1 hb (show i<n by omega) n a c n i n 0 X (by omega) hX hp hq
  have y1':Z106 n i a c n i n 0 nm A L X=_:=y1
  obtain ⟨Z,z1,z2⟩:=ih (i+1) Y (by omega) y2.len (fun i=>Int.le_trans (hp i) (y2.mono i)) (y2.bnd b hb hq)
  rw [Z107_fx]
  unfold c_Z107
  simp only [g0,decide_true,cond_true,y1',ob,Qf (show i<4611686018427387904 by omega),z1]
  refine ⟨Z,rfl,(y2.trans z2).imp (fun j t q f=>?_)⟩
  by_cases hj:t=i
  ·exact .inl ⟨hj,Nat.zero_le _⟩
  ·exact .inr (by omega)
include hn hA hm h0 h1 in
theorem behR (hb:∀ j i,at2 A i j=true→b j+1≤b i):∀ (m r:Nat) (X:List D),r+m=n→Holds n (fun j i=>at2 A i j=true) b r X →
  ∃ Y,Z108 n n r nm A L X=some ((n:Int),nm,A,L,Y)∧Holds n (fun j i=>at2 A i j=true) b n Y:=by
 intro m
 induction m with
 | zero=>
  intro r X hr hX
  have:r=n:=by omega
  subst this
  refine ⟨X,?_,hX⟩
  rw [Z108_fx]
  unfold c_Z108
  simp
 | succ m ih=>
  intro r X hr hX
  have g0:(r:Int)<n:=by omega
  obtain ⟨Y,y1,y2⟩:=behI (L:=L) hn hA hm h1 hb n r n 0 X (by omega) hX.len hX.pos hX.bnd
  have y1':Z107 n n r n 0 nm A L X=_:=y1
  obtain ⟨Z,z1,z2⟩:=ih (r+1) Y (by omega) (by
   have:=hX.round hb y2 (fun j i _=>Nat.zero_le _)
   exact this)
  refine ⟨Z,?_,z2⟩
  rw [Z108_fx]
  unfold c_Z108
  simp only [g0,decide_true,cond_true,y1',ob,Qf (show r<4611686018427387904 by omega),z1]
end
section
variable {n:Nat} {A L nm:List D} (hn:n≤10) (hA:Sq n A) (hm:nm.length=n) {X:List D} (hX:X.length=n) (hp:∀ i,0≤fv X i) (hq:∀ i,fv X i≤10)
include hn hA hX hp hq in
theorem downL {at0:Nat} (ha:at0<n) (out:List D):∀ (m k:Nat),k+m=n→(∃ j,k≤j∧at2 A at0 j=true∧fv X j=fv X at0 - 1) →
  ∃ j,j<n∧fv X j=fv X at0 - 1∧Z113 n at0 n k nm A L X out=some ((n:Int),(j:Int),nm,A,L,X,out):=by
 intro m
 induction m with
 | zero=>
  rintro k hk ⟨j,j1,j2,_⟩
  have:=(at2_lt hA j2).2
  omega
 | succ m ih=>
  rintro k hk ⟨j,j1,j2,j3⟩
  have hkn:k<n:=by omega
  have g0:(k:Int)<n:=by omega
  have g1:(0:Int)≤(at0:Int)∧(at0:Int)<A.length:=by rw [hA.len];omega
  have g1':at0+1≤A.length:=by rw [hA.len];omega
  have g2:(0:Int)≤(k:Int)∧(k:Int)<(A.getD at0 (.int 0)).items.length:=by rw [hA.row at0 ha];omega
  have g2':k+1≤(A.getD at0 (.int 0)).items.length:=by rw [hA.row at0 ha];omega
  have g3:(0:Int)≤(k:Int)∧(k:Int)<X.length:=by omega
  have g4:k+1≤X.length:=by omega
  have g5:(0:Int)≤(at0:Int)∧(at0:Int)<X.length:=by omega
  have g6:at0+1≤X.length:=by omega
  have r1:((A.getD at0 (.int 0)).items.getD k (.int 0)).toBool=at2 A at0 k:=rfl
  have rX:∀ i:Nat,(X.getD i (.int 0)).toInt=fv X i:=fun _=>rfl
  have w:IntKind.i64.wrap (fv X at0 - 1)=fv X at0 - 1:=by
   have:=hp at0
   have:=hq at0
   exact UI (by omega) (by omega)
  rw [Z113_fx]
  unfold c_Z113
  simp only [g0,decide_true,cond_true,tn,if_pos g1,if_pos g1',if_pos g2',if_pos g2,if_pos g3,if_pos g4,if_pos g5,if_pos g6,r1,rX,w,Qf (show k<4611686018427387904 by omega)]
  by_cases hb:at2 A at0 k=true∧fv X k=fv X at0 - 1
  ·refine ⟨k,hkn,hb.2,?_⟩
   simp only [hb.1,hb.2,decide_true,cond_true]
  ·obtain ⟨j',q1,q2,q3⟩:=ih (k+1) (by omega) ⟨j,by
    by_cases hjk:j=k
    ·subst hjk;exact absurd ⟨j2,j3⟩ hb
    ·omega,j2,j3⟩
   refine ⟨j',q1,q2,?_⟩
   cases hak:at2 A at0 k with
   | false=>simp only [cond_false,q3,ob]
   | true=>
    have:¬ fv X k=fv X at0 - 1:=fun e=>hb ⟨hak,e⟩
    simp only [cond_true,this,decide_false,cond_false,q3,ob]
include hn hA hm hX hp hq in
theorem walkD (hj:∀ i,0<fv X i→∃ j,at2 A i j=true∧fv X j=fv X i - 1):∀ (v at0:Nat) (out:List D),at0<n→fv X at0=v→out.length+v≤1000 →
  ∃ out',Z114 n at0 nm A L X out=some out'∧out'.length=out.length+v:=by
 intro v
 induction v with
 | zero=>
  intro at0 out ha hv ho
  have g5:(0:Int)≤(at0:Int)∧(at0:Int)<X.length:=by omega
  have g6:at0+1≤X.length:=by omega
  have rX:∀ i:Nat,(X.getD i (.int 0)).toInt=fv X i:=fun _=>rfl
  have h0:¬ (0:Int)<fv X at0:=by omega
  refine ⟨out,?_,rfl⟩
  rw [Z114_fx]
  unfold c_Z114
  simp only [if_pos g5,tn,if_pos g6,rX,h0,decide_false,cond_false]
 | succ v ih=>
  intro at0 out ha hv ho
  have g5:(0:Int)≤(at0:Int)∧(at0:Int)<X.length:=by omega
  have g6:at0+1≤X.length:=by omega
  have rX:∀ i:Nat,(X.getD i (.int 0)).toInt=fv X i:=fun _=>rfl
  have h0:(0:Int)<fv X at0:=by omega
  obtain ⟨j,j1,j2⟩:=hj at0 h0
  obtain ⟨k,k1,k2,k3⟩:=downL (L:=L) (nm:=nm) hn hA hX hp hq ha out n 0 (by omega) ⟨j,Nat.zero_le _,j1,j2⟩
  have k3':Z113 n at0 n 0 nm A L X out=_:=k3
  have z1:(0:Int)≤(k:Int)∧(k:Int)<nm.length:=by omega
  have z2:k+1≤nm.length:=by omega
  have z3:out.length+[D.int (nm.getD k (.int 0)).toInt].length≤4294967296:=by
   simp only [List.length_cons,List.length_nil];omega
  obtain ⟨out',o1,o2⟩:=ih k (out++[D.int (nm.getD k (.int 0)).toInt]) k1 (by omega) (by simp only [List.length_append,List.length_cons,List.length_nil];omega)
  refine ⟨out',?_,by rw [o2];simp only [List.length_append,List.length_cons,List.length_nil];omega⟩
  rw [Z114_fx]
  unfold c_Z114
  simp only [if_pos g5,tn,if_pos g6,rX,h0,decide_true,cond_true,k3',ob,if_pos z1,if_pos z2,if_pos z3,o1]
end
theorem max_eq (X:List D) (h:0<X.length) (hl:X.length≤1000):∃ a,a<X.length∧Z110 X=some (fv X a)∧∀ j,j<X.length→fv X j≤fv X a:=by
 have key:∀ (m i a:Nat),i+m=X.length→a<X.length→(∀ j,j<i→fv X j≤fv X a)→∃ c,c<X.length∧Z109 X (fv X a) i=some (fv X c)∧∀ j,j<X.length→fv X j≤fv X c:=by
  intro m
  induction m with
  | zero=>
   intro i a hi ha hj
   have:i=X.length:=by omega
   subst this
   refine ⟨a,ha,?_,hj⟩
   rw [Z109_fx]
   unfold c_Z109
   simp
  | succ m ih=>
   intro i a hi ha hj
   have g0:(i:Int)<X.length:=by omega
   have rX:(X.getD i (.int 0)).toInt=fv X i:=rfl
   rw [Z109_fx]
   unfold c_Z109
   simp only [g0,decide_true,cond_true,Int.natCast_nonneg,and_self,if_true,tn,rX,Qf (show i<4611686018427387904 by omega)]
   by_cases hc:fv X i > fv X a
   ·obtain ⟨c,c1,c2,c3⟩:=ih (i+1) i (by omega) (by omega) (fun j hj'=>by
     by_cases e:j=i
     ·subst e;exact Int.le_refl _
     ·have:=hj j (by omega);omega)
    exact ⟨c,c1,by simp only [if_pos hc,c2,ob],c3⟩
   ·obtain ⟨c,c1,c2,c3⟩:=ih (i+1) a (by omega) ha (fun j hj'=>by
     by_cases e:j=i
     ·subst e;omega
     ·exact hj j (by omega))
    exact ⟨c,c1,by simp only [if_neg hc,c2,ob],c3⟩
 obtain ⟨c,c1,c2,c3⟩:=key (X.length - 1) 1 0 (by omega) h (fun j hj=>by
  have:j=0:=by omega
  subst this;exact Int.le_refl _)
 have c2':Z109 X (X.getD 0 (.int 0)).toInt 1=_:=c2
 refine ⟨c,c1,?_,c3⟩
 have n1:¬ (X.length:Int)<1:=by omega
 have n2:(0:Int)≤0∧(0:Int)<X.length:=by omega
 simp only [Z110,c_Z110,n1,decide_false,cond_false,if_pos n2,Int.toNat_zero,c2',ob]
theorem index_of (X:List D) (v:Int) (hl:X.length≤1000) (h:∃ j,j<X.length∧fv X j=v):∃ a:Nat,a<X.length∧fv X a=v∧Z112 X v=some (a:Int):=by
 have hs:=fxScan (F:=fun i=>Z111 X v X.length i) (len:=X.length) (fun i=>decide (v=fv X i)) (fun i=>.inl (i:Int)) (fin:=.inr ()) (fun i hi=>by
  show Z111 X v X.length i=_
  rw [Z111_fx]
  unfold c_Z111
  have h1:(i:Int)<X.length:=by omega
  have rX:(X.getD i (.int 0)).toInt=fv X i:=rfl
  simp only [h1,decide_true,cond_true,Int.natCast_nonneg,and_self,if_true,tn,rX,Qf (show i<4611686018427387904 by omega),Option.bind_fun_some])
  (by
   show Z111 X v X.length X.length=_
   rw [Z111_fx];unfold c_Z111;simp)
 have hs':Z111 X v X.length 0=_:=hs
 cases hf:QJ (fun i=>decide (v=fv X i)) X.length with
 | none=>
  obtain ⟨j,j1,j2⟩:=h
  have:=WR hf j j1
  simp [j2] at this
 | some a=>
  obtain ⟨a1,a2,_⟩:=VZ hf
  refine ⟨a,a1,(of_decide_eq_true a2).symm,?_⟩
  simp only [Z112,c_Z112,hs',hf,ob,Sum.elim_inl]
theorem countP_le (n:Nat) (p:Nat→Bool):(List.range n).countP p≤n:=by
 have:=List.countP_le_length (p:=p) (l:=List.range n)
 simpa using this
section
variable {C R A L:List D} (g:Good6 C R A L)
def before (n:Nat) (L:List D) (i:Nat):Int:=((List.range n).countP (fun j=>at2 L j i):Nat)
def behind (n:Nat) (L:List D) (i:Nat):Int:=((List.range n).countP (fun j=>at2 L i j):Nat)
include g in
theorem before_lt:∀ j i,at2 A j i=true→before C.length L j+1≤before C.length L i:=by
 intro j i h
 have h1:at2 L j i=true:=g.la.base _ _ ((g.ab _ _).1 h)
 have hj:=at2_lt g.sA h
 have:=countP_lt (l:=List.range C.length) (p:=fun x=>at2 L x j) (q:=fun x=>at2 L x i) (fun x _ hx=>g.la.trans _ _ _ hx h1) (List.mem_range.2 hj.1) h1 (g.irr j)
 unfold before;omega
include g in
theorem behind_lt:∀ j i,at2 A i j=true→behind C.length L j+1≤behind C.length L i:=by
 intro j i h
 have h1:at2 L i j=true:=g.la.base _ _ ((g.ab _ _).1 h)
 have hj:=at2_lt g.sA h
 have:=countP_lt (l:=List.range C.length) (p:=fun x=>at2 L j x) (q:=fun x=>at2 L i x) (fun x _ hx=>g.la.trans _ _ _ h1 hx) (List.mem_range.2 hj.2) h1 (g.irr j)
 unfold behind;omega
include g in
theorem before_le (i:Nat):before C.length L i≤C.length:=by have:=countP_le C.length (fun j=>at2 L j i);unfold before;omega
include g in
theorem behind_le (i:Nat):behind C.length L i≤C.length:=by have:=countP_le C.length (fun j=>at2 L i j);unfold behind;omega
structure Deps (C A D0:List D):Prop where
 len:D0.length=C.length
 pos:∀ i,0≤fv D0 i
 le:∀ i,fv D0 i≤10
 jus:∀ i,0<fv D0 i→∃ j,at2 A j i=true∧fv D0 i≤fv D0 j+1
 hold:∀ j i,at2 A j i=true→fv D0 j+1≤fv D0 i
structure Behs (C A D0:List D):Prop where
 len:D0.length=C.length
 pos:∀ i,0≤fv D0 i
 le:∀ i,fv D0 i≤10
 jus:∀ i,0<fv D0 i→∃ j,at2 A i j=true∧fv D0 i≤fv D0 j+1
 hold:∀ j i,at2 A i j=true→fv D0 j+1≤fv D0 i
include g in
theorem depths_eq:∃ D0,Z101 (nums C) A L=some D0∧Deps C A D0:=by
 have hC:=g.hC
 have hn:(nums C).length=C.length:=by simp [nums]
 have hb:=before_lt g
 have h0:∀ i,0≤before C.length L i:=fun i=>Int.natCast_nonneg _
 have h1:∀ i,before C.length L i≤10:=fun i=>by have:=before_le g i;omega
 obtain ⟨D0,d1,d2⟩:=depR (L:=L) (nm:=nums C) hC g.sA hn h0 h1 hb C.length 0 (List.replicate C.length (.int 0)) (by omega) (Holds.zero h0 hb)
 have d1':Z100 (nums C) A L C.length 0 (List.replicate C.length (.int 0))=_:=d1
 have z:(0:Int)≤(C.length:Int)∧(C.length:Int)≤(C.length:Int)∧(C.length:Int)≤4294967296:=by omega
 refine ⟨D0,?_,d2.len,d2.pos,fun i=>Int.le_trans (d2.bnd i) (h1 i),d2.jus,fun j i h=>d2.hold j i h (before_le g i)⟩
 simp only [Z101,c_Z101,hn,if_pos z,tn,d1',ob]
include g in
theorem depthOf_eq {D0:List D} (hd:Z101 (nums C) A L=some D0) (h:D0.length=C.length) {i:Nat} (hi:i<C.length):Z116 C R (numAt C i)=some (fv D0 i,true):=by
 have hC:=g.hC
 have n0:¬ (i:Int)<0:=by omega
 have z1:(0:Int)≤(i:Int)∧(i:Int)<D0.length:=by omega
 have z2:i+1≤D0.length:=by omega
 have rX:(D0.getD i (.int 0)).toInt=fv D0 i:=rfl
 simp only [Z116,c_Z116,g.cons,ob,Sum.elim_inr,Bool.not_true,cond_false,indexOf_eq C R _ (show C.length≤100000 by omega),find_numAt g.v hi,n0,decide_false,hd,if_pos z1,tn,if_pos z2,rX]
def total (l:List D):Nat:=(l.map (fun d=>d.items.length)).sum
theorem total_app (l m:List D):total (l++m)=total l+total m:=by simp [total]
theorem total_rep (k:Nat):total (List.replicate k (.node []))=0:=by
 induction k with
 | zero=>rfl
 | succ k ih=>rw [List.replicate_succ];simp only [total,List.map_cons,List.sum_cons] at ih ⊢;rw [ih];rfl
theorem total_set:∀ (l:List D) (d:Nat) (x:D),d<l.length→total (l.set d (.node ((l.getD d (.int 0)).items++[x])))=total l+1
 | [],d,x,h=>by simp at h
 | y::l,0,x,h=>by
  simp [total,VY];omega
 | y::l,d+1,x,h=>by
  have:=total_set l d x (by simpa using h)
  rw [List.set_cons_succ]
  simp only [total,List.map_cons,List.sum_cons,List.getD_cons_succ] at this ⊢
  rw [this];omega
structure RowsI (C D0:List D) (i:Nat) (out:List D):Prop where
 le:out.length≤11
 dep:∀ j,j<i→fv D0 j<out.length
 top:out.length=0∨∃ j,j<i∧fv D0 j=(out.length:Int) - 1
 mem:∀ d x,x∈(out.getD d (.int 0)).items→∃ j,j<i∧x.toInt=numAt C j∧fv D0 j=d
 tot:total out=i
theorem fill_eq (x0 x1 x2 x8:List D) (i x5 x6:Int) (d:Nat) (hd:d≤10):∀ (m:Nat) (out:List D),d+1 - out.length=m→out.length≤11→Z102 x0 x1 x2 i d x5 x6 out x8=some (x0,x1,x2,i,(d:Int),x5,x6,out++List.replicate (d+1 - out.length) (.node []),x8):=by
 intro m
 induction m with
 | zero=>
  intro out hm ho
  have:¬ (out.length:Int)≤d:=by omega
  rw [Z102_fx]
  unfold c_Z102
  simp only [this,decide_false,cond_false,hm,List.replicate_zero,List.append_nil]
 | succ m ih=>
  intro out hm ho
  have h1:(out.length:Int)≤d:=by omega
  have h2:out.length+[D.node []].length≤4294967296:=by simp only [List.length_cons,List.length_nil];omega
  have e1:(out++[D.node []]).length=out.length+1:=by simp
  rw [Z102_fx]
  unfold c_Z102
  simp only [h1,decide_true,cond_true,if_pos h2,Option.bind_fun_some]
  rw [ih (out++[D.node []]) (by rw [e1];omega) (by rw [e1];omega),e1,List.append_assoc]
  have e2:d+1 - out.length=(d+1 - (out.length+1))+1:=by omega
  rw [e2,List.replicate_succ]
  rfl
theorem getD_app_rep (out:List D) (k d:Nat):((out++List.replicate k (D.node [])).getD d (.int 0)).items=(out.getD d (.int 0)).items:=by
 by_cases h:d<out.length
 ·rw [List.getD_eq_getElem?_getD,List.getElem?_append_left h,← List.getD_eq_getElem?_getD]
 ·rw [List.getD_eq_getElem?_getD,List.getElem?_append_right (by omega),List.getElem?_replicate,List.getD_eq_getElem?_getD,List.getElem?_eq_none (by omega)]
  split<;>rfl
theorem RowsI.next {C D0:List D} {i:Nat} {out:List D} (h:RowsI C D0 i out) {d:Nat} (hd:fv D0 i=d) (hd10:d≤10):RowsI C D0 (i+1) ((out++List.replicate (d+1 - out.length) (D.node [])).set d (.node (((out++List.replicate (d+1 - out.length) (D.node [])).getD d (.int 0)).items++[.int (numAt C i)]))):=by
 have hl:(out++List.replicate (d+1 - out.length) (D.node [])).length=out.length+(d+1 - out.length):=by simp
 have hle:=h.le
 refine ⟨by rw [List.length_set,hl];omega,fun j hj=>?_,?_,fun e x hx=>?_,?_⟩
 ·rw [List.length_set,hl]
  by_cases e:j=i
  ·subst e;omega
  ·have:=h.dep j (by omega);omega
 ·right
  rw [List.length_set,hl]
  by_cases e:d+1≤out.length
  ·rcases h.top with h | ⟨j,j1,j2⟩
   ·omega
   ·exact ⟨j,by omega,by omega⟩
  ·exact ⟨i,by omega,by omega⟩
 ·rw [getD_set (by rw [hl];omega)] at hx
  split at hx
  ·rename_i e';subst e'
   rw [VY,List.mem_append] at hx
   rcases hx with hx | hx
   ·rw [getD_app_rep] at hx
    obtain ⟨j,j1,j2,j3⟩:=h.mem d x hx
    exact ⟨j,by omega,j2,j3⟩
   ·rw [List.mem_singleton] at hx
    subst hx
    exact ⟨i,by omega,rfl,hd⟩
  ·rw [getD_app_rep] at hx
   obtain ⟨j,j1,j2,j3⟩:=h.mem e x hx
   exact ⟨j,by omega,j2,j3⟩
 ·rw [total_set _ _ _ (by rw [hl];omega),total_app,total_rep,h.tot]
include g in
theorem rows_eq {D0:List D} (hd:Z101 (nums C) A L=some D0) (h:Deps C A D0):∃ out,Z105 C R=some (out,true)∧RowsI C D0 C.length out:=by
 have hC:=g.hC
 have hn:(nums C).length=C.length:=by simp [nums]
 have key:∀ (m i:Nat) (out:List D),i+m=C.length→RowsI C D0 i out→∃ out',Z103 (nums C) A L C.length i out D0=some out'∧RowsI C D0 C.length out':=by
  intro m
  induction m with
  | zero=>
   intro i out hi ho
   have:i=C.length:=by omega
   subst this
   refine ⟨out,?_,ho⟩
   rw [Z103_fx]
   unfold c_Z103
   simp
  | succ m ih=>
   intro i out hi ho
   have hiC:i<C.length:=by omega
   have h0:(i:Int)<C.length:=by omega
   have h1:(0:Int)≤(i:Int)∧(i:Int)<D0.length:=by rw [h.len];omega
   have h2:i+1≤D0.length:=by rw [h.len];omega
   obtain ⟨d,hd'⟩:∃ d:Nat,fv D0 i=d:=⟨(fv D0 i).toNat,by have:=h.pos i;omega⟩
   have hd10:d≤10:=by have:=h.le i;omega
   have rX:(D0.getD i (.int 0)).toInt=d:=hd'
   have hf:=fill_eq (nums C) A L D0 i C.length i d hd10 _ out rfl ho.le
   generalize hO:out++List.replicate (d+1 - out.length) (D.node [])=O at hf
   have hl:O.length=out.length+(d+1 - out.length):=by rw [← hO];simp
   have hle:=ho.le
   have z1:(0:Int)≤(d:Int)∧(d:Int)<O.length:=by omega
   have z2:d+1≤O.length:=by omega
   have z3:(0:Int)≤(i:Int)∧(i:Int)<(nums C).length:=by omega
   have hnext:=ho.next hd' hd10
   rw [hO] at hnext
   have hlen:(O.getD d (.int 0)).items.length≤1000:=by
    have htot:∀ (l:List D) (e:Nat),(l.getD e (.int 0)).items.length≤total l:=by
     intro l
     induction l with
     | nil=>intro e;simp [total,D.items]
     | cons y l ih=>
      intro e
      cases e with
      | zero=>simp [total]
      | succ e=>have:=ih e;simp only [total,List.map_cons,List.sum_cons,List.getD_cons_succ] at this ⊢;omega
    have h1:=htot O d
    have h2:total O=i:=by rw [← hO,total_app,total_rep,ho.tot];omega
    omega
   have z4:(O.getD d (.int 0)).items.length+[D.int (numAt C i)].length≤4294967296:=by
    simp only [List.length_cons,List.length_nil];omega
   obtain ⟨out',o1,o2⟩:=ih (i+1) _ (by omega) hnext
   refine ⟨out',?_,o2⟩
   rw [Z103_fx]
   unfold c_Z103
   simp only [h0,decide_true,cond_true,if_pos h1,tn,if_pos h2,rX,hf,ob,if_pos z1,if_pos z2,if_pos z3,nums_at hiC,if_pos z4,Nat.le_refl,Int.le_refl,if_true,Qf (show i<4611686018427387904 by omega),o1]
 obtain ⟨out,o1,o2⟩:=key C.length 0 [] (by omega) ⟨by simp,fun j hj=>by omega,.inl rfl,fun d x hx=>by simp [D.items] at hx,rfl⟩
 have o1':Z103 (nums C) A L C.length 0 [] D0=_:=o1
 refine ⟨out,?_,o2⟩
 simp only [Z105,c_Z105,g.cons,ob,Sum.elim_inr,Bool.not_true,cond_false,Z104,c_Z104,hd,h.len,o1']
include g in
theorem chain_len {D0:List D} (h:Deps C A D0) {out:List D} (ho:RowsI C D0 C.length out):∃ q,Z115 C R=some (q,true)∧q.length=out.length:=by
 have hC:=g.hC
 have hn:(nums C).length=C.length:=by simp [nums]
 have hb:=behind_lt g
 have h0:∀ i,0≤behind C.length L i:=fun i=>Int.natCast_nonneg _
 have h1:∀ i,behind C.length L i≤10:=fun i=>by have:=behind_le g i;omega
 obtain ⟨X,d1,d2⟩:=behR (L:=L) (nm:=nums C) hC g.sA hn h0 h1 hb C.length 0 (List.replicate C.length (.int 0)) (by omega) (Holds.zero h0 hb)
 have d1':Z108 C.length C.length 0 (nums C) A L (List.replicate C.length (.int 0))=_:=d1
 have z:(0:Int)≤(C.length:Int)∧(C.length:Int)≤(C.length:Int)∧(C.length:Int)≤4294967296:=by omega
 have hold:∀ j i,at2 A i j=true→fv X j+1≤fv X i:=fun j i h=>d2.hold j i h (behind_le g i)
 simp only [Z115,c_Z115,g.cons,ob,Sum.elim_inr,Bool.not_true,cond_false,hn,if_pos z,tn,d1']
 by_cases hz:C.length=0
 ·have hz':(C.length:Int)=0:=by omega
  have ho0:out.length=0:=by
   rcases ho.top with h | ⟨j,j1,_⟩
   ·exact h
   ·omega
  simp only [hz',decide_true,cond_true]
  exact ⟨[],rfl,by rw [ho0];rfl⟩
 ·have hz':¬ (C.length:Int)=0:=by omega
  simp only [hz',decide_false,cond_false]
  have hl:=d2.len
  obtain ⟨a,a1,a2,a3⟩:=max_eq X (by omega) (by omega)
  obtain ⟨c,c1,c2,c3⟩:=index_of X (fv X a) (by omega) ⟨a,a1,rfl⟩
  have y1:(0:Int)≤(c:Int)∧(c:Int)<(nums C).length:=by omega
  have y2:c+1≤(nums C).length:=by omega
  have y3:([]:List D).length+[D.int ((nums C).getD c (.int 0)).toInt].length≤4294967296:=by
   simp only [List.length_cons,List.length_nil];omega
  have hpos:=d2.pos
  have hle:∀ i,fv X i≤10:=fun i=>Int.le_trans (d2.bnd i) (h1 i)
  obtain ⟨v,hv⟩:∃ v:Nat,fv X c=v:=⟨(fv X c).toNat,by have:=hpos c;omega⟩
  have hv10:=hle c
  obtain ⟨q,q1,q2⟩:=walkD (L:=L) (nm:=nums C) hC g.sA hn hl hpos hle (fun i hi=>by
   obtain ⟨j,j1,j2⟩:=d2.jus i hi
   have:=hold j i j1
   exact ⟨j,j1,by omega⟩) v c ([]++[D.int ((nums C).getD c (.int 0)).toInt]) (by omega) hv (by simp only [List.nil_append,List.length_cons,List.length_nil];omega)
  rw [hn] at y1 y2
  simp only [a2,c3,ob,if_pos y1,tn,if_pos y2,if_pos y3,q1]
  refine ⟨q,rfl,?_⟩
  rw [q2]
  simp only [List.nil_append,List.length_cons,List.length_nil]
  have hrow:0<out.length:=by have:=ho.dep 0 (by omega);have:=h.pos 0;omega
  rcases ho.top with ht | ⟨j,j1,j2⟩
  ·omega
  ·have k1:fv D0 j≤fv X c:=by
    obtain ⟨e,e1,e2⟩:=far_end (F:=fun j i=>at2 A j i=true) (x:=fv D0) (y:=fv X) h.pos h.jus h.hold (fun j i hf=>hold i j hf) (fv D0 j).toNat j (by have:=h.pos j;omega)
    have hp:=hpos j
    have:fv X e≤fv X a:=by
     by_cases he:e<X.length
     ·exact a3 e he
     ·rcases e1 with rfl | ⟨k,e1⟩
      ·omega
      ·have:=(at2_lt g.sA e1).1;omega
    omega
   have k2:fv X c<out.length:=by
    obtain ⟨e,e1,e2⟩:=far_end (F:=fun j i=>at2 A i j=true) (x:=fv X) (y:=fv D0) hpos d2.jus hold (fun j i hf=>h.hold i j hf) v c (by omega)
    have hp:=h.pos c
    have he:e<C.length:=by
     rcases e1 with rfl | ⟨k,e1⟩
     ·omega
     ·exact (at2_lt g.sA e1).2
    have:=ho.dep e he
    omega
   omega
end
def hasB (C R:List D) (x:Int):Bool:=validB C R&&decide (0≤find2 C x)
theorem has_eq (C R:List D) (x:Int):Z120 C R x=some (hasB C R x):=by
 unfold Z120 c_Z120 hasB
 rw [valid_eq]
 cases hv:validB C R with
 | false=>rfl
 | true=>
  have hC:C.length≤10:=by
   simp only [validB,Bool.and_eq_true,decide_eq_true_eq] at hv;exact hv.1
  simp only [ob,cond_true,indexOf_eq C R x (by omega),Bool.true_and]
structure Two (C R A L:List D) (a b:Int) (i k:Nat):Prop where
 v:validB C R=true
 hC:C.length≤10
 hR:R.length≤24
 hi:i<C.length
 hk:k<C.length
 fi:find2 C a=i
 fk:find2 C b=k
 ni:numAt C i=a
 nk:numAt C k=b
 ord:Z63 C R=some (nums C,A,L)
 sq:Sq C.length A
 ab:∀ x y,at2 A x y=true↔edge C R x y
 la:Later C.length (edge C R) L
theorem isLater_eq {C R A L:List D} {a b:Int} {i k:Nat} (h:Two C R A L a b i k):Z121 C R a b=some (at2 L i k,true):=by
 have h1:hasB C R a=true:=by
  simp only [hasB,h.v,h.fi,Bool.true_and,decide_eq_true_eq];omega
 have h2:hasB C R b=true:=by
  simp only [hasB,h.v,h.fk,Bool.true_and,decide_eq_true_eq];omega
 have hC:=h.hC
 have hi:=h.hi
 have hk:=h.hk
 unfold Z121 c_Z121
 have g1:(i:Int)<L.length:=by rw [h.la.sq.len];omega
 have g2:i+1≤L.length:=by rw [h.la.sq.len];omega
 have g3:(k:Int)<(L.getD i (.int 0)).items.length:=by rw [h.la.sq.row i h.hi];omega
 have g4:k+1≤(L.getD i (.int 0)).items.length:=by rw [h.la.sq.row i h.hi];omega
 simp only [has_eq,h1,h2,ob,Bool.not_true,cond_false,h.ord,indexOf_eq C R _ (show C.length≤100000 by omega),h.fi,h.fk,Int.natCast_nonneg,g1,g3,and_self,if_true,tn,if_pos g2,if_pos g4]
 rfl
theorem sLater_eq {C R A L:List D} {a b:Int} {i k:Nat} (h:Two C R A L a b i k):Z119 C R a b=some (at2 L i k,true):=by
 have hC:=h.hC
 have hi:=h.hi
 have hk:=h.hk
 obtain ⟨B,b1,b3,b4⟩:=bits_eq C R h.v
 obtain ⟨v,v1,v2⟩:=b3.rng i h.hi
 have g1:(i:Int)<B.length:=by rw [b3.len];omega
 have g2:i+1≤B.length:=by rw [b3.len];omega
 have n1:¬ (i:Int)<0:=by omega
 have n2:¬ (k:Int)<0:=by omega
 have hb:v.testBit k=at2 L i k:=by
  rw [← b4 L h.la i k];unfold b2;rw [v1,tn]
 unfold Z119 c_Z119
 simp only [l2Find_eq C R _ (show C.length≤100000 by omega),h.fi,h.fk,l2Good_eq,h.v,ob,Bool.not_true,cond_false,n1,n2,decide_false,b1,Int.natCast_nonneg,g1,and_self,if_true,tn,if_pos g2,v1,l4Bit_eq v k v2 (by omega),hb]
theorem sLater_no {C R:List D} {a b:Int} (hC:C.length≤100000) (h:(hasB C R a&&hasB C R b)=false):Z119 C R a b=some (false,false):=by
 unfold Z119 c_Z119
 simp only [l2Find_eq C R _ hC,l2Good_eq,ob]
 cases hv:validB C R with
 | false=>rfl
 | true=>
  simp only [hasB,hv,Bool.true_and,Bool.and_eq_false_iff,decide_eq_false_iff_not] at h
  simp only [Bool.not_true,cond_false]
  by_cases h1:find2 C a<0
  ·simp only [h1,decide_true,cond_true]
  ·have h2:find2 C b<0:=by omega
   simp only [h1,h2,decide_false,decide_true,cond_false,cond_true]
theorem related_eq (C R:List D) (a b:Int) (hR:R.length≤100000):Z123 C R a b=some (QJ (fun j=>decide (((R[j]?.getD (.int 0)).fld 0).toInt=a)&&decide (((R[j]?.getD (.int 0)).fld 1).toInt=b)) R.length).isSome:=by
 have h:=fxScan (F:=fun i=>Z122 a b i C R) (len:=R.length) (fun j=>decide (((R[j]?.getD (.int 0)).fld 0).toInt=a)&&decide (((R[j]?.getD (.int 0)).fld 1).toInt=b)) (fun _=>.inl true) (fin:=.inr ()) (fun i hi=>by
  show Z122 a b i C R=_
  rw [Z122_fx]
  unfold c_Z122
  have h1:(i:Int)<R.length:=by omega
  simp only [h1,decide_true,cond_true,Int.natCast_nonneg,and_self,if_true,tn,List.getD_eq_getElem?_getD,Qf (show i<4611686018427387904 by omega),Option.bind_fun_some]
  by_cases e1:((R[i]?.getD (.int 0)).fld 0).toInt=a
  ·by_cases e2:((R[i]?.getD (.int 0)).fld 1).toInt=b
   ·simp [e1,e2]
   ·simp [e1,e2]
  ·simp [e1])
  (by
   show Z122 a b R.length C R=_
   rw [Z122_fx];unfold c_Z122;simp)
 have h':Z122 a b 0 C R=_:=h
 simp only [Z123,c_Z123,h',ob]
 cases QJ (fun j=>decide (((R[j]?.getD (.int 0)).fld 0).toInt=a)&&decide (((R[j]?.getD (.int 0)).fld 1).toInt=b)) R.length<;>rfl
section
variable {C R A L:List D} (g:Good6 C R A L)
def relIK (C:List D) (i k:Nat):D:=.node [.int (numAt C i),.int (numAt C k)]
include g in
theorem cloK {i:Nat} (hi:i<C.length) (a c:Int) (C2:List D):∀ (m k:Nat) (acc:List D),k+m=C.length→acc.length+m≤1000 →
  ∃ acc',Z87 i a c i C.length k (nums C) A L C2 acc=some (a,c,nums C,A,L,C2,acc')∧acc'.length≤acc.length+m∧∀ x,x∈acc'↔x∈acc∨∃ b,k≤b∧b<C.length∧at2 L i b=true∧x=relIK C i b:=by
 have hL:=g.la.sq
 have hC:=g.hC
 have hn:(nums C).length=C.length:=by simp [nums]
 intro m
 induction m with
 | zero=>
  intro k acc hk ha
  have:k=C.length:=by omega
  subst this
  refine ⟨acc,?_,by omega,fun x=>⟨.inl,?_⟩⟩
  ·rw [Z87_fx]
   unfold c_Z87
   simp
  ·rintro (h | ⟨b,h1,h2,_⟩)
   ·exact h
   ·omega
 | succ m ih=>
  intro k acc hk ha
  have hkC:k<C.length:=by omega
  have g0:(k:Int)<C.length:=by omega
  have g1:i+1≤L.length:=by rw [hL.len];omega
  have g2:(0:Int)≤(k:Int)∧(k:Int)<(L.getD i (.int 0)).items.length:=by rw [hL.row i hi];omega
  have g3:k+1≤(L.getD i (.int 0)).items.length:=by rw [hL.row i hi];omega
  have g4:(0:Int)≤(i:Int)∧(i:Int)<(nums C).length:=by omega
  have g5:i+1≤(nums C).length:=by omega
  have g6:(0:Int)≤(k:Int)∧(k:Int)<(nums C).length:=by omega
  have g7:k+1≤(nums C).length:=by omega
  have g8:acc.length+[D.node [D.int (numAt C i),D.int (numAt C k)]].length≤4294967296:=by simp only [List.length_cons,List.length_nil];omega
  have r1:((L.getD i (.int 0)).items.getD k (.int 0)).toBool=at2 L i k:=rfl
  rw [Z87_fx]
  unfold c_Z87
  simp only [g0,decide_true,cond_true,tn,if_pos g1,if_pos g2,if_pos g3,if_pos g4,if_pos g5,if_pos g6,if_pos g7,r1,nums_at hi,nums_at hkC,if_pos g8,Qf (show k<4611686018427387904 by omega)]
  cases hik:at2 L i k with
  | false=>
   obtain ⟨acc',e1,e2,e3⟩:=ih (k+1) acc (by omega) (by omega)
   simp only [cond_false,e1,ob]
   refine ⟨acc',rfl,by omega,fun x=>?_⟩
   rw [e3]
   constructor
   ·rintro (h | ⟨b,h1,h2⟩)
    ·exact .inl h
    ·exact .inr ⟨b,by omega,h2⟩
   ·rintro (h | ⟨b,h1,h2,h3,h4⟩)
    ·exact .inl h
    ·refine .inr ⟨b,?_,h2,h3,h4⟩
     by_cases e:b=k
     ·subst e;rw [hik] at h3;cases h3
     ·omega
  | true=>
   obtain ⟨acc',e1,e2,e3⟩:=ih (k+1) (acc++[D.node [D.int (numAt C i),D.int (numAt C k)]]) (by omega) (by simp only [List.length_append,List.length_cons,List.length_nil];omega)
   simp only [cond_true,e1,ob]
   refine ⟨acc',rfl,by simp only [List.length_append,List.length_cons,List.length_nil] at e2;omega,fun x=>?_⟩
   rw [e3,List.mem_append,List.mem_singleton]
   constructor
   ·rintro ((h | h) | ⟨b,h1,h2⟩)
    ·exact .inl h
    ·exact .inr ⟨k,Nat.le_refl _,hkC,hik,h⟩
    ·exact .inr ⟨b,by omega,h2⟩
   ·rintro (h | ⟨b,h1,h2,h3,h4⟩)
    ·exact .inl (.inl h)
    ·by_cases e:b=k
     ·subst e;exact .inl (.inr h4)
     ·exact .inr ⟨b,by omega,h2,h3,h4⟩
include g in
theorem cloK0 {i:Nat} (hi:i<C.length) (a c:Int) (C2:List D):∀ (m k:Nat),k+m=C.length →
  (Z88 i a c i C.length k (nums C) A L C2=some (.inr (a,c,nums C,A,L,C2))∧∀ b,k≤b→at2 L i b=false) ∨
  ∃ acc',Z88 i a c i C.length k (nums C) A L C2=some (.inl (a,c,nums C,A,L,C2,acc'))∧acc'.length≤m∧∀ x,x∈acc'↔∃ b,k≤b∧b<C.length∧at2 L i b=true∧x=relIK C i b:=by
 have hL:=g.la.sq
 have hC:=g.hC
 have hn:(nums C).length=C.length:=by simp [nums]
 intro m
 induction m with
 | zero=>
  intro k hk
  have:k=C.length:=by omega
  subst this
  refine .inl ⟨?_,fun b hb=>?_⟩
  ·rw [Z88_fx]
   unfold c_Z88
   simp
  ·cases h:at2 L i b with
   | false=>rfl
   | true=>have:=(at2_lt hL h).2;omega
 | succ m ih=>
  intro k hk
  have hkC:k<C.length:=by omega
  have g0:(k:Int)<C.length:=by omega
  have g1:i+1≤L.length:=by rw [hL.len];omega
  have g2:(0:Int)≤(k:Int)∧(k:Int)<(L.getD i (.int 0)).items.length:=by rw [hL.row i hi];omega
  have g3:k+1≤(L.getD i (.int 0)).items.length:=by rw [hL.row i hi];omega
  have g4:(0:Int)≤(i:Int)∧(i:Int)<(nums C).length:=by omega
  have g5:i+1≤(nums C).length:=by omega
  have g6:(0:Int)≤(k:Int)∧(k:Int)<(nums C).length:=by omega
  have g7:k+1≤(nums C).length:=by omega
  have g8:0+[D.node [D.int (numAt C i),D.int (numAt C k)]].length≤4294967296:=by simp only [List.length_cons,List.length_nil];omega
  have r1:((L.getD i (.int 0)).items.getD k (.int 0)).toBool=at2 L i k:=rfl
  rw [Z88_fx]
  unfold c_Z88
  simp only [g0,decide_true,cond_true,tn,if_pos g1,if_pos g2,if_pos g3,if_pos g4,if_pos g5,if_pos g6,if_pos g7,r1,nums_at hi,nums_at hkC,if_pos g8,Qf (show k<4611686018427387904 by omega)]
  cases hik:at2 L i k with
  | false=>
   simp only [cond_false]
   rcases ih (k+1) (by omega) with ⟨e1,e2⟩ | ⟨acc',e1,e2,e3⟩
   ·left
    simp only [e1,ob,true_and]
    intro b hb
    by_cases e:b=k
    ·subst e;exact hik
    ·exact e2 b (by omega)
   ·right
    simp only [e1,ob]
    refine ⟨acc',rfl,by omega,fun x=>?_⟩
    rw [e3]
    constructor
    ·rintro ⟨b,h1,h2⟩
     exact ⟨b,by omega,h2⟩
    ·rintro ⟨b,h1,h2,h3,h4⟩
     refine ⟨b,?_,h2,h3,h4⟩
     by_cases e:b=k
     ·subst e;rw [hik] at h3;cases h3
     ·omega
  | true=>
   right
   obtain ⟨acc',e1,e2,e3⟩:=cloK g hi a c C2 m (k+1) [D.node [D.int (numAt C i),D.int (numAt C k)]] (by omega) (by simp only [List.length_cons,List.length_nil];omega)
   simp only [cond_true,e1,ob]
   refine ⟨acc',rfl,by simp only [List.length_cons,List.length_nil] at e2;omega,fun x=>?_⟩
   rw [e3,List.mem_singleton]
   constructor
   ·rintro (h | ⟨b,h1,h2⟩)
    ·exact ⟨k,Nat.le_refl _,hkC,hik,h⟩
    ·exact ⟨b,by omega,h2⟩
   ·rintro ⟨b,h1,h2,h3,h4⟩
    by_cases e:b=k
    ·subst e;exact .inl h4
    ·exact .inr ⟨b,by omega,h2,h3,h4⟩
include g in
theorem cloI (C2:List D):∀ (m i:Nat) (acc:List D),i+m=C.length→acc.length+10 * m≤500 →
  ∃ acc',Z89 C.length i (nums C) A L C2 acc=some (C2,acc')∧acc'.length≤acc.length+10 * m∧∀ x,x∈acc'↔x∈acc∨∃ a b,i≤a∧a<C.length∧b<C.length∧at2 L a b=true∧x=relIK C a b:=by
 have hL:=g.la.sq
 have hC:=g.hC
 intro m
 induction m with
 | zero=>
  intro i acc hi ha
  have:i=C.length:=by omega
  subst this
  refine ⟨acc,?_,by omega,fun x=>⟨.inl,?_⟩⟩
  ·rw [Z89_fx]
   unfold c_Z89
   simp
  ·rintro (h | ⟨a,b,h1,h2,_⟩)
   ·exact h
   ·omega
 | succ m ih=>
  intro i acc hi ha
  have hiC:i<C.length:=by omega
  have g0:(i:Int)<C.length:=by omega
  have g1:(0:Int)≤(i:Int)∧(i:Int)<L.length:=by rw [hL.len];omega
  have g2:i+1≤L.length:=by rw [hL.len];omega
  obtain ⟨acc1,e1,e2,e3⟩:=cloK g hiC C.length i C2 C.length 0 acc (by omega) (by omega)
  have e1':Z87 i C.length i i C.length 0 (nums C) A L C2 acc=_:=e1
  obtain ⟨acc2,f1,f2,f3⟩:=ih (i+1) acc1 (by omega) (by omega)
  refine ⟨acc2,?_,by omega,fun x=>?_⟩
  ·rw [Z89_fx]
   unfold c_Z89
   simp only [g0,decide_true,cond_true,tn,if_pos g1,if_pos g2,hL.row i hiC,e1',ob,Qf (show i<4611686018427387904 by omega),f1]
  ·rw [f3,e3]
   constructor
   ·rintro ((h | ⟨b,_,h2,h3,h4⟩) | ⟨a,b,h1,h2⟩)
    ·exact .inl h
    ·exact .inr ⟨i,b,Nat.le_refl _,hiC,h2,h3,h4⟩
    ·exact .inr ⟨a,b,by omega,h2⟩
   ·rintro (h | ⟨a,b,h1,h2,h3,h4,h5⟩)
    ·exact .inl (.inl h)
    ·by_cases e:a=i
     ·subst e;exact .inl (.inr ⟨b,Nat.zero_le _,h3,h4,h5⟩)
     ·exact .inr ⟨a,b,by omega,h2,h3,h4,h5⟩
include g in
theorem cloI0 (C2:List D):∀ (m i:Nat),i+m=C.length →
  (Z90 C.length i (nums C) A L C2=some (.inr C2)∧∀ a b,i≤a→at2 L a b=false) ∨
  ∃ acc',Z90 C.length i (nums C) A L C2=some (.inl (C2,acc'))∧acc'.length≤10 * m∧∀ x,x∈acc'↔∃ a b,i≤a∧a<C.length∧b<C.length∧at2 L a b=true∧x=relIK C a b:=by
 have hL:=g.la.sq
 have hC:=g.hC
 intro m
 induction m with
 | zero=>
  intro i hi
  have:i=C.length:=by omega
  subst this
  refine .inl ⟨?_,fun a b ha=>?_⟩
  ·rw [Z90_fx]
   unfold c_Z90
   simp
  ·cases h:at2 L a b with
   | false=>rfl
   | true=>have:=(at2_lt hL h).1;omega
 | succ m ih=>
  intro i hi
  have hiC:i<C.length:=by omega
  have g0:(i:Int)<C.length:=by omega
  have g1:(0:Int)≤(i:Int)∧(i:Int)<L.length:=by rw [hL.len];omega
  have g2:i+1≤L.length:=by rw [hL.len];omega
  rw [Z90_fx]
  unfold c_Z90
  simp only [g0,decide_true,cond_true,tn,if_pos g1,if_pos g2,hL.row i hiC,Qf (show i<4611686018427387904 by omega)]
  rcases cloK0 g hiC C.length i C2 C.length 0 (by omega) with ⟨e1,e2⟩ | ⟨acc1,e1,e2,e3⟩
  ·have e1':Z88 i C.length i i C.length 0 (nums C) A L C2=_:=e1
   simp only [e1',ob,Sum.elim_inr,Qf (show i<4611686018427387904 by omega)]
   rcases ih (i+1) (by omega) with ⟨f1,f2⟩ | ⟨acc',f1,f2,f3⟩
   ·left
    simp only [f1,ob,true_and]
    intro a b ha
    by_cases e:a=i
    ·subst e;exact e2 b (Nat.zero_le _)
    ·exact f2 a b (by omega)
   ·right
    simp only [f1,ob]
    refine ⟨acc',rfl,by omega,fun x=>?_⟩
    rw [f3]
    constructor
    ·rintro ⟨a,b,h1,h2⟩
     exact ⟨a,b,by omega,h2⟩
    ·rintro ⟨a,b,h1,h2,h3,h4,h5⟩
     refine ⟨a,b,?_,h2,h3,h4,h5⟩
     by_cases e:a=i
     ·subst e;rw [e2 b (Nat.zero_le _)] at h4;cases h4
     ·omega
  ·have e1':Z88 i C.length i i C.length 0 (nums C) A L C2=_:=e1
   obtain ⟨acc2,f1,f2,f3⟩:=cloI g C2 m (i+1) acc1 (by omega) (by omega)
   right
   simp only [e1',ob,Sum.elim_inl,Qf (show i<4611686018427387904 by omega),f1]
   refine ⟨acc2,rfl,by omega,fun x=>?_⟩
   rw [f3,e3]
   constructor
   ·rintro (⟨b,_,h2,h3,h4⟩ | ⟨a,b,h1,h2⟩)
    ·exact ⟨i,b,Nat.le_refl _,hiC,h2,h3,h4⟩
    ·exact ⟨a,b,by omega,h2⟩
   ·rintro ⟨a,b,h1,h2,h3,h4,h5⟩
    by_cases e:a=i
    ·subst e;exact .inl ⟨b,Nat.zero_le _,h3,h4,h5⟩
    ·exact .inr ⟨a,b,by omega,h2,h3,h4,h5⟩
theorem clone_eq (C:List D) (h:C.length≤1000):Z67 C=some C:=by
 have h1:([]:List D).length+C.length≤4294967296:=by simp only [List.length_nil];omega
 unfold Z67 c_Z67
 cases C with
 | nil=>simp [Ob]
 | cons d C=>simp only [List.length_cons,List.nil_append] at h1 ⊢;rw [if_pos (by omega),if_pos h1]
include g in
theorem close_eq:∃ tC tR closed,Z93 C R=some (tC,tR,closed)∧(closed=true→∀ i k,i<C.length→k<C.length→Z123 tC tR (numAt C i) (numAt C k)=some (at2 L i k)):=by
 have hC:=g.hC
 have hL:=g.la.sq
 have hcl:=clone_eq C (by omega)
 simp only [Z93,c_Z93,g.cons,ob,Sum.elim_inr,Bool.not_true,cond_false,hcl,hL.len]
 have rel:∀ (T:List D),T.length≤1000→(∀ x,x∈T↔∃ a b,a<C.length∧b<C.length∧at2 L a b=true∧x=relIK C a b)→∀ i k,i<C.length→k<C.length→Z123 C T (numAt C i) (numAt C k)=some (at2 L i k):=by
  intro T hT hm i k hi hk
  rw [related_eq C T _ _ (by omega)]
  cases hf:QJ (fun j=>decide (((T[j]?.getD (.int 0)).fld 0).toInt=numAt C i)&&decide (((T[j]?.getD (.int 0)).fld 1).toInt=numAt C k)) T.length with
  | some j=>
   obtain ⟨h1,h2,_⟩:=VZ hf
   rw [Bool.and_eq_true,decide_eq_true_eq,decide_eq_true_eq] at h2
   obtain ⟨a,b,a1,a2,a3,a4⟩:=(hm _).1 (K7 h1)
   rw [a4] at h2
   have e1:a=i:=numAt_inj g.v a1 hi h2.1
   have e2:b=k:=numAt_inj g.v a2 hk h2.2
   rw [← e1,← e2,a3]
   rfl
  | none=>
   cases hq:at2 L i k with
   | false=>rfl
   | true=>
    obtain ⟨j,hj,e⟩:=List.getElem_of_mem ((hm _).2 ⟨i,k,hi,hk,hq,rfl⟩)
    have:=WR hf j hj
    rw [List.getElem?_eq_getElem hj,e] at this
    simp [relIK,qX,OU] at this
 rcases cloI0 g C C.length 0 (by omega) with ⟨e1,e2⟩ | ⟨acc,e1,e2,e3⟩
 ·have e1':Z90 C.length 0 (nums C) A L C=_:=e1
  simp only [e1',ob,Sum.elim_inr,Z92,c_Z92,valid_eq]
  cases validB C [] with
  | false=>exact ⟨_,_,_,rfl,fun h=>by cases h⟩
  | true=>exact ⟨_,_,_,rfl,fun _=>rel [] (by simp) (fun x=>⟨fun h=>(by cases h),fun ⟨a,b,_,_,h,_⟩=>by rw [e2 a b (Nat.zero_le _)] at h;cases h⟩)⟩
 ·have e1':Z90 C.length 0 (nums C) A L C=_:=e1
  simp only [e1',ob,Sum.elim_inl,Z91,c_Z91,valid_eq]
  cases validB C acc with
  | false=>exact ⟨_,_,_,rfl,fun h=>by cases h⟩
  | true=>exact ⟨_,_,_,rfl,fun _=>rel acc (by omega) (fun x=>by rw [e3];exact ⟨fun ⟨a,b,_,h⟩=>⟨a,b,h⟩,fun ⟨a,b,h⟩=>⟨a,b,Nat.zero_le _,h⟩⟩)⟩
end
section
variable {C R A L A' L' S tC tR rows D0:List D} (g:Good6 C R A L) (g':Good6 C S A' L') (hl:∀ a b,at2 L' a b=at2 L a b)
theorem two_at {C R A L:List D} (g:Good6 C R A L) {i k:Nat} (hi:i<C.length) (hk:k<C.length):Two C R A L (numAt C i) (numAt C k) i k:=
 ⟨g.v,g.hC,g.hR,hi,hk,find_numAt g.v hi,find_numAt g.v hk,rfl,rfl,g.ord,g.sA,g.ab,g.la⟩
include g g' hl in
theorem lawK {closed:Bool} (ht:closed=true→∀ i k,i<C.length→k<C.length→Z123 tC tR (numAt C i) (numAt C k)=some (at2 L i k)) {i:Nat} (hi:i<C.length):∀ (m k:Nat),k+m=C.length →
  Z124 closed i k C R C S tC tR=some (.inr (closed,(i:Int),C,R,C,S,tC,tR)):=by
 intro m
 induction m with
 | zero=>
  intro k hk
  have:k=C.length:=by omega
  subst this
  rw [Z124_fx]
  unfold c_Z124
  simp
 | succ m ih=>
  intro k hk
  have hC:=g.hC
  have hkC:k<C.length:=by omega
  have g0:(k:Int)<C.length:=by omega
  have g1:(0:Int)≤(i:Int)∧(i:Int)<C.length:=by omega
  have g2:i+1≤C.length:=by omega
  have g3:(0:Int)≤(k:Int)∧(k:Int)<C.length:=by omega
  have g4:k+1≤C.length:=by omega
  have e1:=sLater_eq (two_at g hi hkC)
  have e2:=isLater_eq (two_at g' hi hkC)
  rw [hl] at e2
  have rn:∀ j:Nat,((C.getD j (.int 0)).fld 0).toInt=numAt C j:=fun j=>by unfold numAt;rw [List.getD_eq_getElem?_getD]
  rw [Z124_fx]
  unfold c_Z124
  simp only [g0,decide_true,cond_true,g1.2,Int.natCast_nonneg,and_self,if_true,tn,if_pos g2,if_pos g3,if_pos g4,rn,e1,e2,ob,Bool.not_true,cond_false,Qf (show k<4611686018427387904 by omega),ih (k+1) (by omega)]
  have hb:∀ x:Bool,(!x==x)=false:=by decide
  cases hc:closed with
  | false=>simp only [hb,cond_false]
  | true=>
   simp only [hb,cond_false,cond_true,ht hc i k hi hkC,ob]
include g g' hl in
theorem lawI {closed:Bool} (ht:closed=true→∀ i k,i<C.length→k<C.length→Z123 tC tR (numAt C i) (numAt C k)=some (at2 L i k)):∀ (m i:Nat),i+m=C.length →
  Z125 closed i C R C S tC tR=some (.inr (C,S)):=by
 intro m
 induction m with
 | zero=>
  intro i hi
  have:i=C.length:=by omega
  subst this
  rw [Z125_fx]
  unfold c_Z125
  simp
 | succ m ih=>
  intro i hi
  have hC:=g.hC
  have g0:(i:Int)<C.length:=by omega
  have h1:=lawK g g' hl ht (show i<C.length by omega) C.length 0 (by omega)
  have h1':Z124 closed i 0 C R C S tC tR=_:=h1
  rw [Z125_fx]
  unfold c_Z125
  simp only [g0,decide_true,cond_true,h1',ob,Sum.elim_inr,Qf (show i<4611686018427387904 by omega),ih (i+1) (by omega)]
include g in
theorem lawR (hd:Z101 (nums C) A L=some D0) (h:D0.length=C.length) (ho:RowsI C D0 C.length rows) (x0:Bool) (s1 s2 t1 t2:List D) {d:Nat} (hdl:d<rows.length):∀ (m i n:Nat),i+m=(rows.getD d (.int 0)).items.length→n+m≤1000→i+m≤1000 →
  Z117 x0 n d i C R s1 s2 t1 t2 rows=some (.inr (x0,((n+m:Nat):Int),(d:Int),C,R,s1,s2,t1,t2,rows)):=by
 intro m
 induction m with
 | zero=>
  intro i n hi hn hi1
  have g1:(0:Int)≤(d:Int)∧(d:Int)<rows.length:=by omega
  have g2:d+1≤rows.length:=by omega
  have g3:¬ (i:Int)<(rows.getD d (.int 0)).items.length:=by omega
  rw [Z117_fx]
  unfold c_Z117
  simp only [if_pos g1,tn,if_pos g2,g3,decide_false,cond_false]
  rfl
 | succ m ih=>
  intro i n hi hn hi1
  have g1:(0:Int)≤(d:Int)∧(d:Int)<rows.length:=by omega
  have g2:d+1≤rows.length:=by omega
  have hil:i<(rows.getD d (.int 0)).items.length:=by omega
  have g3:(i:Int)<(rows.getD d (.int 0)).items.length:=by omega
  have g4:(0:Int)≤(i:Int)∧(i:Int)<(rows.getD d (.int 0)).items.length:=by omega
  have g5:i+1≤(rows.getD d (.int 0)).items.length:=by omega
  obtain ⟨j,j1,j2,j3⟩:=ho.mem d _ (Yc hil)
  have hdep:=depthOf_eq g hd h j1
  rw [Z117_fx]
  unfold c_Z117
  simp only [g1.2,tn,if_pos g2,g3,decide_true,cond_true,Int.natCast_nonneg,and_self,if_true,if_pos g4,if_pos g5,j2,hdep,j3,ob,Bool.not_true,cond_false,Qf (show i<4611686018427387904 by omega),Qf (show n<4611686018427387904 by omega),ih (i+1) (n+1) (by omega) (by omega) (by omega),ob]
  have:n+1+m=n+(m+1):=by omega
  rw [this]
theorem total_drop (l:List D) {d:Nat} (h:d<l.length):total (l.drop d)=(l.getD d (.int 0)).items.length+total (l.drop (d+1)):=by
 rw [K8 h,List.getD_eq_getElem?_getD]
 simp [total]
include g in
theorem lawD (hd:Z101 (nums C) A L=some D0) (h:D0.length=C.length) (ho:RowsI C D0 C.length rows) (x0:Bool) (s1 s2 t1 t2:List D):∀ (m d n:Nat),d+m=rows.length→n+total (rows.drop d)≤100 →
  Z118 x0 n d C R s1 s2 t1 t2 rows=some (.inr (x0,((n+total (rows.drop d):Nat):Int),C,R,s1,s2,t1,t2)):=by
 intro m
 induction m with
 | zero=>
  intro d n hd' hn
  have:d=rows.length:=by omega
  subst this
  have e:total (rows.drop rows.length)=0:=by rw [List.drop_of_length_le (Nat.le_refl _)];rfl
  rw [Z118_fx]
  unfold c_Z118
  simp [total]
 | succ m ih=>
  intro d n hd' hn
  have hdl:d<rows.length:=by omega
  have g0:(d:Int)<rows.length:=by omega
  have hle:=ho.le
  have e:=total_drop rows hdl
  have h1:=lawR g hd h ho x0 s1 s2 t1 t2 hdl (rows.getD d (.int 0)).items.length 0 n (by omega) (by omega) (by omega)
  have h1':Z117 x0 n d 0 C R s1 s2 t1 t2 rows=_:=h1
  rw [Z118_fx]
  unfold c_Z118
  simp only [g0,decide_true,cond_true,h1',ob,Sum.elim_inr,Qf (show d<4611686018427387904 by omega),ih (d+1) (n+(rows.getD d (.int 0)).items.length) (by omega) (by omega)]
  rw [e,Nat.add_assoc]
end
theorem l5Reduced_tot {C R A L B:List D} (g:Good5 C R A L B) (g6:Good6 C R A L):∃ y,Z85 C R=some y:=by
 have hC:=g6.hC
 have hR:=g6.hR
 have red:∀ j:Nat,j<R.length→∃ b,Z82 C R (((R.getD j (.int 0)).fld 0).toInt) (((R.getD j (.int 0)).fld 1).toInt)=some b:=by
  intro j hj
  obtain ⟨a,b,q1,q2,q3,q4,q5,_⟩:=rOk_at g.v hj
  rw [← List.getD_eq_getElem?_getD] at q4 q5
  generalize ((R.getD j (.int 0)).fld 0).toInt=u at *
  generalize ((R.getD j (.int 0)).fld 1).toInt=v at *
  have key:∀ (m i:Nat),i+m=R.length→∃ y,Z81 b i C R u v B=some y:=by
   intro m
   induction m with
   | zero=>
    intro i hi
    have:i=R.length:=by omega
    subst this
    rw [Z81_fx]
    unfold c_Z81
    simp
   | succ m ih=>
    intro i hi
    obtain ⟨y,hy⟩:=ih (i+1) (by omega)
    have g0:(i:Int)<R.length:=by omega
    obtain ⟨c,d,c1,c2,c3,c4,c5,_⟩:=rOk_at g.v (show i<R.length by omega)
    rw [← List.getD_eq_getElem?_getD] at c4 c5
    obtain ⟨w,w1,w2⟩:=g.bq.rng d c2
    have z1:(0:Int)≤(d:Int)∧(d:Int)<B.length:=by rw [g.bq.len];omega
    have z2:d+1≤B.length:=by rw [g.bq.len];omega
    rw [Z81_fx]
    unfold c_Z81
    simp only [g0,decide_true,cond_true,Int.natCast_nonneg,and_self,if_true,tn,l2Find_eq C R _ (show C.length≤100000 by omega),c5,ob,z1.2,if_pos z2,w1,l4Bit_eq w b w2 (by omega),Qf (show i<4611686018427387904 by omega),hy]
    cases decide (((R.getD i (.int 0)).fld 0).toInt=u) with
    | false=>exact ⟨_,rfl⟩
    | true=>
     cases (!decide (((R.getD i (.int 0)).fld 1).toInt=v)) with
     | false=>exact ⟨_,rfl⟩
     | true=>cases w.testBit b<;>exact ⟨_,rfl⟩
  obtain ⟨y,hy⟩:=key R.length 0 (by omega)
  have hy':Z81 b 0 C R u v B=some y:=hy
  simp only [Z82,c_Z82,g.later,ob,l2Find_eq C R _ (show C.length≤100000 by omega),q5,hy']
  cases y<;>exact ⟨_,rfl⟩
 have k2:∀ (m j:Nat) (C2 acc:List D),j+m=R.length→acc.length≤j→∃ y,Z83 j C R C2 acc=some y:=by
  intro m
  induction m with
  | zero=>
   intro j C2 acc hj ha
   have:j=R.length:=by omega
   subst this
   rw [Z83_fx]
   unfold c_Z83
   simp
  | succ m ih=>
   intro j C2 acc hj ha
   obtain ⟨b,hb⟩:=red j (by omega)
   have g0:(j:Int)<R.length:=by omega
   have g1:acc.length+[D.node [D.int ((R.getD j (.int 0)).fld 0).toInt,D.int ((R.getD j (.int 0)).fld 1).toInt]].length≤4294967296:=by
    simp only [List.length_cons,List.length_nil];omega
   obtain ⟨y1,h1⟩:=ih (j+1) C2 acc (by omega) (by omega)
   obtain ⟨y2,h2⟩:=ih (j+1) C2 (acc++[D.node [D.int ((R.getD j (.int 0)).fld 0).toInt,D.int ((R.getD j (.int 0)).fld 1).toInt]]) (by omega) (by simp;omega)
   rw [Z83_fx]
   unfold c_Z83
   simp only [g0,decide_true,cond_true,Int.natCast_nonneg,and_self,if_true,tn,hb,ob,if_pos g1,Qf (show j<4611686018427387904 by omega),h1,h2]
   cases b<;>exact ⟨_,rfl⟩
 have k1:∀ (m j:Nat) (C2:List D),j+m=R.length→∃ y,Z84 j C R C2=some y:=by
  intro m
  induction m with
  | zero=>
   intro j C2 hj
   have:j=R.length:=by omega
   subst this
   rw [Z84_fx]
   unfold c_Z84
   simp
  | succ m ih=>
   intro j C2 hj
   obtain ⟨b,hb⟩:=red j (by omega)
   have g0:(j:Int)<R.length:=by omega
   have g1:0+[D.node [D.int ((R.getD j (.int 0)).fld 0).toInt,D.int ((R.getD j (.int 0)).fld 1).toInt]].length≤4294967296:=by
    simp only [List.length_cons,List.length_nil];omega
   obtain ⟨y1,h1⟩:=ih (j+1) C2 (by omega)
   obtain ⟨y2,h2⟩:=k2 m (j+1) C2 [D.node [D.int ((R.getD j (.int 0)).fld 0).toInt,D.int ((R.getD j (.int 0)).fld 1).toInt]] (by omega) (by simp)
   rw [Z84_fx]
   unfold c_Z84
   simp only [g0,decide_true,cond_true,Int.natCast_nonneg,and_self,if_true,tn,hb,ob,if_pos g1,Qf (show j<4611686018427387904 by omega),h1,h2]
   cases b<;>exact ⟨_,rfl⟩
 obtain ⟨y,hy⟩:=k1 R.length 0 ([]++C) (by omega)
 have hy':Z84 0 C R ([]++C)=some y:=hy
 have g1:([]:List D).length+C.length≤4294967296:=by simp only [List.length_nil];omega
 simp only [Z85,c_Z85,if_pos g1,hy',ob]
 cases y<;>exact ⟨_,rfl⟩
theorem drawM_tot (c:List D) (hc:okC c):∃ y,Z35 c=some y:=by
 refine (fun ⟨y,h,_⟩=>⟨y,h⟩) (Tt.out (P:=fun _=>True) ?_)
 unfold Z35 c_Z35 Z34 c_Z34
 refine Tt.bind ?_ (fun v (hv:True)=>Tt.pure hv)
 refine Tt.bind (Tt.con (ordered_tot _ hc _ _ (by omega))) ?_
 rintro ⟨C,R,c1,p1,s1⟩ _
 exact Tt.pure trivial
theorem pure_FnMatrix (x0:List D) (h0:x0.length≤maxLen) (w0:∀ d∈x0,wfD (.int .u8) d):Z127 x0=some true:=by
 simp only [Z127,c_Z127,Z0,c_Z0,ob]
 by_cases hb:(65536:Int)<x0.length
 ·simp only [hb,decide_true,cond_true]
 ·have hc:okC x0:=⟨by omega,fun d hd=>okB (w0 d hd)⟩
  obtain ⟨⟨C,R⟩,d1⟩:=drawM_tot x0 hc
  simp only [hb,decide_false,cond_false,d1,ob]
  rcases cases5 C R with ⟨s1,h⟩ | ⟨A,L,B,g5⟩
  ·have e1:Z75 C R=some ([],[],false):=by
    rcases h with h | ⟨a,b,c,h⟩
    ·simp only [Z75,c_Z75,h,ob,Sum.elim_inl,Bool.not_false,cond_true]
    ·simp only [Z75,c_Z75,h,ob,Sum.elim_inr,Bool.not_false,cond_true]
   have e2:Z86 C R=some ([],[],false):=by
    simp only [Z86,c_Z86,s1,ob,Bool.not_false,cond_true]
   simp only [e1,e2,ob]
   rfl
  ·have g:=good6_of g5
   have hC:=g.hC
   obtain ⟨y,hy⟩:=l5Reduced_tot g5 g
   have e2:Z86 C R=some (y.1,y.2,true):=by
    simp only [Z86,c_Z86,g5.l5,ob,Bool.not_true,cond_false,hy]
   have e1:Z75 C R=some (C,redsIf C R A L false,true):=by
    simp only [Z75,c_Z75,g.cons,ob,Sum.elim_inr,Bool.not_true,cond_false,clone_eq C (show C.length≤1000 by omega),reds_eq g]
   obtain ⟨A',L',g',hl,hn⟩:=reduced_good g
   obtain ⟨tC,tR,closed,t1,t2⟩:=close_eq g
   obtain ⟨D0,k1,k2⟩:=depths_eq g
   obtain ⟨rows,r1,r2⟩:=rows_eq g k1 k2
   obtain ⟨q,q1,q2⟩:=chain_len g k2 r2
   have w1:=lawD g k1 k2.len r2 closed C (redsIf C R A L false) tC tR rows.length 0 0 (by omega) (by rw [List.drop_zero,r2.tot];omega)
   rw [List.drop_zero,r2.tot,Nat.zero_add] at w1
   have w1':Z118 closed 0 0 C R C (redsIf C R A L false) tC tR rows=_:=w1
   have w2:=lawI g g' hl t2 C.length 0 (by omega)
   have w2':Z125 closed 0 C R C (redsIf C R A L false) tC tR=_:=w2
   have e3:Z126 C (redsIf C R A L false)=some ([],true):=by
    simp only [Z126,c_Z126,g'.cons,ob,Sum.elim_inr,Bool.not_true,cond_false,reds_eq g',hn]
   simp only [e1,e2,ob,t1,r1,q1,q2,w1',Sum.elim_inr,w2',e3]
   simp
end Go.Proofs.Ytnoccadolcgifaa
