/- The law FnExactTypeShares over plain values. No condition beside those of the statement. -/
import Derived.Test.YtacnicopnbcioaaClMFnExactTypeShares
import Derived.Test.YtacnicopnbcioaaRaiU5
set_option linter.unusedVariables false
set_option linter.unusedSimpArgs false
set_option maxRecDepth 100000
namespace Go.Proofs.Ytacnicopnbcioaa
open Go Go.Rai
theorem Z2_fx (x0:List D) (x1 x2:Int):Z2 x0 x1 x2=c_Z2 Z2 x0 x1 x2 some:=
 Qv (N:=fun n (p:List D×Int×Int)=>n_Z2 n p.1 p.2.1 p.2.2) (C:=fun f p=>c_Z2 (fun x0 x1 x2=>f (x0,x1,x2)) p.1 p.2.1 p.2.2 some) (fun _=>rfl) (fun _ _=>rfl) (fun hD f fs h p=>by
  unfold c_Z2
  repeat' first | exact Lim.const hD | exact h _ | apply Lim.ite | apply Lim.cond | apply Lim.bind hD | apply Lim.sum | intro _) (x0,x1,x2)
theorem Z8_fx (x0:ByteArray) (x1:Int):Z8 x0 x1=c_Z8 Z8 x0 x1 some:=
 Qv (N:=fun n (p:ByteArray×Int)=>n_Z8 n p.1 p.2) (C:=fun f p=>c_Z8 (fun x0 x1=>f (x0,x1)) p.1 p.2 some) (fun _=>rfl) (fun _ _=>rfl) (fun hD f fs h p=>by
  unfold c_Z8
  repeat' first | exact Lim.const hD | exact h _ | apply Lim.ite | apply Lim.cond | apply Lim.bind hD | apply Lim.sum | intro _) (x0,x1)
theorem Z12_fx (x0:List D) (x1:Int):Z12 x0 x1=c_Z12 Z12 x0 x1 some:=
 Qv (N:=fun n (p:List D×Int)=>n_Z12 n p.1 p.2) (C:=fun f p=>c_Z12 (fun x0 x1=>f (x0,x1)) p.1 p.2 some) (fun _=>rfl) (fun _ _=>rfl) (fun hD f fs h p=>by
  unfold c_Z12
  repeat' first | exact Lim.const hD | exact h _ | apply Lim.ite | apply Lim.cond | apply Lim.bind hD | apply Lim.sum | intro _) (x0,x1)
theorem Z15_fx (x0:ByteArray) (x1:Int) (x2:List D):Z15 x0 x1 x2=c_Z15 Z15 x0 x1 x2 some:=
 Qv (N:=fun n (p:ByteArray×Int×List D)=>n_Z15 n p.1 p.2.1 p.2.2) (C:=fun f p=>c_Z15 (fun x0 x1 x2=>f (x0,x1,x2)) p.1 p.2.1 p.2.2 some) (fun _=>rfl) (fun _ _=>rfl) (fun hD f fs h p=>by
  unfold c_Z15
  repeat' first | exact Lim.const hD | exact h _ | apply Lim.ite | apply Lim.cond | apply Lim.bind hD | apply Lim.sum | intro _) (x0,x1,x2)
theorem Z17_fx (x0:List D) (x1:Int) (x2:List D):Z17 x0 x1 x2=c_Z17 Z17 x0 x1 x2 some:=
 Qv (N:=fun n (p:List D×Int×List D)=>n_Z17 n p.1 p.2.1 p.2.2) (C:=fun f p=>c_Z17 (fun x0 x1 x2=>f (x0,x1,x2)) p.1 p.2.1 p.2.2 some) (fun _=>rfl) (fun _ _=>rfl) (fun hD f fs h p=>by
  unfold c_Z17
  repeat' first | exact Lim.const hD | exact h _ | apply Lim.ite | apply Lim.cond | apply Lim.bind hD | apply Lim.sum | intro _) (x0,x1,x2)
theorem Z19_fx (x0:List D) (x1 x2 x3 x4:Int) (x5 x6:List D):Z19 x0 x1 x2 x3 x4 x5 x6=c_Z19 Z19 x0 x1 x2 x3 x4 x5 x6 some:=
 Qv (N:=fun n (p:List D×Int×Int×Int×Int×List D×List D)=>n_Z19 n p.1 p.2.1 p.2.2.1 p.2.2.2.1 p.2.2.2.2.1 p.2.2.2.2.2.1 p.2.2.2.2.2.2) (C:=fun f p=>c_Z19 (fun x0 x1 x2 x3 x4 x5 x6=>f (x0,x1,x2,x3,x4,x5,x6)) p.1 p.2.1 p.2.2.1 p.2.2.2.1 p.2.2.2.2.1 p.2.2.2.2.2.1 p.2.2.2.2.2.2 some) (fun _=>rfl) (fun _ _=>rfl) (fun hD f fs h p=>by
  unfold c_Z19
  repeat' first | exact Lim.const hD | exact h _ | apply Lim.ite | apply Lim.cond | apply Lim.bind hD | apply Lim.sum | intro _) (x0,x1,x2,x3,x4,x5,x6)
theorem Z20_fx (x0:List D) (x1 x2:Int) (x3 x4:List D):Z20 x0 x1 x2 x3 x4=c_Z20 Z20 x0 x1 x2 x3 x4 some:=
 Qv (N:=fun n (p:List D×Int×Int×List D×List D)=>n_Z20 n p.1 p.2.1 p.2.2.1 p.2.2.2.1 p.2.2.2.2) (C:=fun f p=>c_Z20 (fun x0 x1 x2 x3 x4=>f (x0,x1,x2,x3,x4)) p.1 p.2.1 p.2.2.1 p.2.2.2.1 p.2.2.2.2 some) (fun _=>rfl) (fun _ _=>rfl) (fun hD f fs h p=>by
  unfold c_Z20
  repeat' first | exact Lim.const hD | exact h _ | apply Lim.ite | apply Lim.cond | apply Lim.bind hD | apply Lim.sum | intro _) (x0,x1,x2,x3,x4)
theorem Z22_fx (x0:List D) (x1 x2:Int):Z22 x0 x1 x2=c_Z22 Z22 x0 x1 x2 some:=
 Qv (N:=fun n (p:List D×Int×Int)=>n_Z22 n p.1 p.2.1 p.2.2) (C:=fun f p=>c_Z22 (fun x0 x1 x2=>f (x0,x1,x2)) p.1 p.2.1 p.2.2 some) (fun _=>rfl) (fun _ _=>rfl) (fun hD f fs h p=>by
  unfold c_Z22
  repeat' first | exact Lim.const hD | exact h _ | apply Lim.ite | apply Lim.cond | apply Lim.bind hD | apply Lim.sum | intro _) (x0,x1,x2)
theorem Z24_fx (x0 x1 x2:Int) (x3 x4 x5:List D):Z24 x0 x1 x2 x3 x4 x5=c_Z24 Z24 x0 x1 x2 x3 x4 x5 some:=
 Qv (N:=fun n (p:Int×Int×Int×List D×List D×List D)=>n_Z24 n p.1 p.2.1 p.2.2.1 p.2.2.2.1 p.2.2.2.2.1 p.2.2.2.2.2) (C:=fun f p=>c_Z24 (fun x0 x1 x2 x3 x4 x5=>f (x0,x1,x2,x3,x4,x5)) p.1 p.2.1 p.2.2.1 p.2.2.2.1 p.2.2.2.2.1 p.2.2.2.2.2 some) (fun _=>rfl) (fun _ _=>rfl) (fun hD f fs h p=>by
  unfold c_Z24
  repeat' first | exact Lim.const hD | exact h _ | apply Lim.ite | apply Lim.cond | apply Lim.bind hD | apply Lim.sum | intro _) (x0,x1,x2,x3,x4,x5)
theorem Z25_fx (x0 x1 x2:Int) (x3 x4:List D):Z25 x0 x1 x2 x3 x4=c_Z25 Z25 x0 x1 x2 x3 x4 some:=
 Qv (N:=fun n (p:Int×Int×Int×List D×List D)=>n_Z25 n p.1 p.2.1 p.2.2.1 p.2.2.2.1 p.2.2.2.2) (C:=fun f p=>c_Z25 (fun x0 x1 x2 x3 x4=>f (x0,x1,x2,x3,x4)) p.1 p.2.1 p.2.2.1 p.2.2.2.1 p.2.2.2.2 some) (fun _=>rfl) (fun _ _=>rfl) (fun hD f fs h p=>by
  unfold c_Z25
  repeat' first | exact Lim.const hD | exact h _ | apply Lim.ite | apply Lim.cond | apply Lim.bind hD | apply Lim.sum | intro _) (x0,x1,x2,x3,x4)
theorem Z26_fx (x0:Int) (x1 x2:List D):Z26 x0 x1 x2=c_Z26 Z26 x0 x1 x2 some:=
 Qv (N:=fun n (p:Int×List D×List D)=>n_Z26 n p.1 p.2.1 p.2.2) (C:=fun f p=>c_Z26 (fun x0 x1 x2=>f (x0,x1,x2)) p.1 p.2.1 p.2.2 some) (fun _=>rfl) (fun _ _=>rfl) (fun hD f fs h p=>by
  unfold c_Z26
  repeat' first | exact Lim.const hD | exact h _ | apply Lim.ite | apply Lim.cond | apply Lim.bind hD | apply Lim.sum | intro _) (x0,x1,x2)
theorem Z30_fx (x0:ByteArray) (x1 x2:Int):Z30 x0 x1 x2=c_Z30 Z30 x0 x1 x2 some:=
 Qv (N:=fun n (p:ByteArray×Int×Int)=>n_Z30 n p.1 p.2.1 p.2.2) (C:=fun f p=>c_Z30 (fun x0 x1 x2=>f (x0,x1,x2)) p.1 p.2.1 p.2.2 some) (fun _=>rfl) (fun _ _=>rfl) (fun hD f fs h p=>by
  unfold c_Z30
  repeat' first | exact Lim.const hD | exact h _ | apply Lim.ite | apply Lim.cond | apply Lim.bind hD | apply Lim.sum | intro _) (x0,x1,x2)
theorem Z40_fx (x0 x1:List D) (x2 x3:Int):Z40 x0 x1 x2 x3=c_Z40 Z40 x0 x1 x2 x3 some:=
 Qv (N:=fun n (p:List D×List D×Int×Int)=>n_Z40 n p.1 p.2.1 p.2.2.1 p.2.2.2) (C:=fun f p=>c_Z40 (fun x0 x1 x2 x3=>f (x0,x1,x2,x3)) p.1 p.2.1 p.2.2.1 p.2.2.2 some) (fun _=>rfl) (fun _ _=>rfl) (fun hD f fs h p=>by
  unfold c_Z40
  repeat' first | exact Lim.const hD | exact h _ | apply Lim.ite | apply Lim.cond | apply Lim.bind hD | apply Lim.sum | intro _) (x0,x1,x2,x3)
theorem Z44_fx (x0:List D) (x1 x2 x3:Int):Z44 x0 x1 x2 x3=c_Z44 Z44 x0 x1 x2 x3 some:=
 Qv (N:=fun n (p:List D×Int×Int×Int)=>n_Z44 n p.1 p.2.1 p.2.2.1 p.2.2.2) (C:=fun f p=>c_Z44 (fun x0 x1 x2 x3=>f (x0,x1,x2,x3)) p.1 p.2.1 p.2.2.1 p.2.2.2 some) (fun _=>rfl) (fun _ _=>rfl) (fun hD f fs h p=>by
  unfold c_Z44
  repeat' first | exact Lim.const hD | exact h _ | apply Lim.ite | apply Lim.cond | apply Lim.bind hD | apply Lim.sum | intro _) (x0,x1,x2,x3)
theorem Z46_fx (x0 x1 x2:Int) (x3:List D):Z46 x0 x1 x2 x3=c_Z46 Z46 x0 x1 x2 x3 some:=
 Qv (N:=fun n (p:Int×Int×Int×List D)=>n_Z46 n p.1 p.2.1 p.2.2.1 p.2.2.2) (C:=fun f p=>c_Z46 (fun x0 x1 x2 x3=>f (x0,x1,x2,x3)) p.1 p.2.1 p.2.2.1 p.2.2.2 some) (fun _=>rfl) (fun _ _=>rfl) (fun hD f fs h p=>by
  unfold c_Z46
  repeat' first | exact Lim.const hD | exact h _ | apply Lim.ite | apply Lim.cond | apply Lim.bind hD | apply Lim.sum | intro _) (x0,x1,x2,x3)
theorem Z49_fx (x0:List D) (x1 x2:Int) (x3:List D):Z49 x0 x1 x2 x3=c_Z49 Z49 x0 x1 x2 x3 some:=
 Qv (N:=fun n (p:List D×Int×Int×List D)=>n_Z49 n p.1 p.2.1 p.2.2.1 p.2.2.2) (C:=fun f p=>c_Z49 (fun x0 x1 x2 x3=>f (x0,x1,x2,x3)) p.1 p.2.1 p.2.2.1 p.2.2.2 some) (fun _=>rfl) (fun _ _=>rfl) (fun hD f fs h p=>by
  unfold c_Z49
  repeat' first | exact Lim.const hD | exact h _ | apply Lim.ite | apply Lim.cond | apply Lim.bind hD | apply Lim.sum | intro _) (x0,x1,x2,x3)
theorem Z51_fx (x0:Int) (x1 x2:Nat) (x3:Int) (x4:List D):Z51 x0 x1 x2 x3 x4=c_Z51 Z51 x0 x1 x2 x3 x4 some:=
 Qv (N:=fun n (p:Int×Nat×Nat×Int×List D)=>n_Z51 n p.1 p.2.1 p.2.2.1 p.2.2.2.1 p.2.2.2.2) (C:=fun f p=>c_Z51 (fun x0 x1 x2 x3 x4=>f (x0,x1,x2,x3,x4)) p.1 p.2.1 p.2.2.1 p.2.2.2.1 p.2.2.2.2 some) (fun _=>rfl) (fun _ _=>rfl) (fun hD f fs h p=>by
  unfold c_Z51
  repeat' first | exact Lim.const hD | exact h _ | apply Lim.ite | apply Lim.cond | apply Lim.bind hD | apply Lim.sum | intro _) (x0,x1,x2,x3,x4)
theorem Z52_fx (x0:Int) (x1:List D):Z52 x0 x1=c_Z52 Z52 x0 x1 some:=
 Qv (N:=fun n (p:Int×List D)=>n_Z52 n p.1 p.2) (C:=fun f p=>c_Z52 (fun x0 x1=>f (x0,x1)) p.1 p.2 some) (fun _=>rfl) (fun _ _=>rfl) (fun hD f fs h p=>by
  unfold c_Z52
  repeat' first | exact Lim.const hD | exact h _ | apply Lim.ite | apply Lim.cond | apply Lim.bind hD | apply Lim.sum | intro _) (x0,x1)
theorem Z55_fx (x0:List D) (x1:ByteArray) (x2 x3:Int):Z55 x0 x1 x2 x3=c_Z55 Z55 x0 x1 x2 x3 some:=
 Qv (N:=fun n (p:List D×ByteArray×Int×Int)=>n_Z55 n p.1 p.2.1 p.2.2.1 p.2.2.2) (C:=fun f p=>c_Z55 (fun x0 x1 x2 x3=>f (x0,x1,x2,x3)) p.1 p.2.1 p.2.2.1 p.2.2.2 some) (fun _=>rfl) (fun _ _=>rfl) (fun hD f fs h p=>by
  unfold c_Z55
  repeat' first | exact Lim.const hD | exact h _ | apply Lim.ite | apply Lim.cond | apply Lim.bind hD | apply Lim.sum | intro _) (x0,x1,x2,x3)
theorem Z57_fx (x0 x1:Int) (x2 x3 x4:List D):Z57 x0 x1 x2 x3 x4=c_Z57 Z57 x0 x1 x2 x3 x4 some:=
 Qv (N:=fun n (p:Int×Int×List D×List D×List D)=>n_Z57 n p.1 p.2.1 p.2.2.1 p.2.2.2.1 p.2.2.2.2) (C:=fun f p=>c_Z57 (fun x0 x1 x2 x3 x4=>f (x0,x1,x2,x3,x4)) p.1 p.2.1 p.2.2.1 p.2.2.2.1 p.2.2.2.2 some) (fun _=>rfl) (fun _ _=>rfl) (fun hD f fs h p=>by
  unfold c_Z57
  repeat' first | exact Lim.const hD | exact h _ | apply Lim.ite | apply Lim.cond | apply Lim.bind hD | apply Lim.sum | intro _) (x0,x1,x2,x3,x4)
theorem Z58_fx (x0:Int) (x1:List D) (x2 x3:Int):Z58 x0 x1 x2 x3=c_Z58 Z58 x0 x1 x2 x3 some:=
 Qv (N:=fun n (p:Int×List D×Int×Int)=>n_Z58 n p.1 p.2.1 p.2.2.1 p.2.2.2) (C:=fun f p=>c_Z58 (fun x0 x1 x2 x3=>f (x0,x1,x2,x3)) p.1 p.2.1 p.2.2.1 p.2.2.2 some) (fun _=>rfl) (fun _ _=>rfl) (fun hD f fs h p=>by
  unfold c_Z58
  repeat' first | exact Lim.const hD | exact h _ | apply Lim.ite | apply Lim.cond | apply Lim.bind hD | apply Lim.sum | intro _) (x0,x1,x2,x3)
theorem Z60_fx (x0:List D) (x1 x2:Int) (x3:List D) (x4:Int) (x5 x6:List D):Z60 x0 x1 x2 x3 x4 x5 x6=c_Z60 Z60 x0 x1 x2 x3 x4 x5 x6 some:=
 Qv (N:=fun n (p:List D×Int×Int×List D×Int×List D×List D)=>n_Z60 n p.1 p.2.1 p.2.2.1 p.2.2.2.1 p.2.2.2.2.1 p.2.2.2.2.2.1 p.2.2.2.2.2.2) (C:=fun f p=>c_Z60 (fun x0 x1 x2 x3 x4 x5 x6=>f (x0,x1,x2,x3,x4,x5,x6)) p.1 p.2.1 p.2.2.1 p.2.2.2.1 p.2.2.2.2.1 p.2.2.2.2.2.1 p.2.2.2.2.2.2 some) (fun _=>rfl) (fun _ _=>rfl) (fun hD f fs h p=>by
  unfold c_Z60
  repeat' first | exact Lim.const hD | exact h _ | apply Lim.ite | apply Lim.cond | apply Lim.bind hD | apply Lim.sum | intro _) (x0,x1,x2,x3,x4,x5,x6)
theorem Z62_fx (x0 x1:Int) (x2:List D) (x3 x4 x5:Int) (x6:List D):Z62 x0 x1 x2 x3 x4 x5 x6=c_Z62 Z62 x0 x1 x2 x3 x4 x5 x6 some:=
 Qv (N:=fun n (p:Int×Int×List D×Int×Int×Int×List D)=>n_Z62 n p.1 p.2.1 p.2.2.1 p.2.2.2.1 p.2.2.2.2.1 p.2.2.2.2.2.1 p.2.2.2.2.2.2) (C:=fun f p=>c_Z62 (fun x0 x1 x2 x3 x4 x5 x6=>f (x0,x1,x2,x3,x4,x5,x6)) p.1 p.2.1 p.2.2.1 p.2.2.2.1 p.2.2.2.2.1 p.2.2.2.2.2.1 p.2.2.2.2.2.2 some) (fun _=>rfl) (fun _ _=>rfl) (fun hD f fs h p=>by
  unfold c_Z62
  repeat' first | exact Lim.const hD | exact h _ | apply Lim.ite | apply Lim.cond | apply Lim.bind hD | apply Lim.sum | intro _) (x0,x1,x2,x3,x4,x5,x6)
theorem Z63_fx (x0 x1:Int) (x2:List D) (x3 x4:Int) (x5:List D):Z63 x0 x1 x2 x3 x4 x5=c_Z63 Z63 x0 x1 x2 x3 x4 x5 some:=
 Qv (N:=fun n (p:Int×Int×List D×Int×Int×List D)=>n_Z63 n p.1 p.2.1 p.2.2.1 p.2.2.2.1 p.2.2.2.2.1 p.2.2.2.2.2) (C:=fun f p=>c_Z63 (fun x0 x1 x2 x3 x4 x5=>f (x0,x1,x2,x3,x4,x5)) p.1 p.2.1 p.2.2.1 p.2.2.2.1 p.2.2.2.2.1 p.2.2.2.2.2 some) (fun _=>rfl) (fun _ _=>rfl) (fun hD f fs h p=>by
  unfold c_Z63
  repeat' first | exact Lim.const hD | exact h _ | apply Lim.ite | apply Lim.cond | apply Lim.bind hD | apply Lim.sum | intro _) (x0,x1,x2,x3,x4,x5)
theorem Z65_fx (x0:Int) (x1:List D) (x2 x3 x4 x5:Int) (x6:List D):Z65 x0 x1 x2 x3 x4 x5 x6=c_Z65 Z65 x0 x1 x2 x3 x4 x5 x6 some:=
 Qv (N:=fun n (p:Int×List D×Int×Int×Int×Int×List D)=>n_Z65 n p.1 p.2.1 p.2.2.1 p.2.2.2.1 p.2.2.2.2.1 p.2.2.2.2.2.1 p.2.2.2.2.2.2) (C:=fun f p=>c_Z65 (fun x0 x1 x2 x3 x4 x5 x6=>f (x0,x1,x2,x3,x4,x5,x6)) p.1 p.2.1 p.2.2.1 p.2.2.2.1 p.2.2.2.2.1 p.2.2.2.2.2.1 p.2.2.2.2.2.2 some) (fun _=>rfl) (fun _ _=>rfl) (fun hD f fs h p=>by
  unfold c_Z65
  repeat' first | exact Lim.const hD | exact h _ | apply Lim.ite | apply Lim.cond | apply Lim.bind hD | apply Lim.sum | intro _) (x0,x1,x2,x3,x4,x5,x6)
theorem Z66_fx (x0:Int) (x1:List D) (x2 x3 x4:Int) (x5:List D):Z66 x0 x1 x2 x3 x4 x5=c_Z66 Z66 x0 x1 x2 x3 x4 x5 some:=
 Qv (N:=fun n (p:Int×List D×Int×Int×Int×List D)=>n_Z66 n p.1 p.2.1 p.2.2.1 p.2.2.2.1 p.2.2.2.2.1 p.2.2.2.2.2) (C:=fun f p=>c_Z66 (fun x0 x1 x2 x3 x4 x5=>f (x0,x1,x2,x3,x4,x5)) p.1 p.2.1 p.2.2.1 p.2.2.2.1 p.2.2.2.2.1 p.2.2.2.2.2 some) (fun _=>rfl) (fun _ _=>rfl) (fun hD f fs h p=>by
  unfold c_Z66
  repeat' first | exact Lim.const hD | exact h _ | apply Lim.ite | apply Lim.cond | apply Lim.bind hD | apply Lim.sum | intro _) (x0,x1,x2,x3,x4,x5)
theorem Z67_fx (x0 x1:Int) (x2:List D):Z67 x0 x1 x2=c_Z67 Z67 x0 x1 x2 some:=
 Qv (N:=fun n (p:Int×Int×List D)=>n_Z67 n p.1 p.2.1 p.2.2) (C:=fun f p=>c_Z67 (fun x0 x1 x2=>f (x0,x1,x2)) p.1 p.2.1 p.2.2 some) (fun _=>rfl) (fun _ _=>rfl) (fun hD f fs h p=>by
  unfold c_Z67
  repeat' first | exact Lim.const hD | exact h _ | apply Lim.ite | apply Lim.cond | apply Lim.bind hD | apply Lim.sum | intro _) (x0,x1,x2)
theorem Z68_fx (x0:Int) (x1:List D) (x2 x3 x4:Int) (x5:List D):Z68 x0 x1 x2 x3 x4 x5=c_Z68 Z68 x0 x1 x2 x3 x4 x5 some:=
 Qv (N:=fun n (p:Int×List D×Int×Int×Int×List D)=>n_Z68 n p.1 p.2.1 p.2.2.1 p.2.2.2.1 p.2.2.2.2.1 p.2.2.2.2.2) (C:=fun f p=>c_Z68 (fun x0 x1 x2 x3 x4 x5=>f (x0,x1,x2,x3,x4,x5)) p.1 p.2.1 p.2.2.1 p.2.2.2.1 p.2.2.2.2.1 p.2.2.2.2.2 some) (fun _=>rfl) (fun _ _=>rfl) (fun hD f fs h p=>by
  unfold c_Z68
  repeat' first | exact Lim.const hD | exact h _ | apply Lim.ite | apply Lim.cond | apply Lim.bind hD | apply Lim.sum | intro _) (x0,x1,x2,x3,x4,x5)
theorem Z69_fx (x0 x1:Int) (x2:List D):Z69 x0 x1 x2=c_Z69 Z69 x0 x1 x2 some:=
 Qv (N:=fun n (p:Int×Int×List D)=>n_Z69 n p.1 p.2.1 p.2.2) (C:=fun f p=>c_Z69 (fun x0 x1 x2=>f (x0,x1,x2)) p.1 p.2.1 p.2.2 some) (fun _=>rfl) (fun _ _=>rfl) (fun hD f fs h p=>by
  unfold c_Z69
  repeat' first | exact Lim.const hD | exact h _ | apply Lim.ite | apply Lim.cond | apply Lim.bind hD | apply Lim.sum | intro _) (x0,x1,x2)
theorem Z70_fx (x0 x1 x2:Int) (x3:List D) (x4 x5 x6 x7 x8 x9:Int) (x10:List D):Z70 x0 x1 x2 x3 x4 x5 x6 x7 x8 x9 x10=c_Z70 Z70 x0 x1 x2 x3 x4 x5 x6 x7 x8 x9 x10 some:=
 Qv (N:=fun n (p:Int×Int×Int×List D×Int×Int×Int×Int×Int×Int×List D)=>n_Z70 n p.1 p.2.1 p.2.2.1 p.2.2.2.1 p.2.2.2.2.1 p.2.2.2.2.2.1 p.2.2.2.2.2.2.1 p.2.2.2.2.2.2.2.1 p.2.2.2.2.2.2.2.2.1 p.2.2.2.2.2.2.2.2.2.1 p.2.2.2.2.2.2.2.2.2.2) (C:=fun f p=>c_Z70 (fun x0 x1 x2 x3 x4 x5 x6 x7 x8 x9 x10=>f (x0,x1,x2,x3,x4,x5,x6,x7,x8,x9,x10)) p.1 p.2.1 p.2.2.1 p.2.2.2.1 p.2.2.2.2.1 p.2.2.2.2.2.1 p.2.2.2.2.2.2.1 p.2.2.2.2.2.2.2.1 p.2.2.2.2.2.2.2.2.1 p.2.2.2.2.2.2.2.2.2.1 p.2.2.2.2.2.2.2.2.2.2 some) (fun _=>rfl) (fun _ _=>rfl) (fun hD f fs h p=>by
  unfold c_Z70
  repeat' first | exact Lim.const hD | exact h _ | apply Lim.ite | apply Lim.cond | apply Lim.bind hD | apply Lim.sum | intro _) (x0,x1,x2,x3,x4,x5,x6,x7,x8,x9,x10)
theorem Z71_fx (x0 x1 x2 x3:Int) (x4:List D):Z71 x0 x1 x2 x3 x4=c_Z71 Z71 x0 x1 x2 x3 x4 some:=
 Qv (N:=fun n (p:Int×Int×Int×Int×List D)=>n_Z71 n p.1 p.2.1 p.2.2.1 p.2.2.2.1 p.2.2.2.2) (C:=fun f p=>c_Z71 (fun x0 x1 x2 x3 x4=>f (x0,x1,x2,x3,x4)) p.1 p.2.1 p.2.2.1 p.2.2.2.1 p.2.2.2.2 some) (fun _=>rfl) (fun _ _=>rfl) (fun hD f fs h p=>by
  unfold c_Z71
  repeat' first | exact Lim.const hD | exact h _ | apply Lim.ite | apply Lim.cond | apply Lim.bind hD | apply Lim.sum | intro _) (x0,x1,x2,x3,x4)
theorem Z73_fx (x0:Int) (x1:List D) (x2 x3 x4:Int) (x5:List D):Z73 x0 x1 x2 x3 x4 x5=c_Z73 Z73 x0 x1 x2 x3 x4 x5 some:=
 Qv (N:=fun n (p:Int×List D×Int×Int×Int×List D)=>n_Z73 n p.1 p.2.1 p.2.2.1 p.2.2.2.1 p.2.2.2.2.1 p.2.2.2.2.2) (C:=fun f p=>c_Z73 (fun x0 x1 x2 x3 x4 x5=>f (x0,x1,x2,x3,x4,x5)) p.1 p.2.1 p.2.2.1 p.2.2.2.1 p.2.2.2.2.1 p.2.2.2.2.2 some) (fun _=>rfl) (fun _ _=>rfl) (fun hD f fs h p=>by
  unfold c_Z73
  repeat' first | exact Lim.const hD | exact h _ | apply Lim.ite | apply Lim.cond | apply Lim.bind hD | apply Lim.sum | intro _) (x0,x1,x2,x3,x4,x5)
theorem Z75_fx (x0:List D) (x1 x2 x3:Int) (x4:List D) (x5:Int):Z75 x0 x1 x2 x3 x4 x5=c_Z75 Z75 x0 x1 x2 x3 x4 x5 some:=
 Qv (N:=fun n (p:List D×Int×Int×Int×List D×Int)=>n_Z75 n p.1 p.2.1 p.2.2.1 p.2.2.2.1 p.2.2.2.2.1 p.2.2.2.2.2) (C:=fun f p=>c_Z75 (fun x0 x1 x2 x3 x4 x5=>f (x0,x1,x2,x3,x4,x5)) p.1 p.2.1 p.2.2.1 p.2.2.2.1 p.2.2.2.2.1 p.2.2.2.2.2 some) (fun _=>rfl) (fun _ _=>rfl) (fun hD f fs h p=>by
  unfold c_Z75
  repeat' first | exact Lim.const hD | exact h _ | apply Lim.ite | apply Lim.cond | apply Lim.bind hD | apply Lim.sum | intro _) (x0,x1,x2,x3,x4,x5)
theorem Z76_fx (x0:Int) (x1:List D) (x2 x3 x4 x5:Int) (x6:List D):Z76 x0 x1 x2 x3 x4 x5 x6=c_Z76 Z76 x0 x1 x2 x3 x4 x5 x6 some:=
 Qv (N:=fun n (p:Int×List D×Int×Int×Int×Int×List D)=>n_Z76 n p.1 p.2.1 p.2.2.1 p.2.2.2.1 p.2.2.2.2.1 p.2.2.2.2.2.1 p.2.2.2.2.2.2) (C:=fun f p=>c_Z76 (fun x0 x1 x2 x3 x4 x5 x6=>f (x0,x1,x2,x3,x4,x5,x6)) p.1 p.2.1 p.2.2.1 p.2.2.2.1 p.2.2.2.2.1 p.2.2.2.2.2.1 p.2.2.2.2.2.2 some) (fun _=>rfl) (fun _ _=>rfl) (fun hD f fs h p=>by
  unfold c_Z76
  repeat' first | exact Lim.const hD | exact h _ | apply Lim.ite | apply Lim.cond | apply Lim.bind hD | apply Lim.sum | intro _) (x0,x1,x2,x3,x4,x5,x6)
theorem Z77_fx (x0:Int) (x1:List D) (x2 x3:Int) (x4:List D):Z77 x0 x1 x2 x3 x4=c_Z77 Z77 x0 x1 x2 x3 x4 some:=
 Qv (N:=fun n (p:Int×List D×Int×Int×List D)=>n_Z77 n p.1 p.2.1 p.2.2.1 p.2.2.2.1 p.2.2.2.2) (C:=fun f p=>c_Z77 (fun x0 x1 x2 x3 x4=>f (x0,x1,x2,x3,x4)) p.1 p.2.1 p.2.2.1 p.2.2.2.1 p.2.2.2.2 some) (fun _=>rfl) (fun _ _=>rfl) (fun hD f fs h p=>by
  unfold c_Z77
  repeat' first | exact Lim.const hD | exact h _ | apply Lim.ite | apply Lim.cond | apply Lim.bind hD | apply Lim.sum | intro _) (x0,x1,x2,x3,x4)
theorem Z80_fx (x0 x1:Nat) (x2 x3:Int) (x4 x5:List D):Z80 x0 x1 x2 x3 x4 x5=c_Z80 Z80 x0 x1 x2 x3 x4 x5 some:=
 Qv (N:=fun n (p:Nat×Nat×Int×Int×List D×List D)=>n_Z80 n p.1 p.2.1 p.2.2.1 p.2.2.2.1 p.2.2.2.2.1 p.2.2.2.2.2) (C:=fun f p=>c_Z80 (fun x0 x1 x2 x3 x4 x5=>f (x0,x1,x2,x3,x4,x5)) p.1 p.2.1 p.2.2.1 p.2.2.2.1 p.2.2.2.2.1 p.2.2.2.2.2 some) (fun _=>rfl) (fun _ _=>rfl) (fun hD f fs h p=>by
  unfold c_Z80
  repeat' first | exact Lim.const hD | exact h _ | apply Lim.ite | apply Lim.cond | apply Lim.bind hD | apply Lim.sum | intro _) (x0,x1,x2,x3,x4,x5)
theorem Z88_fx (x0:Int) (x1:ByteArray):Z88 x0 x1=c_Z88 Z88 x0 x1 some:=
 Qv (N:=fun n (p:Int×ByteArray)=>n_Z88 n p.1 p.2) (C:=fun f p=>c_Z88 (fun x0 x1=>f (x0,x1)) p.1 p.2 some) (fun _=>rfl) (fun _ _=>rfl) (fun hD f fs h p=>by
  unfold c_Z88
  repeat' first | exact Lim.const hD | exact h _ | apply Lim.ite | apply Lim.cond | apply Lim.bind hD | apply Lim.sum | intro _) (x0,x1)
theorem Z90_fx (x0 x1:Int) (x2:List D):Z90 x0 x1 x2=c_Z90 Z90 x0 x1 x2 some:=
 Qv (N:=fun n (p:Int×Int×List D)=>n_Z90 n p.1 p.2.1 p.2.2) (C:=fun f p=>c_Z90 (fun x0 x1 x2=>f (x0,x1,x2)) p.1 p.2.1 p.2.2 some) (fun _=>rfl) (fun _ _=>rfl) (fun hD f fs h p=>by
  unfold c_Z90
  repeat' first | exact Lim.const hD | exact h _ | apply Lim.ite | apply Lim.cond | apply Lim.bind hD | apply Lim.sum | intro _) (x0,x1,x2)
theorem l1In_eq (x a b:Int):Z7 x a b=some (btw x a b):=by
 unfold Z7 c_Z7 btw
 by_cases h:a≤x <;> simp [h]
theorem within_eq (x a b:Int):Z28 x a b=some (btw x a b):=by
 unfold Z28 c_Z28 btw
 by_cases h:a≤x <;> simp [h]
theorem fxScan {α:Type} {F:Int→Option α} {len:Nat} (p:Nat→Bool) (bad:Nat→α) {fin:α}
  (hs:∀ i:Nat,i<len→F (i:Int)=bif p i then some (bad i) else F ((i+1:Nat):Int)) (he:F (len:Int)=some fin) :
  F 0=some (match QN p len with | some i=>bad i | none=>fin):=by
 have key:∀ k (i:Nat),i+k=len→(∀ j,j<i→p j=false)→F (i:Int)=some (match QN p len with | some i=>bad i | none=>fin):=by
  intro k
  induction k with
  | zero=>
   intro i h1 h3
   have hi:i=len:=by omega
   subst hi
   rw [he]
   cases hf:QN p i with
   | none=>rfl
   | some j=>
    obtain ⟨q1,q2,_⟩:=Og hf
    rw [h3 j q1] at q2
    cases q2
  | succ k ih=>
   intro i h1 h3
   rw [hs i (by omega)]
   cases hp:p i with
   | true=>
    rw [cond_true]
    have:QN p len=some i:=by
     unfold QN
     rw [List.find?_range_eq_some]
     exact ⟨hp,List.mem_range.2 (by omega),fun j hj=>by simp [h3 j hj]⟩
    rw [this]
   | false=>
    rw [cond_false]
    refine ih (i+1) (by omega) (fun j hj=>?_)
    by_cases hji:j=i
    ·subst hji; exact hp
    ·exact h3 j (by omega)
 exact key len 0 (by omega) (fun j hj=>by omega)
def allN (p:Nat→Bool) (len:Nat):Bool:=(QN (fun i=>!p i) len).isNone
theorem allN_iff {p:Nat→Bool} {len:Nat}:allN p len=true↔∀ i,i<len→p i=true:=by
 unfold allN
 constructor
 ·intro h i hi
  cases hf:QN (fun i=>!p i) len with
  | none=>simpa using Yb hf i hi
  | some j=>rw [hf] at h; cases h
 ·intro h
  cases hf:QN (fun i=>!p i) len with
  | none=>rfl
  | some i=>obtain ⟨h1,h2,_⟩:=Og hf; rw [h i h1] at h2; cases h2
theorem fxAll {α:Type} {F:Int→Option α} {len:Nat} (p:Nat→Bool) (bad:α) {fin:α}
  (hs:∀ i:Nat,i<len→F (i:Int)=bif p i then F ((i+1:Nat):Int) else some bad) (he:F (len:Int)=some fin) :
  F 0=some (bif allN p len then fin else bad):=by
 have:=fxScan (F:=F) (len:=len) (fun i=>!p i) (fun _=>bad) (fin:=fin) (fun i hi=>by rw [hs i hi]; cases p i <;> rfl) he
 rw [this]
 unfold allN
 cases QN (fun i=>!p i) len <;> rfl
def cmpV (x y:Int):Int:=if x<y then -1 else if y<x then 1 else 0
theorem compare_eq (x y:Int):Z34 x y=some (cmpV x y):=by
 simp only [Z34,c_Z34,Z33,c_Z33,Option.bind_some,decide_true,Bool.not_true,cond_false,cmpV]
 by_cases h:x<y
 ·simp [h]
 ·by_cases h2:y<x <;> simp [h,h2]
theorem or_eq (a b:Int):Z38 [.int a,.int b]=some (if a=0 then b else a):=by
 have w1:IntKind.i64.wrap 1=1:=by decide
 have w2:IntKind.i64.wrap 2=2:=by decide
 have key:∃ y,Z37 0 [.int a,.int b] 2 0=some y∧(match y with | .inl z=>z.1 | .inr z=>z)=(if a=0 then b else a):=by
  by_cases ha:a=0
  ·by_cases hb:b=0
   ·refine ⟨.inr 0,Hn (f:=fun m=>n_Z37 m 0 [.int a,.int b] 2 0) 3 (fun m hm=>?_),by simp [ha,hb]⟩
    obtain ⟨m,rfl⟩:∃ m',m=m'+3:=⟨m - 3,by omega⟩
    simp [n_Z37,c_Z37,ha,hb,OT,w1,w2]
   ·refine ⟨.inl (b,0),Hn (f:=fun m=>n_Z37 m 0 [.int a,.int b] 2 0) 2 (fun m hm=>?_),by simp [ha]⟩
    obtain ⟨m,rfl⟩:∃ m',m=m'+2:=⟨m - 2,by omega⟩
    simp [n_Z37,c_Z37,ha,hb,OT,w1]
  ·refine ⟨.inl (a,0),Hn (f:=fun m=>n_Z37 m 0 [.int a,.int b] 2 0) 1 (fun m hm=>?_),by simp [ha]⟩
   obtain ⟨m,rfl⟩:∃ m',m=m'+1:=⟨m - 1,by omega⟩
   simp [n_Z37,c_Z37,ha,OT]
 obtain ⟨y,h1,h2⟩:=key
 rw [← h2]
 simp only [Z38,c_Z38,show (([D.int a,D.int b]:List D).length:Int)=2 from rfl,h1,Option.bind_some]
 cases y <;> rfl
def markd (cell:Int→D) (c:Int) (n:Nat):List D:=(List.range n).map (fun (i:Nat)=>cell (1+c * (i:Int)))
theorem markd_len {cell:Int→D} {c:Int} {n:Nat}:(markd cell c n).length=n:=by simp [markd]
theorem markd_get {cell:Int→D} {c:Int} {n i:Nat} (h:i<n):(markd cell c n)[i]?.getD (.int 0)=cell (1+c * (i:Int)):=by
 simp [markd,h]
theorem mark_loop {N:Nat→Int→Int→List D→Option (Int×List D)} {n:Nat} {c:Int} {cell:Int→D}
  (hs:∀ m (i:Nat) acc,i<n→acc.length=n→N (m+1) (1+c * (i:Int)) (i:Int) acc=N m (1+c * ((i+1:Nat):Int)) ((i+1:Nat):Int) (acc.set i (cell (1+c * (i:Int)))))
  (he:∀ m acc,acc.length=n→N (m+1) (1+c * (n:Int)) (n:Int) acc=some (1+c * (n:Int),acc)) {l:List D} (hl:l.length=n) :
  ev (fun m=>N m 1 0 l)=some (1+c * (n:Int),markd cell c n):=by
 have key:∀ k,∀ m (i:Nat) acc,i+k=n→k<m→acc.length=n→acc.take i=(markd cell c n).take i→N m (1+c * (i:Int)) (i:Int) acc=some (1+c * (n:Int),markd cell c n):=by
  intro k
  induction k with
  | zero=>
   intro m i acc h1 h2 h3 h4
   obtain ⟨m,rfl⟩:∃ m',m=m'+1:=⟨m - 1,by omega⟩
   have hi:i=n:=by omega
   subst hi
   rw [he m acc h3]
   rw [List.take_of_length_le (by omega),List.take_of_length_le (by rw [markd_len]; exact Nat.le_refl _)] at h4
   rw [h4]
  | succ k ih=>
   intro m i acc h1 h2 h3 h4
   obtain ⟨m,rfl⟩:∃ m',m=m'+1:=⟨m - 1,by omega⟩
   rw [hs m i acc (by omega) h3]
   refine ih m (i+1) _ (by omega) (by omega) (by simpa using h3) ?_
   have hi:i<(markd cell c n).length:=by rw [markd_len]; omega
   rw [List.take_succ_eq_append_getElem (by simp; omega),List.take_succ_eq_append_getElem hi]
   rw [List.take_set_of_le (by omega),h4]
   simp [markd]
 have:=Hn (f:=fun m=>N m 1 0 l) (n+1) (fun m hm=>by
  have:=key n m 0 l (by omega) (by omega) hl (by simp)
  simpa using this)
 exact this
theorem held_loop {X:Type} {N:Nat→Int→Int→Option X} {n:Nat} {c:Int} {x:X}
  (hs:∀ m (i:Nat),i<n→N (m+1) (1+c * (i:Int)) (i:Int)=N m (1+c * ((i+1:Nat):Int)) ((i+1:Nat):Int))
  (he:∀ m,N (m+1) (1+c * (n:Int)) (n:Int)=some x):ev (fun m=>N m 1 0)=some x:=by
 have key:∀ k,∀ m (i:Nat),i+k=n→k<m→N m (1+c * (i:Int)) (i:Int)=some x:=by
  intro k
  induction k with
  | zero=>
   intro m i h1 h2
   obtain ⟨m,rfl⟩:∃ m',m=m'+1:=⟨m - 1,by omega⟩
   have hi:i=n:=by omega
   subst hi
   exact he m
  | succ k ih=>
   intro m i h1 h2
   obtain ⟨m,rfl⟩:∃ m',m=m'+1:=⟨m - 1,by omega⟩
   rw [hs m i (by omega)]
   exact ih m (i+1) (by omega) (by omega)
 exact Hn (f:=fun m=>N m 1 0) (n+1) (fun m hm=>by
  have:=key n m 0 (by omega) (by omega)
  simpa using this)
theorem markText_tot (k:Nat) (hk:k<10 ^ 18):∃ s,Z89 k=some s:=by
 have key:∀ (n j:Nat) (s:ByteArray),j<10 ^ n→n≤18→s.size+n≤4294967000→∃ r,Z88 j s=some r∧r.size≤s.size+n:=by
  intro n
  induction n with
  | zero=>
   intro j s hj _ hs
   have:j=0:=by simpa using hj
   subst this
   refine ⟨s,?_,by omega⟩
   rw [Z88_fx]; unfold c_Z88; simp
  | succ n ih=>
   intro j s hj hn hs
   rw [Z88_fx]
   unfold c_Z88
   by_cases h0:j=0
   ·subst h0
    exact ⟨s,by simp,by omega⟩
   ·have h1:(0:Int)<j:=by omega
    have hq:IntKind.i64.wrap ((j:Int).tdiv 10)=((j / 10:Nat):Int):=by
     have e:(j:Int).tdiv 10=((j / 10:Nat):Int):=by
      rw [Int.tdiv_eq_ediv_of_nonneg (by omega)]; omega
     have hp:10 ^ (n+1)≤10 ^ 18:=Nat.pow_le_pow_right (by omega) (by omega)
     rw [e,Qe (by omega) (by omega)]
    have hb:∀ d:D,(Ce [d]).size=1:=fun d=>rfl
    have hc:(1:Nat)+s.size≤4294967296:=by omega
    simp only [h1,decide_true,cond_true,ne_eq,show ¬ (10:Int)=0 by omega,not_false_eq_true,if_true,hb,hc,hq]
    have hp:j / 10<10 ^ n:=by
     rw [Nat.pow_succ] at hj
     omega
    have hsz:∀ d:D,(Ce [d]++s).size=1+s.size:=fun d=>by rw [ByteArray.size_append,hb]
    obtain ⟨r,r1,r2⟩:=ih (j / 10) (Ce [D.int (IntKind.u8.wrap (IntKind.i64.wrap (48+(j:Int).tmod 10)))]++s) hp (by omega) (by rw [hsz]; omega)
    rw [hsz] at r2
    rw [r1]
    exact ⟨r,rfl,by omega⟩
 unfold Z89 c_Z89
 by_cases h0:k=0
 ·subst h0; exact ⟨_,rfl⟩
 ·have h1:¬ (k:Int)≤0:=by omega
  obtain ⟨r,r1,r2⟩:=key 18 k bytes_0 hk (by omega) (by decide)
  have hz:ByteArray.size bytes_0=0:=by decide
  have hm:ByteArray.size bytes_2=1:=by decide
  have hc:ByteArray.size bytes_2+r.size≤4294967296:=by omega
  simp only [h1,decide_false,cond_false,r1,Option.bind_some,hc,if_true]
  exact ⟨_,rfl⟩
noncomputable def mt (k:Int):ByteArray:=(Z89 k).getD ByteArray.empty
theorem markText_eq (k:Nat) (hk:k<10 ^ 18):Z89 k=some (mt k):=by
 obtain ⟨s,hs⟩:=markText_tot k hk
 unfold mt
 rw [hs]; rfl
noncomputable abbrev cellS (k:Int):D:=.str (mt k)
abbrev tFi:Ty:=.struct [.int .i64,.str,.int .i64,.int .i64,.int .i64]
theorem tFi_wf {d:D} (h:wfD tFi d):∃ (a:Int) (s:ByteArray) (b c e:Int),d=.node [.int a,.str s,.int b,.int c,.int e]∧s.size≤maxLen:=by
 obtain ⟨l,rfl,x1,r1,rfl,⟨a,rfl,_⟩,x2,r2,rfl,⟨s,rfl,hs⟩,x3,r3,rfl,⟨b,rfl,_⟩,x4,r4,rfl,⟨c,rfl,_⟩,x5,r5,rfl,⟨e,rfl,_⟩,h⟩:=h
 obtain rfl:=h
 exact ⟨a,s,b,c,e,rfl,hs⟩
theorem szFindS_tot (l:List D) (v:Int) (hv:0≤v) (hv':v≤1048576) (hl:l.length≤maxLen):∃ r,Z3 l v=some r∧(0≤r→l.length≤1048576):=by
 unfold maxLen at hl
 have hw:IntKind.i64.wrap (v - (l.length:Int))=v - (l.length:Int):=Qe (by omega) (by omega)
 unfold Z3 c_Z3
 rw [hw]
 by_cases h:v - (l.length:Int)<0
 ·exact ⟨-1,by simp [h],by omega⟩
 ·have key:∀ k (i:Nat) (u:Int),i+k=l.length→∃ r,Z2 l u i=some r:=by
   intro k
   induction k with
   | zero=>
    intro i u hi
    have hi:i=l.length:=by omega
    subst hi
    rw [Z2_fx]; unfold c_Z2; simp
   | succ k ih=>
    intro i u hi
    rw [Z2_fx]
    unfold c_Z2
    have h1:(i:Int)<l.length:=by omega
    have hw:IntKind.i64.wrap ((i:Int)+1)=((i+1:Nat):Int):=Qx (by omega)
    simp only [h1,decide_true,cond_true,Int.natCast_nonneg,and_self,if_true,hw,Z1,c_Z1,Option.bind_fun_some]
    cases decide (IntKind.i64.wrap (u - (((l.getD (i:Int).toNat (D.int 0)).fld 1).toStr.size:Int))<0) with
    | true=>exact ⟨_,rfl⟩
    | false=>
     simp only [cond_false,Option.bind_some]
     cases decide (IntKind.i64.wrap (u - (((l.getD (i:Int).toNat (D.int 0)).fld 1).toStr.size:Int))<0) with
     | true=>exact ⟨_,rfl⟩
     | false=>exact ih (i+1) _ (by omega)
  obtain ⟨r,hr⟩:=key l.length 0 (v - l.length) (by omega)
  have hr:Z2 l (v - l.length) 0=some r:=hr
  simp only [h,decide_false,cond_false,hr,Option.bind_some]
  cases r <;> exact ⟨_,rfl,fun _=>by omega⟩
theorem toFindS_id (l:List D) (hl:l.length≤1048576) (w:∀ d∈l,wfD tFi d):Z6 l=some l:=by
 have key:Z5 l 0 (List.replicate l.length (.node [.int 0,.str bytes_0,.int 0,.int 0,.int 0]))=some l:=by
  refine qY (N:=n_Z5) (fun m i acc hi hacc=>?_) (fun m acc hacc=>?_)
  ·obtain ⟨a,s,b,c,e,hd,_⟩:=tFi_wf (w _ (K5 hi))
   have hw:IntKind.i64.wrap ((i:Int)+1)=(i:Int)+1:=Qe (by omega) (by omega)
   have h2:(i:Int)<acc.length:=by omega
   have h3:i+1≤acc.length:=by omega
   have h1:(i:Int)<l.length:=by omega
   simp [n_Z5,c_Z5,Z4,c_Z4,h1,h2,h3,hw,hd,qX,OT,D.toStr]
  ·simp [n_Z5,c_Z5]
 have h4:(l.length:Int)≤4294967296:=by omega
 simp [Z6,c_Z6,key,h4]
theorem eqFindS_self (l:List D) (hl:l.length≤1048576):Z87 l l=some true:=by
 have key:Z86 l l 0=some (.inr ()):=by
  refine NU (N:=fun n i=>n_Z86 n l l i) (len:=l.length) (fun m i hi=>?_) (fun m=>?_)
  ·have hw:IntKind.i64.wrap ((i:Int)+1)=(i:Int)+1:=Qe (by omega) (by omega)
   have h1:(i:Int)<l.length:=by omega
   simp [n_Z86,c_Z86,Z85,c_Z85,h1,hw]
  ·simp [n_Z86,c_Z86]
 simp [Z87,c_Z87,key]
theorem markFindS_ok (l:List D) (hl:l.length≤1048576):∃ k l',Z91 l 1=some (k,l')∧0≤k:=by
 have key:∀ r (i:Nat) (acc:List D),i+r=l.length→acc.length=l.length→∃ l',Z90 ((1+5 * i:Nat):Int) i acc=some (((1+5 * l.length:Nat):Int),l'):=by
  intro r
  induction r with
  | zero=>
   intro i acc hi ha
   have hi:i=acc.length:=by omega
   subst hi
   rw [Z90_fx]
   unfold c_Z90
   simp [ha]
  | succ r ih=>
   intro i acc hi ha
   rw [Z90_fx]
   unfold c_Z90
   have h2:(i:Int)<acc.length:=by omega
   have h3:i+1≤acc.length:=by omega
   have hw:IntKind.i64.wrap ((i:Int)+1)=((i+1:Nat):Int):=Qx (by omega)
   have w1:IntKind.i64.wrap (((1+5 * i:Nat):Int)+1)=((1+5 * i+1:Nat):Int):=Qx (by omega)
   have w2:IntKind.i64.wrap (((1+5 * i+1:Nat):Int)+1)=((1+5 * i+1+1:Nat):Int):=Qx (by omega)
   have w3:IntKind.i64.wrap (((1+5 * i+1+1:Nat):Int)+1)=((1+5 * i+1+1+1:Nat):Int):=Qx (by omega)
   have w4:IntKind.i64.wrap (((1+5 * i+1+1+1:Nat):Int)+1)=((1+5 * i+1+1+1+1:Nat):Int):=Qx (by omega)
   have w5:IntKind.i64.wrap (((1+5 * i+1+1+1+1:Nat):Int)+1)=((1+5 * (i+1):Nat):Int):=by rw [Qx (by omega)]; omega
   simp only [h2,h3,decide_true,cond_true,Int.natCast_nonneg,and_self,if_true,Int.toNat_natCast,w1,markText_eq (1+5 * i+1) (by omega),Option.bind_some,Z0,List.length_set,w2,w3,w4,w5,hw,Option.bind_fun_some]
   exact ih (i+1) _ (by omega) (by simp only [List.length_set]; exact ha)
 obtain ⟨l',h⟩:=key l.length 0 l (by omega) rfl
 have h:Z90 1 0 l=some (((1+5 * l.length:Nat):Int),l'):=h
 refine ⟨((1+5 * l.length:Nat):Int),l',?_,by omega⟩
 simp only [Z91,c_Z91,h,Option.bind_some]
def chr (s:ByteArray) (i:Nat):Int:=((s.data.toList.getD i (0:UInt8)).toNat:Int)
def okL (c:Int):Bool:=decide (97≤c)&&decide (c≤122)
def okD (c:Int):Bool:=decide (48≤c)&&decide (c≤57)
def okC (s:ByteArray) (i:Nat):Bool:=okL (chr s i)||(!decide (i=0)&&okD (chr s i))
def nameB (s:ByteArray):Bool:=btw (s.size:Int) 1 8&&allN (okC s) s.size
theorem l7Name_eq (s:ByteArray):Z9 s=some (nameB s):=by
 unfold Z9 c_Z9 nameB
 simp only [l1In_eq,Option.bind_some]
 cases hb:btw (s.size:Int) 1 8 with
 | false=>rfl
 | true=>
  rw [NV] at hb
  have h:=fxAll (F:=fun i=>Z8 s i) (len:=s.size) (fun i=>okL (chr s i)||okD (chr s i)) (.inl false) (fin:=.inr ()) (fun i hi=>by
   show Z8 s i=_
   rw [Z8_fx]
   unfold c_Z8
   have h1:(i:Int)<s.size:=by omega
   simp only [h1,decide_true,cond_true,Int.natCast_nonneg,and_self,if_true,Int.toNat_natCast,Qx (show i<4611686018427387904 by omega),Option.bind_fun_some]
   show _=bif okL (chr s i)||okD (chr s i) then _ else _
   have hc:((s.data.toList.getD i (0:UInt8)).toNat:Int)=chr s i:=rfl
   simp only [hc]
   unfold okL okD
   by_cases a1:chr s i<97
   ·have a1':¬ 97≤chr s i:=by omega
    by_cases a2:chr s i<48
    ·have a2':¬ 48≤chr s i:=by omega
     simp [a1,a1',a2,a2']
    ·have a2':48≤chr s i:=by omega
     by_cases a3:57<chr s i
     ·have a3':¬ chr s i≤57:=by omega
      simp [a1,a1',a2,a2',a3,a3']
     ·have a3':chr s i≤57:=by omega
      simp [a1,a1',a2,a2',a3,a3']
   ·have a1':97≤chr s i:=by omega
    by_cases a4:122<chr s i
    ·have a4':¬ chr s i≤122:=by omega
     have a2:¬ chr s i<48:=by omega
     have a3:57<chr s i:=by omega
     have a3':¬ chr s i≤57:=by omega
     simp [a1,a1',a4,a4',a2,a3,a3']
    ·have a4':chr s i≤122:=by omega
     simp [a1,a1',a4,a4'])
   (by
    show Z8 s s.size=_
    rw [Z8_fx]; unfold c_Z8; simp)
  have h':Z8 s 0=_:=h
  have h0:(0:Int)<s.size:=by omega
  have hc:((s.data.toList.getD (0:Int).toNat (0:UInt8)).toNat:Int)=chr s 0:=rfl
  simp only [Bool.not_true,cond_false,h0,and_self,if_true,Int.le_refl,hc,h',Option.bind_some,Bool.true_and]
  have hsz:0<s.size:=by omega
  by_cases a1:chr s 0<97
  ·have hn:allN (okC s) s.size=false:=by
    rw [← Bool.not_eq_true,allN_iff]
    intro hf
    have:=hf 0 hsz
    simp only [okC,okL,decide_true,Bool.not_true,Bool.false_and,Bool.or_false,Bool.and_eq_true,decide_eq_true_eq] at this
    omega
   simp [a1,hn]
  ·by_cases a2:122<chr s 0
   ·have hn:allN (okC s) s.size=false:=by
     rw [← Bool.not_eq_true,allN_iff]
     intro hf
     have:=hf 0 hsz
     simp only [okC,okL,decide_true,Bool.not_true,Bool.false_and,Bool.or_false,Bool.and_eq_true,decide_eq_true_eq] at this
     omega
    simp [a1,a2,hn]
   ·have hn:allN (fun i=>okL (chr s i)||okD (chr s i)) s.size=allN (okC s) s.size:=by
     rw [Bool.eq_iff_iff,allN_iff,allN_iff]
     constructor
     ·intro hf i hi
      by_cases hi0:i=0
      ·subst hi0
       simp only [okC,okL,Bool.or_eq_true,Bool.and_eq_true,decide_eq_true_eq]
       left; omega
      ·have:=hf i hi
       simpa [okC,hi0] using this
     ·intro hf i hi
      have:=hf i hi
      simp only [okC,Bool.or_eq_true,Bool.and_eq_true] at this ⊢
      rcases this with h | h
      ·exact .inl h
      ·exact .inr h.2
    simp only [a1,a2,decide_false,cond_false,hn]
    cases allN (okC s) s.size <;> rfl
theorem isName_eq (s:ByteArray) (hs:s.size≤maxLen):Z31 s=some (nameB s):=by
 unfold maxLen at hs
 have h:=fxAll (F:=fun i=>Z30 s s.size i) (len:=s.size) (okC s) (.inl (s,false)) (fin:=.inr s) (fun i hi=>by
  show Z30 s s.size i=_
  rw [Z30_fx]
  unfold c_Z30
  have h1:(i:Int)<s.size:=by omega
  have hw:IntKind.i64.wrap ((i:Int)+1)=((i+1:Nat):Int):=by rw [Qe (by omega) (by omega)]; omega
  have hc:((s.data.toList.getD i (0:UInt8)).toNat:Int)=chr s i:=rfl
  have h0:decide ((i:Int)=0)=decide (i=0):=by simp
  simp only [h1,decide_true,cond_true,Int.natCast_nonneg,and_self,if_true,Int.toNat_natCast,hw,Option.bind_fun_some,hc,h0]
  unfold okC okL okD
  cases decide (i=0) <;> cases decide (97≤chr s i) <;> cases decide (chr s i≤122) <;> cases decide (48≤chr s i) <;> cases decide (chr s i≤57) <;> rfl)
  (by
   show Z30 s s.size s.size=_
   rw [Z30_fx]; unfold c_Z30; simp)
 have h':Z30 s s.size 0=_:=h
 unfold Z31 c_Z31 nameB
 simp only [h',Option.bind_some]
 cases allN (okC s) s.size with
 | false=>simp
 | true=>simp [within_eq]
def findB (a:Int) (s:ByteArray) (b c e:Int):Bool:=btw a 1 999&&(nameB s&&(btw b 1 10000&&(btw c 0 1000000&&btw e 0 (IntKind.i64.wrap (100 * b)))))
theorem l14Find_eq (a:Int) (s:ByteArray) (b c e:Int):Z10 a s b c e=some (findB a s b c e):=by
 unfold Z10 c_Z10 findB
 simp only [l1In_eq,l7Name_eq,Option.bind_some]
 cases btw a 1 999 <;> cases nameB s <;> cases btw b 1 10000 <;> cases btw c 0 1000000 <;> rfl
theorem isFind_eq (a:Int) (s:ByteArray) (b c e:Int) (hs:s.size≤maxLen):Z32 a s b c e=some (findB a s b c e):=by
 unfold Z32 c_Z32 findB
 simp only [Z29,c_Z29,within_eq,isName_eq s hs,Option.bind_some]
 cases btw a 1 999 <;> cases nameB s <;> cases btw b 1 10000 <;> cases btw c 0 1000000 <;> rfl
def lexS (a:Int) (s:ByteArray) (b:Int) (u:ByteArray):Bool:=decide (a<b)||(decide (a=b)&&Op.bytesLess s.toList u.toList)
theorem before14_eq (a:Int) (s:ByteArray) (b c e:Int) (a':Int) (s':ByteArray) (b' c' e':Int):Z11 a s b c e a' s' b' c' e'=some (lexS a s a' s'):=by
 unfold Z11 c_Z11 lexS
 cases decide (a<a') <;> cases decide (a=a') <;> rfl
theorem cmpFinds_eq (a:Int) (s:ByteArray) (b c e:Int) (a':Int) (s':ByteArray) (b' c' e':Int):∃ v,Z39 a s b c e a' s' b' c' e'=some v∧decide (0≤v)=!lexS a s a' s':=by
 have h2:∃ w,Z36 s s'=some w∧decide (0≤w)=!Op.bytesLess s.toList s'.toList:=by
  simp only [Z36,c_Z36,Z35,c_Z35,Option.bind_some,beq_self_eq_true,Bool.not_true,cond_false]
  cases Op.bytesLess s.toList s'.toList <;> cases (s.toList==s'.toList) <;> exact ⟨_,rfl,rfl⟩
 obtain ⟨w,w1,w2⟩:=h2
 simp only [Z39,c_Z39,compare_eq,w1,or_eq,Option.bind_some]
 refine ⟨_,rfl,?_⟩
 unfold cmpV lexS
 by_cases h1:a<a'
 ·simp [h1]
 ·by_cases h2:a'<a
  ·have:¬ a=a':=by omega
   simp [h1,h2,this]
  ·have:a=a':=by omega
   subst this
   simp [w2]
def fOk (l:List D) (i:Nat):Bool:=
 findB ((l[i]?.getD (.int 0)).fld 0).toInt ((l[i]?.getD (.int 0)).fld 1).toStr ((l[i]?.getD (.int 0)).fld 2).toInt ((l[i]?.getD (.int 0)).fld 3).toInt ((l[i]?.getD (.int 0)).fld 4).toInt &&
 (decide (i=0)||lexS ((l[i - 1]?.getD (.int 0)).fld 0).toInt ((l[i - 1]?.getD (.int 0)).fld 1).toStr ((l[i]?.getD (.int 0)).fld 0).toInt ((l[i]?.getD (.int 0)).fld 1).toStr)
def validF (l:List D):Bool:=decide (l.length≤30)&&allN (fOk l) l.length
theorem l14Good_eq (l:List D) (hl:l.length≤1048576):Z13 l=some (validF l):=by
 have h:=fxAll (F:=fun i=>Z12 l i) (len:=min l.length 31) (fOk l) (.inl (l,false)) (fin:=.inr l) (fun i hi=>by
  show Z12 l i=_
  rw [Z12_fx]
  unfold c_Z12
  have h1:(i:Int)<l.length:=by omega
  have h2:(i:Int)≤30:=by omega
  simp only [h1,h2,decide_true,cond_true,Int.natCast_nonneg,and_self,if_true,Int.toNat_natCast,List.getD_eq_getElem?_getD,l14Find_eq,before14_eq,Option.bind_some,Qx (show i<4611686018427387904 by omega),Option.bind_fun_some,fOk]
  cases findB ((l[i]?.getD (.int 0)).fld 0).toInt ((l[i]?.getD (.int 0)).fld 1).toStr ((l[i]?.getD (.int 0)).fld 2).toInt ((l[i]?.getD (.int 0)).fld 3).toInt ((l[i]?.getD (.int 0)).fld 4).toInt with
  | false=>rfl
  | true=>
   by_cases h0:i=0
   ·subst h0; simp
   ·have h2:(0:Int)<i:=by omega
    have h3:((i - 1:Nat):Int)<l.length:=by omega
    simp only [Yc (show i<4611686018427387904 by omega) (show 0<i by omega),h2,h3,h0,Int.natCast_nonneg,and_self,if_true,Int.toNat_natCast,decide_true,decide_false,cond_true,cond_false,Bool.not_true,Bool.true_and,Bool.false_or]
    cases lexS ((l[i - 1]?.getD (.int 0)).fld 0).toInt ((l[i - 1]?.getD (.int 0)).fld 1).toStr ((l[i]?.getD (.int 0)).fld 0).toInt ((l[i]?.getD (.int 0)).fld 1).toStr <;> rfl)
  (by
   show Z12 l (min l.length 31:Nat)=_
   rw [Z12_fx]; unfold c_Z12
   by_cases h:l.length≤31
   ·rw [Nat.min_eq_left h]; simp
   ·rw [Nat.min_eq_right (by omega)]
    have:((31:Nat):Int)<l.length:=by omega
    simp [this])
 have h':Z12 l 0=_:=h
 unfold Z13 c_Z13 validF
 simp only [h',Option.bind_some]
 by_cases hl':l.length≤30
 ·rw [Nat.min_eq_left (by omega)]
  have h2:(l.length:Int)≤30:=by omega
  cases allN (fOk l) l.length <;> simp [hl',h2]
 ·have h2:¬ (l.length:Int)≤30:=by omega
  cases allN (fOk l) (min l.length 31) <;> simp [hl',h2]
theorem isFinds_eq (l:List D) (hl:l.length≤1048576) (w:∀ d∈l,wfD tFi d):Z41 l=some (validF l):=by
 have h:=fxAll (F:=fun i=>Z40 l l l.length i) (len:=l.length) (fOk l) (.inl (l,false)) (fin:=.inr l) (fun i hi=>by
  show Z40 l l l.length i=_
  rw [Z40_fx]
  unfold c_Z40
  have h1:(i:Int)<l.length:=by omega
  have hs:((l[i]?.getD (.int 0)).fld 1).toStr.size≤maxLen:=by
   obtain ⟨a,s,b,c,e,hd,hs⟩:=tFi_wf (w _ (K5 hi))
   rw [hd]; exact hs
  simp only [h1,decide_true,cond_true,Int.natCast_nonneg,and_self,if_true,Int.toNat_natCast,List.getD_eq_getElem?_getD,isFind_eq _ _ _ _ _ hs,Option.bind_some,Qx (show i<4611686018427387904 by omega),Option.bind_fun_some,fOk]
  cases findB ((l[i]?.getD (.int 0)).fld 0).toInt ((l[i]?.getD (.int 0)).fld 1).toStr ((l[i]?.getD (.int 0)).fld 2).toInt ((l[i]?.getD (.int 0)).fld 3).toInt ((l[i]?.getD (.int 0)).fld 4).toInt with
  | false=>rfl
  | true=>
   by_cases h0:i=0
   ·subst h0; simp
   ·have h2:(0:Int)<i:=by omega
    have h3:((i - 1:Nat):Int)<l.length:=by omega
    obtain ⟨v,v1,v2⟩:=cmpFinds_eq ((l[i - 1]?.getD (.int 0)).fld 0).toInt ((l[i - 1]?.getD (.int 0)).fld 1).toStr ((l[i - 1]?.getD (.int 0)).fld 2).toInt ((l[i - 1]?.getD (.int 0)).fld 3).toInt ((l[i - 1]?.getD (.int 0)).fld 4).toInt ((l[i]?.getD (.int 0)).fld 0).toInt ((l[i]?.getD (.int 0)).fld 1).toStr ((l[i]?.getD (.int 0)).fld 2).toInt ((l[i]?.getD (.int 0)).fld 3).toInt ((l[i]?.getD (.int 0)).fld 4).toInt
    simp only [Yc (show i<4611686018427387904 by omega) (show 0<i by omega),h2,h3,h0,v1,v2,Option.bind_some,Int.natCast_nonneg,and_self,if_true,Int.toNat_natCast,decide_true,decide_false,cond_true,cond_false,Bool.not_true,Bool.true_and,Bool.false_or]
    cases lexS ((l[i - 1]?.getD (.int 0)).fld 0).toInt ((l[i - 1]?.getD (.int 0)).fld 1).toStr ((l[i]?.getD (.int 0)).fld 0).toInt ((l[i]?.getD (.int 0)).fld 1).toStr <;> rfl)
  (by
   show Z40 l l l.length l.length=_
   rw [Z40_fx]; unfold c_Z40; simp)
 have h':Z40 l l l.length 0=_:=h
 unfold Z41 c_Z41 validF
 simp only [h',Option.bind_some]
 by_cases hl':l.length≤30
 ·have h2:(l.length:Int)≤30:=by omega
  cases allN (fOk l) l.length <;> simp [hl',h2]
 ·have h2:¬ (l.length:Int)≤30:=by omega
  cases allN (fOk l) l.length <;> simp [hl',h2]
def LS (xs:List (List UInt8)):List D:=xs.map Ct
theorem LS_len {xs:List (List UInt8)}:(LS xs).length=xs.length:=by simp [LS]
theorem LS_get {xs:List (List UInt8)} {i:Nat} (h:i<xs.length):((LS xs)[i]?.getD (.int 0)).toStr.toList=xs[i]:=by
 simp [LS,h,Ct,D.toStr]
theorem strS_toList (b:List UInt8):(Ct b).toStr.toList=b:=by simp [Ct,D.toStr]
theorem less_iff {x y:List UInt8}:Op.bytesLess x y=true↔x<y:=by rw [bytesLess_eq]; simp
theorem less_irr (x:List UInt8):¬ x<x:=List.lt_irrefl x
theorem less_tr {x y z:List UInt8} (h:x<y) (h':y<z):x<z:=List.lt_trans h h'
theorem less_tri (x y:List UInt8):x<y∨x=y∨y<x:=by
 by_cases h:x<y
 ·exact .inl h
 ·by_cases h':y<x
  ·exact .inr (.inr h')
  ·exact .inr (.inl (List.le_antisymm (List.not_lt.1 h') (List.not_lt.1 h)))
theorem sorted_uniq:∀ {a b:List (List UInt8)},a.Pairwise (·<·)→b.Pairwise (·<·)→(∀ x,x∈a↔x∈b)→a=b
 | [],[],_,_,_=>rfl
 | [],y::b,_,_,h=>by have:=(h y).2 (by simp); cases this
 | x::a,[],_,_,h=>by have:=(h x).1 (by simp); cases this
 | x::a,y::b,ha,hb,h=>by
  rw [List.pairwise_cons] at ha hb
  have e:x=y:=by
   rcases List.mem_cons.1 ((h x).1 (by simp)) with e | e
   ·exact e
   ·rcases List.mem_cons.1 ((h y).2 (by simp)) with e' | e'
    ·exact e'.symm
    ·exact absurd (less_tr (ha.1 y e') (hb.1 x e)) (less_irr x)
  subst e
  rw [sorted_uniq ha.2 hb.2 (fun z=>?_)]
  constructor
  ·intro hz
   rcases List.mem_cons.1 ((h z).1 (List.mem_cons_of_mem _ hz)) with e | e
   ·subst e; exact absurd (ha.1 z hz) (less_irr z)
   ·exact e
  ·intro hz
   rcases List.mem_cons.1 ((h z).2 (List.mem_cons_of_mem _ hz)) with e | e
   ·subst e; exact absurd (hb.1 z hz) (less_irr z)
   ·exact e
theorem snoc_ind {α:Type} {P:List α→Prop} (h0:P []) (hs:∀ l x,P l→P (l++[x])) (l:List α):P l:=by
 have key:∀ r:List α,P r.reverse:=fun r=>by
  induction r with
  | nil=>exact h0
  | cons x r ih=>rw [List.reverse_cons]; exact hs _ _ ih
 have:=key l.reverse
 rwa [List.reverse_reverse] at this
def dstep (acc:List (List UInt8)) (x:List UInt8):List (List UInt8):=if acc.getLast?=some x then acc else acc++[x]
def dd (xs:List (List UInt8)):List (List UInt8):=xs.foldl dstep []
theorem dd_snoc (xs:List (List UInt8)) (x:List UInt8):dd (xs++[x])=dstep (dd xs) x:=by simp [dd,List.foldl_append]
theorem dd_last (xs:List (List UInt8)):(dd xs).getLast?=xs.getLast?:=by
 rcases List.eq_nil_or_concat xs with rfl | ⟨l,x,rfl⟩
 ·rfl
 ·rw [List.concat_eq_append,dd_snoc,dstep]
  split
  ·rename_i h; rw [h]; simp
  ·simp
theorem dd_take (xs:List (List UInt8)) (m:Nat) (h0:0<m) (h:m<xs.length):dd (xs.take (m+1))=if xs[m - 1]=xs[m] then dd (xs.take m) else dd (xs.take m)++[xs[m]]:=by
 rw [List.take_succ_eq_append_getElem h,dd_snoc,dstep,dd_last]
 have:(xs.take m).getLast?=some xs[m - 1]:=by
  rw [List.getLast?_eq_getElem?,List.length_take,Nat.min_eq_left (by omega),List.getElem?_take]
  simp [show m - 1<m by omega,List.getElem?_eq_getElem (show m - 1<xs.length by omega)]
 rw [this]
 simp
theorem dd_one (xs:List (List UInt8)) (h:0<xs.length):dd (xs.take 1)=xs.take 1:=by
 cases xs with
 | nil=>simp at h
 | cons x l=>simp [dd,dstep]
theorem dd_len (xs:List (List UInt8)):(dd xs).length≤xs.length:=by
 refine snoc_ind (P:=fun xs=>(dd xs).length≤xs.length) (by simp [dd]) (fun l x ih=>?_) xs
 rw [dd_snoc,dstep]
 split
 ·simp; omega
 ·simp; exact ih
theorem dd_mem (xs:List (List UInt8)):∀ x,x∈dd xs↔x∈xs:=by
 refine snoc_ind (P:=fun xs=>∀ x,x∈dd xs↔x∈xs) (by simp [dd]) (fun l y ih=>?_) xs
 ·intro x
  rw [dd_snoc,dstep]
  split
  ·rename_i h
   have:=List.mem_of_getLast? h
   rw [List.mem_append,← ih x]
   constructor
   ·exact .inl
   ·rintro (h | h)
    ·exact h
    ·rw [List.mem_singleton] at h; subst h; exact this
  ·rw [List.mem_append,List.mem_append,ih x]
theorem dd_sorted (xs:List (List UInt8)) (h:xs.Pairwise (fun x y=>¬ y<x)):(dd xs).Pairwise (·<·):=by
 revert h
 refine snoc_ind (P:=fun xs=>xs.Pairwise (fun x y=>¬ y<x)→(dd xs).Pairwise (·<·)) (by simp [dd]) (fun l y ih=>?_) xs
 ·intro h
  rw [List.pairwise_append] at h
  rw [dd_snoc,dstep]
  split
  ·exact ih h.1
  ·rename_i hl
   rw [List.pairwise_append]
   refine ⟨ih h.1,by simp,fun a ha b hb=>?_⟩
   rw [List.mem_singleton] at hb; subst hb
   have h1:¬ b<a:=h.2.2 a ((dd_mem l a).1 ha) b (by simp)
   rcases less_tri a b with e | e | e
   ·exact e
   ·exfalso
    subst e
    have hs:=ih h.1
    obtain ⟨p,q,hpq⟩:=List.append_of_mem ha
    rw [hpq] at hs hl
    cases q with
    | nil=>simp at hl
    | cons z q=>
     have hz:a<z:=by
      rw [List.pairwise_append] at hs
      exact (List.pairwise_cons.1 hs.2.1).1 z (by simp)
     have hzm:z∈dd l:=by rw [hpq]; simp
     exact h.2.2 z ((dd_mem l z).1 hzm) a (by simp) hz
   ·exact absurd e h1
def putS (xs:List (List UInt8)) (s:List UInt8):List (List UInt8):=match QN (fun i=>decide (¬ (xs[i]?.getD [])<s)) xs.length with
 | some i=>if xs[i]?.getD []=s then xs else xs.take i++s::xs.drop i
 | none=>xs++[s]
theorem putS_len (xs:List (List UInt8)) (s:List UInt8):(putS xs s).length≤xs.length+1:=by
 unfold putS
 cases QN (fun i=>decide (¬ (xs[i]?.getD [])<s)) xs.length with
 | none=>simp
 | some i=>
  simp only
  split
  ·omega
  ·simp; omega
theorem putS_ok (xs:List (List UInt8)) (s:List UInt8) (h:xs.Pairwise (·<·)):(putS xs s).Pairwise (·<·)∧∀ x,x∈putS xs s↔x=s∨x∈xs:=by
 unfold putS
 cases hf:QN (fun i=>decide (¬ (xs[i]?.getD [])<s)) xs.length with
 | none=>
  refine ⟨?_,fun x=>by simp [or_comm]⟩
  rw [List.pairwise_append]
  refine ⟨h,by simp,fun a ha b hb=>?_⟩
  rw [List.mem_singleton] at hb; subst hb
  obtain ⟨i,hi,rfl⟩:=List.getElem_of_mem ha
  have:=Yb hf i hi
  simpa [hi] using this
 | some i=>
  obtain ⟨h1,h2,h3⟩:=Og hf
  have hlow:∀ j (hj:j<i),xs[j]'(by omega)<s:=by
   intro j hj
   have:=h3 j hj
   simpa [show j<xs.length by omega] using this
  have hge:¬ xs[i]<s:=by simpa [h1] using h2
  have hxi:xs[i]?.getD []=xs[i]:=by simp [h1]
  simp only [hxi]
  split
  ·rename_i he
   refine ⟨h,fun x=>⟨.inr,?_⟩⟩
   rintro (e | e)
   ·rw [e,← he]; exact List.getElem_mem h1
   ·exact e
  ·rename_i hne
   have hgt:s<xs[i]:=by
    rcases less_tri s xs[i] with e | e | e
    ·exact e
    ·exact absurd e.symm hne
    ·exact absurd e hge
   have hsplit:xs=xs.take i++xs.drop i:=(List.take_append_drop i xs).symm
   have hp:=h
   rw [hsplit,List.pairwise_append] at hp
   refine ⟨?_,fun x=>?_⟩
   ·rw [List.pairwise_append,List.pairwise_cons]
    refine ⟨hp.1,⟨fun b hb=>?_,hp.2.1⟩,fun a ha b hb=>?_⟩
    ·rw [List.drop_eq_getElem_cons h1] at hb hp
     rcases List.mem_cons.1 hb with e | e
     ·rw [e]; exact hgt
     ·exact less_tr hgt ((List.pairwise_cons.1 hp.2.1).1 b e)
    ·rcases List.mem_cons.1 hb with e | e
     ·subst e
      obtain ⟨j,hj,rfl⟩:=List.getElem_of_mem ha
      rw [List.length_take] at hj
      rw [List.getElem_take]
      exact hlow j (by omega)
     ·exact hp.2.2 a ha b e
   ·rw [List.mem_append,List.mem_cons]
    conv=>rhs; rw [hsplit,List.mem_append]
    constructor
    ·rintro (e | e | e)
     ·exact .inr (.inl e)
     ·exact .inl e
     ·exact .inr (.inr e)
    ·rintro (e | e | e)
     ·exact .inr (.inl e)
     ·exact .inl e
     ·exact .inr (.inr e)
theorem put_eq (xs:List (List UInt8)) (s:ByteArray) (hl:xs.length≤1048576):Z16 (LS xs) s=some (LS (putS xs s.toList)):=by
 have h:=fxScan (F:=fun i=>Z15 s i (LS xs)) (len:=xs.length) (fun i=>decide (¬ (xs[i]?.getD [])<s.toList)) (fun i=>(s,(i:Int),LS xs)) (fin:=(s,(xs.length:Int),LS xs)) (fun i hi=>by
  show Z15 s i (LS xs)=_
  rw [Z15_fx]
  unfold c_Z15
  have h1:(i:Int)<(LS xs).length:=by rw [LS_len]; omega
  have h2:i+1≤(LS xs).length:=by rw [LS_len]; omega
  simp only [h1,h2,decide_true,cond_true,Int.natCast_nonneg,and_self,if_true,Int.toNat_natCast,List.getD_eq_getElem?_getD,LS_get hi,Qx (show i<4611686018427387904 by omega),Option.bind_fun_some,bytesLess_eq]
  by_cases hc:xs[i]<s.toList <;> simp [hi,hc])
  (by
   show Z15 s (xs.length:Int) (LS xs)=_
   rw [Z15_fx]; unfold c_Z15; simp [LS_len])
 have h':Z15 s 0 (LS xs)=_:=h
 have hs:D.str s=Ct s.toList:=by
  unfold Ct
  rw [ByteArray.toList_eq]
 have hmap:∀ (i:Nat),(LS xs).take i++D.str s::(LS xs).drop i=LS (xs.take i++s.toList::xs.drop i):=by
  intro i
  rw [hs]
  simp [LS,List.map_take,List.map_drop]
 unfold Z16 c_Z16 putS
 simp only [h',Option.bind_some]
 cases hf:QN (fun i=>decide (¬ (xs[i]?.getD [])<s.toList)) xs.length with
 | none=>
  have e1:¬ (xs.length:Int)<(LS xs).length:=by rw [LS_len]; omega
  have e2:xs.length≤(LS xs).length:=by rw [LS_len]; exact Nat.le_refl _
  have e3:(xs.length:Int)≤(LS xs).length:=by omega
  have hm:LS xs++[D.str s]=LS (xs++[s.toList]):=by rw [hs]; simp [LS]
  have e4:(LS xs).drop xs.length=[]:=List.drop_of_length_le (Nat.le_of_eq LS_len)
  have e5:(LS xs).take xs.length=LS xs:=List.take_of_length_le (Nat.le_of_eq LS_len)
  simp [LS_len,e4,e5]
  exact ⟨by omega,by omega,hm⟩
 | some i=>
  obtain ⟨h1,h2,h3⟩:=Og hf
  have e1:(i:Int)<(LS xs).length:=by rw [LS_len]; omega
  have e2:i+1≤(LS xs).length:=by rw [LS_len]; omega
  have hxi:xs[i]?.getD []=xs[i]:=by simp [h1]
  simp only [e1,e2,decide_true,cond_true,Int.natCast_nonneg,and_self,if_true,Int.toNat_natCast,List.getD_eq_getElem?_getD,LS_get h1,hxi]
  by_cases he:xs[i]=s.toList
  ·simp [he]
  ·have he':(xs[i]==s.toList)=false:=by simp [he]
   have hm:=hmap i
   simp [he,LS_len,show i≤xs.length by omega,show (i:Int)≤xs.length by omega]
   have e1:i≤4294967296:=by omega
   have e2:i≤4294967295:=by omega
   have e3:i+1+(xs.length - i)≤4294967296:=by omega
   have e4:(LS xs).drop i=((LS xs).drop i).take (xs.length - i):=(List.take_of_length_le (by rw [List.length_drop,LS_len]; exact Nat.le_refl _)).symm
   rw [he',cond_false,if_pos e1,if_pos e2,if_pos e3,← e4,hm]
theorem LS_take (xs:List (List UInt8)) (i:Nat):(LS xs).take i=LS (xs.take i):=by simp [LS,List.map_take]
theorem str_LS {d:D} {b:List UInt8} (h:d.toStr.toList=b):D.str d.toStr=Ct b:=by
 unfold Ct
 rw [← h,ByteArray.toList_eq]
theorem cmpct9 (xs:List (List UInt8)) (hl:xs.length≤1048576) (k0:Nat) (hk0:0<k0) (hk:k0<xs.length) :
  ∀ (r k2 i:Nat) (cur:List D),k2+r=xs.length - k0→1≤k2→i≤k0+k2 - 1→0<i→cur.length=xs.length→(∀ j,k0+k2 - 1≤j→cur[j]?=(LS xs)[j]?)→cur.take i=LS (dd (xs.take (k0+k2))) →
   ∃ (i':Nat) (cur':List D),Z51 i k0 (xs.length - k0) k2 cur=some ((i':Int),cur')∧i'≤xs.length∧cur'.length=xs.length∧cur'.take i'=LS (dd xs):=by
 intro r
 induction r with
 | zero=>
  intro k2 i cur h1 h2 h3 h0 h4 h5 h6
  refine ⟨i,cur,?_,by omega,h4,?_⟩
  ·rw [Z51_fx]
   unfold c_Z51
   have:¬ (k2:Int)<((xs.length - k0:Nat):Int):=by omega
   simp only [this,decide_false,cond_false]
  ·rw [h6,List.take_of_length_le (by omega)]
 | succ r ih=>
  intro k2 i cur h1 h2 h3 h0 h4 h5 h6
  rw [Z51_fx]
  unfold c_Z51
  have b1:(k2:Int)<((xs.length - k0:Nat):Int):=by omega
  have b2:k0+(xs.length - k0)≤cur.length:=by omega
  have b3:k0+k2+1≤cur.length:=by omega
  have b4:((k2 - 1:Nat):Int)<((xs.length - k0:Nat):Int):=by omega
  have b5:k0+(k2 - 1)+1≤cur.length:=by omega
  have b6:(i:Int)<cur.length:=by omega
  have b7:i+1≤cur.length:=by omega
  have hm:k0+k2<xs.length:=by omega
  have g1:((cur[k0+k2]?.getD (.int 0))).toStr.toList=xs[k0+k2]:=by rw [h5 _ (by omega)]; exact LS_get hm
  have g2:((cur[k0+(k2 - 1)]?.getD (.int 0))).toStr.toList=xs[k0+k2 - 1]:=by
   have e:k0+(k2 - 1)=k0+k2 - 1:=by omega
   rw [e,h5 _ (by omega)]; exact LS_get (by omega)
  have hd:=dd_take xs (k0+k2) (by omega) hm
  simp only [b1,b2,b3,b4,b5,b6,b7,decide_true,cond_true,Int.natCast_nonneg,and_self,if_true,Int.toNat_natCast,List.getD_eq_getElem?_getD,Yc (show k2<4611686018427387904 by omega) (show 0<k2 by omega),Qx (show k2<4611686018427387904 by omega),Qx (show i<4611686018427387904 by omega),Option.bind_fun_some,g1,g2]
  by_cases he:xs[k0+k2 - 1]=xs[k0+k2]
  ·have he':(xs[k0+k2]==xs[k0+k2 - 1])=true:=by simp [he]
   simp only [he',Bool.not_true,cond_false]
   rw [if_pos he] at hd
   exact ih (k2+1) i cur (by omega) (by omega) (by omega) h0 h4 (fun j hj=>h5 j (by omega)) (by rw [h6,← hd]; rfl)
  ·have he':(xs[k0+k2]==xs[k0+k2 - 1])=false:=by
    rw [beq_eq_false_iff_ne]; exact fun e=>he e.symm
   simp only [he',Bool.not_false,cond_true]
   rw [if_neg he] at hd
   refine ih (k2+1) (i+1) _ (by omega) (by omega) (by omega) (by omega) (by simpa using h4) (fun j hj=>?_) ?_
   ·rw [List.getElem?_set_ne (by omega)]
    exact h5 j (by omega)
   ·have e:k0+(k2+1)=k0+k2+1:=by omega
    rw [e,hd,List.take_succ_eq_append_getElem (by simp; omega),List.take_set_of_le (Nat.le_refl _),h6,List.getElem_set_self,str_LS g1]
    simp [LS]
theorem compact_eq (xs:List (List UInt8)) (hl:xs.length≤1048576):Z53 (LS xs)=some (LS (dd xs)):=by
 unfold Z53 c_Z53
 by_cases h2:xs.length<2
 ·have h2':((LS xs).length:Int)<2:=by rw [LS_len]; omega
  have e:dd xs=xs:=by
   match xs,h2 with
   | [],_=>rfl
   | [x],_=>rfl
  simp only [h2',decide_true,cond_true,e]
 ·have h2':¬ ((LS xs).length:Int)<2:=by rw [LS_len]; omega
  have key:∀ r (k:Nat),k+r=xs.length→1≤k→dd (xs.take k)=xs.take k →
    (∃ i cur,Z52 k (LS xs)=some (.inl (0,i,cur))∧i≤cur.length∧cur.take i=LS (dd xs))∨(Z52 k (LS xs)=some (.inr (LS xs))∧dd xs=xs):=by
   intro r
   induction r with
   | zero=>
    intro k h1 h3 h4
    right
    have hk:k=xs.length:=by omega
    subst hk
    refine ⟨?_,by simpa using h4⟩
    rw [Z52_fx]; unfold c_Z52; simp [LS_len]
   | succ r ih=>
    intro k h1 h3 h4
    have hm:k<xs.length:=by omega
    have hd:=dd_take xs k (by omega) hm
    rw [Z52_fx]
    unfold c_Z52
    have b1:(k:Int)<(LS xs).length:=by rw [LS_len]; omega
    have b2:k+1≤(LS xs).length:=by rw [LS_len]; omega
    have b3:((k - 1:Nat):Int)<(LS xs).length:=by rw [LS_len]; omega
    have b4:k - 1+1≤(LS xs).length:=by rw [LS_len]; omega
    have b5:(k:Int)≤(LS xs).length:=by omega
    simp only [b1,b2,b3,b4,b5,decide_true,cond_true,Int.natCast_nonneg,and_self,if_true,Int.le_refl,Int.toNat_natCast,List.getD_eq_getElem?_getD,Yc (show k<4611686018427387904 by omega) (show 0<k by omega),Qx (show k<4611686018427387904 by omega),Option.bind_fun_some,LS_get hm,LS_get (show k - 1<xs.length by omega)]
    by_cases he:xs[k - 1]=xs[k]
    ·have he':(xs[k]==xs[k - 1])=true:=by simp [he]
     rw [if_pos he] at hd
     obtain ⟨i,cur,q1,q2,q3,q4⟩:=cmpct9 xs hl k (by omega) hm (xs.length - k - 1) 1 k (LS xs) (by omega) (by omega) (by omega) (by omega) LS_len (fun _ _=>rfl) (by rw [hd,h4,LS_take])
     have q1':Z51 (k:Int) k ((LS xs).length - k) 1 (LS xs)=some ((i:Int),cur):=by rw [LS_len]; exact q1
     left
     have c1:(i:Int)≤cur.length:=by omega
     have c2:i+(cur.length - i)≤cur.length:=by omega
     simp only [he',cond_true,q1',Option.bind_some,Int.natCast_nonneg,c1,and_self,if_true,Int.le_refl,Int.toNat_natCast,c2]
     refine ⟨i,cur.take i++List.replicate (cur.length - i) (D.str bytes_0)++cur.drop (i+(List.replicate (cur.length - i) (D.str bytes_0)).length),?_,?_,?_⟩
     ·rw [if_pos (by simp; omega)]
      rfl
     ·simp; omega
     ·rw [List.append_assoc,List.take_append_of_le_length (by simp; omega),List.take_take,Nat.min_self,q4]
    ·have he':(xs[k]==xs[k - 1])=false:=by
      rw [beq_eq_false_iff_ne]; exact fun e=>he e.symm
     rw [if_neg he] at hd
     simp only [he',cond_false]
     refine ih (k+1) (by omega) (by omega) ?_
     rw [hd,h4,List.take_succ_eq_append_getElem hm]
  simp only [h2',decide_false,cond_false]
  rcases key (xs.length - 1) 1 (by omega) (by omega) (dd_one xs (by omega)) with ⟨i,cur,q1,q2,q3⟩ | ⟨q1,q2⟩
  ·have q1:Z52 1 (LS xs)=_:=q1
   simp only [q1,Option.bind_some,Sum.elim_inl,Nat.zero_add,q2,if_true,List.drop_zero,q3]
  ·have q1:Z52 1 (LS xs)=_:=q1
   simp only [q1,Option.bind_some,Sum.elim_inr,q2]
def typesOf (l:List D):List (List UInt8):=l.map fun d=>(d.fld 1).toStr.toList
def sortL (xs:List (List UInt8)):List (List UInt8):=xs.mergeSort fun x y=>decide (x≤y)
def orderL (xs:List (List UInt8)):List (List UInt8):=dd (sortL xs)
theorem sortL_mem (xs:List (List UInt8)):∀ x,x∈sortL xs↔x∈xs:=fun x=>by unfold sortL; exact List.mem_mergeSort
theorem sortL_sorted (xs:List (List UInt8)):(sortL xs).Pairwise (fun x y=>¬ y<x):=by
 have:=List.pairwise_mergeSort (le:=fun x y:List UInt8=>decide (x≤y)) (fun a b c h1 h2=>by
  simp only [decide_eq_true_eq] at h1 h2 ⊢; exact List.le_trans h1 h2) (fun a b=>by
  simp only [Bool.or_eq_true,decide_eq_true_eq]; exact List.le_total a b) xs
 exact this.imp (fun h=>by simpa using h)
theorem orderL_sorted (xs:List (List UInt8)):(orderL xs).Pairwise (·<·):=dd_sorted _ (sortL_sorted xs)
theorem orderL_mem (xs:List (List UInt8)):∀ x,x∈orderL xs↔x∈xs:=fun x=>by unfold orderL; rw [dd_mem,sortL_mem]
theorem orderL_len (xs:List (List UInt8)):(orderL xs).length≤xs.length:=by
 unfold orderL
 refine Nat.le_trans (dd_len _) ?_
 unfold sortL
 rw [List.length_mergeSort]; exact Nat.le_refl _
theorem keyS_eq (d:D):Oh d=d.toStr.toList:=by unfold Oh; rw [ByteArray.toList_eq]
theorem goSort_eq (l:List D) (hl:l.length≤1048576):WQ l=some (LS (sortL (l.map fun d=>d.toStr.toList))):=by
 unfold WQ K6
 rw [if_pos (by omega)]
 have:l.map Oh=l.map fun d=>d.toStr.toList:=List.map_congr_left fun d _=>keyS_eq d
 rw [this]; rfl
theorem findTypes_eq (l:List D) (hl:l.length≤1048576):Z54 l=some (LS (orderL (typesOf l))):=by
 have key:∀ r (i:Nat) (acc:List D),i+r=l.length→acc=(l.take i).map (fun d=>D.str (d.fld 1).toStr)→Z49 l l.length i acc=some (l.map fun d=>D.str (d.fld 1).toStr):=by
  intro r
  induction r with
  | zero=>
   intro i acc h1 h2
   have hi:i=l.length:=by omega
   subst hi
   rw [Z49_fx]; unfold c_Z49; simp [h2]
  | succ r ih=>
   intro i acc h1 h2
   have hi:i<l.length:=by omega
   rw [Z49_fx]
   unfold c_Z49
   have b1:(i:Int)<l.length:=by omega
   have b2:acc.length+([D.str ((l[i]?.getD (.int 0)).fld 1).toStr]:List D).length≤4294967296:=by rw [h2]; simp; omega
   simp only [b1,decide_true,cond_true,Int.natCast_nonneg,and_self,if_true,Int.toNat_natCast,List.getD_eq_getElem?_getD,b2,Qx (show i<4611686018427387904 by omega),Option.bind_fun_some]
   refine ih (i+1) _ (by omega) ?_
   rw [h2,List.take_succ_eq_append_getElem hi,List.map_append,List.getElem?_eq_getElem hi]
   rfl
 have h:=key l.length 0 [] (by omega) rfl
 have h:Z49 l l.length 0 []=_:=h
 unfold Z54 c_Z54
 simp only [h,Option.bind_some,Z50]
 rw [goSort_eq _ (by simpa using hl)]
 simp only [Option.bind_some,List.map_map]
 have hlen:(sortL (typesOf l)).length≤1048576:=by unfold sortL typesOf; rw [List.length_mergeSort]; simpa using hl
 have e:(l.map ((fun d:D=>d.toStr.toList) ∘ fun d=>D.str (d.fld 1).toStr))=typesOf l:=rfl
 rw [e,compact_eq _ hlen]
 rfl
def putAll (xs acc:List (List UInt8)):List (List UInt8):=xs.foldl putS acc
theorem putAll_ok:∀ (xs acc:List (List UInt8)),acc.Pairwise (·<·)→(putAll xs acc).Pairwise (·<·)∧∀ x,x∈putAll xs acc↔x∈xs∨x∈acc
 | [],acc,h=>⟨h,fun x=>by simp [putAll]⟩
 | s::xs,acc,h=>by
  obtain ⟨h1,h2⟩:=putS_ok acc s h
  obtain ⟨h3,h4⟩:=putAll_ok xs (putS acc s) h1
  refine ⟨h3,fun x=>?_⟩
  show x∈putAll xs (putS acc s)↔_
  rw [h4,h2,List.mem_cons]
  constructor
  ·rintro (e | e | e)
   ·exact .inl (.inr e)
   ·exact .inl (.inl e)
   ·exact .inr e
  ·rintro ((e | e) | e)
   ·exact .inr (.inl e)
   ·exact .inl e
   ·exact .inr (.inr e)
theorem putAll_order (xs:List (List UInt8)):putAll xs []=orderL xs:=by
 obtain ⟨h1,h2⟩:=putAll_ok xs [] (by simp)
 refine sorted_uniq h1 (orderL_sorted xs) (fun x=>?_)
 rw [h2,orderL_mem]; simp
theorem types_eq (l:List D) (hl:l.length≤1048576):Z18 l=some (LS (orderL (typesOf l))):=by
 have key:∀ r (i:Nat) (acc:List (List UInt8)),i+r=l.length→acc.length≤i→Z17 l i (LS acc)=some (LS (putAll ((typesOf l).drop i) acc)):=by
  intro r
  induction r with
  | zero=>
   intro i acc h1 h2
   have hi:i=l.length:=by omega
   subst hi
   have e:(typesOf l).drop l.length=[]:=List.drop_of_length_le (by simp [typesOf])
   rw [Z17_fx]; unfold c_Z17; simp [e,putAll]
  | succ r ih=>
   intro i acc h1 h2
   have hi:i<l.length:=by omega
   rw [Z17_fx]
   unfold c_Z17
   have b1:(i:Int)<l.length:=by omega
   simp only [b1,decide_true,cond_true,Int.natCast_nonneg,and_self,if_true,Int.toNat_natCast,List.getD_eq_getElem?_getD,put_eq acc _ (by omega),Option.bind_some,Qx (show i<4611686018427387904 by omega),Option.bind_fun_some]
   rw [ih (i+1) _ (by omega) (by have:=putS_len acc ((l[i]?.getD (.int 0)).fld 1).toStr.toList; omega)]
   have hi':i<(typesOf l).length:=by simp [typesOf]; exact hi
   rw [List.drop_eq_getElem_cons hi',List.getElem?_eq_getElem hi]
   have e:(typesOf l)[i]=(l[i].fld 1).toStr.toList:=by simp [typesOf]
   rw [e]; rfl
 have h:=key l.length 0 [] (by omega) (by simp)
 have h:Z17 l 0 []=_:=h
 unfold Z18 c_Z18
 simp only [h,Option.bind_some,List.drop_zero,putAll_order]
theorem del_loop {F:Int→Int→List D→Option (Int×List D)} (q:D→Bool) (xs:List D)
  (hs:∀ (i j:Nat) (cur:List D),i≤j→j<xs.length→cur.length=xs.length→cur[j]?=xs[j]?→F i j cur=bif q (xs[j]?.getD (.int 0)) then F i ((j+1:Nat):Int) cur else F ((i+1:Nat):Int) ((j+1:Nat):Int) (cur.set i (xs[j]?.getD (.int 0))))
  (he:∀ (i:Nat) (cur:List D),cur.length=xs.length→F i xs.length cur=some ((i:Int),cur)) :
  ∀ (r i j:Nat) (cur:List D),j+r=xs.length→i≤j→cur.length=xs.length→(∀ k,j≤k→cur[k]?=xs[k]?) →
   ∃ (i':Nat) (cur':List D),F i j cur=some ((i':Int),cur')∧i'≤xs.length∧cur'.length=xs.length∧cur'.take i'=cur.take i++(xs.drop j).filter (fun d=>!q d):=by
 intro r
 induction r with
 | zero=>
  intro i j cur h1 h2 h3 h4
  have hj:j=xs.length:=by omega
  subst hj
  exact ⟨i,cur,he i cur h3,h2,h3,by simp⟩
 | succ r ih=>
  intro i j cur h1 h2 h3 h4
  have hj:j<xs.length:=by omega
  rw [hs i j cur h2 hj h3 (h4 j (Nat.le_refl _))]
  have hx:xs[j]?.getD (.int 0)=xs[j]:=by simp [hj]
  rw [hx,List.drop_eq_getElem_cons hj]
  cases hq:q xs[j] with
  | true=>
   obtain ⟨i',cur',k1,k2,k3,k4⟩:=ih i (j+1) cur (by omega) (by omega) h3 (fun k hk=>h4 k (by omega))
   refine ⟨i',cur',k1,k2,k3,?_⟩
   rw [k4,List.filter_cons_of_neg (by simp [hq])]
  | false=>
   obtain ⟨i',cur',k1,k2,k3,k4⟩:=ih (i+1) (j+1) (cur.set i xs[j]) (by omega) (by omega) (by simpa using h3) (fun k hk=>by rw [List.getElem?_set_ne (by omega)]; exact h4 k (by omega))
   refine ⟨i',cur',k1,k2,k3,?_⟩
   rw [k4,List.take_succ_eq_append_getElem (by simp; omega),List.take_set_of_le (Nat.le_refl _),List.getElem_set_self,List.filter_cons_of_pos (by simp [hq]),List.append_assoc]
   rfl
theorem filter_first {q:D→Bool} {xs:List D} {i:Nat} (h:QN (fun i=>q (xs[i]?.getD (.int 0))) xs.length=some i):xs.filter (fun d=>!q d)=xs.take i++(xs.drop (i+1)).filter (fun d=>!q d):=by
 obtain ⟨h1,h2,h3⟩:=Og h
 conv=>lhs; rw [← List.take_append_drop i xs]
 rw [List.filter_append,List.drop_eq_getElem_cons h1]
 have hx:q xs[i]=true:=by simpa [h1] using h2
 have ht:(xs.take i).filter (fun d=>!q d)=xs.take i:=by
  rw [List.filter_eq_self]
  intro d hd
  obtain ⟨j,hj,rfl⟩:=List.getElem_of_mem hd
  rw [List.length_take] at hj
  rw [List.getElem_take]
  have:=h3 j (by omega)
  simpa [show j<xs.length by omega] using this
 rw [ht,List.filter_cons_of_neg (by simp [hx])]
theorem filter_none {q:D→Bool} {xs:List D} (h:QN (fun i=>q (xs[i]?.getD (.int 0))) xs.length=none):xs.filter (fun d=>!q d)=xs:=by
 rw [List.filter_eq_self]
 intro d hd
 obtain ⟨j,hj,rfl⟩:=List.getElem_of_mem hd
 have:=Yb h j hj
 simpa [hj] using this
theorem del_tail {i:Nat} {cur:List D} {z:D} (h:i≤cur.length):(cur.take i++List.replicate (cur.length - i) z++cur.drop (i+(List.replicate (cur.length - i) z).length)).take i=cur.take i∧(cur.take i++List.replicate (cur.length - i) z++cur.drop (i+(List.replicate (cur.length - i) z).length)).length=cur.length:=by
 constructor
 ·rw [List.append_assoc,List.take_append_of_le_length (by simp; omega),List.take_take,Nat.min_self]
 ·simp; omega
theorem clone_eq (l:List D) (hl:l.length≤1048576):Z42 l=some l:=by
 have h:([]:List D).length+l.length≤4294967296:=by simp; omega
 unfold Z42 c_Z42
 by_cases h1:1≤l.length
 ·rw [if_pos h1,if_pos h]; rfl
 ·have:l=[]:=List.eq_nil_of_length_eq_zero (by omega)
  subst this
  simp [C9]
def inC (n:Int) (d:D):Bool:=decide ((d.fld 0).toInt=n)
theorem tFi_eta {d:D} (h:wfD tFi d):D.node [D.int (d.fld 0).toInt,D.str (d.fld 1).toStr,D.int (d.fld 2).toInt,D.int (d.fld 3).toInt,D.int (d.fld 4).toInt]=d:=by
 obtain ⟨a,s,b,c,e,rfl,_⟩:=tFi_wf h
 rfl
theorem delFinds_eq (l:List D) (n:Int) (hl:l.length≤1048576) (w:∀ d∈l,wfD tFi d):Z47 l n=some (l.filter (inC n)):=by
 have hi:=fxScan (F:=fun i=>Z44 l n l.length i) (len:=l.length) (fun i=>!inC n (l[i]?.getD (.int 0))) (fun i=>.inl (i:Int)) (fin:=.inr ()) (fun i hi=>by
  show Z44 l n l.length i=_
  rw [Z44_fx]
  unfold c_Z44
  have h1:(i:Int)<l.length:=by omega
  simp only [h1,decide_true,cond_true,Int.natCast_nonneg,and_self,if_true,Int.toNat_natCast,List.getD_eq_getElem?_getD,Z43,c_Z43,Option.bind_some,Qx (show i<4611686018427387904 by omega),Option.bind_fun_some,inC])
  (by
   show Z44 l n l.length l.length=_
   rw [Z44_fx]; unfold c_Z44; simp)
 have hi:Z44 l n l.length 0=_:=hi
 have hff:l.filter (inC n)=l.filter (fun d=>!!inC n d):=by congr 1; funext d; simp
 unfold Z47 c_Z47 Z45 c_Z45
 simp only [hi,Option.bind_some]
 rw [hff]
 cases hf:QN (fun i=>!inC n (l[i]?.getD (.int 0))) l.length with
 | none=>
  rw [filter_none (q:=fun d=>!inC n d) hf]
  simp
 | some i=>
  obtain ⟨h1,h2,h3⟩:=Og hf
  have e1:¬ ((i:Int)=-1):=by omega
  obtain ⟨i',cur',k1,k2,k3,k4⟩:=del_loop (F:=fun a b cur=>Z46 n a b cur) (fun d=>!inC n d) l (fun a b cur ha hb hc hd=>by
   show Z46 n a b cur=_
   rw [Z46_fx]
   unfold c_Z46
   have b1:(b:Int)<cur.length:=by omega
   have b2:b+1≤cur.length:=by omega
   have b3:(a:Int)<cur.length:=by omega
   have b4:a+1≤cur.length:=by omega
   have hw:=tFi_eta (w _ (K5 hb))
   simp only [b1,b2,b3,b4,decide_true,cond_true,Int.natCast_nonneg,and_self,if_true,Int.toNat_natCast,List.getD_eq_getElem?_getD,hd,Z43,c_Z43,Option.bind_some,Qx (show a<4611686018427387904 by omega),Qx (show b<4611686018427387904 by omega),Option.bind_fun_some,hw,inC]
   cases decide (((l[b]?.getD (.int 0)).fld 0).toInt=n) <;> rfl)
   (fun a cur hc=>by
    show Z46 n a l.length cur=_
    rw [Z46_fx]; unfold c_Z46; simp [hc]) (l.length - (i+1)) i (i+1) l (by omega) (by omega) rfl (fun _ _=>rfl)
  have k1:Z46 n (i:Int) ((i+1:Nat):Int) l=_:=k1
  have c1:(i':Int)≤cur'.length:=by omega
  have c2:i'+(cur'.length - i')≤cur'.length:=by omega
  obtain ⟨t1,t2⟩:=del_tail (i:=i') (cur:=cur') (z:=D.node [D.int 0,D.str bytes_0,D.int 0,D.int 0,D.int 0]) (by omega)
  have c3:0+i'≤cur'.length:=by omega
  rw [filter_first (q:=fun d=>!inC n d) hf]
  simp only [Sum.elim_inl,Option.bind_some,e1,decide_false,cond_false,Qx (show i<4611686018427387904 by omega),k1,Int.natCast_nonneg,c1,and_self,if_true,Int.le_refl,Int.toNat_natCast,c2,t2,c3,Nat.sub_zero,List.drop_zero,t1]
  rw [k4]
theorem number_eq (n:Int):Z29 n=some (btw n 1 999):=by
 simp only [Z29,c_Z29,within_eq,Option.bind_some]
theorem findsIn_eq (l:List D) (n:Int) (hl:l.length≤1048576) (w:∀ d∈l,wfD tFi d):Z48 l n=some (bif validF l&&btw n 1 999 then (l.filter (inC n),true) else ([],false)):=by
 unfold Z48 c_Z48
 simp only [isFinds_eq l hl w,number_eq,clone_eq l hl,delFinds_eq l n hl w,Option.bind_some]
 cases validF l <;> cases btw n 1 999 <;> rfl
theorem asked_eq (l:List D) (n:Int) (hl:l.length≤1048576):Z14 l n=some (validF l&&btw n 1 999):=by
 unfold Z14 c_Z14
 simp only [l14Good_eq l hl,l1In_eq,Option.bind_some]
 cases validF l <;> cases btw n 1 999 <;> rfl
def markd2 (cell:Int→D) (k0:Int) (n:Nat):List D:=(List.range n).map (fun (i:Nat)=>cell (k0+(i:Int)))
theorem markd2_len {cell:Int→D} {k0:Int} {n:Nat}:(markd2 cell k0 n).length=n:=by simp [markd2]
theorem markd2_get {cell:Int→D} {k0:Int} {n i:Nat} (h:i<n):(markd2 cell k0 n)[i]?.getD (.int 0)=cell (k0+(i:Int)):=by
 simp [markd2,h]
theorem mark_loop2 {N:Nat→Int→Int→List D→Option (Int×List D)} {n:Nat} {k0:Int} {cell:Int→D}
  (hs:∀ m (i:Nat) acc,i<n→acc.length=n→N (m+1) (k0+(i:Int)) (i:Int) acc=N m (k0+((i+1:Nat):Int)) ((i+1:Nat):Int) (acc.set i (cell (k0+(i:Int)))))
  (he:∀ m acc,acc.length=n→N (m+1) (k0+(n:Int)) (n:Int) acc=some (k0+(n:Int),acc)) {l:List D} (hl:l.length=n) :
  ev (fun m=>N m k0 0 l)=some (k0+(n:Int),markd2 cell k0 n):=by
 have key:∀ k,∀ m (i:Nat) acc,i+k=n→k<m→acc.length=n→acc.take i=(markd2 cell k0 n).take i→N m (k0+(i:Int)) (i:Int) acc=some (k0+(n:Int),markd2 cell k0 n):=by
  intro k
  induction k with
  | zero=>
   intro m i acc h1 h2 h3 h4
   obtain ⟨m,rfl⟩:∃ m',m=m'+1:=⟨m - 1,by omega⟩
   have hi:i=n:=by omega
   subst hi
   rw [he m acc h3]
   rw [List.take_of_length_le (by omega),List.take_of_length_le (by rw [markd2_len]; exact Nat.le_refl _)] at h4
   rw [h4]
  | succ k ih=>
   intro m i acc h1 h2 h3 h4
   obtain ⟨m,rfl⟩:∃ m',m=m'+1:=⟨m - 1,by omega⟩
   rw [hs m i acc (by omega) h3]
   refine ih m (i+1) _ (by omega) (by omega) (by simpa using h3) ?_
   have hi:i<(markd2 cell k0 n).length:=by rw [markd2_len]; omega
   rw [List.take_succ_eq_append_getElem (by simp; omega),List.take_succ_eq_append_getElem hi]
   rw [List.take_set_of_le (by omega),h4]
   simp [markd2]
 have:=Hn (f:=fun m=>N m k0 0 l) (n+1) (fun m hm=>by
  have:=key n m 0 l (by omega) (by omega) hl (by simp)
  simpa using this)
 exact this
theorem held_loop2 {X:Type} {N:Nat→Int→Int→Option X} {n:Nat} {k0:Int} {x:X}
  (hs:∀ m (i:Nat),i<n→N (m+1) (k0+(i:Int)) (i:Int)=N m (k0+((i+1:Nat):Int)) ((i+1:Nat):Int))
  (he:∀ m,N (m+1) (k0+(n:Int)) (n:Int)=some x):ev (fun m=>N m k0 0)=some x:=by
 have key:∀ k,∀ m (i:Nat),i+k=n→k<m→N m (k0+(i:Int)) (i:Int)=some x:=by
  intro k
  induction k with
  | zero=>
   intro m i h1 h2
   obtain ⟨m,rfl⟩:∃ m',m=m'+1:=⟨m - 1,by omega⟩
   have hi:i=n:=by omega
   subst hi
   exact he m
  | succ k ih=>
   intro m i h1 h2
   obtain ⟨m,rfl⟩:∃ m',m=m'+1:=⟨m - 1,by omega⟩
   rw [hs m i (by omega)]
   exact ih m (i+1) (by omega) (by omega)
 exact Hn (f:=fun m=>N m k0 0) (n+1) (fun m hm=>by
  have:=key n m 0 (by omega) (by omega)
  simpa using this)
def intsFrom (k:Int) (n:Nat):List D:=(List.range n).map (fun (i:Nat)=>.int (k+(i:Int)))
theorem intsFrom_len {k:Int} {n:Nat}:(intsFrom k n).length=n:=by simp [intsFrom]
theorem intsFrom_get {k:Int} {n i:Nat} (h:i<n):(intsFrom k n)[i]?.getD (.int 0)=.int (k+(i:Int)):=by simp [intsFrom,h]
theorem markIntS_k (l:List D) (k0:Int) (hk:0≤k0∧k0≤4611686018427387904) (hl:l.length≤1048576):Z93 l k0=some (k0+(l.length:Int),intsFrom k0 l.length):=by
 have key:Z92 k0 0 l=some (k0+(l.length:Int),markd2 (fun k=>.int k) k0 l.length):=by
  refine mark_loop2 (N:=n_Z92) (fun m i acc hi hacc=>?_) (fun m acc hacc=>?_) rfl
  ·have hw:IntKind.i64.wrap ((i:Int)+1)=(i:Int)+1:=Qe (by omega) (by omega)
   have w1:IntKind.i64.wrap (k0+(i:Int)+1)=k0+((i:Int)+1):=by rw [Qe (by omega) (by omega)]; omega
   have h2:(i:Int)<acc.length:=by omega
   have h3:i+1≤acc.length:=by omega
   simp [n_Z92,c_Z92,h2,h3,hw,w1]
  ·have h1:¬ (l.length:Int)<acc.length:=by omega
   simp [n_Z92,c_Z92,h1]
 simp only [Z93,c_Z93,key,Option.bind_some]
 rfl
theorem heldIntS_k (n:Nat) (k0:Int) (hk:0≤k0∧k0≤4611686018427387904) (hn:n≤1048576):Z95 (intsFrom k0 n) k0=some (k0+(n:Int)):=by
 have key:Z94 (intsFrom k0 n) k0 0=some (.inr (k0+(n:Int))):=by
  refine held_loop2 (n:=n) (N:=fun m k i=>n_Z94 m (intsFrom k0 n) k i) (fun m i hi=>?_) (fun m=>?_)
  ·have hw:IntKind.i64.wrap ((i:Int)+1)=(i:Int)+1:=Qe (by omega) (by omega)
   have w1:IntKind.i64.wrap (k0+(i:Int)+1)=k0+((i:Int)+1):=by rw [Qe (by omega) (by omega)]; omega
   have h2:(i:Int)<n:=by omega
   simp [n_Z94,c_Z94,intsFrom_len,h2,hw,w1,intsFrom_get hi,OT]
  ·simp [n_Z94,c_Z94,intsFrom_len]
 simp only [Z95,c_Z95,key,Option.bind_some,Sum.elim_inr]
theorem eqIntS_self (l:List D) (hl:l.length≤1048576):Z84 l l=some true:=by
 have key:Z83 l l 0=some (.inr ()):=by
  refine NU (N:=fun n i=>n_Z83 n l l i) (len:=l.length) (fun m i hi=>?_) (fun m=>?_)
  ·have hw:IntKind.i64.wrap ((i:Int)+1)=(i:Int)+1:=Qe (by omega) (by omega)
   have h1:(i:Int)<l.length:=by omega
   simp [n_Z83,c_Z83,h1,hw]
  ·simp [n_Z83,c_Z83]
 simp [Z84,c_Z84,key]
def sumN (g:Nat→Int):Nat→Int
 | 0=>0
 | n+1=>sumN g n+g n
theorem sumN_congr {g h:Nat→Int}:∀ {n:Nat},(∀ i,i<n→g i=h i)→sumN g n=sumN h n
 | 0,_=>rfl
 | n+1,e=>by
  show sumN g n+g n=sumN h n+h n
  rw [sumN_congr (fun i hi=>e i (by omega)),e n (by omega)]
theorem sumN_zero:∀ n:Nat,sumN (fun _=>0) n=0
 | 0=>rfl
 | n+1=>by show sumN (fun _=>0) n+0=0; rw [sumN_zero n]; rfl
theorem sumN_add (g h:Nat→Int):∀ n:Nat,sumN (fun i=>g i+h i) n=sumN g n+sumN h n
 | 0=>rfl
 | n+1=>by
  show sumN (fun i=>g i+h i) n+(g n+h n)=(sumN g n+g n)+(sumN h n+h n)
  rw [sumN_add g h n]; omega
theorem sumN_mul (c:Int) (g:Nat→Int):∀ n:Nat,sumN (fun i=>c * g i) n=c * sumN g n
 | 0=>(Int.mul_zero c).symm
 | n+1=>by
  show sumN (fun i=>c * g i) n+c * g n=c * (sumN g n+g n)
  rw [sumN_mul c g n,Int.mul_add]
theorem sumN_swap (p:Nat→Nat→Int) (m:Nat):∀ n:Nat,sumN (fun i=>sumN (p i) m) n=sumN (fun k=>sumN (fun i=>p i k) n) m
 | 0=>(sumN_zero m).symm
 | n+1=>by
  show sumN (fun i=>sumN (p i) m) n+sumN (p n) m=sumN (fun k=>sumN (fun i=>p i k) n+p n k) m
  rw [sumN_swap p m n,sumN_add]
theorem sumN_bd {g:Nat→Int} {B:Int}:∀ {n:Nat},(∀ i,i<n→0≤g i∧g i≤B)→0≤sumN g n∧sumN g n≤(n:Int) * B
 | 0,_=>by simp [sumN]
 | n+1,h=>by
  have ih:=sumN_bd (n:=n) (fun i hi=>h i (by omega))
  have hn:=h n (by omega)
  have e:((n+1:Nat):Int) * B=(n:Int) * B+B:=by rw [Int.natCast_add,Int.add_mul]; simp
  show 0≤sumN g n+g n∧sumN g n+g n≤_
  omega
theorem sumN_one (g:Nat→Int) (c:Int):∀ n:Nat,sumN (fun k=>if c=(k:Int) then g k else 0) n=if 0≤c∧c<n then g c.toNat else 0
 | 0=>by rw [if_neg (by omega)]; rfl
 | n+1=>by
  show sumN (fun k=>if c=(k:Int) then g k else 0) n+(if c=(n:Int) then g n else 0)=_
  rw [sumN_one g c n]
  by_cases h:c=(n:Int)
  ·rw [if_neg (by omega),if_pos h,if_pos (by omega),show c.toNat=n by omega]; omega
  ·rw [if_neg h]
   by_cases h2:0≤c∧c<n
   ·rw [if_pos h2,if_pos (by omega)]; omega
   ·rw [if_neg h2,if_neg (by omega)]; rfl
abbrev NL (l:List Nat):List D:=l.map (fun (j:Nat)=>D.int (j:Int))
theorem nl_len {l:List Nat}:(NL l).length=l.length:=by simp [NL]
theorem nl_mid {P S:List Nat} {x:Nat}:((NL (P++x::S)).getD P.length (.int 0)).toInt=(x:Int):=by
 rw [List.getD_eq_getElem?_getD]; simp [NL,OT]
theorem nl_get {l:List Nat} {i:Nat} (h:i<l.length):((NL l).getD i (.int 0)).toInt=(l[i]:Int):=by
 rw [List.getD_eq_getElem?_getD]; simp [NL,h,OT]
theorem nl_set {l:List Nat} {i x:Nat}:(NL l).set i (.int (x:Int))=NL (l.set i x):=by simp [NL,List.map_set]
theorem nl_setm {P S:List Nat} {x y:Nat}:(NL (P++x::S)).set P.length (.int (y:Int))=NL (P++y::S):=by rw [nl_set]; simp
def rmv (cs:List D) (sm:Int) (j:Nat):Int:=(IntKind.i64.wrap (1000 * (cs.getD j (.int 0)).toInt)).tmod sm
def lo (cs:List D) (sm:Int) (x y:Nat):Prop:=rmv cs sm y<rmv cs sm x∨(rmv cs sm x=rmv cs sm y∧x<y)
theorem lo_tr {cs:List D} {sm:Int} {x y z:Nat} (h:lo cs sm x y) (h':lo cs sm y z):lo cs sm x z:=by
 unfold lo at *; omega
theorem lo_tot {cs:List D} {sm:Int} {x y:Nat} (h:¬ lo cs sm x y) (hne:x≠y):lo cs sm y x:=by
 unfold lo at *; omega
theorem shares1_eq {cs:List D} {sm:Int} (hs:sm≠0) {x y:Nat} (hx:x<cs.length) (hy:y<cs.length):Z61 x y cs sm=some (cmpV (rmv cs sm y) (rmv cs sm x)):=by
 have h1:(x:Int)<cs.length:=by omega
 have h2:(y:Int)<cs.length:=by omega
 simp only [Z61,c_Z61,Int.natCast_nonneg,h1,h2,and_self,if_true,hs,ne_eq,not_false_eq_true,compare_eq,Int.toNat_natCast,Option.bind_some]
 rfl
theorem cmpV_neg (x y:Int):decide (cmpV x y<0)=decide (x<y):=by
 unfold cmpV
 by_cases h:x<y
 ·simp [h]
 ·by_cases h2:y<x <;> simp [h,h2]
theorem snoc_nat {P:List Nat→Prop} (h0:P []) (hs:∀ l x,P l→P (l++[x])) (l:List Nat):P l:=by
 have key:∀ r:List Nat,P r.reverse:=by
  intro r
  induction r with
  | nil=>exact h0
  | cons a r ih=>rw [List.reverse_cons]; exact hs _ _ ih
 have:=key l.reverse
 rwa [List.reverse_reverse] at this
theorem sL9 (u:Nat) (S:List Nat):∀ (V P:List Nat),(P++u::(V++S)).length≤1000→Z67 ((P.length+1+V.length:Nat):Int) P.length (NL (P++u::(V++S)))=some (NL (P++V++u::S))
 | [],P,hl=>by
  rw [Z67_fx]
  unfold c_Z67
  simp only [List.length_append,List.length_cons,List.length_nil,Nat.add_zero] at hl ⊢
  have h1:IntKind.i64.wrap (((P.length+1:Nat):Int) - 1)=P.length:=by rw [Qe (by omega) (by omega)]; omega
  simp only [h1,Int.lt_irrefl,decide_false,cond_false]
  simp
 | v::V,P,hl=>by
  have ih:=sL9 u S V (P++[v]) (by simp at hl ⊢; omega)
  rw [show (P++[v]).length=P.length+1 by simp] at ih
  rw [Z67_fx]
  unfold c_Z67
  have hl':P.length+(V.length+S.length)≤998:=by simp at hl; omega
  rw [show P.length+1+(v::V).length=P.length+1+1+V.length by simp; omega]
  have h1:IntKind.i64.wrap (((P.length+1+1+V.length:Nat):Int) - 1)=((P.length+1+V.length:Nat):Int):=by rw [Qe (by omega) (by omega)]; omega
  have h2:(P.length:Int)<((P.length+1+V.length:Nat):Int):=by omega
  have h3:IntKind.i64.wrap ((P.length:Int)+1)=((P.length+1:Nat):Int):=Qx (by omega)
  have g1:((NL (P++u::(v::V++S))).getD P.length (.int 0)).toInt=(u:Int):=nl_mid
  have g2:((NL (P++u::(v::V++S))).getD (P.length+1) (.int 0)).toInt=(v:Int):=by
   have:=nl_mid (P:=P++[u]) (S:=V++S) (x:=v)
   simpa using this
  have s1:(NL (P++u::(v::V++S))).set P.length (.int (v:Int))=NL (P++v::(v::V++S)):=nl_setm
  have s2:(NL (P++v::(v::V++S))).set (P.length+1) (.int (u:Int))=NL (P++[v]++u::(V++S)):=by simp
  have hlen:(NL (P++u::(v::V++S))).length=P.length+(V.length+S.length)+2:=by rw [nl_len]; simp; omega
  have hlen2:(NL (P++v::(v::V++S))).length=P.length+(V.length+S.length)+2:=by rw [nl_len]; simp; omega
  have b1:(P.length:Int)<((P.length+(V.length+S.length)+2:Nat):Int):=by omega
  have b2:P.length+1≤P.length+(V.length+S.length)+2:=by omega
  have b3:((P.length+1:Nat):Int)<((P.length+(V.length+S.length)+2:Nat):Int):=by omega
  have b4:P.length+1+1≤P.length+(V.length+S.length)+2:=by omega
  simp only [h1,h2,h3,decide_true,cond_true,Int.natCast_nonneg,and_self,if_true,Int.toNat_natCast,hlen,b1,b2,b3,b4,g1,g2,s1,hlen2,s2,Option.bind_fun_some,ih]
  simp
theorem sL21 (v:Nat) (P:List Nat):∀ (U S:List Nat),(P++U++v::S).length≤1000→Z69 P.length ((P.length+U.length:Nat):Int) (NL (P++U++v::S))=some (NL (P++v::(U++S))):=by
 intro U
 induction U using snoc_nat with
 | h0=>
  intro S hl
  rw [Z69_fx]
  unfold c_Z69
  simp
 | hs U w ih=>
  intro S hl
  have ih:=ih (w::S) (by simp at hl ⊢; omega)
  have hl':P.length+(U.length+S.length)≤998:=by simp at hl; omega
  rw [Z69_fx]
  unfold c_Z69
  rw [show P.length+(U++[w]).length=P.length+U.length+1 by simp; omega,show P++(U++[w])++v::S=(P++U)++w::(v::S) by simp]
  have h2:(P.length:Int)<((P.length+U.length+1:Nat):Int):=by omega
  have h3:IntKind.i64.wrap (((P.length+U.length+1:Nat):Int) - 1)=((P.length+U.length:Nat):Int):=by rw [Qe (by omega) (by omega)]; omega
  have hpu:(P++U).length=P.length+U.length:=by simp
  have g1:((NL ((P++U)++w::(v::S))).getD (P.length+U.length) (.int 0)).toInt=(w:Int):=by rw [← hpu]; exact nl_mid
  have g2:((NL ((P++U)++w::(v::S))).getD (P.length+U.length+1) (.int 0)).toInt=(v:Int):=by
   have:=nl_mid (P:=P++U++[w]) (S:=S) (x:=v)
   simpa [Nat.add_assoc] using this
  have s1:(NL ((P++U)++w::(v::S))).set (P.length+U.length+1) (.int (w:Int))=NL ((P++U)++w::(w::S)):=by simp [Nat.add_assoc]
  have s2:(NL ((P++U)++w::(w::S))).set (P.length+U.length) (.int (v:Int))=NL ((P++U)++v::(w::S)):=by rw [← hpu]; exact nl_setm
  have hlen:(NL ((P++U)++w::(v::S))).length=P.length+(U.length+S.length)+2:=by rw [nl_len]; simp; omega
  have hlen2:(NL ((P++U)++w::(w::S))).length=P.length+(U.length+S.length)+2:=by rw [nl_len]; simp; omega
  have b1:((P.length+U.length:Nat):Int)<((P.length+(U.length+S.length)+2:Nat):Int):=by omega
  have b2:P.length+U.length+1≤P.length+(U.length+S.length)+2:=by omega
  have b3:((P.length+U.length+1:Nat):Int)<((P.length+(U.length+S.length)+2:Nat):Int):=by omega
  have b4:P.length+U.length+1+1≤P.length+(U.length+S.length)+2:=by omega
  simp only [h2,h3,decide_true,cond_true,Int.natCast_nonneg,and_self,if_true,Int.toNat_natCast,hlen,b1,b2,b3,b4,g1,g2,s1,hlen2,s2,Option.bind_fun_some,ih]
  simp
theorem sSwap (a b n:Nat):∀ (A B P M S:List Nat) (i:Nat),A.length=B.length→a+i=P.length→b+i=P.length+A.length+M.length→n=i+A.length→(P++A++M++B++S).length≤1000 →
  Z71 a b n i (NL (P++A++M++B++S))=some (NL (P++B++M++A++S))
 | [],[],P,M,S,i,_,h1,h2,h3,hl=>by
  have:n=i:=by simpa using h3
  subst this
  rw [Z71_fx]; unfold c_Z71; simp
 | [],_::_,_,_,_,_,h,_,_,_,_=>by simp at h
 | _::_,[],_,_,_,_,h,_,_,_,_=>by simp at h
 | x::A,y::B,P,M,S,i,h0,h1,h2,h3,hl=>by
  have ih:=sSwap a b n A B (P++[y]) (M++[x]) S (i+1) (by simpa using h0) (by simp; omega) (by simp at h2 ⊢; omega) (by simp at h3 ⊢; omega) (by simp at hl ⊢; omega)
  simp only [List.length_cons] at h2 h3
  have hl':P.length+(A.length+M.length+B.length+S.length)≤998:=by simp at hl; omega
  rw [Z71_fx]
  unfold c_Z71
  have hi:(i:Int)<(n:Int):=by omega
  have w1:IntKind.i64.wrap ((b:Int)+(i:Int))=((P.length+(A.length+M.length+1):Nat):Int):=by rw [Qe (by omega) (by omega)]; omega
  have w2:IntKind.i64.wrap ((a:Int)+(i:Int))=(P.length:Int):=by rw [Qe (by omega) (by omega)]; omega
  have e0:P++x::A++M++y::B++S=P++x::(A++M++y::(B++S)):=by simp
  have hq:(P++x::(A++M)).length=P.length+(A.length+M.length+1):=by simp
  have g1:((NL (P++x::(A++M++y::(B++S)))).getD P.length (.int 0)).toInt=(x:Int):=nl_mid
  have g2:((NL (P++x::(A++M++y::(B++S)))).getD (P.length+(A.length+M.length+1)) (.int 0)).toInt=(y:Int):=by
   have:=nl_mid (P:=P++x::(A++M)) (S:=B++S) (x:=y)
   rw [hq] at this
   simpa using this
  have s1:(NL (P++x::(A++M++y::(B++S)))).set P.length (.int (y:Int))=NL (P++y::(A++M++y::(B++S))):=nl_setm
  have s2:(NL (P++y::(A++M++y::(B++S)))).set (P.length+(A.length+M.length+1)) (.int (x:Int))=NL (P++y::(A++M++x::(B++S))):=by
   simp
  have hlen:(NL (P++x::(A++M++y::(B++S)))).length=P.length+(A.length+M.length+B.length+S.length)+2:=by rw [nl_len]; simp; omega
  have hlen2:(NL (P++y::(A++M++y::(B++S)))).length=P.length+(A.length+M.length+B.length+S.length)+2:=by rw [nl_len]; simp; omega
  have b1:(P.length:Int)<((P.length+(A.length+M.length+B.length+S.length)+2:Nat):Int):=by omega
  have b2:P.length+1≤P.length+(A.length+M.length+B.length+S.length)+2:=by omega
  have b3:((P.length+(A.length+M.length+1):Nat):Int)<((P.length+(A.length+M.length+B.length+S.length)+2:Nat):Int):=by omega
  have b4:P.length+(A.length+M.length+1)+1≤P.length+(A.length+M.length+B.length+S.length)+2:=by omega
  rw [e0]
  simp only [hi,w1,w2,Qx (show i<4611686018427387904 by omega),decide_true,cond_true,Int.natCast_nonneg,and_self,if_true,Int.toNat_natCast,hlen,b1,b2,b3,b4,g1,g2,s1,hlen2,s2,Option.bind_fun_some]
  rw [show P++y::(A++M++x::(B++S))=P++[y]++A++(M++[x])++B++S by simp,ih]
  simp
theorem sRot (cs:List D) (sm:Int) (m:Nat):∀ (k:Nat) (U V P S:List Nat),U.length+V.length≤k→0<U.length→0<V.length→P.length+U.length=m→(P++U++V++S).length≤1000 →
  (Z73 m cs sm U.length V.length (NL (P++U++V++S))).bind (fun y0=>Z72 y0.2.2.2.2 (IntKind.i64.wrap (y0.1 - y0.2.2.2.1)) y0.1 y0.2.2.2.1 y0.2.1 y0.2.2.1)=some (NL (P++V++U++S)):=by
 intro k
 induction k with
 | zero=>intro U V P S h1 h2; omega
 | succ k ih=>
  intro U V P S hk hU hV hm hl
  have hl':P.length+U.length+V.length+S.length≤1000:=by simp at hl; omega
  rw [Z73_fx]
  unfold c_Z73
  by_cases e:U.length=V.length
  ·have e':(U.length:Int)=(V.length:Int):=by omega
   have w:IntKind.i64.wrap ((m:Int) - (V.length:Int))=(P.length:Int):=by rw [Qe (by omega) (by omega)]; omega
   have h:=sSwap P.length m V.length U V P [] S 0 e (by simp) (by simp; omega) (by omega) (by simpa using hl)
   have h:Z71 P.length m V.length 0 (NL (P++U++[]++V++S))=_:=h
   simp only [List.append_nil] at h
   simp only [e',decide_true,Bool.not_true,cond_false,Option.bind_some,w,Z72,c_Z72,h]
  ·have e':¬ (U.length:Int)=(V.length:Int):=by omega
   by_cases hlt:V.length<U.length
   ·have hlt':(V.length:Int)<(U.length:Int):=by omega
    obtain ⟨U1,U2,rfl,h1⟩:∃ U1 U2,U=U1++U2∧U1.length=V.length:=⟨U.take V.length,U.drop V.length,(List.take_append_drop _ _).symm,by simp; omega⟩
    simp only [List.length_append] at hk hU hm hlt hlt' e' hl' ⊢
    have w:IntKind.i64.wrap ((m:Int) - ((U1.length+U2.length:Nat):Int))=(P.length:Int):=by rw [Qe (by omega) (by omega)]; omega
    have w2:IntKind.i64.wrap (((U1.length+U2.length:Nat):Int) - (V.length:Int))=(U2.length:Int):=by rw [Qe (by omega) (by omega)]; omega
    have h:=sSwap P.length m V.length U1 V P U2 S 0 h1 (by simp) (by omega) (by omega) (by simp; omega)
    have h:Z71 P.length m V.length 0 (NL (P++U1++U2++V++S))=_:=h
    have ih':=ih U2 U1 (P++V) S (by omega) (by omega) (by omega) (by simp; omega) (by simp; omega)
    rw [h1] at ih'
    simp only [e',hlt',decide_true,decide_false,Bool.not_false,cond_true,w,w2,Z72,c_Z72,show P++(U1++U2)++V++S=P++U1++U2++V++S by simp,h,Option.bind_some,Option.bind_fun_some] at ih' ⊢
    rw [ih']
    simp
   ·have hlt':¬ (V.length:Int)<(U.length:Int):=by omega
    obtain ⟨V1,V2,rfl,h1⟩:∃ V1 V2,V=V1++V2∧V2.length=U.length:=⟨V.take (V.length - U.length),V.drop (V.length - U.length),(List.take_append_drop _ _).symm,by simp; omega⟩
    simp only [List.length_append] at hk hV hlt hlt' e' hl' e ⊢
    have w:IntKind.i64.wrap ((m:Int) - (U.length:Int))=(P.length:Int):=by rw [Qe (by omega) (by omega)]; omega
    have w1:IntKind.i64.wrap ((m:Int)+((V1.length+V2.length:Nat):Int))=((m+V1.length+V2.length:Nat):Int):=by rw [Qe (by omega) (by omega)]; omega
    have w3:IntKind.i64.wrap (((m+V1.length+V2.length:Nat):Int) - (U.length:Int))=((m+V1.length:Nat):Int):=by rw [Qe (by omega) (by omega)]; omega
    have w2:IntKind.i64.wrap (((V1.length+V2.length:Nat):Int) - (U.length:Int))=(V1.length:Int):=by rw [Qe (by omega) (by omega)]; omega
    have h:=sSwap P.length (m+V1.length) U.length U V2 P V1 S 0 (by omega) (by simp) (by omega) (by omega) (by simp; omega)
    have h:Z71 P.length ((m+V1.length:Nat):Int) U.length 0 (NL (P++U++V1++V2++S))=_:=h
    have ih':=ih V2 V1 P (U++S) (by omega) (by omega) (by omega) (by omega) (by simp; omega)
    rw [h1] at ih'
    simp only [e',hlt',decide_false,Bool.not_false,cond_true,cond_false,w,w1,w2,w3,Z72,c_Z72,show P++U++(V1++V2)++S=P++U++V1++V2++S by simp,h,Option.bind_some,Option.bind_fun_some,show P++V2++V1++U++S=P++V2++V1++(U++S) by simp] at ih' ⊢
    rw [ih']
    simp
theorem rot_eq (cs:List D) (sm:Int) {U V P S:List Nat} (hU:0<U.length) (hV:0<V.length) (hl:(P++U++V++S).length≤1000) :
  Z74 (NL (P++U++V++S)) P.length ((P.length+U.length:Nat):Int) ((P.length+U.length+V.length:Nat):Int) cs sm=some (NL (P++V++U++S)):=by
 have hl':P.length+U.length+V.length+S.length≤1000:=by simp at hl; omega
 have w1:IntKind.i64.wrap (((P.length+U.length:Nat):Int) - (P.length:Int))=(U.length:Int):=by rw [Qe (by omega) (by omega)]; omega
 have w2:IntKind.i64.wrap (((P.length+U.length+V.length:Nat):Int) - ((P.length+U.length:Nat):Int))=(V.length:Int):=by rw [Qe (by omega) (by omega)]; omega
 have h:=sRot cs sm (P.length+U.length) (U.length+V.length) U V P S (Nat.le_refl _) hU hV rfl hl
 simp only [Z74,c_Z74,w1,w2,Option.bind_fun_some]
 exact h
theorem bsearch {α:Type} {F:Nat→Nat→Option α} {p:Nat→Bool} {fin:Nat→α} {lo0 hi0:Nat}
  (hs:∀ i j,lo0≤i→i<j→j≤hi0→F i j=bif p ((i+j) / 2) then F ((i+j) / 2+1) j else F i ((i+j) / 2))
  (he:∀ i,lo0≤i→i≤hi0→F i i=some (fin i)) (h:lo0≤hi0) :
  ∃ r,F lo0 hi0=some (fin r)∧lo0≤r∧r≤hi0∧(lo0<r→p (r - 1)=true)∧(r<hi0→p r=false):=by
 have key:∀ k i j,j - i≤k→lo0≤i→i≤j→j≤hi0→(lo0<i→p (i - 1)=true)→(j<hi0→p j=false)→∃ r,F i j=some (fin r)∧lo0≤r∧r≤hi0∧(lo0<r→p (r - 1)=true)∧(r<hi0→p r=false):=by
  intro k
  induction k with
  | zero=>
   intro i j hk h1 h2 h3 h4 h5
   have:i=j:=by omega
   subst this
   exact ⟨i,he i h1 h3,h1,h3,h4,h5⟩
  | succ k ih=>
   intro i j hk h1 h2 h3 h4 h5
   by_cases e:i=j
   ·subst e
    exact ⟨i,he i h1 h3,h1,h3,h4,h5⟩
   ·rw [hs i j h1 (by omega) h3]
    cases hp:p ((i+j) / 2) with
    | true=>exact ih _ _ (by omega) (by omega) (by omega) h3 (fun _=>by rw [Nat.add_sub_cancel]; exact hp) h5
    | false=>exact ih _ _ (by omega) h1 (by omega) (by omega) h4 (fun _=>hp)
 exact key _ lo0 hi0 (Nat.le_refl _) (Nat.le_refl _) h (Nat.le_refl _) (fun h=>by omega) (fun h=>by omega)
theorem uwrap14 (n:Nat) (h:n≤100000):IntKind.u64.wrap (n:Int)=(n:Int):=by
 have e:IntKind.u64.wrap (n:Int)=(n:Int) % 18446744073709551616:=by unfold IntKind.wrap; simp [IntKind.signed,IntKind.bits]
 rw [e]; omega
theorem half_eq (i j:Nat) (h:i+j≤100000):IntKind.i64.wrap ((IntKind.u64.wrap (IntKind.i64.wrap ((i:Int)+(j:Int)))).fdiv (2 ^ Min.min ((1:Int)).toNat IntKind.u64.bits))=(((i+j) / 2:Nat):Int):=by
 have h1:Min.min ((1:Int)).toNat IntKind.u64.bits=1:=rfl
 have h2:IntKind.u64.wrap (IntKind.i64.wrap ((i:Int)+(j:Int)))=((i+j:Nat):Int):=by
  rw [Qe (by omega) (by omega),← Int.natCast_add,uwrap14 _ h]
 rw [h1,h2,Int.fdiv_eq_ediv_of_nonneg _ (by decide)]
 have h3:(((i+j:Nat):Int) / 2 ^ 1)=(((i+j) / 2:Nat):Int):=by omega
 rw [h3,Qe (by omega) (by omega)]
section
variable {cs:List D} {sm:Int} (hs:sm≠0) {l:List Nat} (hc:∀ x∈l,x<cs.length) (hl:l.length≤1000)
include hs hc hl
theorem sL3 {a i0 j0:Nat} (ha:a<l.length) (hij:i0≤j0) (hj:j0≤l.length) :
  ∃ r:Nat,Z66 a cs sm i0 j0 (NL l)=some ((a:Int),(r:Int),NL l)∧i0≤r∧r≤j0∧(i0<r→rmv cs sm (l.getD a 0)<rmv cs sm (l.getD (r - 1) 0))∧(r<j0→¬ rmv cs sm (l.getD a 0)<rmv cs sm (l.getD r 0)):=by
 obtain ⟨r,h1,h2,h3,h4,h5⟩:=bsearch (F:=fun i j=>Z66 a cs sm i j (NL l)) (p:=fun h=>decide (rmv cs sm (l.getD a 0)<rmv cs sm (l.getD h 0))) (fin:=fun r=>((a:Int),(r:Int),NL l)) (lo0:=i0) (hi0:=j0) (fun i j q1 q2 q3=>by
  show Z66 a cs sm i j (NL l)=_
  rw [Z66_fx]
  unfold c_Z66
  have b0:(i:Int)<(j:Int):=by omega
  have hh:(i+j) / 2<l.length:=by omega
  have b1:(((i+j) / 2:Nat):Int)<((NL l).length:Int):=by rw [nl_len]; omega
  have b2:(i+j) / 2+1≤(NL l).length:=by rw [nl_len]; omega
  have b3:(a:Int)<((NL l).length:Int):=by rw [nl_len]; omega
  have b4:a+1≤(NL l).length:=by rw [nl_len]; omega
  have e1:=shares1_eq hs (hc _ (List.getElem_mem hh)) (hc _ (List.getElem_mem ha))
  have e2:l.getD a 0=l[a]:=by simp [List.getD_eq_getElem?_getD,ha]
  have e3:l.getD ((i+j) / 2) 0=l[(i+j) / 2]:=by simp [List.getD_eq_getElem?_getD,hh]
  simp only [b0,half_eq i j (by omega),b1,b2,b3,b4,decide_true,cond_true,Int.natCast_nonneg,and_self,if_true,Int.toNat_natCast,nl_get hh,nl_get ha,e1,Option.bind_some,cmpV_neg,show (0:Int)≤1 by decide,Qx (show (i+j) / 2<4611686018427387904 by omega),Option.bind_fun_some,e2,e3])
  (fun i q1 q2=>by
   show Z66 a cs sm i i (NL l)=_
   rw [Z66_fx]; unfold c_Z66; simp) hij
 exact ⟨r,h1,h2,h3,fun h=>of_decide_eq_true (h4 h),fun h=>of_decide_eq_false (h5 h)⟩
theorem sL15 {m i0 j0:Nat} (ha:m<l.length) (hij:i0≤j0) (hj:j0≤l.length) :
  ∃ r:Nat,Z68 m cs sm i0 j0 (NL l)=some ((m:Int),(r:Int),NL l)∧i0≤r∧r≤j0∧(i0<r→¬ rmv cs sm (l.getD (r - 1) 0)<rmv cs sm (l.getD m 0))∧(r<j0→rmv cs sm (l.getD r 0)<rmv cs sm (l.getD m 0)):=by
 obtain ⟨r,h1,h2,h3,h4,h5⟩:=bsearch (F:=fun i j=>Z68 m cs sm i j (NL l)) (p:=fun h=>!decide (rmv cs sm (l.getD h 0)<rmv cs sm (l.getD m 0))) (fin:=fun r=>((m:Int),(r:Int),NL l)) (lo0:=i0) (hi0:=j0) (fun i j q1 q2 q3=>by
  show Z68 m cs sm i j (NL l)=_
  rw [Z68_fx]
  unfold c_Z68
  have b0:(i:Int)<(j:Int):=by omega
  have hh:(i+j) / 2<l.length:=by omega
  have b1:(((i+j) / 2:Nat):Int)<((NL l).length:Int):=by rw [nl_len]; omega
  have b2:(i+j) / 2+1≤(NL l).length:=by rw [nl_len]; omega
  have b3:(m:Int)<((NL l).length:Int):=by rw [nl_len]; omega
  have b4:m+1≤(NL l).length:=by rw [nl_len]; omega
  have e1:=shares1_eq hs (hc _ (List.getElem_mem ha)) (hc _ (List.getElem_mem hh))
  have e2:l.getD m 0=l[m]:=by simp [List.getD_eq_getElem?_getD,ha]
  have e3:l.getD ((i+j) / 2) 0=l[(i+j) / 2]:=by simp [List.getD_eq_getElem?_getD,hh]
  simp only [b0,half_eq i j (by omega),b1,b2,b3,b4,decide_true,cond_true,Int.natCast_nonneg,and_self,if_true,Int.toNat_natCast,nl_get hh,nl_get ha,e1,Option.bind_some,cmpV_neg,show (0:Int)≤1 by decide,Qx (show (i+j) / 2<4611686018427387904 by omega),Option.bind_fun_some,e2,e3])
  (fun i q1 q2=>by
   show Z68 m cs sm i i (NL l)=_
   rw [Z68_fx]; unfold c_Z68; simp) hij
 exact ⟨r,h1,h2,h3,fun h=>by have:=h4 h; simpa using this,fun h=>by have:=h5 h; simpa using this⟩
theorem sL33 {a m b mid n i0 j0 p:Nat} (hij:i0≤j0) (hj:j0≤l.length) (hp:j0≤p+1) (hpl:p<l.length+i0) :
  ∃ r:Nat,Z70 a m b cs sm mid n i0 j0 p (NL l)=some ((a:Int),(m:Int),(b:Int),cs,sm,(mid:Int),(n:Int),(r:Int),NL l)∧i0≤r∧r≤j0∧(i0<r→¬ rmv cs sm (l.getD (r - 1) 0)<rmv cs sm (l.getD (p - (r - 1)) 0))∧(r<j0→rmv cs sm (l.getD r 0)<rmv cs sm (l.getD (p - r) 0)):=by
 obtain ⟨r,h1,h2,h3,h4,h5⟩:=bsearch (F:=fun i j=>Z70 a m b cs sm mid n i j p (NL l)) (p:=fun h=>!decide (rmv cs sm (l.getD h 0)<rmv cs sm (l.getD (p - h) 0))) (fin:=fun r=>((a:Int),(m:Int),(b:Int),cs,sm,(mid:Int),(n:Int),(r:Int),NL l)) (lo0:=i0) (hi0:=j0) (fun i j q1 q2 q3=>by
  show Z70 a m b cs sm mid n i j p (NL l)=_
  rw [Z70_fx]
  unfold c_Z70
  have b0:(i:Int)<(j:Int):=by omega
  have hh:(i+j) / 2<l.length:=by omega
  have hq:p - (i+j) / 2<l.length:=by omega
  have w:IntKind.i64.wrap ((p:Int) - (((i+j) / 2:Nat):Int))=((p - (i+j) / 2:Nat):Int):=by rw [Qe (by omega) (by omega)]; omega
  have b1:(((i+j) / 2:Nat):Int)<((NL l).length:Int):=by rw [nl_len]; omega
  have b2:(i+j) / 2+1≤(NL l).length:=by rw [nl_len]; omega
  have b3:((p - (i+j) / 2:Nat):Int)<((NL l).length:Int):=by rw [nl_len]; omega
  have b4:p - (i+j) / 2+1≤(NL l).length:=by rw [nl_len]; omega
  have e1:=shares1_eq hs (hc _ (List.getElem_mem hq)) (hc _ (List.getElem_mem hh))
  have e2:l.getD (p - (i+j) / 2) 0=l[p - (i+j) / 2]:=by simp [List.getD_eq_getElem?_getD,hq]
  have e3:l.getD ((i+j) / 2) 0=l[(i+j) / 2]:=by simp [List.getD_eq_getElem?_getD,hh]
  simp only [b0,half_eq i j (by omega),w,b1,b2,b3,b4,decide_true,cond_true,Int.natCast_nonneg,and_self,if_true,Int.toNat_natCast,nl_get hh,nl_get hq,e1,Option.bind_some,cmpV_neg,show (0:Int)≤1 by decide,Qx (show (i+j) / 2<4611686018427387904 by omega),Option.bind_fun_some,e2,e3])
  (fun i q1 q2=>by
   show Z70 a m b cs sm mid n i i p (NL l)=_
   rw [Z70_fx]; unfold c_Z70; simp) hij
 exact ⟨r,h1,h2,h3,fun h=>by have:=h4 h; simpa using this,fun h=>by have:=h5 h; simpa using this⟩
end
theorem gd_mid {P S:List Nat} {x:Nat}:(P++x::S).getD P.length 0=x:=by simp [List.getD_eq_getElem?_getD]
theorem lo_ne {cs:List D} {sm:Int} {x y:Nat} (h:lo cs sm x y):x≠y:=by
 intro e
 subst e
 unfold lo at h
 omega
theorem pw_app {cs:List D} {sm:Int} {A B:List Nat} (hA:A.Pairwise (lo cs sm)) (hB:B.Pairwise (lo cs sm)) (h:∀ x∈A,∀ y∈B,lo cs sm x y):(A++B).Pairwise (lo cs sm):=List.pairwise_append.2 ⟨hA,hB,h⟩
theorem lo_all {cs:List D} {sm:Int} {A B:List Nat} (hA:A.Pairwise (lo cs sm)) (hB:B.Pairwise (lo cs sm)) (h:∀ A' x y B',A=A'++[x]→B=y::B'→lo cs sm x y):∀ x∈A,∀ y∈B,lo cs sm x y:=by
 intro x hx y hy
 obtain ⟨A',a,rfl⟩:∃ A' a,A=A'++[a]:=⟨A.dropLast,A.getLast (List.ne_nil_of_mem hx),(List.dropLast_concat_getLast _).symm⟩
 cases B with
 | nil=>cases hy
 | cons b B'=>
  have h0:=h A' a b B' rfl rfl
  have h1:x=a∨lo cs sm x a:=by
   rcases List.mem_append.1 hx with q | q
   ·exact .inr ((List.pairwise_append.1 hA).2.2 x q a (by simp))
   ·exact .inl (by simpa using q)
  have h2:y=b∨lo cs sm b y:=by
   rcases List.mem_cons.1 hy with q | q
   ·exact .inl q
   ·exact .inr ((List.pairwise_cons.1 hB).1 y q)
  have h3:lo cs sm x b:=by
   rcases h1 with e | e
   ·rw [e]; exact h0
   ·exact lo_tr e h0
  rcases h2 with e | e
  ·rw [e]; exact h3
  ·exact lo_tr h3 e
theorem cut_at (l:List Nat) (k:Nat) (h:k≤l.length):∃ a b,l=a++b∧a.length=k:=⟨l.take k,l.drop k,(List.take_append_drop _ _).symm,by simp <;> omega⟩
section
variable {cs:List D} {sm:Int} (hs:sm≠0)
include hs
set_option maxHeartbeats 0 in
theorem sMerge:∀ (k:Nat) (U V P S:List Nat),U.length+V.length≤k→0<U.length→0<V.length→U.Pairwise (lo cs sm)→V.Pairwise (lo cs sm)→(∀ u∈U,∀ v∈V,u<v)→(∀ x∈P++U++V++S,x<cs.length)→(P++U++V++S).length≤1000 →
  ∃ W,Z75 (NL (P++U++V++S)) P.length ((P.length+U.length:Nat):Int) ((P.length+U.length+V.length:Nat):Int) cs sm=some (NL (P++W++S))∧W.Perm (U++V)∧W.Pairwise (lo cs sm):=by
 intro k
 induction k with
 | zero=>intro U V P S h1 h2; omega
 | succ k ih=>
  intro U V P S hk hU hV pU pV hlt hc hl
  have hlen:(P++U++V++S).length=P.length+U.length+V.length+S.length:=by simp <;> omega
  have hl':P.length+U.length+V.length+S.length≤1000:=by omega
  rw [Z75_fx]
  unfold c_Z75
  have w1:IntKind.i64.wrap (((P.length+U.length:Nat):Int) - (P.length:Int))=(U.length:Int):=by rw [Qe (by omega) (by omega)]; omega
  have w2:IntKind.i64.wrap (((P.length+U.length+V.length:Nat):Int) - ((P.length+U.length:Nat):Int))=(V.length:Int):=by rw [Qe (by omega) (by omega)]; omega
  rw [w1,w2]
  by_cases hU1:U.length=1
  ·-- one element on the left: it goes to its place on the right
   obtain ⟨u,rfl⟩:=List.length_eq_one_iff.1 hU1
   obtain ⟨r,q1,q2,q3,q4,q5⟩:=sL3 hs hc hl (a:=P.length) (i0:=P.length+1) (j0:=P.length+1+V.length) (by simp <;> omega) (by omega) (by simp <;> omega)
   obtain ⟨V1,V2,rfl,v1⟩:=cut_at V (r - (P.length+1)) (by omega)
   have h9:=sL9 u (V2++S) V1 P (by simp at hl' ⊢; omega)
   rw [show P.length+1+V1.length=r by omega] at h9
   have eU:P++[u]++(V1++V2)++S=P++u::(V1++(V2++S)):=by simp
   rw [eU] at q1 q4 q5 ⊢
   refine ⟨V1++u::V2,?_,?_,?_⟩
   ·simp only [List.length_singleton,Int.natCast_one,decide_true,cond_true] at q1 ⊢
    rw [q1]
    simp only [Option.bind_some,h9]
    simp
   ·exact List.perm_middle
   ·have hV12:=List.pairwise_append.1 pV
    have gu:(P++u::(V1++(V2++S))).getD P.length 0=u:=gd_mid
    refine List.pairwise_append.2 ⟨hV12.1,List.pairwise_cons.2 ⟨?_,hV12.2.1⟩,?_⟩
    ·refine fun y hy=>lo_all (A:=[u]) (List.pairwise_singleton _ _) hV12.2.1 ?_ u (by simp) y hy
     intro A' x y B' e1 e2
     subst e2
     have ex:x=u:=by
      have:=congrArg List.getLast? e1
      simpa using this.symm
     subst ex
     have g2:(P++x::(V1++(y::B'++S))).getD r 0=y:=by
      have:=gd_mid (P:=P++x::V1) (S:=B'++S) (x:=y)
      rw [show (P++x::V1).length=r by simp <;> omega] at this
      simpa using this
     have h5:=q5 (by simp at q3 ⊢; omega)
     rw [g2,gu] at h5
     have:=hlt x (by simp) y (by simp)
     unfold lo; omega
    ·refine fun x hx y hy=>?_
     have hx':lo cs sm x u:=by
      refine lo_all (B:=[u]) hV12.1 (List.pairwise_singleton _ _) ?_ x hx u (by simp)
      intro A' z y B' e1 e2
      subst e1
      have ey:y=u:=by
       have:=congrArg List.head? e2
       simpa using this.symm
      subst ey
      have g2:(P++y::(A'++[z]++(V2++S))).getD (r - 1) 0=z:=by
       have:=gd_mid (P:=P++y::A') (S:=V2++S) (x:=z)
       rw [show (P++y::A').length=r - 1 by simp at v1 ⊢; omega] at this
       simpa using this
      have h4:=q4 (by simp at v1; omega)
      rw [g2,gu] at h4
      unfold lo; omega
     rcases List.mem_cons.1 hy with e | e
     ·rw [e]; exact hx'
     ·exact hV12.2.2 x hx y e
  ·have hU1':¬ (U.length:Int)=1:=by omega
   by_cases hV1:V.length=1
   ·obtain ⟨v,rfl⟩:=List.length_eq_one_iff.1 hV1
    obtain ⟨r,q1,q2,q3,q4,q5⟩:=sL15 hs hc hl (m:=P.length+U.length) (i0:=P.length) (j0:=P.length+U.length) (by simp <;> omega) (by omega) (by simp <;> omega)
    obtain ⟨U1,U2,rfl,u1⟩:=cut_at U (r - P.length) (by omega)
    have h21:=sL21 v (P++U1) U2 S (by simp at hl' ⊢; omega)
    rw [show (P++U1).length=r by simp <;> omega,show r+U2.length=P.length+(U1++U2).length by simp <;> omega] at h21
    have eU:P++(U1++U2)++[v]++S=P++U1++U2++v::S:=by simp
    rw [eU] at q1 q4 q5 ⊢
    refine ⟨U1++v::U2,?_,?_,?_⟩
    ·simp only [hU1',List.length_singleton,Int.natCast_one,decide_true,decide_false,cond_true,cond_false,q1,Option.bind_some,h21]
     simp
    ·exact List.perm_middle.trans (List.perm_append_singleton v (U1++U2)).symm
    ·have hU12:=List.pairwise_append.1 pU
     have gv:(P++U1++U2++v::S).getD (P.length+(U1++U2).length) 0=v:=by
      have:=gd_mid (P:=P++U1++U2) (S:=S) (x:=v)
      rw [show (P++U1++U2).length=P.length+(U1++U2).length by simp <;> omega] at this
      exact this
     refine List.pairwise_append.2 ⟨hU12.1,List.pairwise_cons.2 ⟨?_,hU12.2.1⟩,?_⟩
     ·refine fun y hy=>lo_all (A:=[v]) (List.pairwise_singleton _ _) hU12.2.1 ?_ v (by simp) y hy
      intro A' x y B' e1 e2
      subst e2
      have ex:x=v:=by
       have:=congrArg List.getLast? e1
       simpa using this.symm
      subst ex
      have g2:(P++U1++y::B'++x::S).getD r 0=y:=by
       have:=gd_mid (P:=P++U1) (S:=B'++x::S) (x:=y)
       rw [show (P++U1).length=r by simp <;> omega] at this
       simpa using this
      have h5:=q5 (by simp at q3 u1 ⊢; omega)
      rw [g2,gv] at h5
      unfold lo; omega
     ·refine fun x hx y hy=>?_
      have hx':lo cs sm x v:=by
       refine lo_all (B:=[v]) hU12.1 (List.pairwise_singleton _ _) ?_ x hx v (by simp)
       intro A' z y B' e1 e2
       subst e1
       have ey:y=v:=by
        have:=congrArg List.head? e2
        simpa using this.symm
       subst ey
       have g2:(P++(A'++[z])++U2++y::S).getD (r - 1) 0=z:=by
        have:=gd_mid (P:=P++A') (S:=U2++y::S) (x:=z)
        rw [show (P++A').length=r - 1 by simp at u1 ⊢; omega] at this
        simpa using this
       have h4:=q4 (by simp at u1; omega)
       rw [g2,gv] at h4
       have:=hlt z (by simp) y (by simp)
       unfold lo; omega
      rcases List.mem_cons.1 hy with e | e
      ·rw [e]; exact hx'
      ·exact hU12.2.2 x hx y e
   ·have hV1':¬ (V.length:Int)=1:=by omega
    have fin:∀ (st:Nat),P.length≤st→st≤P.length+U.length→∀ (mid n:Nat),mid=(P.length+(P.length+U.length+V.length)) / 2→n=mid+(P.length+U.length)→st≤mid→n≤st+(P.length+U.length+V.length) →
      (P.length<st→n - st<P.length+U.length+V.length→¬ rmv cs sm ((P++U++V++S).getD (st - 1) 0)<rmv cs sm ((P++U++V++S).getD (n - 1 - (st - 1)) 0)) →
      (st<P.length+U.length→st<mid→rmv cs sm ((P++U++V++S).getD st 0)<rmv cs sm ((P++U++V++S).getD (n - 1 - st) 0)) →
      ∃ L1 L2 W,(¬ (((st:Nat):Int)<((P.length+U.length:Nat):Int)∧((P.length+U.length:Nat):Int)<((n - st:Nat):Int))→NL (P++U++V++S)=NL L1) ∧
       (((st:Nat):Int)<((P.length+U.length:Nat):Int)→((P.length+U.length:Nat):Int)<((n - st:Nat):Int)→Z74 (NL (P++U++V++S)) st ((P.length+U.length:Nat):Int) ((n - st:Nat):Int) cs sm=some (NL L1)) ∧
       (¬ ((P.length:Int)<(st:Int)∧(st:Int)<(mid:Int))→NL L1=NL L2) ∧
       ((P.length:Int)<(st:Int)→(st:Int)<(mid:Int)→Z75 (NL L1) P.length st mid cs sm=some (NL L2)) ∧
       (¬ ((mid:Int)<((n - st:Nat):Int)∧((n - st:Nat):Int)<((P.length+U.length+V.length:Nat):Int))→NL L2=NL (P++W++S)) ∧
       ((mid:Int)<((n - st:Nat):Int)→((n - st:Nat):Int)<((P.length+U.length+V.length:Nat):Int)→Z75 (NL L2) mid ((n - st:Nat):Int) ((P.length+U.length+V.length:Nat):Int) cs sm=some (NL (P++W++S)))∧W.Perm (U++V)∧W.Pairwise (lo cs sm):=by
     intro st s1 s2 mid n hmid hn s3 s4 b1 b2
     obtain ⟨U1,U2,rfl,u1⟩:=cut_at U (st - P.length) (by omega)
     obtain ⟨V1,V2,rfl,v1⟩:=cut_at V (n - st - (P.length+(U1++U2).length)) (by omega)
     simp only [List.length_append] at hmid hn s2 s3 s4 b1 b2 hk v1 hU hV hU1 hV1 ⊢
     have hl2:P.length+(U1.length+U2.length)+(V1.length+V2.length)+S.length≤1000:=by simp at hl'; omega
     have e5:P.length+(U1.length+U2.length)+V1.length=n - st:=by omega
     have m1:P.length+(U1.length+V1.length)=mid:=by omega
     have m2:0<U1.length+V1.length:=by omega
     have pU':=List.pairwise_append.1 pU
     have pV':=List.pairwise_append.1 pV
     have x1:∀ x∈U1,∀ y∈V2,lo cs sm x y:=by
      refine lo_all pU'.1 pV'.2.1 ?_
      intro A' x y B' e1 e2
      subst e1; subst e2
      have hst:st=(P++A').length+1:=by simp at u1 ⊢; omega
      have hq1:(P++(A'++[x]++U2)++(V1++y::B')++S).getD (st - 1) 0=x:=by
       rw [hst,Nat.add_sub_cancel]
       simp
      have hq2:(P++(A'++[x]++U2)++(V1++y::B')++S).getD (n - 1 - (st - 1)) 0=y:=by
       have:=gd_mid (P:=P++(A'++[x]++U2)++V1) (S:=B'++S) (x:=y)
       rw [show (P++(A'++[x]++U2)++V1).length=n - 1 - (st - 1) by (simp only [List.length_append,List.length_cons,List.length_nil] at e5 u1 ⊢; omega)] at this
       simpa using this
      have h:=b1 (by simp at u1; omega) (by simp only [List.length_append,List.length_cons,List.length_nil] at e5 ⊢; omega)
      rw [hq1,hq2] at h
      have:=hlt x (by simp) y (by simp)
      unfold lo; omega
     have x2:∀ x∈V1,∀ y∈U2,lo cs sm x y:=by
      refine lo_all pV'.1 pU'.2.1 ?_
      intro A' x y B' e1 e2
      subst e1; subst e2
      have hst:st=(P++U1).length:=by simp <;> omega
      have hq1:(P++(U1++y::B')++(A'++[x]++V2)++S).getD st 0=y:=by
       rw [hst]
       simp
      have hq2:(P++(U1++y::B')++(A'++[x]++V2)++S).getD (n - 1 - st) 0=x:=by
       have:=gd_mid (P:=P++(U1++y::B')++A') (S:=V2++S) (x:=x)
       rw [show (P++(U1++y::B')++A').length=n - 1 - st by (simp only [List.length_append,List.length_cons,List.length_nil] at e5 u1 ⊢; omega)] at this
       simpa using this
      have h:=b2 (by simp only [List.length_append,List.length_cons,List.length_nil] at u1 ⊢; omega) (by simp only [List.length_append,List.length_cons,List.length_nil] at m1 ⊢; omega)
      rw [hq1,hq2] at h
      unfold lo; omega
     have half:∀ (A B Q T:List Nat),A.length+B.length≤k→A.Pairwise (lo cs sm)→B.Pairwise (lo cs sm)→(∀ x∈A,∀ y∈B,x<y)→(∀ x∈Q++A++B++T,x<cs.length)→(Q++A++B++T).length≤1000 →
       ∃ W,(¬ (0<A.length∧0<B.length)→W=A++B)∧(0<A.length→0<B.length→Z75 (NL (Q++A++B++T)) Q.length ((Q.length+A.length:Nat):Int) ((Q.length+A.length+B.length:Nat):Int) cs sm=some (NL (Q++W++T)))∧W.Perm (A++B)∧W.Pairwise (lo cs sm):=by
      intro A B Q T a1 a2 a3 a4 a5 a6
      by_cases hz:0<A.length∧0<B.length
      ·obtain ⟨W,c1,c2,c3⟩:=ih A B Q T a1 hz.1 hz.2 a2 a3 a4 a5 a6
       exact ⟨W,fun h=>absurd hz h,fun _ _=>c1,c2,c3⟩
      ·refine ⟨A++B,fun _=>rfl,fun h1 h2=>absurd ⟨h1,h2⟩ hz,List.Perm.refl _,?_⟩
       have:A=[]∨B=[]:=by
        cases A with
        | nil=>exact .inl rfl
        | cons a A=>cases B with
         | nil=>exact .inr rfl
         | cons b B=>exact absurd ⟨by simp,by simp⟩ hz
       rcases this with e | e
       ·subst e; exact a3
       ·subst e; rw [List.append_nil]; exact a2
     have hmemA:∀ x,x∈P++U1++V1++(U2++V2++S)→x<cs.length:=by
      intro x hx
      refine hc x ?_
      simp only [List.mem_append] at hx ⊢
      rcases hx with ((h | h) | h) | ((h | h) | h) <;> simp [h]
     obtain ⟨W1,d1,d2,d3,d4⟩:=half U1 V1 P (U2++V2++S) (by omega) pU'.1 pV'.1 (fun x hx y hy=>hlt x (by simp [hx]) y (by simp [hy])) hmemA (by simp <;> omega)
     have lW1:W1.length=U1.length+V1.length:=by rw [d3.length_eq,List.length_append]
     have hmemB:∀ x,x∈P++W1++U2++V2++S→x<cs.length:=by
      intro x hx
      refine hc x ?_
      simp only [List.mem_append] at hx ⊢
      rcases hx with ((((h | h) | h) | h) | h)
      ·simp [h]
      ·have:=(d3.mem_iff).1 h
       rcases List.mem_append.1 this with h | h <;> simp [h]
      ·simp [h]
      ·simp [h]
      ·simp [h]
     obtain ⟨W2,f1,f2,f3,f4⟩:=half U2 V2 (P++W1) S (by omega) pU'.2.1 pV'.2.1 (fun x hx y hy=>hlt x (by simp [hx]) y (by simp [hy])) hmemB (by simp <;> omega)
     have pm:(W1++W2).Perm (U1++U2++(V1++V2)):=by
      refine (d3.append f3).trans ?_
      rw [List.append_assoc,List.append_assoc]
      refine List.Perm.append_left U1 ?_
      rw [← List.append_assoc,← List.append_assoc]
      exact List.Perm.append_right V2 List.perm_append_comm
     have ps:(W1++W2).Pairwise (lo cs sm):=by
      refine pw_app d4 f4 (fun x hx y hy=>?_)
      have hx:=(d3.mem_iff).1 hx
      have hy:=(f3.mem_iff).1 hy
      rcases List.mem_append.1 hx with hx | hx <;> rcases List.mem_append.1 hy with hy | hy
      ·exact pU'.2.2 x hx y hy
      ·exact x1 x hx y hy
      ·exact x2 x hx y hy
      ·exact pV'.2.2 x hx y hy
     refine ⟨P++U1++V1++(U2++V2++S),P++W1++U2++V2++S,W1++W2,?_,?_,?_,?_,?_,?_,pm,ps⟩
     ·intro h
      have:U2=[]∨V1=[]:=by
       cases hq:U2 with
       | nil=>exact .inl rfl
       | cons a A=>cases hq2:V1 with
        | nil=>exact .inr rfl
        | cons b B=>
         subst hq; subst hq2
         simp only [List.length_cons] at *
         omega
      rcases this with e | e <;> subst e <;> simp
     ·intro h1 h2
      have hr:=rot_eq cs sm (P:=P++U1) (U:=U2) (V:=V1) (S:=V2++S) (by omega) (by omega) (by simp <;> omega)
      rw [show (P++U1).length=st by simp <;> omega,show st+U2.length=P.length+(U1.length+U2.length) by omega,show P.length+(U1.length+U2.length)+V1.length=n - st by omega] at hr
      rw [show P++(U1++U2)++(V1++V2)++S=P++U1++U2++V1++(V2++S) by simp,hr]
      simp
     ·intro h
      rw [d1 (by omega)]
      simp
     ·intro h1 h2
      have hr:=d2 (by omega) (by omega)
      rw [show P.length+U1.length=st by omega,show st+V1.length=mid by omega] at hr
      rw [hr]
      simp
     ·intro h
      rw [f1 (by omega)]
      simp
     ·intro h1 h2
      have hr:=f2 (by omega) (by omega)
      rw [show (P++W1).length=mid by (simp only [List.length_append]; omega),show mid+U2.length=n - st by omega,show n - st+V2.length=P.length+(U1.length+U2.length)+(V1.length+V2.length) by omega] at hr
      rw [hr]
      simp
    have hm2:=half_eq P.length (P.length+U.length+V.length) (by omega)
    obtain ⟨mid,hmid⟩:∃ mid,mid=(P.length+(P.length+U.length+V.length)) / 2:=⟨_,rfl⟩
    rw [← hmid] at hm2
    have wn:IntKind.i64.wrap ((mid:Int)+((P.length+U.length:Nat):Int))=((mid+(P.length+U.length):Nat):Int):=by rw [Qe (by omega) (by omega)]; omega
    have wp:IntKind.i64.wrap (((mid+(P.length+U.length):Nat):Int) - 1)=((mid+(P.length+U.length) - 1:Nat):Int):=by rw [Qe (by omega) (by omega)]; omega
    have wb:mid<P.length+U.length→IntKind.i64.wrap (((mid+(P.length+U.length):Nat):Int) - ((P.length+U.length+V.length:Nat):Int))=((mid+(P.length+U.length) - (P.length+U.length+V.length):Nat):Int):=fun h=>by rw [Qe (by omega) (by omega)]; omega
    simp only [hU1',hV1',decide_false,cond_false,show (0:Int)≤1 by decide,if_true,hm2,wn,wp]
    by_cases hcase:mid<P.length+U.length
    ·have hcase':(mid:Int)<((P.length+U.length:Nat):Int):=by omega
     obtain ⟨st,q1,q2,q3,q4,q5⟩:=sL33 hs hc hl (a:=P.length) (m:=P.length+U.length) (b:=P.length+U.length+V.length) (mid:=mid) (n:=mid+(P.length+U.length)) (i0:=mid+(P.length+U.length) - (P.length+U.length+V.length)) (j0:=mid) (p:=mid+(P.length+U.length) - 1) (by omega) (by omega) (by omega) (by omega)
     obtain ⟨L1,L2,W,r1,r2,r3,r4,r5,r6,r7,r8⟩:=fin st (by omega) (by omega) mid (mid+(P.length+U.length)) hmid rfl q3 (by omega) (fun h1 h2=>q4 (by omega)) (fun h1 h2=>q5 h2)
     have we:IntKind.i64.wrap (((mid+(P.length+U.length):Nat):Int) - (st:Int))=((mid+(P.length+U.length) - st:Nat):Int):=by rw [Qe (by omega) (by omega)]; omega
     refine ⟨W,?_,r7,r8⟩
     simp only [hcase',decide_true,cond_true,wb hcase,q1,Option.bind_some,we,Option.bind_fun_some]
     have r1a:=fun (h:¬ ((st:Nat):Int)<((P.length+U.length:Nat):Int))=>r1 (fun x=>h x.1)
     have r1b:=fun (h:¬ ((P.length+U.length:Nat):Int)<((mid+(P.length+U.length) - st:Nat):Int))=>r1 (fun x=>h x.2)
     have r3a:=fun (h:¬ (P.length:Int)<(st:Int))=>r3 (fun x=>h x.1)
     have r3b:=fun (h:¬ (st:Int)<(mid:Int))=>r3 (fun x=>h x.2)
     have r5a:=fun (h:¬ (mid:Int)<((mid+(P.length+U.length) - st:Nat):Int))=>r5 (fun x=>h x.1)
     have r5b:=fun (h:¬ ((mid+(P.length+U.length) - st:Nat):Int)<((P.length+U.length+V.length:Nat):Int))=>r5 (fun x=>h x.2)
     clear r1 r3 r5 fin ih
     by_cases c1:((st:Nat):Int)<((P.length+U.length:Nat):Int) <;> by_cases c2:((P.length+U.length:Nat):Int)<((mid+(P.length+U.length) - st:Nat):Int) <;> by_cases c3:(P.length:Int)<(st:Int) <;> by_cases c4:(st:Int)<(mid:Int) <;> by_cases c5:(mid:Int)<((mid+(P.length+U.length) - st:Nat):Int) <;> by_cases c6:((mid+(P.length+U.length) - st:Nat):Int)<((P.length+U.length+V.length:Nat):Int) <;> simp only [c1,c2,c3,c4,c5,c6,decide_true,decide_false,cond_true,cond_false,r1a,r1b,r2,r3a,r3b,r4,r5a,r5b,r6,Option.bind_some,not_false_eq_true,forall_const]
    ·have hcase':¬ (mid:Int)<((P.length+U.length:Nat):Int):=by omega
     obtain ⟨st,q1,q2,q3,q4,q5⟩:=sL33 hs hc hl (a:=P.length) (m:=P.length+U.length) (b:=P.length+U.length+V.length) (mid:=mid) (n:=mid+(P.length+U.length)) (i0:=P.length) (j0:=P.length+U.length) (p:=mid+(P.length+U.length) - 1) (by omega) (by omega) (by omega) (by omega)
     obtain ⟨L1,L2,W,r1,r2,r3,r4,r5,r6,r7,r8⟩:=fin st q2 q3 mid (mid+(P.length+U.length)) hmid rfl (by omega) (by omega) (fun h1 h2=>q4 h1) (fun h1 h2=>q5 h1)
     have we:IntKind.i64.wrap (((mid+(P.length+U.length):Nat):Int) - (st:Int))=((mid+(P.length+U.length) - st:Nat):Int):=by rw [Qe (by omega) (by omega)]; omega
     refine ⟨W,?_,r7,r8⟩
     simp only [hcase',decide_false,cond_false,q1,Option.bind_some,we,Option.bind_fun_some]
     have r1a:=fun (h:¬ ((st:Nat):Int)<((P.length+U.length:Nat):Int))=>r1 (fun x=>h x.1)
     have r1b:=fun (h:¬ ((P.length+U.length:Nat):Int)<((mid+(P.length+U.length) - st:Nat):Int))=>r1 (fun x=>h x.2)
     have r3a:=fun (h:¬ (P.length:Int)<(st:Int))=>r3 (fun x=>h x.1)
     have r3b:=fun (h:¬ (st:Int)<(mid:Int))=>r3 (fun x=>h x.2)
     have r5a:=fun (h:¬ (mid:Int)<((mid+(P.length+U.length) - st:Nat):Int))=>r5 (fun x=>h x.1)
     have r5b:=fun (h:¬ ((mid+(P.length+U.length) - st:Nat):Int)<((P.length+U.length+V.length:Nat):Int))=>r5 (fun x=>h x.2)
     clear r1 r3 r5 fin ih
     by_cases c1:((st:Nat):Int)<((P.length+U.length:Nat):Int) <;> by_cases c2:((P.length+U.length:Nat):Int)<((mid+(P.length+U.length) - st:Nat):Int) <;> by_cases c3:(P.length:Int)<(st:Int) <;> by_cases c4:(st:Int)<(mid:Int) <;> by_cases c5:(mid:Int)<((mid+(P.length+U.length) - st:Nat):Int) <;> by_cases c6:((mid+(P.length+U.length) - st:Nat):Int)<((P.length+U.length+V.length:Nat):Int) <;> simp only [c1,c2,c3,c4,c5,c6,decide_true,decide_false,cond_true,cond_false,r1a,r1b,r2,r3a,r3b,r4,r5a,r5b,r6,Option.bind_some,not_false_eq_true,forall_const]
end
section
variable {cs:List D} {sm:Int} (hs:sm≠0)
include hs
theorem iL4 (b i:Int) (P:List Nat):∀ (U:List Nat) (x:Nat) (S:List Nat),U.Pairwise (lo cs sm)→(∀ u∈U,u<x)→(∀ y∈P++U++x::S,y<cs.length)→(P++U++x::S).length≤1000 →
  ∃ W,Z62 P.length b cs sm i ((P.length+U.length:Nat):Int) (NL (P++U++x::S))=some ((P.length:Int),b,cs,sm,i,NL (P++W++S))∧W.Perm (U++[x])∧W.Pairwise (lo cs sm):=by
 intro U
 induction U using snoc_nat with
 | h0=>
  intro x S h1 h2 h3 h4
  refine ⟨[x],?_,List.Perm.refl _,List.pairwise_singleton _ _⟩
  rw [Z62_fx]
  unfold c_Z62
  simp
 | hs U w ih=>
  intro x S h1 h2 h3 h4
  have hl':P.length+(U.length+S.length)≤998:=by simp at h4; omega
  have h1':=List.pairwise_append.1 h1
  have hw:w<cs.length:=h3 w (by simp)
  have hx:x<cs.length:=h3 x (by simp)
  rw [Z62_fx]
  unfold c_Z62
  rw [show P.length+(U++[w]).length=P.length+U.length+1 by simp; omega,show P++(U++[w])++x::S=(P++U)++w::(x::S) by simp]
  have hpu:(P++U).length=P.length+U.length:=by simp
  have k2:(P.length:Int)<((P.length+U.length+1:Nat):Int):=by omega
  have k3:IntKind.i64.wrap (((P.length+U.length+1:Nat):Int) - 1)=((P.length+U.length:Nat):Int):=by rw [Qe (by omega) (by omega)]; omega
  have g1:((NL ((P++U)++w::(x::S))).getD (P.length+U.length) (.int 0)).toInt=(w:Int):=by rw [← hpu]; exact nl_mid
  have g2:((NL ((P++U)++w::(x::S))).getD (P.length+U.length+1) (.int 0)).toInt=(x:Int):=by
   have:=nl_mid (P:=P++U++[w]) (S:=S) (x:=x)
   simpa [Nat.add_assoc] using this
  have s1:(NL ((P++U)++w::(x::S))).set (P.length+U.length+1) (.int (w:Int))=NL ((P++U)++w::(w::S)):=by simp [Nat.add_assoc]
  have s2:(NL ((P++U)++w::(w::S))).set (P.length+U.length) (.int (x:Int))=NL ((P++U)++x::(w::S)):=by rw [← hpu]; exact nl_setm
  have hlen:(NL ((P++U)++w::(x::S))).length=P.length+(U.length+S.length)+2:=by rw [nl_len]; simp; omega
  have hlen2:(NL ((P++U)++w::(w::S))).length=P.length+(U.length+S.length)+2:=by rw [nl_len]; simp; omega
  have b1:((P.length+U.length:Nat):Int)<((P.length+(U.length+S.length)+2:Nat):Int):=by omega
  have b2:P.length+U.length+1≤P.length+(U.length+S.length)+2:=by omega
  have b3:((P.length+U.length+1:Nat):Int)<((P.length+(U.length+S.length)+2:Nat):Int):=by omega
  have b4:P.length+U.length+1+1≤P.length+(U.length+S.length)+2:=by omega
  simp only [k2,k3,decide_true,cond_true,Int.natCast_nonneg,and_self,if_true,Int.toNat_natCast,hlen,b1,b2,b3,b4,g1,g2,shares1_eq hs hx hw,Option.bind_some,cmpV_neg]
  by_cases hlt:rmv cs sm w<rmv cs sm x
  ·obtain ⟨W,q1,q2,q3⟩:=ih x (w::S) h1'.1 (fun u hu=>h2 u (by simp [hu])) (fun y hy=>h3 y (by
    simp only [List.mem_append,List.mem_cons,List.mem_nil_iff,or_false] at hy ⊢
    rcases hy with (h | h) | h | h | h <;> simp [h])) (by simp at h4 ⊢; omega)
   refine ⟨W++[w],?_,?_,?_⟩
   ·simp only [hlt,decide_true,cond_true,s1,hlen2,b1,b2,if_true,s2,Option.bind_fun_some,and_self]
    rw [q1]
    simp
   ·refine (q2.append_right [w]).trans ?_
    rw [List.append_assoc,List.append_assoc]
    exact List.Perm.append_left U (List.Perm.swap w x [])
   ·refine pw_app q3 (List.pairwise_singleton _ _) (fun y hy z hz=>?_)
    rw [List.mem_singleton] at hz
    subst hz
    rcases List.mem_append.1 ((q2.mem_iff).1 hy) with e | e
    ·exact h1'.2.2 y e z (by simp)
    ·rw [List.mem_singleton] at e
     subst e
     exact .inl hlt
  ·refine ⟨U++[w]++[x],?_,List.Perm.refl _,?_⟩
   ·simp only [hlt,decide_false,cond_false]
    simp
   ·refine pw_app h1 (List.pairwise_singleton _ _) (fun y hy z hz=>?_)
    rw [List.mem_singleton] at hz
    subst hz
    have hwz:lo cs sm w z:=by
     have:=h2 w (by simp)
     unfold lo; omega
    rcases List.mem_append.1 hy with e | e
    ·exact lo_tr (h1'.2.2 y e w (by simp)) hwz
    ·rw [List.mem_singleton] at e
     rw [e]; exact hwz
theorem iL1 (P S:List Nat) (b:Nat):∀ (T W:List Nat),P.length+W.length+T.length=b→W.Pairwise (lo cs sm)→T.Pairwise (·<·)→(∀ w∈W,∀ t∈T,w<t)→(∀ y∈P++W++T++S,y<cs.length)→(P++W++T++S).length≤1000 →
  ∃ W',Z63 P.length b cs sm ((P.length+W.length:Nat):Int) (NL (P++W++T++S))=some (NL (P++W'++S))∧W'.Perm (W++T)∧W'.Pairwise (lo cs sm)
 | [],W,hb,h1,h2,h3,h4,h5=>by
  refine ⟨W,?_,by simp,h1⟩
  rw [Z63_fx]
  unfold c_Z63
  have:¬ ((P.length+W.length:Nat):Int)<(b:Int):=by simp at hb; omega
  simp only [this,decide_false,cond_false]
  simp
 | t::T,W,hb,h1,h2,h3,h4,h5=>by
  have e0:P++W++t::T++S=P++W++t::(T++S):=by simp
  obtain ⟨W1,q1,q2,q3⟩:=iL4 hs (b:Int) ((P.length+W.length:Nat):Int) P W t (T++S) h1 (fun w hw=>h3 w hw t (by simp)) (by rw [← e0]; exact h4) (by rw [← e0]; exact h5)
  have h2':=List.pairwise_cons.1 h2
  have lW:W1.length=W.length+1:=by rw [q2.length_eq]; simp
  simp only [List.length_cons] at hb
  have e1:P++W1++(T++S)=P++W1++T++S:=by simp
  obtain ⟨W',r1,r2,r3⟩:=iL1 P S b T W1 (by omega) q3 h2'.2 (fun w hw y hy=>by
   rcases List.mem_append.1 ((q2.mem_iff).1 hw) with e | e
   ·exact h3 w e y (by simp [hy])
   ·rw [List.mem_singleton] at e
    rw [e]; exact h2'.1 y hy) (fun y hy=>h4 y (by
    simp only [List.mem_append,List.mem_cons] at hy ⊢
    rcases hy with ((h | h) | h) | h
    ·simp [h]
    ·rcases List.mem_append.1 ((q2.mem_iff).1 h) with e | e
     ·simp [e]
     ·rw [List.mem_singleton] at e; simp [e]
    ·simp [h]
    ·simp [h])) (by simp at h5 ⊢; omega)
  refine ⟨W',?_,?_,r3⟩
  ·have hl':P.length+W.length≤1000:=by simp at h5; omega
   rw [Z63_fx]
   unfold c_Z63
   have k1:((P.length+W.length:Nat):Int)<(b:Int):=by omega
   rw [e0]
   simp only [k1,decide_true,cond_true,q1,Option.bind_some,Qx (show P.length+W.length<4611686018427387904 by omega),Option.bind_fun_some]
   rw [e1,show P.length+W.length+1=P.length+W1.length by omega]
   exact r1
  ·refine r2.trans ?_
   refine (q2.append_right T).trans ?_
   simp
theorem ins_eq (P T S:List Nat) (h2:T.Pairwise (·<·)) (h4:∀ y∈P++T++S,y<cs.length) (h5:(P++T++S).length≤1000) :
  ∃ W,Z64 (NL (P++T++S)) P.length ((P.length+T.length:Nat):Int) cs sm=some (NL (P++W++S))∧W.Perm T∧W.Pairwise (lo cs sm):=by
 have hl':P.length+T.length≤1000:=by simp at h5; omega
 unfold Z64 c_Z64
 rw [Qx (show P.length<4611686018427387904 by omega)]
 cases T with
 | nil=>
  refine ⟨[],?_,List.Perm.refl _,List.Pairwise.nil⟩
  rw [Z63_fx]
  unfold c_Z63
  have:¬ ((P.length+1:Nat):Int)<((P.length+([]:List Nat).length:Nat):Int):=by simp; omega
  simp only [this,decide_false,cond_false,Option.bind_some]
 | cons t T=>
  have h2':=List.pairwise_cons.1 h2
  have e0:P++t::T++S=P++[t]++T++S:=by simp
  obtain ⟨W,q1,q2,q3⟩:=iL1 hs P S (P.length+(t::T).length) T [t] (by simp; omega) (List.pairwise_singleton _ _) h2'.2 (fun w hw y hy=>by
   rw [List.mem_singleton] at hw
   rw [hw]; exact h2'.1 y hy) (by rw [← e0]; exact h4) (by rw [← e0]; exact h5)
  refine ⟨W,?_,q2,q3⟩
  rw [e0]
  rw [List.length_singleton] at q1
  rw [q1]; rfl
theorem stable_eq (n:Nat) (h1:1≤n) (h30:n≤30) (hn:n=cs.length):∃ W,Z79 (NL (List.range n)) cs sm=some (NL W)∧W.Perm (List.range n)∧W.Pairwise (lo cs sm):=by
 have hr:(List.range n).Pairwise (·<·):=List.pairwise_lt_range
 have hm:∀ y∈List.range n,y<cs.length:=fun y hy=>by rw [List.mem_range] at hy; omega
 have w40:IntKind.i64.wrap (20+20)=40:=by decide
 have w41:IntKind.i64.wrap (2 * 20)=40:=by decide
 have w42:IntKind.i64.wrap (20 * 2)=40:=by decide
 have w20:IntKind.i64.wrap (0+20)=20:=by decide
 have hlen:((NL (List.range n)).length:Int)=(n:Int):=by rw [nl_len,List.length_range]
 simp only [Z79,c_Z79,Z78,c_Z78,hlen,Option.bind_fun_some]
 by_cases h20:n<20
 ·obtain ⟨W,q1,q2,q3⟩:=ins_eq hs [] (List.range n) [] hr (by simpa using hm) (by simp; omega)
  simp only [List.length_nil,List.length_range,Nat.zero_add,List.nil_append,List.append_nil] at q1
  refine ⟨W,?_,q2,q3⟩
  have k1:¬ (20:Int)≤(n:Int):=by omega
  have k2:¬ (20:Int)<(n:Int):=by omega
  have l2:Z65 n cs sm 20 0 20 (NL (List.range n))=some ((n:Int),cs,sm,20,0,NL (List.range n)):=by
   rw [Z65_fx]; unfold c_Z65; simp only [k1,decide_false,cond_false]
  have l7:Z77 n cs sm 20 (NL W)=some (NL W):=by
   rw [Z77_fx]; unfold c_Z77; simp only [k2,decide_false,cond_false]
  have q1:Z64 (NL (List.range n)) 0 n cs sm=some (NL W):=q1
  simp only [l2,Option.bind_some,q1,l7]
 ·obtain ⟨A,B,e,hA⟩:=cut_at (List.range n) 20 (by simp; omega)
  rw [e] at hr hm ⊢
  have hlAB:A.length+B.length=n:=by rw [← List.length_append,← e,List.length_range]
  have hr':=List.pairwise_append.1 hr
  obtain ⟨W1,q1,q2,q3⟩:=ins_eq hs [] A B hr'.1 (by simpa using hm) (by simp; omega)
  have lW1:W1.length=20:=by rw [q2.length_eq]; exact hA
  simp only [List.length_nil,Nat.zero_add,List.nil_append,hA] at q1
  have hm2:∀ y∈W1++B,y<cs.length:=fun y hy=>hm y (by
   rcases List.mem_append.1 hy with h | h
   ·exact List.mem_append.2 (.inl ((q2.mem_iff).1 h))
   ·exact List.mem_append.2 (.inr h))
  obtain ⟨W2,r1,r2,r3⟩:=ins_eq hs W1 B [] hr'.2.1 (by simpa using hm2) (by simp; omega)
  have lW2:W2.length=B.length:=r2.length_eq
  rw [lW1,show 20+B.length=n by omega,List.append_nil,List.append_nil] at r1
  have k1:(20:Int)≤(n:Int):=by omega
  have k2:¬ (40:Int)≤(n:Int):=by omega
  have k3:¬ (40:Int)<(n:Int):=by omega
  have q1:Z64 (NL (A++B)) 0 20 cs sm=some (NL (W1++B)):=q1
  have r1:Z64 (NL (W1++B)) 20 n cs sm=some (NL (W1++W2)):=r1
  have l2:Z65 n cs sm 20 0 20 (NL (A++B))=some ((n:Int),cs,sm,20,20,NL (W1++B)):=by
   rw [Z65_fx]; unfold c_Z65; simp only [k1,decide_true,cond_true,q1,Option.bind_some,w40,Option.bind_fun_some]
   rw [Z65_fx]; unfold c_Z65; simp only [k2,decide_false,cond_false]
  simp only [l2,Option.bind_some,r1]
  have l7':∀ X,Z77 n cs sm 40 X=some X:=by
   intro X
   rw [Z77_fx]; unfold c_Z77; simp only [k3,decide_false,cond_false]
  by_cases hn20:n=20
  ·have hB:B=[]:=List.eq_nil_of_length_eq_zero (by omega)
   subst hB
   have:W2=[]:=List.eq_nil_of_length_eq_zero lW2
   subst this
   refine ⟨W1,?_,by simpa using q2,q3⟩
   have k4:¬ (20:Int)<(n:Int):=by omega
   rw [Z77_fx]; unfold c_Z77; simp only [k4,decide_false,cond_false,List.append_nil]
  ·have k4:(20:Int)<(n:Int):=by omega
   have l9:Z76 n cs sm 20 0 40 (NL (W1++W2))=some ((n:Int),cs,sm,20,0,NL (W1++W2)):=by
    rw [Z76_fx]; unfold c_Z76; simp only [k2,decide_false,cond_false]
   obtain ⟨W,t1,t2,t3⟩:=sMerge hs (W1.length+W2.length) W1 W2 [] [] (Nat.le_refl _) (by omega) (by omega) q3 r3 (fun u hu v hv=>hr'.2.2 u ((q2.mem_iff).1 hu) v ((r2.mem_iff).1 hv)) (fun y hy=>hm2 y (by
    simp only [List.nil_append,List.append_nil,List.mem_append] at hy ⊢
    rcases hy with h | h
    ·exact .inl h
    ·exact .inr ((r2.mem_iff).1 h))) (by simp; omega)
   simp only [List.length_nil,Nat.zero_add,List.nil_append,List.append_nil,lW1,lW2,show 20+B.length=n by omega] at t1
   have t1:Z75 (NL (W1++W2)) 0 20 n cs sm=some (NL W):=t1
   refine ⟨W,?_,t2.trans (q2.append r2),t3⟩
   rw [Z77_fx]; unfold c_Z77
   simp only [k4,decide_true,cond_true,w41,l9,Option.bind_some,w20,t1,w42,l7',Option.bind_fun_some]
end
def tyB (d:D):List UInt8:=(d.fld 1).toStr.toList
def cntB (d:D):Int:=(d.fld 2).toInt
def cstep (c:Int) (t:List UInt8) (n:Int) (d:D):Int:=if inC c d&&decide (tyB d=t) then cntB d else n
def Qc (l:List D) (c:Int) (t:List UInt8):Int:=l.foldl (cstep c t) 0
theorem cval_filter (l:List D) (c:Int) (t:List UInt8):(l.filter (inC c)).foldl (fun n d=>if tyB d=t then cntB d else n) 0=Qc l c t:=by
 unfold Qc
 rw [List.foldl_filter]
 congr 1
 funext n d
 unfold cstep
 cases inC c d <;> simp
theorem cval_cases (l:List D) (c:Int) (t:List UInt8):∀ n,(l.foldl (cstep c t) n=n∧∀ d∈l,inC c d=true→tyB d≠t)∨∃ d∈l,inC c d=true∧tyB d=t∧l.foldl (cstep c t) n=cntB d:=by
 induction l with
 | nil=>intro n; exact .inl ⟨rfl,fun d h=>by cases h⟩
 | cons a l ih=>
  intro n
  rw [List.foldl_cons]
  rcases ih (cstep c t n a) with ⟨h1,h2⟩ | ⟨d,h1,h2,h3,h4⟩
  ·by_cases h:inC c a=true∧tyB a=t
   ·refine .inr ⟨a,by simp,h.1,h.2,?_⟩
    rw [h1]; unfold cstep; simp [h.1,h.2]
   ·refine .inl ⟨?_,fun d hd hc=>?_⟩
    ·rw [h1]; unfold cstep
     rw [if_neg]
     intro hb
     rw [Bool.and_eq_true,decide_eq_true_eq] at hb
     exact h hb
    ·rcases List.mem_cons.1 hd with e | e
     ·intro ht; rw [e] at hc ht; exact h ⟨hc,ht⟩
     ·exact h2 d e hc
  ·exact .inr ⟨d,by simp [h1],h2,h3,h4⟩
def CS (l:List D) (c:Int) (T:List (List UInt8)):List D:=(List.range T.length).map (fun k=>D.int (Qc l c (T[k]?.getD [])))
theorem CS_len {l:List D} {c:Int} {T:List (List UInt8)}:(CS l c T).length=T.length:=by simp [CS]
theorem map_get (f:Nat→Int) (n k:Nat) (h:k<n):(((List.range n).map (fun k=>D.int (f k))).getD k (.int 0)).toInt=f k:=by
 rw [List.getD_eq_getElem?_getD,List.getElem?_map,List.getElem?_range h]; rfl
theorem map_succ (f:Nat→Int) (n:Nat):(List.range (n+1)).map (fun k=>D.int (f k))=(List.range n).map (fun k=>D.int (f k))++[D.int (f n)]:=by
 rw [List.range_succ,List.map_append]; rfl
theorem map_len (f:Nat→Int) (n:Nat):((List.range n).map (fun k=>D.int (f k))).length=n:=by simp
theorem map_set (f:Nat→Int) (n k:Nat) (v:Int):((List.range n).map (fun k=>D.int (f k))).set k (.int v)=(List.range n).map (fun j=>D.int (if j=k then v else f j)):=by
 apply List.ext_getElem?
 intro p
 rw [List.getElem?_set]
 by_cases hp:p<n
 ·simp only [List.getElem?_map,List.getElem?_range hp,List.length_map,List.length_range,Option.map_some]
  by_cases e:k=p
  ·subst e; simp [hp]
  ·rw [if_neg e,if_neg (fun x=>e x.symm)]
 ·simp only [List.getElem?_map,List.getElem?_eq_none (show (List.range n).length≤p by rw [List.length_range]; omega),List.length_map,List.length_range,Option.map_none]
  split
  ·rw [if_neg (by omega)]
  ·rfl
theorem sL8 (l:List D) (c:Int) (hl:l.length≤1048576) (T:List (List UInt8)) (k:Nat) (hk:k<T.length) (out:List D):∀ (m i:Nat) (n:Int),i+m=l.length →
  Z19 l c k n i (LS T) out=some (l,c,(k:Int),(l.drop i).foldl (cstep c (T[k]?.getD [])) n,LS T,out):=by
 intro m
 induction m with
 | zero=>
  intro i n hi
  have:i=l.length:=by omega
  subst this
  rw [Z19_fx]; unfold c_Z19; simp
 | succ m ih=>
  intro i n hi
  have hil:i<l.length:=by omega
  rw [Z19_fx]
  unfold c_Z19
  have h1:(i:Int)<l.length:=by omega
  have h2:(k:Int)<(LS T).length:=by rw [LS_len]; omega
  have h3:k+1≤(LS T).length:=by rw [LS_len]; omega
  have hg:l.getD i (.int 0)=l[i]:=by simp [List.getD_eq_getElem?_getD,hil]
  have hT:((LS T).getD k (.int 0)).toStr.toList=T[k]?.getD []:=by
   rw [List.getD_eq_getElem?_getD,LS_get hk,List.getElem?_eq_getElem hk]; rfl
  rw [List.drop_eq_getElem_cons hil,List.foldl_cons]
  simp only [h1,h2,h3,decide_true,cond_true,Int.natCast_nonneg,and_self,if_true,Int.toNat_natCast,hg,hT,Qx (show i<4611686018427387904 by omega),Option.bind_fun_some]
  unfold cstep inC tyB cntB at ih ⊢
  by_cases e1:(l[i].fld 0).toInt=c
  ·by_cases e2:(l[i].fld 1).toStr.toList=T[k]?.getD []
   ·simp only [e1,e2,decide_true,cond_true,beq_self_eq_true,Bool.and_self,if_true]
    exact ih (i+1) _ (by omega)
   ·have e3:((l[i].fld 1).toStr.toList==T[k]?.getD [])=false:=by simpa using e2
    simp only [e1,e2,e3,decide_true,decide_false,cond_true,cond_false,Bool.and_false,Bool.false_eq_true,if_false]
    exact ih (i+1) _ (by omega)
  ·simp only [e1,decide_false,cond_false,Bool.false_and,Bool.false_eq_true,if_false]
   exact ih (i+1) _ (by omega)
theorem sCounts_eq (l:List D) (c:Int) (hl:l.length≤1048576):Z21 l c=some (CS l c (orderL (typesOf l))):=by
 have hT:=orderL_len (typesOf l)
 have ht:(typesOf l).length=l.length:=by simp [typesOf]
 have key:∀ (m k:Nat),k+m=(orderL (typesOf l)).length→Z20 l c k (LS (orderL (typesOf l))) ((List.range k).map (fun k=>D.int (Qc l c ((orderL (typesOf l))[k]?.getD []))))=some (CS l c (orderL (typesOf l))):=by
  intro m
  induction m with
  | zero=>
   intro k hk
   have:k=(orderL (typesOf l)).length:=by omega
   subst this
   rw [Z20_fx]; unfold c_Z20; simp [LS_len,CS]
  | succ m ih=>
   intro k hk
   have hkl:k<(orderL (typesOf l)).length:=by omega
   have h8:=sL8 l c hl _ k hkl ((List.range k).map (fun k=>D.int (Qc l c ((orderL (typesOf l))[k]?.getD [])))) l.length 0 0 (by omega)
   have h8:Z19 l c k 0 0 (LS (orderL (typesOf l))) ((List.range k).map (fun k=>D.int (Qc l c ((orderL (typesOf l))[k]?.getD []))))=_:=h8
   rw [Z20_fx]
   unfold c_Z20
   have h1:(k:Int)<(LS (orderL (typesOf l))).length:=by rw [LS_len]; omega
   have h2:k+1≤4294967296:=by omega
   have ih':=ih (k+1) (by omega)
   rw [List.range_succ,List.map_append] at ih'
   simp only [h1,decide_true,cond_true,h8,Option.bind_some,List.drop_zero,List.length_map,List.length_range,List.length_cons,List.length_nil,h2,if_true,Qx (show k<4611686018427387904 by omega),Option.bind_fun_some]
   exact ih'
 have h:=key _ 0 (Nat.zero_add _)
 have h:Z20 l c 0 (LS (orderL (typesOf l))) []=_:=h
 simp only [Z21,c_Z21,types_eq l hl,Option.bind_some,h]
theorem nd_inj {α:Type} {l:List α} (h:l.Nodup) {i j:Nat} {hi:i<l.length} {hj:j<l.length} (he:l[i]=l[j]):i=j:=by
 refine Classical.byContradiction (fun hne=>?_)
 by_cases hlt:i<j
 ·exact List.pairwise_iff_getElem.1 h i j hi hj hlt he
 ·exact List.pairwise_iff_getElem.1 h j i hj hi (by omega) he.symm
theorem index_eq (T:List (List UInt8)) (s:ByteArray) (hT:T.length≤1048576) (hn:T.Nodup) {k:Nat} (hk:k<T.length) (he:T[k]=s.toList):Z56 (LS T) s=some (k:Int):=by
 have h:=fxScan (F:=fun i=>Z55 (LS T) s (LS T).length i) (len:=T.length) (fun i=>s.toList==(T[i]?.getD [])) (fun i=>.inl (i:Int)) (fin:=.inr ()) (fun i hi=>by
  show Z55 (LS T) s (LS T).length i=_
  rw [Z55_fx]
  unfold c_Z55
  have h1:(i:Int)<(LS T).length:=by rw [LS_len]; omega
  have hT:((LS T).getD i (.int 0)).toStr.toList=T[i]?.getD []:=by
   rw [List.getD_eq_getElem?_getD,LS_get hi,List.getElem?_eq_getElem hi]; rfl
  simp only [h1,decide_true,cond_true,Int.natCast_nonneg,and_self,if_true,Int.toNat_natCast,hT,Qx (show i<4611686018427387904 by omega),Option.bind_fun_some])
  (by
   show Z55 (LS T) s (LS T).length (T.length:Int)=_
   rw [Z55_fx]; unfold c_Z55; simp [LS_len])
 have h:Z55 (LS T) s (LS T).length 0=_:=h
 simp only [Z56,c_Z56,h,Option.bind_some]
 cases hf:QN (fun i=>s.toList==(T[i]?.getD [])) T.length with
 | none=>
  have:=Yb hf k hk
  simp [hk,he] at this
 | some i=>
  obtain ⟨h1,h2,_⟩:=Og hf
  have e:T[i]=T[k]:=by
   rw [he]
   have:s.toList=T[i]?.getD []:=by simpa using h2
   rw [this,List.getElem?_eq_getElem h1]; rfl
  have:i=k:=nd_inj hn e
  subst this
  rfl
theorem sorted_nodup {T:List (List UInt8)} (h:T.Pairwise (·<·)):T.Nodup:=by
 unfold List.Nodup
 exact h.imp (fun hab e=>by subst e; exact less_irr _ hab)
theorem iL7 (T:List (List UInt8)) (hT:T.length≤1048576) (hn:T.Nodup) (own:List D) (ho:own.length≤1048576) (hm:∀ d∈own,tyB d∈T):∀ (m i:Nat) (f:Nat→Int),i+m=own.length →
  Z57 own.length i (LS T) ((List.range T.length).map (fun k=>D.int (f k))) own=some ((List.range T.length).map (fun k=>D.int ((own.drop i).foldl (fun n d=>if tyB d=T[k]?.getD [] then cntB d else n) (f k)))):=by
 intro m
 induction m with
 | zero=>
  intro i f hi
  have:i=own.length:=by omega
  subst this
  rw [Z57_fx]; unfold c_Z57; simp
 | succ m ih=>
  intro i f hi
  have hil:i<own.length:=by omega
  have hg:own.getD i (.int 0)=own[i]:=by simp [List.getD_eq_getElem?_getD,hil]
  obtain ⟨k,hk,he⟩:=List.getElem_of_mem (hm own[i] (List.getElem_mem hil))
  have hx:=index_eq T (own[i].fld 1).toStr hT hn hk he
  rw [Z57_fx]
  unfold c_Z57
  have h1:(i:Int)<own.length:=by omega
  have h2:i+1≤own.length:=by omega
  have h3:(k:Int)<(((List.range T.length).map (fun k=>D.int (f k))).length:Int):=by rw [map_len]; omega
  have h4:k+1≤((List.range T.length).map (fun k=>D.int (f k))).length:=by rw [map_len]; omega
  simp only [h1,h2,h3,h4,decide_true,cond_true,Int.natCast_nonneg,and_self,if_true,Int.toNat_natCast,hg,hx,Option.bind_some,Qx (show i<4611686018427387904 by omega),Option.bind_fun_some,map_set]
  rw [ih (i+1) _ (by omega),List.drop_eq_getElem_cons hil]
  congr 1
  refine List.map_congr_left (fun j hj=>?_)
  rw [List.mem_range] at hj
  rw [List.foldl_cons]
  congr 2
  have e1:T[j]?.getD []=T[j]:=by rw [List.getElem?_eq_getElem hj]; rfl
  rw [e1]
  by_cases e:j=k
  ·subst e
   have:tyB own[i]=T[j]:=he.symm
   rw [if_pos rfl,if_pos this]; rfl
  ·have:¬ tyB own[i]=T[j]:=fun h=>e (nd_inj hn (h.symm.trans he.symm))
   rw [if_neg e,if_neg this]
section
variable (c:Nat→Int) (n:Nat) (hn:n≤30) (hc:∀ i,i<n→0≤c i∧c i≤10000)
abbrev CL (c:Nat→Int) (n:Nat):List D:=(List.range n).map (fun k=>D.int (c k))
include hn hc
omit hn in
theorem sumN_30 (k:Nat) (hk:k≤n):0≤sumN c k∧sumN c k≤(k:Int) * 10000:=sumN_bd (fun i hi=>hc i (by omega))
theorem sumI_eq:Z59 (CL c n)=some (sumN c n):=by
 have key:∀ (m i:Nat),i+m=n→Z58 (sumN c i) (CL c n) n i=some (sumN c n):=by
  intro m
  induction m with
  | zero=>
   intro i hi
   have:i=n:=by omega
   subst this
   rw [Z58_fx]; unfold c_Z58; simp
  | succ m ih=>
   intro i hi
   rw [Z58_fx]
   unfold c_Z58
   have h1:(i:Int)<(n:Int):=by omega
   have h2:(i:Int)<((CL c n).length:Int):=by rw [map_len]; omega
   have h3:=sumN_30 c n hc (i+1) (by omega)
   have e:IntKind.i64.wrap (sumN c i+c i)=sumN c (i+1):=by
    show _=sumN c i+c i
    have:sumN c (i+1)=sumN c i+c i:=rfl
    exact Qe (by omega) (by omega)
   simp only [h1,h2,decide_true,cond_true,Int.natCast_nonneg,and_self,if_true,Int.toNat_natCast,map_get c n i (by omega),e,Qx (show i<4611686018427387904 by omega),Option.bind_fun_some]
   exact ih (i+1) (by omega)
 have h:=key n 0 (by omega)
 have h:Z58 0 (CL c n) n 0=_:=h
 simp only [Z59,c_Z59,map_len,h,Option.bind_some]
theorem sumS_eq:Z23 (CL c n)=some (sumN c n):=by
 have key:∀ (m i:Nat),i+m=n→Z22 (CL c n) (sumN c i) i=some (sumN c n):=by
  intro m
  induction m with
  | zero=>
   intro i hi
   have:i=n:=by omega
   subst this
   rw [Z22_fx]; unfold c_Z22; simp
  | succ m ih=>
   intro i hi
   rw [Z22_fx]
   unfold c_Z22
   have h2:(i:Int)<((CL c n).length:Int):=by rw [map_len]; omega
   have h3:=sumN_30 c n hc (i+1) (by omega)
   have e:IntKind.i64.wrap (sumN c i+c i)=sumN c (i+1):=by
    show _=sumN c i+c i
    have:sumN c (i+1)=sumN c i+c i:=rfl
    exact Qe (by omega) (by omega)
   simp only [h2,decide_true,cond_true,Int.natCast_nonneg,and_self,if_true,Int.toNat_natCast,map_get c n i (by omega),e,Qx (show i<4611686018427387904 by omega),Option.bind_fun_some]
   exact ih (i+1) (by omega)
 have h:=key n 0 (by omega)
 have h:Z22 (CL c n) 0 0=_:=h
 simp only [Z23,c_Z23,h,Option.bind_some]
variable (hs:0<sumN c n)
def qv (c:Nat→Int) (n i:Nat):Int:=1000 * c i / sumN c n
include hs
omit hn in
theorem rmv_eq {i:Nat} (hi:i<n):rmv (CL c n) (sumN c n) i=1000 * c i % sumN c n∧0≤1000 * c i % sumN c n∧IntKind.i64.wrap ((IntKind.i64.wrap (1000 * c i)).tdiv (sumN c n))=qv c n i∧1000 * c i=sumN c n * qv c n i+1000 * c i % sumN c n∧0≤qv c n i∧qv c n i≤10000000∧1000 * c i % sumN c n<sumN c n:=by
 have h:=hc i hi
 have w:IntKind.i64.wrap (1000 * c i)=1000 * c i:=Qe (by omega) (by omega)
 have e1:(1000 * c i).tmod (sumN c n)=1000 * c i % sumN c n:=Int.tmod_eq_emod_of_nonneg (by omega)
 have e2:(1000 * c i).tdiv (sumN c n)=1000 * c i / sumN c n:=Int.tdiv_eq_ediv_of_nonneg (by omega)
 have e3:0≤1000 * c i / sumN c n:=Int.ediv_nonneg (by omega) (by omega)
 have e4:1000 * c i / sumN c n≤1000 * c i:=Int.ediv_le_self _ (by omega)
 refine ⟨?_,Int.emod_nonneg _ (by omega),?_,(Int.mul_ediv_add_emod _ _).symm,e3,?_,Int.emod_lt_of_pos _ hs⟩
 ·unfold rmv
  rw [map_get c n i hi,w,e1]
 ·rw [w,e2]
  exact Qe (by omega) (by omega)
 ·unfold qv; omega
omit hn in
theorem miss_bd:0≤1000 - sumN (qv c n) n∧1000 - sumN (qv c n) n≤n:=by
 have e:∀ k,k≤n→1000 * sumN c k=sumN c n * sumN (qv c n) k+sumN (fun i=>1000 * c i % sumN c n) k:=by
  intro k
  induction k with
  | zero=>intro _; simp [sumN]
  | succ k ih=>
   intro hk
   have h:=(rmv_eq c n hc hs (show k<n by omega)).2.2.2.1
   have ih':=ih (by omega)
   show 1000 * (sumN c k+c k)=sumN c n * (sumN (qv c n) k+qv c n k)+(sumN (fun i=>1000 * c i % sumN c n) k+1000 * c k % sumN c n)
   rw [Int.mul_add,Int.mul_add]; omega
 have e0:=e n (Nat.le_refl _)
 have hb:=sumN_bd (g:=fun i=>1000 * c i % sumN c n) (B:=sumN c n) (n:=n) (fun i hi=>by
  have h:=rmv_eq c n hc hs hi
  exact ⟨h.2.1,by have:=h.2.2.2.2.2.2; omega⟩)
 have e1:sumN c n * (1000 - sumN (qv c n) n)=sumN (fun i=>1000 * c i % sumN c n) n:=by rw [Int.mul_sub]; omega
 constructor
 ·refine Int.le_of_mul_le_mul_left (a:=sumN c n) ?_ hs
  rw [e1,Int.mul_zero]; exact hb.1
 ·refine Int.le_of_mul_le_mul_left (a:=sumN c n) ?_ hs
  rw [e1,Int.mul_comm (sumN c n) (n:Int)]; exact hb.2
theorem shL5:∀ (m i:Nat),i+m=n→Z60 (CL c n) n i (CL c n) (sumN c n) (CL (qv c n) i) (NL (List.range i))=some (CL c n,sumN c n,CL (qv c n) n,NL (List.range n)):=by
 intro m
 induction m with
 | zero=>
  intro i hi
  have:i=n:=by omega
  subst this
  rw [Z60_fx]; unfold c_Z60; simp
 | succ m ih=>
  intro i hi
  have hin:i<n:=by omega
  obtain ⟨r1,r2,r3,r4,r5,r6⟩:=rmv_eq c n hc hs hin
  rw [Z60_fx]
  unfold c_Z60
  have h1:(i:Int)<(n:Int):=by omega
  have h2:(i:Int)<((CL c n).length:Int):=by rw [map_len]; omega
  have h3:sumN c n≠0:=by omega
  have h4:(CL (qv c n) i).length+1≤4294967296:=by rw [map_len]; omega
  have h5:(NL (List.range i)).length+1≤4294967296:=by rw [nl_len,List.length_range]; omega
  have ih':=ih (i+1) (by omega)
  rw [show CL (qv c n) (i+1)=CL (qv c n) i++[D.int (qv c n i)] from map_succ _ _,show NL (List.range (i+1))=NL (List.range i)++[D.int (i:Int)] from map_succ (fun j=>(j:Int)) i] at ih'
  simp only [h1,h2,decide_true,cond_true,Int.natCast_nonneg,and_self,if_true,Int.toNat_natCast,map_get c n i hin,h3,ne_eq,not_false_eq_true,r3,List.length_singleton,h4,h5,Qx (show i<4611686018427387904 by omega),Option.bind_fun_some]
  exact ih'
theorem spL11:∀ (m i:Nat),i+m=n→Z24 (sumN c n) (1000 - sumN (qv c n) i) i (CL (qv c n) i) (CL c n) (CL (fun j=>rmv (CL c n) (sumN c n) j) i)=some (1000 - sumN (qv c n) n,CL (qv c n) n,CL (fun j=>rmv (CL c n) (sumN c n) j) n):=by
 intro m
 induction m with
 | zero=>
  intro i hi
  have:i=n:=by omega
  subst this
  rw [Z24_fx]; unfold c_Z24; simp
 | succ m ih=>
  intro i hi
  have hin:i<n:=by omega
  obtain ⟨r1,r2,r3,r4,r5,r6,r7⟩:=rmv_eq c n hc hs hin
  have hq:=sumN_bd (g:=qv c n) (B:=10000000) (n:=i) (fun j hj=>by
   have h:=rmv_eq c n hc hs (show j<n by omega)
   exact ⟨h.2.2.2.2.1,h.2.2.2.2.2.1⟩)
  rw [Z24_fx]
  unfold c_Z24
  have h2:(i:Int)<((CL c n).length:Int):=by rw [map_len]; omega
  have h2':i+1≤(CL c n).length:=by rw [map_len]; omega
  have h3:sumN c n≠0:=by omega
  have h4:(CL (qv c n) i).length+1≤4294967296:=by rw [map_len]; omega
  have h5:(CL (fun j=>rmv (CL c n) (sumN c n) j) i).length+1≤4294967296:=by rw [map_len]; omega
  have eq1:CL (qv c n) i++[D.int (qv c n i)]=CL (qv c n) (i+1):=(map_succ _ _).symm
  have h6:(i:Int)<((CL (qv c n) (i+1)).length:Int):=by rw [map_len]; omega
  have h7:i+1≤(CL (qv c n) (i+1)).length:=by rw [map_len]; omega
  have e:IntKind.i64.wrap (1000 - sumN (qv c n) i - qv c n i)=1000 - sumN (qv c n) (i+1):=by
   have:sumN (qv c n) (i+1)=sumN (qv c n) i+qv c n i:=rfl
   rw [Qe (by omega) (by omega)]; omega
  have er:(IntKind.i64.wrap (1000 * c i)).tmod (sumN c n)=rmv (CL c n) (sumN c n) i:=by unfold rmv; rw [map_get c n i hin]
  have ih':=ih (i+1) (by omega)
  rw [show CL (fun j=>rmv (CL c n) (sumN c n) j) (i+1)=CL (fun j=>rmv (CL c n) (sumN c n) j) i++[D.int (rmv (CL c n) (sumN c n) i)] from map_succ _ _] at ih'
  simp only [h2,h2',decide_true,cond_true,Int.natCast_nonneg,and_self,if_true,Int.toNat_natCast,map_get c n i hin,h3,ne_eq,not_false_eq_true,r3,er,List.length_singleton,h4,h5,eq1,h6,h7,map_get (qv c n) (i+1) i (by omega),e,Qx (show i<4611686018427387904 by omega),Option.bind_fun_some]
  exact ih'
end
def addW (f:Nat→Int) (W:List Nat) (t:Nat) (j:Nat):Int:=f j+if j∈W.take t then 1 else 0
theorem mem_take_succ {W:List Nat} {t:Nat} (ht:t<W.length) (j:Nat):j∈W.take (t+1)↔j∈W.take t∨j=W[t]:=by
 rw [List.take_succ_eq_append_getElem ht,List.mem_append,List.mem_singleton]
theorem not_mem_take {W:List Nat} (hW:W.Nodup) {t:Nat} (ht:t<W.length):W[t] ∉ W.take t:=by
 intro h
 obtain ⟨i,hi,he⟩:=List.getElem_of_mem h
 rw [List.length_take] at hi
 rw [List.getElem_take] at he
 have:=nd_inj hW he
 omega
theorem addW_set {f:Nat→Int} {W:List Nat} (hW:W.Nodup) {n t:Nat} (ht:t<W.length):(CL (addW f W t) n).set W[t] (.int (addW f W t W[t]+1))=CL (addW f W (t+1)) n:=by
 rw [map_set]
 refine List.map_congr_left (fun j _=>?_)
 congr 1
 have hm:=mem_take_succ ht j
 have hnm:=not_mem_take hW ht
 by_cases e:j=W[t]
 ·rw [if_pos e]
  subst e
  unfold addW
  rw [if_neg hnm,if_pos (hm.2 (.inr rfl))]; omega
 ·rw [if_neg e]
  unfold addW
  congr 1
  by_cases h:j∈W.take t
  ·rw [if_pos h,if_pos (hm.2 (.inl h))]
  ·rw [if_neg h,if_neg (fun x=>by rcases hm.1 x with y | y; exact h y; exact e y)]
theorem shL13 {f:Nat→Int} {n k:Nat} {W:List Nat} (hW:W.Perm (List.range n)) (hk:k≤n) (hn:n≤30) (hf:∀ j,j<n→0≤f j∧f j≤10000000):∀ (m t:Nat),t+m=k→Z80 0 k k t (CL (addW f W t) n) (NL W)=some (CL (addW f W k) n):=by
 have hlW:W.length=n:=by rw [hW.length_eq,List.length_range]
 have hnd:W.Nodup:=hW.nodup_iff.2 List.nodup_range
 intro m
 induction m with
 | zero=>
  intro t ht
  have:t=k:=by omega
  subst this
  rw [Z80_fx]; unfold c_Z80; simp
 | succ m ih=>
  intro t ht
  have htW:t<W.length:=by omega
  have hwn:W[t]<n:=List.mem_range.1 ((hW.mem_iff).1 (List.getElem_mem htW))
  rw [Z80_fx]
  unfold c_Z80
  have h1:(t:Int)<(k:Int):=by omega
  have h2:0+k≤(NL W).length:=by rw [nl_len]; omega
  have h3:t+1≤(NL W).length:=by rw [nl_len]; omega
  have h4:(W[t]:Int)<((CL (addW f W t) n).length:Int):=by rw [map_len]; omega
  have h5:W[t]+1≤(CL (addW f W t) n).length:=by rw [map_len]; omega
  have hb:0≤addW f W t W[t]∧addW f W t W[t]≤10000001:=by
   have:=hf W[t] hwn
   unfold addW; split <;> omega
  have e:IntKind.i64.wrap (addW f W t W[t]+1)=addW f W t W[t]+1:=Qe (by omega) (by omega)
  simp only [h1,h2,h3,decide_true,cond_true,Int.natCast_nonneg,and_self,if_true,Int.toNat_natCast,show 0+t=t from Nat.zero_add t,nl_get htW,h4,h5,map_get (addW f W t) n W[t] hwn,e,addW_set hnd htW,Qx (show t<4611686018427387904 by omega),Option.bind_fun_some]
  exact ih (t+1) (by omega)
theorem spL20 (x0:Int) (out:List D) (g:Nat→Int) (n:Nat) (hn:n≤30):∀ (m i b:Nat),i+m=n→b<i→(∀ j,j<i→g j≤g b∧(j<b→g j<g b)) →
  ∃ b':Nat,Z25 x0 b i out (CL g n)=some (x0,(b':Int),out,CL g n)∧b'<n∧∀ j,j<n→g j≤g b'∧(j<b'→g j<g b'):=by
 intro m
 induction m with
 | zero=>
  intro i b hi hb h
  have:i=n:=by omega
  subst this
  exact ⟨b,by rw [Z25_fx]; unfold c_Z25; simp,hb,h⟩
 | succ m ih=>
  intro i b hi hb h
  rw [Z25_fx]
  unfold c_Z25
  have h1:(i:Int)<((CL g n).length:Int):=by rw [map_len]; omega
  have h2:i+1≤(CL g n).length:=by rw [map_len]; omega
  have h3:(b:Int)<((CL g n).length:Int):=by rw [map_len]; omega
  have h4:b+1≤(CL g n).length:=by rw [map_len]; omega
  simp only [h1,h2,h3,h4,decide_true,cond_true,Int.natCast_nonneg,and_self,if_true,Int.toNat_natCast,map_get g n i (by omega),map_get g n b (by omega),Qx (show i<4611686018427387904 by omega),Option.bind_fun_some]
  by_cases hlt:g b<g i
  ·simp only [hlt,decide_true,cond_true]
   refine ih (i+1) i (by omega) (by omega) (fun j hj=>?_)
   by_cases e:j=i
   ·subst e; exact ⟨Int.le_refl _,fun h=>by omega⟩
   ·have:=(h j (by omega)).1
    exact ⟨by omega,fun _=>by omega⟩
  ·simp only [hlt,decide_false,cond_false]
   refine ih (i+1) b (by omega) (by omega) (fun j hj=>?_)
   by_cases e:j=i
   ·subst e; exact ⟨by omega,fun h=>by omega⟩
   ·exact h j (by omega)
def resW (r:Nat→Int) (W:List Nat) (t:Nat) (j:Nat):Int:=if j∈W.take t then -1 else r j
theorem resW_set {r:Nat→Int} {W:List Nat} {n t:Nat} (ht:t<W.length):(CL (resW r W t) n).set W[t] (.int (-1))=CL (resW r W (t+1)) n:=by
 rw [map_set]
 refine List.map_congr_left (fun j _=>?_)
 congr 1
 have hm:=mem_take_succ ht j
 by_cases e:j=W[t]
 ·rw [if_pos e]
  unfold resW
  rw [if_pos (hm.2 (.inr e))]
 ·rw [if_neg e]
  unfold resW
  by_cases h:j∈W.take t
  ·rw [if_pos h,if_pos (hm.2 (.inl h))]
  ·rw [if_neg h,if_neg (fun x=>by rcases hm.1 x with y | y; exact h y; exact e y)]
theorem spL16 {cs:List D} {sm:Int} {f:Nat→Int} {n k:Nat} {W:List Nat} (hW:W.Perm (List.range n)) (hs:W.Pairwise (lo cs sm)) (hk:k≤n) (hn:n≤30) (hf:∀ j,j<n→0≤f j∧f j≤10000000) (hr:∀ j,j<n→0≤rmv cs sm j):∀ (m t:Nat),t+m=k →
  Z26 m (CL (addW f W t) n) (CL (resW (rmv cs sm) W t) n)=some (CL (addW f W k) n):=by
 have hlW:W.length=n:=by rw [hW.length_eq,List.length_range]
 have hnd:W.Nodup:=hW.nodup_iff.2 List.nodup_range
 intro m
 induction m with
 | zero=>
  intro t ht
  have:t=k:=by omega
  subst this
  rw [Z26_fx]; unfold c_Z26; simp
 | succ m ih=>
  intro t ht
  have htW:t<W.length:=by omega
  have hwn:W[t]<n:=List.mem_range.1 ((hW.mem_iff).1 (List.getElem_mem htW))
  obtain ⟨b,q1,q2,q3⟩:=spL20 ((m+1:Nat):Int) (CL (addW f W t) n) (resW (rmv cs sm) W t) n hn (n - 1) 1 0 (by omega) (by omega) (fun j hj=>by
   have:j=0:=by omega
   subst this
   exact ⟨Int.le_refl _,fun h=>by omega⟩)
  have hnm:=not_mem_take hnd htW
  have e1:resW (rmv cs sm) W t W[t]=rmv cs sm W[t]:=by unfold resW; rw [if_neg hnm]
  have hbW:b=W[t]:=by
   have hmax:=(q3 W[t] hwn).1
   rw [e1] at hmax
   have hpos:=hr W[t] hwn
   have hb2:b ∉ W.take t:=by
    intro h
    have:resW (rmv cs sm) W t b=-1:=by unfold resW; rw [if_pos h]
    omega
   have e2:resW (rmv cs sm) W t b=rmv cs sm b:=by unfold resW; rw [if_neg hb2]
   have hbm:b∈W:=(hW.mem_iff).2 (List.mem_range.2 q2)
   obtain ⟨i,hi,he⟩:=List.getElem_of_mem hbm
   have hti:t≤i:=by
    refine Classical.byContradiction (fun h=>hb2 ?_)
    rw [← he]
    have:(W.take t)[i]'(by rw [List.length_take]; omega)=W[i]:=List.getElem_take
    rw [← this]; exact List.getElem_mem _
   by_cases e:t=i
   ·subst e; exact he.symm
   ·have hlo:=List.pairwise_iff_getElem.1 hs t i htW hi (by omega)
    rw [he] at hlo
    have h2:=(q3 W[t] hwn).2
    rw [e1,e2] at h2
    rw [e2] at hmax
    unfold lo at hlo
    rcases hlo with h | ⟨h,h'⟩
    ·omega
    ·have:=h2 h'; omega
  subst hbW
  have q1:Z25 ((m+1:Nat):Int) 0 1 (CL (addW f W t) n) (CL (resW (rmv cs sm) W t) n)=_:=q1
  rw [Z26_fx]
  unfold c_Z26
  have h0:(0:Int)<((m+1:Nat):Int):=by omega
  have h4:(W[t]:Int)<((CL (addW f W t) n).length:Int):=by rw [map_len]; omega
  have h5:W[t]+1≤(CL (addW f W t) n).length:=by rw [map_len]; omega
  have h6:(W[t]:Int)<((CL (resW (rmv cs sm) W t) n).length:Int):=by rw [map_len]; omega
  have h7:W[t]+1≤(CL (resW (rmv cs sm) W t) n).length:=by rw [map_len]; omega
  have hb:0≤addW f W t W[t]∧addW f W t W[t]≤10000001:=by
   have:=hf W[t] hwn
   unfold addW; split <;> omega
  have e:IntKind.i64.wrap (addW f W t W[t]+1)=addW f W t W[t]+1:=Qe (by omega) (by omega)
  have ew:IntKind.i64.wrap (((m+1:Nat):Int) - 1)=(m:Int):=by rw [Qe (by omega) (by omega)]; omega
  simp only [h0,decide_true,cond_true,q1,Option.bind_some,Int.natCast_nonneg,h4,h5,h6,h7,and_self,if_true,Int.toNat_natCast,map_get (addW f W t) n W[t] hwn,e,ew,addW_set hnd htW,resW_set htW,Option.bind_fun_some]
  exact ih (t+1) (by omega)
theorem shares_both (c:Nat→Int) (n:Nat) (h1:1≤n) (hn:n≤30) (hc:∀ i,i<n→0≤c i∧c i≤10000) (hs:0<sumN c n) :
  ∃ y,Z81 (CL c n)=some y∧y.length=n∧∃ a b d,Z24 (sumN c n) 1000 0 [] (CL c n) []=some (a,b,d)∧Z26 a b d=some y:=by
 have hb:=miss_bd c n hc hs
 obtain ⟨k,hk⟩:∃ k:Nat,1000 - sumN (qv c n) n=(k:Int):=⟨(1000 - sumN (qv c n) n).toNat,by omega⟩
 have hkn:k≤n:=by omega
 obtain ⟨W,w1,w2,w3⟩:=stable_eq (cs:=CL c n) (sm:=sumN c n) (by omega) n h1 hn (map_len c n).symm
 have hlW:W.length=n:=by rw [w2.length_eq,List.length_range]
 have hq:∀ j,j<n→0≤qv c n j∧qv c n j≤10000000:=fun j hj=>by
  have h:=rmv_eq c n hc hs hj
  exact ⟨h.2.2.2.2.1,h.2.2.2.2.2.1⟩
 have hq2:∀ j,j<n→0≤qv c n j∧qv c n j≤10000:=fun j hj=>by
  refine ⟨(hq j hj).1,?_⟩
  have hle:∀ m,j<m→m≤n→qv c n j≤sumN (qv c n) m:=by
   intro m
   induction m with
   | zero=>intro h; omega
   | succ m ih=>
    intro h1 h2
    have e:sumN (qv c n) (m+1)=sumN (qv c n) m+qv c n m:=rfl
    have h0:=(sumN_bd (g:=qv c n) (B:=10000000) (n:=m) (fun i hi=>hq i (by omega))).1
    have hm:=hq m (by omega)
    by_cases ej:j=m
    ·subst ej; omega
    ·have:=ih (by omega) (by omega); omega
  have:=hle n hj (Nat.le_refl _)
  omega
 have hz:CL (addW (qv c n) W 0) n=CL (qv c n) n:=List.map_congr_left (fun j _=>by unfold addW; simp)
 have hz2:CL (resW (rmv (CL c n) (sumN c n)) W 0) n=CL (fun j=>rmv (CL c n) (sumN c n) j) n:=List.map_congr_left (fun j _=>by unfold resW; simp)
 have l5:=shL5 c n hn hc hs n 0 (by omega)
 have l5:Z60 (CL c n) n 0 (CL c n) (sumN c n) [] []=_:=l5
 have l13:=shL13 w2 hkn hn hq k 0 (by omega)
 rw [hz] at l13
 have l13:Z80 0 k k 0 (CL (qv c n) n) (NL W)=_:=l13
 have l11:=spL11 c n hn hc hs n 0 (by omega)
 have l11:Z24 (sumN c n) 1000 0 [] (CL c n) []=_:=l11
 have l16:=spL16 (f:=qv c n) w2 w3 hkn hn hq (fun j hj=>by
  have h:=rmv_eq c n hc hs hj
  rw [h.1]; exact h.2.1) k 0 (by omega)
 rw [hz,hz2] at l16
 refine ⟨CL (addW (qv c n) W k) n,?_,map_len _ _,_,_,_,l11,by rw [hk]; exact l16⟩
 have wk:IntKind.i64.wrap (1000 - sumN (qv c n) n)=(k:Int):=by rw [hk]; exact Qe (by omega) (by omega)
 have g1:(k:Int)≤((NL W).length:Int):=by rw [nl_len]; omega
 simp only [Z81,c_Z81,sumI_eq c n hn hc,Option.bind_some,map_len,l5,w1,sumI_eq (qv c n) n hn hq2,wk,Int.le_refl,Int.natCast_nonneg,g1,and_self,if_true,Int.toNat_natCast,Nat.sub_zero,Int.toNat_zero,l13]
theorem fv_bd {l:List D} (h:validF l=true) {d:D} (hd:d∈l):1≤cntB d∧cntB d≤10000:=by
 unfold validF at h
 rw [Bool.and_eq_true] at h
 obtain ⟨i,hi,rfl⟩:=List.getElem_of_mem hd
 have:=allN_iff.1 h.2 i hi
 unfold fOk at this
 simp only [List.getElem?_eq_getElem hi,Option.getD_some,Bool.and_eq_true] at this
 have h2:=this.1
 unfold findB at h2
 simp only [Bool.and_eq_true,NV] at h2
 exact h2.2.2.1
theorem ts_same (l:List D) (x:Int) (hl:l.length≤1048576) (w:∀ d∈l,wfD tFi d):∃ y,Z27 l x=some y∧Z82 l x=some y∧y.1.length≤1048576:=by
 unfold Z27 c_Z27 Z82 c_Z82
 simp only [asked_eq l x hl,findsIn_eq l x hl w,Option.bind_some,sCounts_eq l x hl,findTypes_eq l hl]
 cases hv:validF l with
 | false=>exact ⟨_,rfl,rfl,by simp⟩
 | true=>
  cases hA:btw x 1 999 with
  | false=>exact ⟨_,rfl,rfl,by simp⟩
  | true=>
   have h30:l.length≤30:=by
    have h:=hv
    unfold validF at h
    rw [Bool.and_eq_true] at h
    exact of_decide_eq_true h.1
   have hT:=orderL_len (typesOf l)
   have ht:(typesOf l).length=l.length:=by simp [typesOf]
   have hTn:(orderL (typesOf l)).length≤30:=by omega
   have hmem:∀ d∈l,tyB d∈orderL (typesOf l):=fun d hd=>(orderL_mem _ _).2 (List.mem_map.2 ⟨d,hd,rfl⟩)
   have hcv:∀ i,i<(orderL (typesOf l)).length→0≤Qc l x ((orderL (typesOf l))[i]?.getD [])∧Qc l x ((orderL (typesOf l))[i]?.getD [])≤10000:=by
    intro i _
    rcases cval_cases l x ((orderL (typesOf l))[i]?.getD []) 0 with ⟨h1,_⟩ | ⟨d,h1,_,_,h4⟩
    ·unfold Qc; rw [h1]; omega
    ·have:=fv_bd hv h1
     unfold Qc; rw [h4]; omega
   have sS:=sumS_eq (fun k=>Qc l x ((orderL (typesOf l))[k]?.getD [])) _ hTn hcv
   have hfl:(l.filter (inC x)).length≤l.length:=List.length_filter_le _ _
   simp only [Bool.and_self,Bool.not_true,cond_true,cond_false]
   have sS:Z23 (CS l x (orderL (typesOf l)))=_:=sS
   simp only [sS,Option.bind_some]
   by_cases h0:(l.filter (inC x)).length=0
   ·have he:=List.eq_nil_of_length_eq_zero h0
    have hz:sumN (fun k=>Qc l x ((orderL (typesOf l))[k]?.getD [])) (orderL (typesOf l)).length=0:=by
     rw [sumN_congr (h:=fun _=>0) (fun i _=>by rw [← cval_filter,he]; rfl),sumN_zero]
    have h0':(((l.filter (inC x)).length:Nat):Int)=0:=by omega
    simp only [hz,h0',decide_true,cond_true]
    exact ⟨_,rfl,rfl,by simp⟩
   ·have h0':¬ (((l.filter (inC x)).length:Nat):Int)=0:=by omega
    obtain ⟨d,hd⟩:=List.exists_mem_of_length_pos (show 0<(l.filter (inC x)).length by omega)
    rw [List.mem_filter] at hd
    obtain ⟨k,hk,he⟩:=List.getElem_of_mem (hmem d hd.1)
    have hpos:0<sumN (fun k=>Qc l x ((orderL (typesOf l))[k]?.getD [])) (orderL (typesOf l)).length:=by
     have hk1:1≤Qc l x ((orderL (typesOf l))[k]?.getD []):=by
      rw [List.getElem?_eq_getElem hk]
      rcases cval_cases l x (orderL (typesOf l))[k] 0 with ⟨_,h2⟩ | ⟨d',h1,_,_,h4⟩
      ·exact absurd he.symm (h2 d hd.1 hd.2)
      ·have:=fv_bd hv h1
       show 1≤Qc l x (orderL (typesOf l))[k]
       unfold Qc; rw [h4]; omega
     have hle:∀ m,k<m→m≤(orderL (typesOf l)).length→1≤sumN (fun k=>Qc l x ((orderL (typesOf l))[k]?.getD [])) m:=by
      intro m
      induction m with
      | zero=>intro h; omega
      | succ m ih=>
       intro h1 h2
       have e:sumN (fun k=>Qc l x ((orderL (typesOf l))[k]?.getD [])) (m+1)=sumN (fun k=>Qc l x ((orderL (typesOf l))[k]?.getD [])) m+Qc l x ((orderL (typesOf l))[m]?.getD []):=rfl
       have hb:=sumN_bd (g:=fun k=>Qc l x ((orderL (typesOf l))[k]?.getD [])) (B:=10000) (n:=m) (fun i hi=>hcv i (by omega))
       have hm:=hcv m (by omega)
       by_cases e2:k=m
       ·subst e2; omega
       ·have:=ih (by omega) (by omega); omega
     have:=hle _ hk (Nat.le_refl _); omega
    have hp':¬ sumN (fun k=>Qc l x ((orderL (typesOf l))[k]?.getD [])) (orderL (typesOf l)).length=0:=by omega
    obtain ⟨y,y1,y2,a,b,e,y3,y4⟩:=shares_both (fun k=>Qc l x ((orderL (typesOf l))[k]?.getD [])) _ (by omega) hTn hcv hpos
    have y3:Z24 _ 1000 0 [] (CS l x (orderL (typesOf l))) []=_:=y3
    have c7:=iL7 (orderL (typesOf l)) (by omega) (sorted_nodup (orderL_sorted _)) (l.filter (inC x)) (by omega) (fun d hd=>hmem d (List.mem_filter.1 hd).1) (l.filter (inC x)).length 0 (fun _=>0) (by omega)
    rw [show (List.range (orderL (typesOf l)).length).map (fun k=>D.int ((fun _=>(0:Int)) k))=List.replicate (orderL (typesOf l)).length (D.int 0) by (rw [List.map_const',List.length_range])] at c7
    simp only [List.drop_zero,cval_filter] at c7
    have c7:Z57 (l.filter (inC x)).length 0 (LS (orderL (typesOf l))) (List.replicate (orderL (typesOf l)).length (.int 0)) (l.filter (inC x))=_:=c7
    have c0:(0:Int)≤((orderL (typesOf l)).length:Int)∧((orderL (typesOf l)).length:Int)≤((orderL (typesOf l)).length:Int)∧((orderL (typesOf l)).length:Int)≤4294967296:=by omega
    simp only [hp',h0',decide_false,cond_false,y3,y4,Option.bind_some,LS_len,c0,and_self,if_true,Int.toNat_natCast,c7,y1]
    exact ⟨_,rfl,rfl,by simp only [y2]; omega⟩
theorem pure_FnExactTypeShares (x0:List D) (x1:Int) (h0:x0.length≤maxLen) (w0:∀ d∈x0,wfD (.struct [.int .i64,.str,.int .i64,.int .i64,.int .i64]) d) (h1:(Lit.int .i64 x1).wf=true):Z96 x0 x1=some true:=by
 obtain ⟨r,r1,r2⟩:=szFindS_tot x0 1048576 (by omega) (by omega) h0
 by_cases hr:r<0
 ·simp [Z96,c_Z96,r1,hr]
 ·have hl:=r2 (by omega)
  obtain ⟨y,hb1,hb2,hb3⟩:=ts_same x0 x1 hl w0
  obtain ⟨k1,l1,e1,e1'⟩:=markFindS_ok x0 hl
  have e3:¬ k1<0:=by omega
  have e4:=markIntS_k y.1 1 (by omega) hb3
  have e5:=heldIntS_k y.1.length 1 (by omega) hb3
  have e6:¬ (1+(y.1.length:Int))<0:=by omega
  simp [Z96,c_Z96,r1,hr,toFindS_id x0 hl w0,hb1,hb2,eqFindS_self x0 hl,eqIntS_self y.1 hb3,e1,e3,e4,e5,e6]
end Go.Proofs.Ytacnicopnbcioaa
