/- Models of Go functions and their contracts, printed by a program of this session. -/
import Derived.Test.YtkcclgcmpdgdjaaClA
set_option linter.unusedVariables false
set_option maxRecDepth 100000
namespace Go.Proofs.Ytkcclgcmpdgdjaa
open Go Go.Rai
noncomputable section
/-! loop.example/g00876/laws.toCorner -/
def c_laws_toCorner {R : Type} (x0 : Int) (x1 : Int) (k : Int × Int → Option R) : Option R :=
  k (x0, x1)
theorem c_laws_toCorner_bind {R : Type} (x0 : Int) (x1 : Int) (k : Int × Int → Option R) : c_laws_toCorner x0 x1 k = (c_laws_toCorner x0 x1 some).bind k := by
  unfold c_laws_toCorner
  repeat' first
    | exact bnd_tail
    | exact bnd_none
    | exact bnd_leaf
    | apply bnd_ite
    | apply bnd_cond
    | apply bnd_sum
    | (apply bnd_bind; intro _)
    | intro _
def laws_toCorner (x0 : Int) (x1 : Int) : Option (Int × Int) := c_laws_toCorner x0 x1 some
def e_laws_toCorner : Ent := ⟨15, [.agg [.int .i64, .int .i64]], .agg [.int .i64, .int .i64], [.undef], fun _ ds k => dI (fun x0 ds => dI (fun x1 ds => dE ((laws_toCorner x0 x1).bind (fun y => k [.I y.1, .I y.2])) ds) ds) ds⟩
theorem q_laws_toCorner (x0 : Int) (x1 : Int) : runFn (ocOf []) (olOf []) A 15 Go.Proofs.Try.f15 (Sh.mks e_laws_toCorner.sh [.I x0, .I x1]).1 (fun v os => some (v, os)) = c_laws_toCorner x0 x1 (fun y => some ((e_laws_toCorner.res.mk [.I y.1, .I y.2]).1, e_laws_toCorner.outs)) := by kernel_rfl
theorem e_laws_toCorner_ok : e_laws_toCorner.ok Go.Proofs.Try.prog A := by
  intro R ds k r h
  unfold e_laws_toCorner at h
  obtain ⟨x0, d0, rfl, h0⟩ := dI_some h
  obtain ⟨x1, d1, rfl, h1⟩ := dI_some h0
  obtain ⟨rfl, hE⟩ := dE_some h1
  obtain ⟨y, hy, hk⟩ := bnd_some hE
  refine ⟨_, hk, fn_ok px (fx := ⟨Go.Proofs.Try.func15, by kernel_rfl, by kernel_rfl⟩) entsOK_nil lentsOK_nil ?_⟩
  have hq := q_laws_toCorner x0 x1
  rw [c_laws_toCorner_bind] at hq
  rw [show c_laws_toCorner x0 x1 some = some y from hy] at hq
  exact hq

/-! loop.example/g00876/spec.l1In -/
def c_spec_l1In {R : Type} (x0 : Int) (x1 : Int) (x2 : Int) (k : Bool → Option R) : Option R :=
  bif Decidable.decide (x1 ≤ x0) then
    k (Decidable.decide (x0 ≤ x2))
  else
    k Bool.false
theorem c_spec_l1In_bind {R : Type} (x0 : Int) (x1 : Int) (x2 : Int) (k : Bool → Option R) : c_spec_l1In x0 x1 x2 k = (c_spec_l1In x0 x1 x2 some).bind k := by
  unfold c_spec_l1In
  repeat' first
    | exact bnd_tail
    | exact bnd_none
    | exact bnd_leaf
    | apply bnd_ite
    | apply bnd_cond
    | apply bnd_sum
    | (apply bnd_bind; intro _)
    | intro _
def spec_l1In (x0 : Int) (x1 : Int) (x2 : Int) : Option (Bool) := c_spec_l1In x0 x1 x2 some
def e_spec_l1In : Ent := ⟨61, [.int .i64, .int .i64, .int .i64], .bool, [.undef, .undef, .undef], fun _ ds k => dI (fun x0 ds => dI (fun x1 ds => dI (fun x2 ds => dE ((spec_l1In x0 x1 x2).bind (fun y => k [.B y])) ds) ds) ds) ds⟩
theorem q_spec_l1In (x0 : Int) (x1 : Int) (x2 : Int) : runFn (ocOf []) (olOf []) A 61 Go.Proofs.Try.f61 (Sh.mks e_spec_l1In.sh [.I x0, .I x1, .I x2]).1 (fun v os => some (v, os)) = c_spec_l1In x0 x1 x2 (fun y => some ((e_spec_l1In.res.mk [.B y]).1, e_spec_l1In.outs)) := by kernel_rfl
theorem e_spec_l1In_ok : e_spec_l1In.ok Go.Proofs.Try.prog A := by
  intro R ds k r h
  unfold e_spec_l1In at h
  obtain ⟨x0, d0, rfl, h0⟩ := dI_some h
  obtain ⟨x1, d1, rfl, h1⟩ := dI_some h0
  obtain ⟨x2, d2, rfl, h2⟩ := dI_some h1
  obtain ⟨rfl, hE⟩ := dE_some h2
  obtain ⟨y, hy, hk⟩ := bnd_some hE
  refine ⟨_, hk, fn_ok px (fx := ⟨Go.Proofs.Try.func61, by kernel_rfl, by kernel_rfl⟩) entsOK_nil lentsOK_nil ?_⟩
  have hq := q_spec_l1In x0 x1 x2
  rw [c_spec_l1In_bind] at hq
  rw [show c_spec_l1In x0 x1 x2 some = some y from hy] at hq
  exact hq

/-! loop.example/g00876/spec.l18Point -/
def c_spec_l18Point {R : Type} (x0 : Int) (x1 : Int) (k : Bool → Option R) : Option R :=
  (spec_l1In x0 (0 : Int) (1000 : Int)).bind (fun y0 =>
    bif y0 then
      (spec_l1In x1 (0 : Int) (1000 : Int)).bind (fun y1 =>
        k y1)
    else
      k Bool.false)
theorem c_spec_l18Point_bind {R : Type} (x0 : Int) (x1 : Int) (k : Bool → Option R) : c_spec_l18Point x0 x1 k = (c_spec_l18Point x0 x1 some).bind k := by
  unfold c_spec_l18Point
  repeat' first
    | exact bnd_tail
    | exact bnd_none
    | exact bnd_leaf
    | apply bnd_ite
    | apply bnd_cond
    | apply bnd_sum
    | (apply bnd_bind; intro _)
    | intro _
def spec_l18Point (x0 : Int) (x1 : Int) : Option (Bool) := c_spec_l18Point x0 x1 some
def e_spec_l18Point : Ent := ⟨42, [.agg [.int .i64, .int .i64]], .bool, [.undef], fun _ ds k => dI (fun x0 ds => dI (fun x1 ds => dE ((spec_l18Point x0 x1).bind (fun y => k [.B y])) ds) ds) ds⟩
theorem q_spec_l18Point (x0 : Int) (x1 : Int) : runFn (ocOf [e_spec_l1In]) (olOf []) A 42 Go.Proofs.Try.f42 (Sh.mks e_spec_l18Point.sh [.I x0, .I x1]).1 (fun v os => some (v, os)) = c_spec_l18Point x0 x1 (fun y => some ((e_spec_l18Point.res.mk [.B y]).1, e_spec_l18Point.outs)) := by kernel_rfl
theorem e_spec_l18Point_ok : e_spec_l18Point.ok Go.Proofs.Try.prog A := by
  intro R ds k r h
  unfold e_spec_l18Point at h
  obtain ⟨x0, d0, rfl, h0⟩ := dI_some h
  obtain ⟨x1, d1, rfl, h1⟩ := dI_some h0
  obtain ⟨rfl, hE⟩ := dE_some h1
  obtain ⟨y, hy, hk⟩ := bnd_some hE
  refine ⟨_, hk, fn_ok px (fx := ⟨Go.Proofs.Try.func42, by kernel_rfl, by kernel_rfl⟩) (entsOK_cons e_spec_l1In_ok entsOK_nil) lentsOK_nil ?_⟩
  have hq := q_spec_l18Point x0 x1
  rw [c_spec_l18Point_bind] at hq
  rw [show c_spec_l18Point x0 x1 some = some y from hy] at hq
  exact hq

/-! loop.example/g00876/spec.l18Turn -/
def c_spec_l18Turn {R : Type} (x0 : Int) (x1 : Int) (x2 : Int) (x3 : Int) (x4 : Int) (x5 : Int) (k : Int → Option R) : Option R :=
  k (Go.IntKind.i64.wrap (Go.IntKind.i64.wrap (Go.IntKind.i64.wrap (x2 - x0) * Go.IntKind.i64.wrap (x5 - x1)) - Go.IntKind.i64.wrap (Go.IntKind.i64.wrap (x3 - x1) * Go.IntKind.i64.wrap (x4 - x0))))
theorem c_spec_l18Turn_bind {R : Type} (x0 : Int) (x1 : Int) (x2 : Int) (x3 : Int) (x4 : Int) (x5 : Int) (k : Int → Option R) : c_spec_l18Turn x0 x1 x2 x3 x4 x5 k = (c_spec_l18Turn x0 x1 x2 x3 x4 x5 some).bind k := by
  unfold c_spec_l18Turn
  repeat' first
    | exact bnd_tail
    | exact bnd_none
    | exact bnd_leaf
    | apply bnd_ite
    | apply bnd_cond
    | apply bnd_sum
    | (apply bnd_bind; intro _)
    | intro _
def spec_l18Turn (x0 : Int) (x1 : Int) (x2 : Int) (x3 : Int) (x4 : Int) (x5 : Int) : Option (Int) := c_spec_l18Turn x0 x1 x2 x3 x4 x5 some
def e_spec_l18Turn : Ent := ⟨65, [.agg [.int .i64, .int .i64], .agg [.int .i64, .int .i64], .agg [.int .i64, .int .i64]], .int .i64, [.undef, .undef, .undef], fun _ ds k => dI (fun x0 ds => dI (fun x1 ds => dI (fun x2 ds => dI (fun x3 ds => dI (fun x4 ds => dI (fun x5 ds => dE ((spec_l18Turn x0 x1 x2 x3 x4 x5).bind (fun y => k [.I y])) ds) ds) ds) ds) ds) ds) ds⟩
theorem q_spec_l18Turn (x0 : Int) (x1 : Int) (x2 : Int) (x3 : Int) (x4 : Int) (x5 : Int) : runFn (ocOf []) (olOf []) A 65 Go.Proofs.Try.f65 (Sh.mks e_spec_l18Turn.sh [.I x0, .I x1, .I x2, .I x3, .I x4, .I x5]).1 (fun v os => some (v, os)) = c_spec_l18Turn x0 x1 x2 x3 x4 x5 (fun y => some ((e_spec_l18Turn.res.mk [.I y]).1, e_spec_l18Turn.outs)) := by kernel_rfl
theorem e_spec_l18Turn_ok : e_spec_l18Turn.ok Go.Proofs.Try.prog A := by
  intro R ds k r h
  unfold e_spec_l18Turn at h
  obtain ⟨x0, d0, rfl, h0⟩ := dI_some h
  obtain ⟨x1, d1, rfl, h1⟩ := dI_some h0
  obtain ⟨x2, d2, rfl, h2⟩ := dI_some h1
  obtain ⟨x3, d3, rfl, h3⟩ := dI_some h2
  obtain ⟨x4, d4, rfl, h4⟩ := dI_some h3
  obtain ⟨x5, d5, rfl, h5⟩ := dI_some h4
  obtain ⟨rfl, hE⟩ := dE_some h5
  obtain ⟨y, hy, hk⟩ := bnd_some hE
  refine ⟨_, hk, fn_ok px (fx := ⟨Go.Proofs.Try.func65, by kernel_rfl, by kernel_rfl⟩) entsOK_nil lentsOK_nil ?_⟩
  have hq := q_spec_l18Turn x0 x1 x2 x3 x4 x5
  rw [c_spec_l18Turn_bind] at hq
  rw [show c_spec_l18Turn x0 x1 x2 x3 x4 x5 some = some y from hy] at hq
  exact hq

/-! loop.example/g00876/spec.l1Least -/
def c_spec_l1Least {R : Type} (x0 : Int) (x1 : Int) (k : Int → Option R) : Option R :=
  bif Decidable.decide (x0 < x1) then
    k x0
  else
    k x1
theorem c_spec_l1Least_bind {R : Type} (x0 : Int) (x1 : Int) (k : Int → Option R) : c_spec_l1Least x0 x1 k = (c_spec_l1Least x0 x1 some).bind k := by
  unfold c_spec_l1Least
  repeat' first
    | exact bnd_tail
    | exact bnd_none
    | exact bnd_leaf
    | apply bnd_ite
    | apply bnd_cond
    | apply bnd_sum
    | (apply bnd_bind; intro _)
    | intro _
def spec_l1Least (x0 : Int) (x1 : Int) : Option (Int) := c_spec_l1Least x0 x1 some
def e_spec_l1Least : Ent := ⟨60, [.int .i64, .int .i64], .int .i64, [.undef, .undef], fun _ ds k => dI (fun x0 ds => dI (fun x1 ds => dE ((spec_l1Least x0 x1).bind (fun y => k [.I y])) ds) ds) ds⟩
theorem q_spec_l1Least (x0 : Int) (x1 : Int) : runFn (ocOf []) (olOf []) A 60 Go.Proofs.Try.f60 (Sh.mks e_spec_l1Least.sh [.I x0, .I x1]).1 (fun v os => some (v, os)) = c_spec_l1Least x0 x1 (fun y => some ((e_spec_l1Least.res.mk [.I y]).1, e_spec_l1Least.outs)) := by kernel_rfl
theorem e_spec_l1Least_ok : e_spec_l1Least.ok Go.Proofs.Try.prog A := by
  intro R ds k r h
  unfold e_spec_l1Least at h
  obtain ⟨x0, d0, rfl, h0⟩ := dI_some h
  obtain ⟨x1, d1, rfl, h1⟩ := dI_some h0
  obtain ⟨rfl, hE⟩ := dE_some h1
  obtain ⟨y, hy, hk⟩ := bnd_some hE
  refine ⟨_, hk, fn_ok px (fx := ⟨Go.Proofs.Try.func60, by kernel_rfl, by kernel_rfl⟩) entsOK_nil lentsOK_nil ?_⟩
  have hq := q_spec_l1Least x0 x1
  rw [c_spec_l1Least_bind] at hq
  rw [show c_spec_l1Least x0 x1 some = some y from hy] at hq
  exact hq

/-! loop.example/g00876/spec.l1Most -/
def c_spec_l1Most {R : Type} (x0 : Int) (x1 : Int) (k : Int → Option R) : Option R :=
  bif Decidable.decide (x1 < x0) then
    k x0
  else
    k x1
theorem c_spec_l1Most_bind {R : Type} (x0 : Int) (x1 : Int) (k : Int → Option R) : c_spec_l1Most x0 x1 k = (c_spec_l1Most x0 x1 some).bind k := by
  unfold c_spec_l1Most
  repeat' first
    | exact bnd_tail
    | exact bnd_none
    | exact bnd_leaf
    | apply bnd_ite
    | apply bnd_cond
    | apply bnd_sum
    | (apply bnd_bind; intro _)
    | intro _
def spec_l1Most (x0 : Int) (x1 : Int) : Option (Int) := c_spec_l1Most x0 x1 some
def e_spec_l1Most : Ent := ⟨59, [.int .i64, .int .i64], .int .i64, [.undef, .undef], fun _ ds k => dI (fun x0 ds => dI (fun x1 ds => dE ((spec_l1Most x0 x1).bind (fun y => k [.I y])) ds) ds) ds⟩
theorem q_spec_l1Most (x0 : Int) (x1 : Int) : runFn (ocOf []) (olOf []) A 59 Go.Proofs.Try.f59 (Sh.mks e_spec_l1Most.sh [.I x0, .I x1]).1 (fun v os => some (v, os)) = c_spec_l1Most x0 x1 (fun y => some ((e_spec_l1Most.res.mk [.I y]).1, e_spec_l1Most.outs)) := by kernel_rfl
theorem e_spec_l1Most_ok : e_spec_l1Most.ok Go.Proofs.Try.prog A := by
  intro R ds k r h
  unfold e_spec_l1Most at h
  obtain ⟨x0, d0, rfl, h0⟩ := dI_some h
  obtain ⟨x1, d1, rfl, h1⟩ := dI_some h0
  obtain ⟨rfl, hE⟩ := dE_some h1
  obtain ⟨y, hy, hk⟩ := bnd_some hE
  refine ⟨_, hk, fn_ok px (fx := ⟨Go.Proofs.Try.func59, by kernel_rfl, by kernel_rfl⟩) entsOK_nil lentsOK_nil ?_⟩
  have hq := q_spec_l1Most x0 x1
  rw [c_spec_l1Most_bind] at hq
  rw [show c_spec_l1Most x0 x1 some = some y from hy] at hq
  exact hq

/-! loop.example/g00876/spec.l18On -/
def c_spec_l18On {R : Type} (x0 : Int) (x1 : Int) (x2 : Int) (x3 : Int) (x4 : Int) (x5 : Int) (k : Bool → Option R) : Option R :=
  (spec_l18Turn x0 x1 x2 x3 x4 x5).bind (fun y0 =>
    bif Decidable.decide (y0 = (0 : Int)) then
      (spec_l1Least x0 x2).bind (fun y1 =>
        (spec_l1Most x0 x2).bind (fun y2 =>
          (spec_l1In x4 y1 y2).bind (fun y3 =>
            bif y3 then
              (spec_l1Least x1 x3).bind (fun y4 =>
                (spec_l1Most x1 x3).bind (fun y5 =>
                  (spec_l1In x5 y4 y5).bind (fun y6 =>
                    k y6)))
            else
              k Bool.false)))
    else
      k Bool.false)
theorem c_spec_l18On_bind {R : Type} (x0 : Int) (x1 : Int) (x2 : Int) (x3 : Int) (x4 : Int) (x5 : Int) (k : Bool → Option R) : c_spec_l18On x0 x1 x2 x3 x4 x5 k = (c_spec_l18On x0 x1 x2 x3 x4 x5 some).bind k := by
  unfold c_spec_l18On
  repeat' first
    | exact bnd_tail
    | exact bnd_none
    | exact bnd_leaf
    | apply bnd_ite
    | apply bnd_cond
    | apply bnd_sum
    | (apply bnd_bind; intro _)
    | intro _
def spec_l18On (x0 : Int) (x1 : Int) (x2 : Int) (x3 : Int) (x4 : Int) (x5 : Int) : Option (Bool) := c_spec_l18On x0 x1 x2 x3 x4 x5 some
def e_spec_l18On : Ent := ⟨63, [.agg [.int .i64, .int .i64], .agg [.int .i64, .int .i64], .agg [.int .i64, .int .i64]], .bool, [.undef, .undef, .undef], fun _ ds k => dI (fun x0 ds => dI (fun x1 ds => dI (fun x2 ds => dI (fun x3 ds => dI (fun x4 ds => dI (fun x5 ds => dE ((spec_l18On x0 x1 x2 x3 x4 x5).bind (fun y => k [.B y])) ds) ds) ds) ds) ds) ds) ds⟩
theorem q_spec_l18On (x0 : Int) (x1 : Int) (x2 : Int) (x3 : Int) (x4 : Int) (x5 : Int) : runFn (ocOf [e_spec_l18Turn, e_spec_l1Least, e_spec_l1Most, e_spec_l1In]) (olOf []) A 63 Go.Proofs.Try.f63 (Sh.mks e_spec_l18On.sh [.I x0, .I x1, .I x2, .I x3, .I x4, .I x5]).1 (fun v os => some (v, os)) = c_spec_l18On x0 x1 x2 x3 x4 x5 (fun y => some ((e_spec_l18On.res.mk [.B y]).1, e_spec_l18On.outs)) := by kernel_rfl
theorem e_spec_l18On_ok : e_spec_l18On.ok Go.Proofs.Try.prog A := by
  intro R ds k r h
  unfold e_spec_l18On at h
  obtain ⟨x0, d0, rfl, h0⟩ := dI_some h
  obtain ⟨x1, d1, rfl, h1⟩ := dI_some h0
  obtain ⟨x2, d2, rfl, h2⟩ := dI_some h1
  obtain ⟨x3, d3, rfl, h3⟩ := dI_some h2
  obtain ⟨x4, d4, rfl, h4⟩ := dI_some h3
  obtain ⟨x5, d5, rfl, h5⟩ := dI_some h4
  obtain ⟨rfl, hE⟩ := dE_some h5
  obtain ⟨y, hy, hk⟩ := bnd_some hE
  refine ⟨_, hk, fn_ok px (fx := ⟨Go.Proofs.Try.func63, by kernel_rfl, by kernel_rfl⟩) (entsOK_cons e_spec_l18Turn_ok (entsOK_cons e_spec_l1Least_ok (entsOK_cons e_spec_l1Most_ok (entsOK_cons e_spec_l1In_ok entsOK_nil)))) lentsOK_nil ?_⟩
  have hq := q_spec_l18On x0 x1 x2 x3 x4 x5
  rw [c_spec_l18On_bind] at hq
  rw [show c_spec_l18On x0 x1 x2 x3 x4 x5 some = some y from hy] at hq
  exact hq

/-! loop.example/g00876/spec.l18Sign -/
def c_spec_l18Sign {R : Type} (x0 : Int) (k : Int → Option R) : Option R :=
  bif Decidable.decide ((0 : Int) < x0) then
    k (1 : Int)
  else
    bif Decidable.decide (x0 < (0 : Int)) then
      k (-1 : Int)
    else
      k (0 : Int)
theorem c_spec_l18Sign_bind {R : Type} (x0 : Int) (k : Int → Option R) : c_spec_l18Sign x0 k = (c_spec_l18Sign x0 some).bind k := by
  unfold c_spec_l18Sign
  repeat' first
    | exact bnd_tail
    | exact bnd_none
    | exact bnd_leaf
    | apply bnd_ite
    | apply bnd_cond
    | apply bnd_sum
    | (apply bnd_bind; intro _)
    | intro _
def spec_l18Sign (x0 : Int) : Option (Int) := c_spec_l18Sign x0 some
def e_spec_l18Sign : Ent := ⟨64, [.int .i64], .int .i64, [.undef], fun _ ds k => dI (fun x0 ds => dE ((spec_l18Sign x0).bind (fun y => k [.I y])) ds) ds⟩
theorem q_spec_l18Sign (x0 : Int) : runFn (ocOf []) (olOf []) A 64 Go.Proofs.Try.f64 (Sh.mks e_spec_l18Sign.sh [.I x0]).1 (fun v os => some (v, os)) = c_spec_l18Sign x0 (fun y => some ((e_spec_l18Sign.res.mk [.I y]).1, e_spec_l18Sign.outs)) := by kernel_rfl
theorem e_spec_l18Sign_ok : e_spec_l18Sign.ok Go.Proofs.Try.prog A := by
  intro R ds k r h
  unfold e_spec_l18Sign at h
  obtain ⟨x0, d0, rfl, h0⟩ := dI_some h
  obtain ⟨rfl, hE⟩ := dE_some h0
  obtain ⟨y, hy, hk⟩ := bnd_some hE
  refine ⟨_, hk, fn_ok px (fx := ⟨Go.Proofs.Try.func64, by kernel_rfl, by kernel_rfl⟩) entsOK_nil lentsOK_nil ?_⟩
  have hq := q_spec_l18Sign x0
  rw [c_spec_l18Sign_bind] at hq
  rw [show c_spec_l18Sign x0 some = some y from hy] at hq
  exact hq

/-! loop.example/g00876/spec.l18Cross -/
def c_spec_l18Cross {R : Type} (x0 : Int) (x1 : Int) (x2 : Int) (x3 : Int) (x4 : Int) (x5 : Int) (x6 : Int) (x7 : Int) (k : Bool → Option R) : Option R :=
  (spec_l18On x0 x1 x2 x3 x4 x5).bind (fun y0 =>
    bif y0 then
      k Bool.true
    else
      (spec_l18On x0 x1 x2 x3 x6 x7).bind (fun y1 =>
        bif y1 then
          k Bool.true
        else
          (spec_l18On x4 x5 x6 x7 x0 x1).bind (fun y2 =>
            bif y2 then
              k Bool.true
            else
              (spec_l18On x4 x5 x6 x7 x2 x3).bind (fun y3 =>
                bif y3 then
                  k Bool.true
                else
                  (spec_l18Turn x0 x1 x2 x3 x4 x5).bind (fun y4 =>
                    (spec_l18Sign y4).bind (fun y5 =>
                      (spec_l18Turn x0 x1 x2 x3 x6 x7).bind (fun y6 =>
                        (spec_l18Sign y6).bind (fun y7 =>
                          bif Decidable.decide (Go.IntKind.i64.wrap (y5 * y7) < (0 : Int)) then
                            (spec_l18Turn x4 x5 x6 x7 x0 x1).bind (fun y8 =>
                              (spec_l18Sign y8).bind (fun y9 =>
                                (spec_l18Turn x4 x5 x6 x7 x2 x3).bind (fun y10 =>
                                  (spec_l18Sign y10).bind (fun y11 =>
                                    k (Decidable.decide (Go.IntKind.i64.wrap (y9 * y11) < (0 : Int)))))))
                          else
                            k Bool.false))))))))
theorem c_spec_l18Cross_bind {R : Type} (x0 : Int) (x1 : Int) (x2 : Int) (x3 : Int) (x4 : Int) (x5 : Int) (x6 : Int) (x7 : Int) (k : Bool → Option R) : c_spec_l18Cross x0 x1 x2 x3 x4 x5 x6 x7 k = (c_spec_l18Cross x0 x1 x2 x3 x4 x5 x6 x7 some).bind k := by
  unfold c_spec_l18Cross
  repeat' first
    | exact bnd_tail
    | exact bnd_none
    | exact bnd_leaf
    | apply bnd_ite
    | apply bnd_cond
    | apply bnd_sum
    | (apply bnd_bind; intro _)
    | intro _
def spec_l18Cross (x0 : Int) (x1 : Int) (x2 : Int) (x3 : Int) (x4 : Int) (x5 : Int) (x6 : Int) (x7 : Int) : Option (Bool) := c_spec_l18Cross x0 x1 x2 x3 x4 x5 x6 x7 some
def e_spec_l18Cross : Ent := ⟨43, [.agg [.int .i64, .int .i64], .agg [.int .i64, .int .i64], .agg [.int .i64, .int .i64], .agg [.int .i64, .int .i64]], .bool, [.undef, .undef, .undef, .undef], fun _ ds k => dI (fun x0 ds => dI (fun x1 ds => dI (fun x2 ds => dI (fun x3 ds => dI (fun x4 ds => dI (fun x5 ds => dI (fun x6 ds => dI (fun x7 ds => dE ((spec_l18Cross x0 x1 x2 x3 x4 x5 x6 x7).bind (fun y => k [.B y])) ds) ds) ds) ds) ds) ds) ds) ds) ds⟩
theorem q_spec_l18Cross (x0 : Int) (x1 : Int) (x2 : Int) (x3 : Int) (x4 : Int) (x5 : Int) (x6 : Int) (x7 : Int) : runFn (ocOf [e_spec_l18On, e_spec_l18Turn, e_spec_l18Sign]) (olOf []) A 43 Go.Proofs.Try.f43 (Sh.mks e_spec_l18Cross.sh [.I x0, .I x1, .I x2, .I x3, .I x4, .I x5, .I x6, .I x7]).1 (fun v os => some (v, os)) = c_spec_l18Cross x0 x1 x2 x3 x4 x5 x6 x7 (fun y => some ((e_spec_l18Cross.res.mk [.B y]).1, e_spec_l18Cross.outs)) := by kernel_rfl
theorem e_spec_l18Cross_ok : e_spec_l18Cross.ok Go.Proofs.Try.prog A := by
  intro R ds k r h
  unfold e_spec_l18Cross at h
  obtain ⟨x0, d0, rfl, h0⟩ := dI_some h
  obtain ⟨x1, d1, rfl, h1⟩ := dI_some h0
  obtain ⟨x2, d2, rfl, h2⟩ := dI_some h1
  obtain ⟨x3, d3, rfl, h3⟩ := dI_some h2
  obtain ⟨x4, d4, rfl, h4⟩ := dI_some h3
  obtain ⟨x5, d5, rfl, h5⟩ := dI_some h4
  obtain ⟨x6, d6, rfl, h6⟩ := dI_some h5
  obtain ⟨x7, d7, rfl, h7⟩ := dI_some h6
  obtain ⟨rfl, hE⟩ := dE_some h7
  obtain ⟨y, hy, hk⟩ := bnd_some hE
  refine ⟨_, hk, fn_ok px (fx := ⟨Go.Proofs.Try.func43, by kernel_rfl, by kernel_rfl⟩) (entsOK_cons e_spec_l18On_ok (entsOK_cons e_spec_l18Turn_ok (entsOK_cons e_spec_l18Sign_ok entsOK_nil))) lentsOK_nil ?_⟩
  have hq := q_spec_l18Cross x0 x1 x2 x3 x4 x5 x6 x7
  rw [c_spec_l18Cross_bind] at hq
  rw [show c_spec_l18Cross x0 x1 x2 x3 x4 x5 x6 x7 some = some y from hy] at hq
  exact hq

/-! loop.example/g00876/spec.SidesCross -/
def c_spec_SidesCross {R : Type} (x0 : Int) (x1 : Int) (x2 : Int) (x3 : Int) (x4 : Int) (x5 : Int) (x6 : Int) (x7 : Int) (k : Bool × Bool → Option R) : Option R :=
  (spec_l18Point x0 x1).bind (fun y0 =>
    bif !y0 then
      k (Bool.false, Bool.false)
    else
      (spec_l18Point x2 x3).bind (fun y1 =>
        bif !y1 then
          k (Bool.false, Bool.false)
        else
          (spec_l18Point x4 x5).bind (fun y2 =>
            bif !y2 then
              k (Bool.false, Bool.false)
            else
              (spec_l18Point x6 x7).bind (fun y3 =>
                bif !y3 then
                  k (Bool.false, Bool.false)
                else
                  (spec_l18Cross x0 x1 x2 x3 x4 x5 x6 x7).bind (fun y4 =>
                    k (y4, Bool.true))))))
theorem c_spec_SidesCross_bind {R : Type} (x0 : Int) (x1 : Int) (x2 : Int) (x3 : Int) (x4 : Int) (x5 : Int) (x6 : Int) (x7 : Int) (k : Bool × Bool → Option R) : c_spec_SidesCross x0 x1 x2 x3 x4 x5 x6 x7 k = (c_spec_SidesCross x0 x1 x2 x3 x4 x5 x6 x7 some).bind k := by
  unfold c_spec_SidesCross
  repeat' first
    | exact bnd_tail
    | exact bnd_none
    | exact bnd_leaf
    | apply bnd_ite
    | apply bnd_cond
    | apply bnd_sum
    | (apply bnd_bind; intro _)
    | intro _
def spec_SidesCross (x0 : Int) (x1 : Int) (x2 : Int) (x3 : Int) (x4 : Int) (x5 : Int) (x6 : Int) (x7 : Int) : Option (Bool × Bool) := c_spec_SidesCross x0 x1 x2 x3 x4 x5 x6 x7 some
def e_spec_SidesCross : Ent := ⟨14, [.agg [.int .i64, .int .i64], .agg [.int .i64, .int .i64], .agg [.int .i64, .int .i64], .agg [.int .i64, .int .i64]], .tup [.bool, .bool], [.undef, .undef, .undef, .undef], fun _ ds k => dI (fun x0 ds => dI (fun x1 ds => dI (fun x2 ds => dI (fun x3 ds => dI (fun x4 ds => dI (fun x5 ds => dI (fun x6 ds => dI (fun x7 ds => dE ((spec_SidesCross x0 x1 x2 x3 x4 x5 x6 x7).bind (fun y => k [.B y.1, .B y.2])) ds) ds) ds) ds) ds) ds) ds) ds) ds⟩
theorem q_spec_SidesCross (x0 : Int) (x1 : Int) (x2 : Int) (x3 : Int) (x4 : Int) (x5 : Int) (x6 : Int) (x7 : Int) : runFn (ocOf [e_spec_l18Point, e_spec_l18Cross]) (olOf []) A 14 Go.Proofs.Try.f14 (Sh.mks e_spec_SidesCross.sh [.I x0, .I x1, .I x2, .I x3, .I x4, .I x5, .I x6, .I x7]).1 (fun v os => some (v, os)) = c_spec_SidesCross x0 x1 x2 x3 x4 x5 x6 x7 (fun y => some ((e_spec_SidesCross.res.mk [.B y.1, .B y.2]).1, e_spec_SidesCross.outs)) := by kernel_rfl
theorem e_spec_SidesCross_ok : e_spec_SidesCross.ok Go.Proofs.Try.prog A := by
  intro R ds k r h
  unfold e_spec_SidesCross at h
  obtain ⟨x0, d0, rfl, h0⟩ := dI_some h
  obtain ⟨x1, d1, rfl, h1⟩ := dI_some h0
  obtain ⟨x2, d2, rfl, h2⟩ := dI_some h1
  obtain ⟨x3, d3, rfl, h3⟩ := dI_some h2
  obtain ⟨x4, d4, rfl, h4⟩ := dI_some h3
  obtain ⟨x5, d5, rfl, h5⟩ := dI_some h4
  obtain ⟨x6, d6, rfl, h6⟩ := dI_some h5
  obtain ⟨x7, d7, rfl, h7⟩ := dI_some h6
  obtain ⟨rfl, hE⟩ := dE_some h7
  obtain ⟨y, hy, hk⟩ := bnd_some hE
  refine ⟨_, hk, fn_ok px (fx := ⟨Go.Proofs.Try.func14, by kernel_rfl, by kernel_rfl⟩) (entsOK_cons e_spec_l18Point_ok (entsOK_cons e_spec_l18Cross_ok entsOK_nil)) lentsOK_nil ?_⟩
  have hq := q_spec_SidesCross x0 x1 x2 x3 x4 x5 x6 x7
  rw [c_spec_SidesCross_bind] at hq
  rw [show c_spec_SidesCross x0 x1 x2 x3 x4 x5 x6 x7 some = some y from hy] at hq
  exact hq

/-! loop.example/g00876/impl.within -/
def c_impl_within {R : Type} (x0 : Int) (x1 : Int) (x2 : Int) (k : Bool → Option R) : Option R :=
  bif Decidable.decide (x1 ≤ x0) then
    k (Decidable.decide (x0 ≤ x2))
  else
    k Bool.false
theorem c_impl_within_bind {R : Type} (x0 : Int) (x1 : Int) (x2 : Int) (k : Bool → Option R) : c_impl_within x0 x1 x2 k = (c_impl_within x0 x1 x2 some).bind k := by
  unfold c_impl_within
  repeat' first
    | exact bnd_tail
    | exact bnd_none
    | exact bnd_leaf
    | apply bnd_ite
    | apply bnd_cond
    | apply bnd_sum
    | (apply bnd_bind; intro _)
    | intro _
def impl_within (x0 : Int) (x1 : Int) (x2 : Int) : Option (Bool) := c_impl_within x0 x1 x2 some
def e_impl_within : Ent := ⟨38, [.int .i64, .int .i64, .int .i64], .bool, [.undef, .undef, .undef], fun _ ds k => dI (fun x0 ds => dI (fun x1 ds => dI (fun x2 ds => dE ((impl_within x0 x1 x2).bind (fun y => k [.B y])) ds) ds) ds) ds⟩
theorem q_impl_within (x0 : Int) (x1 : Int) (x2 : Int) : runFn (ocOf []) (olOf []) A 38 Go.Proofs.Try.f38 (Sh.mks e_impl_within.sh [.I x0, .I x1, .I x2]).1 (fun v os => some (v, os)) = c_impl_within x0 x1 x2 (fun y => some ((e_impl_within.res.mk [.B y]).1, e_impl_within.outs)) := by kernel_rfl
theorem e_impl_within_ok : e_impl_within.ok Go.Proofs.Try.prog A := by
  intro R ds k r h
  unfold e_impl_within at h
  obtain ⟨x0, d0, rfl, h0⟩ := dI_some h
  obtain ⟨x1, d1, rfl, h1⟩ := dI_some h0
  obtain ⟨x2, d2, rfl, h2⟩ := dI_some h1
  obtain ⟨rfl, hE⟩ := dE_some h2
  obtain ⟨y, hy, hk⟩ := bnd_some hE
  refine ⟨_, hk, fn_ok px (fx := ⟨Go.Proofs.Try.func38, by kernel_rfl, by kernel_rfl⟩) entsOK_nil lentsOK_nil ?_⟩
  have hq := q_impl_within x0 x1 x2
  rw [c_impl_within_bind] at hq
  rw [show c_impl_within x0 x1 x2 some = some y from hy] at hq
  exact hq

/-! loop.example/g00876/impl.onPlan -/
def c_impl_onPlan {R : Type} (x0 : Int) (x1 : Int) (k : Bool → Option R) : Option R :=
  (impl_within x0 (0 : Int) (1000 : Int)).bind (fun y0 =>
    bif y0 then
      (impl_within x1 (0 : Int) (1000 : Int)).bind (fun y1 =>
        k y1)
    else
      k Bool.false)
theorem c_impl_onPlan_bind {R : Type} (x0 : Int) (x1 : Int) (k : Bool → Option R) : c_impl_onPlan x0 x1 k = (c_impl_onPlan x0 x1 some).bind k := by
  unfold c_impl_onPlan
  repeat' first
    | exact bnd_tail
    | exact bnd_none
    | exact bnd_leaf
    | apply bnd_ite
    | apply bnd_cond
    | apply bnd_sum
    | (apply bnd_bind; intro _)
    | intro _
def impl_onPlan (x0 : Int) (x1 : Int) : Option (Bool) := c_impl_onPlan x0 x1 some
def e_impl_onPlan : Ent := ⟨44, [.agg [.int .i64, .int .i64]], .bool, [.undef], fun _ ds k => dI (fun x0 ds => dI (fun x1 ds => dE ((impl_onPlan x0 x1).bind (fun y => k [.B y])) ds) ds) ds⟩
theorem q_impl_onPlan (x0 : Int) (x1 : Int) : runFn (ocOf [e_impl_within]) (olOf []) A 44 Go.Proofs.Try.f44 (Sh.mks e_impl_onPlan.sh [.I x0, .I x1]).1 (fun v os => some (v, os)) = c_impl_onPlan x0 x1 (fun y => some ((e_impl_onPlan.res.mk [.B y]).1, e_impl_onPlan.outs)) := by kernel_rfl
theorem e_impl_onPlan_ok : e_impl_onPlan.ok Go.Proofs.Try.prog A := by
  intro R ds k r h
  unfold e_impl_onPlan at h
  obtain ⟨x0, d0, rfl, h0⟩ := dI_some h
  obtain ⟨x1, d1, rfl, h1⟩ := dI_some h0
  obtain ⟨rfl, hE⟩ := dE_some h1
  obtain ⟨y, hy, hk⟩ := bnd_some hE
  refine ⟨_, hk, fn_ok px (fx := ⟨Go.Proofs.Try.func44, by kernel_rfl, by kernel_rfl⟩) (entsOK_cons e_impl_within_ok entsOK_nil) lentsOK_nil ?_⟩
  have hq := q_impl_onPlan x0 x1
  rw [c_impl_onPlan_bind] at hq
  rw [show c_impl_onPlan x0 x1 some = some y from hy] at hq
  exact hq

/-! loop.example/g00876/impl.cross -/
def c_impl_cross {R : Type} (x0 : Int) (x1 : Int) (x2 : Int) (x3 : Int) (x4 : Int) (x5 : Int) (k : Int → Option R) : Option R :=
  k (Go.IntKind.i64.wrap (Go.IntKind.i64.wrap (Go.IntKind.i64.wrap (x2 - x0) * Go.IntKind.i64.wrap (x5 - x1)) - Go.IntKind.i64.wrap (Go.IntKind.i64.wrap (x3 - x1) * Go.IntKind.i64.wrap (x4 - x0))))
theorem c_impl_cross_bind {R : Type} (x0 : Int) (x1 : Int) (x2 : Int) (x3 : Int) (x4 : Int) (x5 : Int) (k : Int → Option R) : c_impl_cross x0 x1 x2 x3 x4 x5 k = (c_impl_cross x0 x1 x2 x3 x4 x5 some).bind k := by
  unfold c_impl_cross
  repeat' first
    | exact bnd_tail
    | exact bnd_none
    | exact bnd_leaf
    | apply bnd_ite
    | apply bnd_cond
    | apply bnd_sum
    | (apply bnd_bind; intro _)
    | intro _
def impl_cross (x0 : Int) (x1 : Int) (x2 : Int) (x3 : Int) (x4 : Int) (x5 : Int) : Option (Int) := c_impl_cross x0 x1 x2 x3 x4 x5 some
def e_impl_cross : Ent := ⟨68, [.agg [.int .i64, .int .i64], .agg [.int .i64, .int .i64], .agg [.int .i64, .int .i64]], .int .i64, [.undef, .undef, .undef], fun _ ds k => dI (fun x0 ds => dI (fun x1 ds => dI (fun x2 ds => dI (fun x3 ds => dI (fun x4 ds => dI (fun x5 ds => dE ((impl_cross x0 x1 x2 x3 x4 x5).bind (fun y => k [.I y])) ds) ds) ds) ds) ds) ds) ds⟩
theorem q_impl_cross (x0 : Int) (x1 : Int) (x2 : Int) (x3 : Int) (x4 : Int) (x5 : Int) : runFn (ocOf []) (olOf []) A 68 Go.Proofs.Try.f68 (Sh.mks e_impl_cross.sh [.I x0, .I x1, .I x2, .I x3, .I x4, .I x5]).1 (fun v os => some (v, os)) = c_impl_cross x0 x1 x2 x3 x4 x5 (fun y => some ((e_impl_cross.res.mk [.I y]).1, e_impl_cross.outs)) := by kernel_rfl
theorem e_impl_cross_ok : e_impl_cross.ok Go.Proofs.Try.prog A := by
  intro R ds k r h
  unfold e_impl_cross at h
  obtain ⟨x0, d0, rfl, h0⟩ := dI_some h
  obtain ⟨x1, d1, rfl, h1⟩ := dI_some h0
  obtain ⟨x2, d2, rfl, h2⟩ := dI_some h1
  obtain ⟨x3, d3, rfl, h3⟩ := dI_some h2
  obtain ⟨x4, d4, rfl, h4⟩ := dI_some h3
  obtain ⟨x5, d5, rfl, h5⟩ := dI_some h4
  obtain ⟨rfl, hE⟩ := dE_some h5
  obtain ⟨y, hy, hk⟩ := bnd_some hE
  refine ⟨_, hk, fn_ok px (fx := ⟨Go.Proofs.Try.func68, by kernel_rfl, by kernel_rfl⟩) entsOK_nil lentsOK_nil ?_⟩
  have hq := q_impl_cross x0 x1 x2 x3 x4 x5
  rw [c_impl_cross_bind] at hq
  rw [show c_impl_cross x0 x1 x2 x3 x4 x5 some = some y from hy] at hq
  exact hq

/-! loop.example/g00876/impl.onSegment -/
def c_impl_onSegment {R : Type} (x0 : Int) (x1 : Int) (x2 : Int) (x3 : Int) (x4 : Int) (x5 : Int) (k : Bool → Option R) : Option R :=
  (impl_cross x0 x1 x2 x3 x4 x5).bind (fun y0 =>
    bif Decidable.decide (y0 = (0 : Int)) then
      (impl_within x4 (if x2 < x0 then x2 else x0) (if x2 > x0 then x2 else x0)).bind (fun y1 =>
        bif y1 then
          (impl_within x5 (if x3 < x1 then x3 else x1) (if x3 > x1 then x3 else x1)).bind (fun y2 =>
            k y2)
        else
          k Bool.false)
    else
      k Bool.false)
theorem c_impl_onSegment_bind {R : Type} (x0 : Int) (x1 : Int) (x2 : Int) (x3 : Int) (x4 : Int) (x5 : Int) (k : Bool → Option R) : c_impl_onSegment x0 x1 x2 x3 x4 x5 k = (c_impl_onSegment x0 x1 x2 x3 x4 x5 some).bind k := by
  unfold c_impl_onSegment
  repeat' first
    | exact bnd_tail
    | exact bnd_none
    | exact bnd_leaf
    | apply bnd_ite
    | apply bnd_cond
    | apply bnd_sum
    | (apply bnd_bind; intro _)
    | intro _
def impl_onSegment (x0 : Int) (x1 : Int) (x2 : Int) (x3 : Int) (x4 : Int) (x5 : Int) : Option (Bool) := c_impl_onSegment x0 x1 x2 x3 x4 x5 some
def e_impl_onSegment : Ent := ⟨66, [.agg [.int .i64, .int .i64], .agg [.int .i64, .int .i64], .agg [.int .i64, .int .i64]], .bool, [.undef, .undef, .undef], fun _ ds k => dI (fun x0 ds => dI (fun x1 ds => dI (fun x2 ds => dI (fun x3 ds => dI (fun x4 ds => dI (fun x5 ds => dE ((impl_onSegment x0 x1 x2 x3 x4 x5).bind (fun y => k [.B y])) ds) ds) ds) ds) ds) ds) ds⟩
theorem q_impl_onSegment (x0 : Int) (x1 : Int) (x2 : Int) (x3 : Int) (x4 : Int) (x5 : Int) : runFn (ocOf [e_impl_cross, e_impl_within]) (olOf []) A 66 Go.Proofs.Try.f66 (Sh.mks e_impl_onSegment.sh [.I x0, .I x1, .I x2, .I x3, .I x4, .I x5]).1 (fun v os => some (v, os)) = c_impl_onSegment x0 x1 x2 x3 x4 x5 (fun y => some ((e_impl_onSegment.res.mk [.B y]).1, e_impl_onSegment.outs)) := by kernel_rfl
theorem e_impl_onSegment_ok : e_impl_onSegment.ok Go.Proofs.Try.prog A := by
  intro R ds k r h
  unfold e_impl_onSegment at h
  obtain ⟨x0, d0, rfl, h0⟩ := dI_some h
  obtain ⟨x1, d1, rfl, h1⟩ := dI_some h0
  obtain ⟨x2, d2, rfl, h2⟩ := dI_some h1
  obtain ⟨x3, d3, rfl, h3⟩ := dI_some h2
  obtain ⟨x4, d4, rfl, h4⟩ := dI_some h3
  obtain ⟨x5, d5, rfl, h5⟩ := dI_some h4
  obtain ⟨rfl, hE⟩ := dE_some h5
  obtain ⟨y, hy, hk⟩ := bnd_some hE
  refine ⟨_, hk, fn_ok px (fx := ⟨Go.Proofs.Try.func66, by kernel_rfl, by kernel_rfl⟩) (entsOK_cons e_impl_cross_ok (entsOK_cons e_impl_within_ok entsOK_nil)) lentsOK_nil ?_⟩
  have hq := q_impl_onSegment x0 x1 x2 x3 x4 x5
  rw [c_impl_onSegment_bind] at hq
  rw [show c_impl_onSegment x0 x1 x2 x3 x4 x5 some = some y from hy] at hq
  exact hq

/-! cmp.isNaN[int] -/
def c_cmp_isNaN {R : Type} (x0 : Int) (k : Bool → Option R) : Option R :=
  k (!Decidable.decide (x0 = x0))
theorem c_cmp_isNaN_bind {R : Type} (x0 : Int) (k : Bool → Option R) : c_cmp_isNaN x0 k = (c_cmp_isNaN x0 some).bind k := by
  unfold c_cmp_isNaN
  repeat' first
    | exact bnd_tail
    | exact bnd_none
    | exact bnd_leaf
    | apply bnd_ite
    | apply bnd_cond
    | apply bnd_sum
    | (apply bnd_bind; intro _)
    | intro _
def cmp_isNaN (x0 : Int) : Option (Bool) := c_cmp_isNaN x0 some
def e_cmp_isNaN : Ent := ⟨87, [.int .i64], .bool, [.undef], fun _ ds k => dI (fun x0 ds => dE ((cmp_isNaN x0).bind (fun y => k [.B y])) ds) ds⟩
theorem q_cmp_isNaN (x0 : Int) : runFn (ocOf []) (olOf []) A 87 Go.Proofs.Try.f87 (Sh.mks e_cmp_isNaN.sh [.I x0]).1 (fun v os => some (v, os)) = c_cmp_isNaN x0 (fun y => some ((e_cmp_isNaN.res.mk [.B y]).1, e_cmp_isNaN.outs)) := by kernel_rfl
theorem e_cmp_isNaN_ok : e_cmp_isNaN.ok Go.Proofs.Try.prog A := by
  intro R ds k r h
  unfold e_cmp_isNaN at h
  obtain ⟨x0, d0, rfl, h0⟩ := dI_some h
  obtain ⟨rfl, hE⟩ := dE_some h0
  obtain ⟨y, hy, hk⟩ := bnd_some hE
  refine ⟨_, hk, fn_ok px (fx := ⟨Go.Proofs.Try.func87, by kernel_rfl, by kernel_rfl⟩) entsOK_nil lentsOK_nil ?_⟩
  have hq := q_cmp_isNaN x0
  rw [c_cmp_isNaN_bind] at hq
  rw [show c_cmp_isNaN x0 some = some y from hy] at hq
  exact hq

/-! cmp.Compare[int] -/
def c_cmp_Compare {R : Type} (x0 : Int) (x1 : Int) (k : Int → Option R) : Option R :=
  (cmp_isNaN x0).bind (fun y0 =>
    (cmp_isNaN x1).bind (fun y1 =>
      bif y0 then
        bif y1 then
          k (0 : Int)
        else
          k (-1 : Int)
      else
        bif y1 then
          k (1 : Int)
        else
          bif Decidable.decide (x0 < x1) then
            k (-1 : Int)
          else
            bif Decidable.decide (x1 < x0) then
              k (1 : Int)
            else
              k (0 : Int)))
theorem c_cmp_Compare_bind {R : Type} (x0 : Int) (x1 : Int) (k : Int → Option R) : c_cmp_Compare x0 x1 k = (c_cmp_Compare x0 x1 some).bind k := by
  unfold c_cmp_Compare
  repeat' first
    | exact bnd_tail
    | exact bnd_none
    | exact bnd_leaf
    | apply bnd_ite
    | apply bnd_cond
    | apply bnd_sum
    | (apply bnd_bind; intro _)
    | intro _
def cmp_Compare (x0 : Int) (x1 : Int) : Option (Int) := c_cmp_Compare x0 x1 some
def e_cmp_Compare : Ent := ⟨84, [.int .i64, .int .i64], .int .i64, [.undef, .undef], fun _ ds k => dI (fun x0 ds => dI (fun x1 ds => dE ((cmp_Compare x0 x1).bind (fun y => k [.I y])) ds) ds) ds⟩
theorem q_cmp_Compare (x0 : Int) (x1 : Int) : runFn (ocOf [e_cmp_isNaN]) (olOf []) A 84 Go.Proofs.Try.f84 (Sh.mks e_cmp_Compare.sh [.I x0, .I x1]).1 (fun v os => some (v, os)) = c_cmp_Compare x0 x1 (fun y => some ((e_cmp_Compare.res.mk [.I y]).1, e_cmp_Compare.outs)) := by kernel_rfl
theorem e_cmp_Compare_ok : e_cmp_Compare.ok Go.Proofs.Try.prog A := by
  intro R ds k r h
  unfold e_cmp_Compare at h
  obtain ⟨x0, d0, rfl, h0⟩ := dI_some h
  obtain ⟨x1, d1, rfl, h1⟩ := dI_some h0
  obtain ⟨rfl, hE⟩ := dE_some h1
  obtain ⟨y, hy, hk⟩ := bnd_some hE
  refine ⟨_, hk, fn_ok px (fx := ⟨Go.Proofs.Try.func84, by kernel_rfl, by kernel_rfl⟩) (entsOK_cons e_cmp_isNaN_ok entsOK_nil) lentsOK_nil ?_⟩
  have hq := q_cmp_Compare x0 x1
  rw [c_cmp_Compare_bind] at hq
  rw [show c_cmp_Compare x0 x1 some = some y from hy] at hq
  exact hq

/-! loop.example/g00876/impl.sign -/
def c_impl_sign {R : Type} (x0 : Int) (k : Int → Option R) : Option R :=
  (cmp_Compare x0 (0 : Int)).bind (fun y0 =>
    k y0)
theorem c_impl_sign_bind {R : Type} (x0 : Int) (k : Int → Option R) : c_impl_sign x0 k = (c_impl_sign x0 some).bind k := by
  unfold c_impl_sign
  repeat' first
    | exact bnd_tail
    | exact bnd_none
    | exact bnd_leaf
    | apply bnd_ite
    | apply bnd_cond
    | apply bnd_sum
    | (apply bnd_bind; intro _)
    | intro _
def impl_sign (x0 : Int) : Option (Int) := c_impl_sign x0 some
def e_impl_sign : Ent := ⟨67, [.int .i64], .int .i64, [.undef], fun _ ds k => dI (fun x0 ds => dE ((impl_sign x0).bind (fun y => k [.I y])) ds) ds⟩
theorem q_impl_sign (x0 : Int) : runFn (ocOf [e_cmp_Compare]) (olOf []) A 67 Go.Proofs.Try.f67 (Sh.mks e_impl_sign.sh [.I x0]).1 (fun v os => some (v, os)) = c_impl_sign x0 (fun y => some ((e_impl_sign.res.mk [.I y]).1, e_impl_sign.outs)) := by kernel_rfl
theorem e_impl_sign_ok : e_impl_sign.ok Go.Proofs.Try.prog A := by
  intro R ds k r h
  unfold e_impl_sign at h
  obtain ⟨x0, d0, rfl, h0⟩ := dI_some h
  obtain ⟨rfl, hE⟩ := dE_some h0
  obtain ⟨y, hy, hk⟩ := bnd_some hE
  refine ⟨_, hk, fn_ok px (fx := ⟨Go.Proofs.Try.func67, by kernel_rfl, by kernel_rfl⟩) (entsOK_cons e_cmp_Compare_ok entsOK_nil) lentsOK_nil ?_⟩
  have hq := q_impl_sign x0
  rw [c_impl_sign_bind] at hq
  rw [show c_impl_sign x0 some = some y from hy] at hq
  exact hq

/-! loop.example/g00876/impl.meet -/
def c_impl_meet {R : Type} (x0 : Int) (x1 : Int) (x2 : Int) (x3 : Int) (x4 : Int) (x5 : Int) (x6 : Int) (x7 : Int) (k : Bool → Option R) : Option R :=
  (impl_onSegment x0 x1 x2 x3 x4 x5).bind (fun y0 =>
    bif y0 then
      k Bool.true
    else
      (impl_onSegment x0 x1 x2 x3 x6 x7).bind (fun y1 =>
        bif y1 then
          k Bool.true
        else
          (impl_onSegment x4 x5 x6 x7 x0 x1).bind (fun y2 =>
            bif y2 then
              k Bool.true
            else
              (impl_onSegment x4 x5 x6 x7 x2 x3).bind (fun y3 =>
                bif y3 then
                  k Bool.true
                else
                  (impl_cross x0 x1 x2 x3 x4 x5).bind (fun y4 =>
                    (impl_sign y4).bind (fun y5 =>
                      (impl_cross x0 x1 x2 x3 x6 x7).bind (fun y6 =>
                        (impl_sign y6).bind (fun y7 =>
                          bif Decidable.decide (Go.IntKind.i64.wrap (y5 * y7) < (0 : Int)) then
                            (impl_cross x4 x5 x6 x7 x0 x1).bind (fun y8 =>
                              (impl_sign y8).bind (fun y9 =>
                                (impl_cross x4 x5 x6 x7 x2 x3).bind (fun y10 =>
                                  (impl_sign y10).bind (fun y11 =>
                                    k (Decidable.decide (Go.IntKind.i64.wrap (y9 * y11) < (0 : Int)))))))
                          else
                            k Bool.false))))))))
theorem c_impl_meet_bind {R : Type} (x0 : Int) (x1 : Int) (x2 : Int) (x3 : Int) (x4 : Int) (x5 : Int) (x6 : Int) (x7 : Int) (k : Bool → Option R) : c_impl_meet x0 x1 x2 x3 x4 x5 x6 x7 k = (c_impl_meet x0 x1 x2 x3 x4 x5 x6 x7 some).bind k := by
  unfold c_impl_meet
  repeat' first
    | exact bnd_tail
    | exact bnd_none
    | exact bnd_leaf
    | apply bnd_ite
    | apply bnd_cond
    | apply bnd_sum
    | (apply bnd_bind; intro _)
    | intro _
def impl_meet (x0 : Int) (x1 : Int) (x2 : Int) (x3 : Int) (x4 : Int) (x5 : Int) (x6 : Int) (x7 : Int) : Option (Bool) := c_impl_meet x0 x1 x2 x3 x4 x5 x6 x7 some
def e_impl_meet : Ent := ⟨45, [.agg [.int .i64, .int .i64], .agg [.int .i64, .int .i64], .agg [.int .i64, .int .i64], .agg [.int .i64, .int .i64]], .bool, [.undef, .undef, .undef, .undef], fun _ ds k => dI (fun x0 ds => dI (fun x1 ds => dI (fun x2 ds => dI (fun x3 ds => dI (fun x4 ds => dI (fun x5 ds => dI (fun x6 ds => dI (fun x7 ds => dE ((impl_meet x0 x1 x2 x3 x4 x5 x6 x7).bind (fun y => k [.B y])) ds) ds) ds) ds) ds) ds) ds) ds) ds⟩
theorem q_impl_meet (x0 : Int) (x1 : Int) (x2 : Int) (x3 : Int) (x4 : Int) (x5 : Int) (x6 : Int) (x7 : Int) : runFn (ocOf [e_impl_onSegment, e_impl_cross, e_impl_sign]) (olOf []) A 45 Go.Proofs.Try.f45 (Sh.mks e_impl_meet.sh [.I x0, .I x1, .I x2, .I x3, .I x4, .I x5, .I x6, .I x7]).1 (fun v os => some (v, os)) = c_impl_meet x0 x1 x2 x3 x4 x5 x6 x7 (fun y => some ((e_impl_meet.res.mk [.B y]).1, e_impl_meet.outs)) := by kernel_rfl
theorem e_impl_meet_ok : e_impl_meet.ok Go.Proofs.Try.prog A := by
  intro R ds k r h
  unfold e_impl_meet at h
  obtain ⟨x0, d0, rfl, h0⟩ := dI_some h
  obtain ⟨x1, d1, rfl, h1⟩ := dI_some h0
  obtain ⟨x2, d2, rfl, h2⟩ := dI_some h1
  obtain ⟨x3, d3, rfl, h3⟩ := dI_some h2
  obtain ⟨x4, d4, rfl, h4⟩ := dI_some h3
  obtain ⟨x5, d5, rfl, h5⟩ := dI_some h4
  obtain ⟨x6, d6, rfl, h6⟩ := dI_some h5
  obtain ⟨x7, d7, rfl, h7⟩ := dI_some h6
  obtain ⟨rfl, hE⟩ := dE_some h7
  obtain ⟨y, hy, hk⟩ := bnd_some hE
  refine ⟨_, hk, fn_ok px (fx := ⟨Go.Proofs.Try.func45, by kernel_rfl, by kernel_rfl⟩) (entsOK_cons e_impl_onSegment_ok (entsOK_cons e_impl_cross_ok (entsOK_cons e_impl_sign_ok entsOK_nil))) lentsOK_nil ?_⟩
  have hq := q_impl_meet x0 x1 x2 x3 x4 x5 x6 x7
  rw [c_impl_meet_bind] at hq
  rw [show c_impl_meet x0 x1 x2 x3 x4 x5 x6 x7 some = some y from hy] at hq
  exact hq

/-! loop.example/g00876/impl.SidesCross -/
def c_impl_SidesCross {R : Type} (x0 : Int) (x1 : Int) (x2 : Int) (x3 : Int) (x4 : Int) (x5 : Int) (x6 : Int) (x7 : Int) (k : Bool × Bool → Option R) : Option R :=
  (impl_onPlan x0 x1).bind (fun y0 =>
    bif !y0 then
      k (Bool.false, Bool.false)
    else
      (impl_onPlan x2 x3).bind (fun y1 =>
        bif !y1 then
          k (Bool.false, Bool.false)
        else
          (impl_onPlan x4 x5).bind (fun y2 =>
            bif !y2 then
              k (Bool.false, Bool.false)
            else
              (impl_onPlan x6 x7).bind (fun y3 =>
                bif !y3 then
                  k (Bool.false, Bool.false)
                else
                  (impl_meet x0 x1 x2 x3 x4 x5 x6 x7).bind (fun y4 =>
                    k (y4, Bool.true))))))
theorem c_impl_SidesCross_bind {R : Type} (x0 : Int) (x1 : Int) (x2 : Int) (x3 : Int) (x4 : Int) (x5 : Int) (x6 : Int) (x7 : Int) (k : Bool × Bool → Option R) : c_impl_SidesCross x0 x1 x2 x3 x4 x5 x6 x7 k = (c_impl_SidesCross x0 x1 x2 x3 x4 x5 x6 x7 some).bind k := by
  unfold c_impl_SidesCross
  repeat' first
    | exact bnd_tail
    | exact bnd_none
    | exact bnd_leaf
    | apply bnd_ite
    | apply bnd_cond
    | apply bnd_sum
    | (apply bnd_bind; intro _)
    | intro _
def impl_SidesCross (x0 : Int) (x1 : Int) (x2 : Int) (x3 : Int) (x4 : Int) (x5 : Int) (x6 : Int) (x7 : Int) : Option (Bool × Bool) := c_impl_SidesCross x0 x1 x2 x3 x4 x5 x6 x7 some
def e_impl_SidesCross : Ent := ⟨16, [.agg [.int .i64, .int .i64], .agg [.int .i64, .int .i64], .agg [.int .i64, .int .i64], .agg [.int .i64, .int .i64]], .tup [.bool, .bool], [.undef, .undef, .undef, .undef], fun _ ds k => dI (fun x0 ds => dI (fun x1 ds => dI (fun x2 ds => dI (fun x3 ds => dI (fun x4 ds => dI (fun x5 ds => dI (fun x6 ds => dI (fun x7 ds => dE ((impl_SidesCross x0 x1 x2 x3 x4 x5 x6 x7).bind (fun y => k [.B y.1, .B y.2])) ds) ds) ds) ds) ds) ds) ds) ds) ds⟩
theorem q_impl_SidesCross (x0 : Int) (x1 : Int) (x2 : Int) (x3 : Int) (x4 : Int) (x5 : Int) (x6 : Int) (x7 : Int) : runFn (ocOf [e_impl_onPlan, e_impl_meet]) (olOf []) A 16 Go.Proofs.Try.f16 (Sh.mks e_impl_SidesCross.sh [.I x0, .I x1, .I x2, .I x3, .I x4, .I x5, .I x6, .I x7]).1 (fun v os => some (v, os)) = c_impl_SidesCross x0 x1 x2 x3 x4 x5 x6 x7 (fun y => some ((e_impl_SidesCross.res.mk [.B y.1, .B y.2]).1, e_impl_SidesCross.outs)) := by kernel_rfl
theorem e_impl_SidesCross_ok : e_impl_SidesCross.ok Go.Proofs.Try.prog A := by
  intro R ds k r h
  unfold e_impl_SidesCross at h
  obtain ⟨x0, d0, rfl, h0⟩ := dI_some h
  obtain ⟨x1, d1, rfl, h1⟩ := dI_some h0
  obtain ⟨x2, d2, rfl, h2⟩ := dI_some h1
  obtain ⟨x3, d3, rfl, h3⟩ := dI_some h2
  obtain ⟨x4, d4, rfl, h4⟩ := dI_some h3
  obtain ⟨x5, d5, rfl, h5⟩ := dI_some h4
  obtain ⟨x6, d6, rfl, h6⟩ := dI_some h5
  obtain ⟨x7, d7, rfl, h7⟩ := dI_some h6
  obtain ⟨rfl, hE⟩ := dE_some h7
  obtain ⟨y, hy, hk⟩ := bnd_some hE
  refine ⟨_, hk, fn_ok px (fx := ⟨Go.Proofs.Try.func16, by kernel_rfl, by kernel_rfl⟩) (entsOK_cons e_impl_onPlan_ok (entsOK_cons e_impl_meet_ok entsOK_nil)) lentsOK_nil ?_⟩
  have hq := q_impl_SidesCross x0 x1 x2 x3 x4 x5 x6 x7
  rw [c_impl_SidesCross_bind] at hq
  rw [show c_impl_SidesCross x0 x1 x2 x3 x4 x5 x6 x7 some = some y from hy] at hq
  exact hq

/-! loop.example/g00876/laws.FnExactSidesCross -/
def c_laws_FnExactSidesCross {R : Type} (x0 : Int) (x1 : Int) (x2 : Int) (x3 : Int) (x4 : Int) (x5 : Int) (x6 : Int) (x7 : Int) (k : Bool → Option R) : Option R :=
  (laws_toCorner x0 x1).bind (fun y0 =>
    (laws_toCorner x2 x3).bind (fun y1 =>
      (laws_toCorner x4 x5).bind (fun y2 =>
        (laws_toCorner x6 x7).bind (fun y3 =>
          (spec_SidesCross y0.fst y0.snd y1.fst y1.snd y2.fst y2.snd y3.fst y3.snd).bind (fun y4 =>
            (laws_toCorner x0 x1).bind (fun y5 =>
              (laws_toCorner x2 x3).bind (fun y6 =>
                (laws_toCorner x4 x5).bind (fun y7 =>
                  (laws_toCorner x6 x7).bind (fun y8 =>
                    (impl_SidesCross y5.fst y5.snd y6.fst y6.snd y7.fst y7.snd y8.fst y8.snd).bind (fun y9 =>
                      bif !y9.fst == y4.fst then
                        k Bool.false
                      else
                        bif !y9.snd == y4.snd then
                          k Bool.false
                        else
                          k Bool.true))))))))))
theorem c_laws_FnExactSidesCross_bind {R : Type} (x0 : Int) (x1 : Int) (x2 : Int) (x3 : Int) (x4 : Int) (x5 : Int) (x6 : Int) (x7 : Int) (k : Bool → Option R) : c_laws_FnExactSidesCross x0 x1 x2 x3 x4 x5 x6 x7 k = (c_laws_FnExactSidesCross x0 x1 x2 x3 x4 x5 x6 x7 some).bind k := by
  unfold c_laws_FnExactSidesCross
  repeat' first
    | exact bnd_tail
    | exact bnd_none
    | exact bnd_leaf
    | apply bnd_ite
    | apply bnd_cond
    | apply bnd_sum
    | (apply bnd_bind; intro _)
    | intro _
def laws_FnExactSidesCross (x0 : Int) (x1 : Int) (x2 : Int) (x3 : Int) (x4 : Int) (x5 : Int) (x6 : Int) (x7 : Int) : Option (Bool) := c_laws_FnExactSidesCross x0 x1 x2 x3 x4 x5 x6 x7 some
def e_laws_FnExactSidesCross : Ent := ⟨4, [.agg [.int .i64, .int .i64], .agg [.int .i64, .int .i64], .agg [.int .i64, .int .i64], .agg [.int .i64, .int .i64]], .bool, [.undef, .undef, .undef, .undef], fun _ ds k => dI (fun x0 ds => dI (fun x1 ds => dI (fun x2 ds => dI (fun x3 ds => dI (fun x4 ds => dI (fun x5 ds => dI (fun x6 ds => dI (fun x7 ds => dE ((laws_FnExactSidesCross x0 x1 x2 x3 x4 x5 x6 x7).bind (fun y => k [.B y])) ds) ds) ds) ds) ds) ds) ds) ds) ds⟩
theorem q_laws_FnExactSidesCross (x0 : Int) (x1 : Int) (x2 : Int) (x3 : Int) (x4 : Int) (x5 : Int) (x6 : Int) (x7 : Int) : runFn (ocOf [e_laws_toCorner, e_spec_SidesCross, e_impl_SidesCross]) (olOf []) A 4 Go.Proofs.Try.f4 (Sh.mks e_laws_FnExactSidesCross.sh [.I x0, .I x1, .I x2, .I x3, .I x4, .I x5, .I x6, .I x7]).1 (fun v os => some (v, os)) = c_laws_FnExactSidesCross x0 x1 x2 x3 x4 x5 x6 x7 (fun y => some ((e_laws_FnExactSidesCross.res.mk [.B y]).1, e_laws_FnExactSidesCross.outs)) := by kernel_rfl
theorem e_laws_FnExactSidesCross_ok : e_laws_FnExactSidesCross.ok Go.Proofs.Try.prog A := by
  intro R ds k r h
  unfold e_laws_FnExactSidesCross at h
  obtain ⟨x0, d0, rfl, h0⟩ := dI_some h
  obtain ⟨x1, d1, rfl, h1⟩ := dI_some h0
  obtain ⟨x2, d2, rfl, h2⟩ := dI_some h1
  obtain ⟨x3, d3, rfl, h3⟩ := dI_some h2
  obtain ⟨x4, d4, rfl, h4⟩ := dI_some h3
  obtain ⟨x5, d5, rfl, h5⟩ := dI_some h4
  obtain ⟨x6, d6, rfl, h6⟩ := dI_some h5
  obtain ⟨x7, d7, rfl, h7⟩ := dI_some h6
  obtain ⟨rfl, hE⟩ := dE_some h7
  obtain ⟨y, hy, hk⟩ := bnd_some hE
  refine ⟨_, hk, fn_ok px (fx := ⟨Go.Proofs.Try.func4, by kernel_rfl, by kernel_rfl⟩) (entsOK_cons e_laws_toCorner_ok (entsOK_cons e_spec_SidesCross_ok (entsOK_cons e_impl_SidesCross_ok entsOK_nil))) lentsOK_nil ?_⟩
  have hq := q_laws_FnExactSidesCross x0 x1 x2 x3 x4 x5 x6 x7
  rw [c_laws_FnExactSidesCross_bind] at hq
  rw [show c_laws_FnExactSidesCross x0 x1 x2 x3 x4 x5 x6 x7 some = some y from hy] at hq
  exact hq
end
end Go.Proofs.Ytkcclgcmpdgdjaa
