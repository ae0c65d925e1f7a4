/- An evaluator of the model's programs over plain values, proved sound, part 5 of 5. It is used by the claim's law; it has no condition of its own. -/
import Derived.Test.YticcpkmednijlaaRaiU4
import Derived.Carry
import Derived.ChangeOld
import Derived.WideShapes
import Derived.RowKit
/- Shapes: values with holes; contracts told by shapes. -/
set_option linter.unusedVariables false
set_option linter.unusedSimpArgs false
namespace Go.Rai

inductive Dat where
  | I (n : Int)
  | B (b : Bool)
  | S (s : ByteArray)
  | L (l : List D)
  | N (n : Nat)

/-- a value's shape; its data are taken from a list -/
inductive Sh where
  | undef
  | void
  | int (k : IntKind)
  | bool
  | str
  | agg (l : List Sh)
  | arr (n : Nat) (e : Ty)
  | own (e : Ty)
  | rd (e : Ty)
  | lst (e : Ty) (l : List Sh)
  | nilsl
  | emp (e : Ty)
  | obox (s : Sh)
  | rp (s : Sh)
  | full (s : Nat) (p : List Nat) (e : Ty)
  | sub (s : Nat) (p : List Nat) (e : Ty)
  | ptr (s : Nat) (p : List Nat)
  | fn (f : FuncId) (caps : List Sh)
  | nilfn
  | nilptr
  | tup (l : List Sh)

mutual
/-- the value of a shape; what is left of the data -/
def Sh.mk : Sh → List Dat → V × List Dat
  | .undef, r => (.undef, r)
  | .void, r => (.void, r)
  | .int k, .I n :: r => (.int k n, r)
  | .bool, .B b :: r => (.bool b, r)
  | .str, .S s :: r => (.str s, r)
  | .agg l, r => match Sh.mks l r with
    | (vs, r') => (.agg vs, r')
  | .arr n e, .L l :: r => (.arr n e l, r)
  | .own e, .L l :: r => (.own e l, r)
  | .rd e, .L l :: r => (.rd e l, r)
  | .lst e l, r => match Sh.mks l r with
    | (vs, r') => (.lst e vs, r')
  | .nilsl, r => (.nilsl, r)
  | .emp e, r => (.emp e, r)
  | .obox s, r => match Sh.mk s r with
    | (v, r') => (.obox v, r')
  | .rp s, r => match Sh.mk s r with
    | (v, r') => (.rp v, r')
  | .full s p e, r => (.full s p e, r)
  | .sub s p e, .N o :: .N n :: r => (.sub s p o n e, r)
  | .ptr s p, r => (.ptr s p, r)
  | .fn f l, r => match Sh.mks l r with
    | (vs, r') => (.fn f vs, r')
  | .nilfn, r => (.nilfn, r)
  | .nilptr, r => (.nilptr, r)
  | .tup l, r => match Sh.mks l r with
    | (vs, r') => (.tup vs, r')
  | _, r => (.undef, r)
def Sh.mks : List Sh → List Dat → List V × List Dat
  | [], r => ([], r)
  | s :: l, r => match Sh.mk s r with
    | (v, r') => match Sh.mks l r' with
      | (vs, r'') => (v :: vs, r'')
end

def leq : List Nat → List Nat → Bool
  | [], [] => true
  | a :: l, b :: m => band (Nat.beq a b) (leq l m)
  | _, _ => false

mutual
def Sh.un : Sh → V → Option (List Dat)
  | .undef, .undef => some []
  | .void, .void => some []
  | .int k, .int k' n => match keq k k' with
    | true => some [.I n]
    | false => none
  | .bool, .bool b => some [.B b]
  | .str, .str s => some [.S s]
  | .agg l, .agg vs => Sh.uns l vs
  | .arr n e, .arr m e' l => match band (Nat.beq n m) (e.beq e') with
    | true => some [.L l]
    | false => none
  | .own e, .own e' l => match e.beq e' with
    | true => some [.L l]
    | false => none
  | .rd e, .rd e' l => match e.beq e' with
    | true => some [.L l]
    | false => none
  | .lst e l, .lst e' vs => match e.beq e' with
    | true => Sh.uns l vs
    | false => none
  | .nilsl, .nilsl => some []
  | .emp e, .emp e' => match e.beq e' with
    | true => some []
    | false => none
  | .obox s, .obox v => Sh.un s v
  | .rp s, .rp v => Sh.un s v
  | .full s p e, .full s' p' e' => match band (Nat.beq s s') (band (leq p p') (e.beq e')) with
    | true => some []
    | false => none
  | .sub s p e, .sub s' p' o n e' => match band (Nat.beq s s') (band (leq p p') (e.beq e')) with
    | true => some [.N o, .N n]
    | false => none
  | .ptr s p, .ptr s' p' => match band (Nat.beq s s') (leq p p') with
    | true => some []
    | false => none
  | .fn f l, .fn g vs => match Nat.beq f g with
    | true => Sh.uns l vs
    | false => none
  | .nilfn, .nilfn => some []
  | .nilptr, .nilptr => some []
  | .tup l, .tup vs => Sh.uns l vs
  | _, _ => none
def Sh.uns : List Sh → List V → Option (List Dat)
  | [], [] => some []
  | s :: l, v :: vs => match Sh.un s v with
    | some d => match Sh.uns l vs with
      | some ds => some (cat d ds)
      | none => none
    | none => none
  | _, _ => none
end

theorem leq_eq : ∀ {l m : List Nat}, leq l m = true → l = m
  | [], [], _ => rfl
  | a :: l, b :: m, h => by
    unfold leq at h
    rw [band_true] at h
    rw [Nat.eq_of_beq_eq_true h.1, leq_eq h.2]
  | [], _ :: _, h => by simp [leq] at h
  | _ :: _, [], h => by simp [leq] at h

mutual
theorem Sh.un_mk : ∀ (s : Sh) {v : V} {ds : List Dat}, s.un v = some ds → ∀ r, s.mk (ds ++ r) = (v, r)
  | .undef, v, ds, h, r => by cases v <;> simp [Sh.un] at h <;> subst h <;> simp [Sh.mk]
  | .void, v, ds, h, r => by cases v <;> simp [Sh.un] at h <;> subst h <;> simp [Sh.mk]
  | .int k, v, ds, h, r => by
    cases v <;> simp only [Sh.un] at h <;> try (cases h; done)
    split at h
    · rename_i hk; have := keq_eq hk; subst this; simp at h; subst h; simp [Sh.mk]
    · cases h
  | .bool, v, ds, h, r => by cases v <;> simp [Sh.un] at h <;> subst h <;> simp [Sh.mk]
  | .str, v, ds, h, r => by cases v <;> simp [Sh.un] at h <;> subst h <;> simp [Sh.mk]
  | .agg l, v, ds, h, r => by
    cases v <;> simp only [Sh.un] at h <;> try (cases h; done)
    unfold Sh.mk
    rw [Sh.uns_mk l h r]
  | .arr n e, v, ds, h, r => by
    cases v <;> simp only [Sh.un] at h <;> try (cases h; done)
    split at h
    · rename_i hk
      rw [band_true] at hk
      have e1 := Nat.eq_of_beq_eq_true hk.1; have e2 := Ty.beq_eq _ _ hk.2
      subst e1; subst e2; simp at h; subst h; simp [Sh.mk]
    · cases h
  | .own e, v, ds, h, r => by
    cases v <;> simp only [Sh.un] at h <;> try (cases h; done)
    split at h
    · rename_i hk; have := Ty.beq_eq _ _ hk; subst this; simp at h; subst h; simp [Sh.mk]
    · cases h
  | .rd e, v, ds, h, r => by
    cases v <;> simp only [Sh.un] at h <;> try (cases h; done)
    split at h
    · rename_i hk; have := Ty.beq_eq _ _ hk; subst this; simp at h; subst h; simp [Sh.mk]
    · cases h
  | .lst e l, v, ds, h, r => by
    cases v <;> simp only [Sh.un] at h <;> try (cases h; done)
    split at h
    · rename_i hk; have := Ty.beq_eq _ _ hk; subst this
      unfold Sh.mk
      rw [Sh.uns_mk l h r]
    · cases h
  | .nilsl, v, ds, h, r => by cases v <;> simp [Sh.un] at h <;> subst h <;> simp [Sh.mk]
  | .emp e, v, ds, h, r => by
    cases v <;> simp only [Sh.un] at h <;> try (cases h; done)
    split at h
    · rename_i hk; have := Ty.beq_eq _ _ hk; subst this; simp at h; subst h; simp [Sh.mk]
    · cases h
  | .obox s, v, ds, h, r => by
    cases v <;> simp only [Sh.un] at h <;> try (cases h; done)
    unfold Sh.mk
    rw [Sh.un_mk s h r]
  | .rp s, v, ds, h, r => by
    cases v <;> simp only [Sh.un] at h <;> try (cases h; done)
    unfold Sh.mk
    rw [Sh.un_mk s h r]
  | .full s p e, v, ds, h, r => by
    cases v <;> simp only [Sh.un] at h <;> try (cases h; done)
    split at h
    · rename_i hk
      rw [band_true, band_true] at hk
      have e1 := Nat.eq_of_beq_eq_true hk.1; have e2 := leq_eq hk.2.1; have e3 := Ty.beq_eq _ _ hk.2.2
      subst e1; subst e2; subst e3; simp at h; subst h; simp [Sh.mk]
    · cases h
  | .sub s p e, v, ds, h, r => by
    cases v <;> simp only [Sh.un] at h <;> try (cases h; done)
    split at h
    · rename_i hk
      rw [band_true, band_true] at hk
      have e1 := Nat.eq_of_beq_eq_true hk.1; have e2 := leq_eq hk.2.1; have e3 := Ty.beq_eq _ _ hk.2.2
      subst e1; subst e2; subst e3; simp at h; subst h; simp [Sh.mk]
    · cases h
  | .ptr s p, v, ds, h, r => by
    cases v <;> simp only [Sh.un] at h <;> try (cases h; done)
    split at h
    · rename_i hk
      rw [band_true] at hk
      have e1 := Nat.eq_of_beq_eq_true hk.1; have e2 := leq_eq hk.2
      subst e1; subst e2; simp at h; subst h; simp [Sh.mk]
    · cases h
  | .fn f l, v, ds, h, r => by
    cases v <;> simp only [Sh.un] at h <;> try (cases h; done)
    split at h
    · rename_i hk; have := Nat.eq_of_beq_eq_true hk; subst this
      unfold Sh.mk
      rw [Sh.uns_mk l h r]
    · cases h
  | .nilfn, v, ds, h, r => by cases v <;> simp [Sh.un] at h <;> subst h <;> simp [Sh.mk]
  | .nilptr, v, ds, h, r => by cases v <;> simp [Sh.un] at h <;> subst h <;> simp [Sh.mk]
  | .tup l, v, ds, h, r => by
    cases v <;> simp only [Sh.un] at h <;> try (cases h; done)
    unfold Sh.mk
    rw [Sh.uns_mk l h r]
theorem Sh.uns_mk : ∀ (l : List Sh) {vs : List V} {ds : List Dat}, Sh.uns l vs = some ds → ∀ r, Sh.mks l (ds ++ r) = (vs, r)
  | [], vs, ds, h, r => by cases vs <;> simp [Sh.uns] at h; subst h; simp [Sh.mks]
  | s :: l, [], ds, h, r => by simp [Sh.uns] at h
  | s :: l, v :: vs, ds, h, r => by
    simp only [Sh.uns] at h
    split at h
    · rename_i d hd
      split at h
      · rename_i ds' hds
        simp only [Option.some.injEq] at h
        subst h
        unfold Sh.mks
        rw [cat_eq, List.append_assoc, Sh.un_mk s hd]
        simp only
        rw [Sh.uns_mk l hds]
      · cases h
    · cases h
end

/-! ### contracts -/
/-- a function at a shape of its arguments -/
structure Ent where
  f : FuncId
  sh : List Sh
  res : Sh
  outs : List Sh
  m : ∀ (R : Type), List Dat → (List Dat → Option R) → Option R

def Ent.ok (P : Program) (A : Ann) (e : Ent) : Prop :=
  ∀ (R : Type) (ds : List Dat) (k : List Dat → Option R) (r : R), e.m R ds k = some r → ∃ rs, k rs = some r ∧ CallsOK P (fun i => isIo (A.mode e.f i)) e.f (Sh.mks e.sh ds).1 (e.res.mk rs).1 (Sh.mks e.outs (e.res.mk rs).2).1

def ocOf {R : Type} : List Ent → OC R
  | [], _, _, _ => none
  | e :: es, f, args, κ => match Nat.beq e.f f with
    | true => match Sh.uns e.sh args with
      | some ds => e.m R ds (fun rs => κ (e.res.mk rs).1 (Sh.mks e.outs (e.res.mk rs).2).1)
      | none => ocOf es f args κ
    | false => ocOf es f args κ

theorem ocOf_ok {P : Program} {A : Ann} {R : Type} : ∀ {es : List Ent}, (∀ e ∈ es, e.ok P A) → OCok P A (ocOf (R := R) es)
  | [], _ => fun f args κ r h => by simp [ocOf] at h
  | e :: es, hes => by
    intro f args κ r h
    have rest : ocOf es f args κ = some r → ∃ res outs, κ res outs = some r ∧ CallsOK P (fun i => isIo (A.mode f i)) f args res outs := fun h => ocOf_ok (fun e he => hes e (by simp [he])) f args κ r h
    unfold ocOf at h
    split at h
    · rename_i hf
      have := Nat.eq_of_beq_eq_true hf
      subst this
      split at h
      · rename_i ds hds
        obtain ⟨rs, h1, h2⟩ := hes e (by simp) R ds _ r h
        have hm := Sh.uns_mk e.sh hds []
        rw [List.append_nil] at hm
        rw [hm] at h2
        exact ⟨_, _, h1, h2⟩
      · exact rest h
    · exact rest h

/-- a state's shape -/
structure SSt where
  sl : List Sh
  bl : List (Nat × Sh)

def mkB : List (Nat × Sh) → List Dat → BL
  | [], _ => []
  | (k, s) :: l, r => match s.mk r with
    | (v, r') => (k, v) :: mkB l r'

def SSt.mk' (s : SSt) (ds : List Dat) : St :=
  match Sh.mks s.sl ds with
  | (vs, r) => ⟨vs, mkB s.bl r⟩

def unB : List (Nat × Sh) → BL → Option (List Dat)
  | [], [] => some []
  | (k, s) :: l, (k', v) :: b => match Nat.beq k k' with
    | true => match s.un v with
      | some d => match unB l b with
        | some ds => some (cat d ds)
        | none => none
      | none => none
    | false => none
  | _, _ => none

def SSt.un (s : SSt) (σ : St) : Option (List Dat) :=
  match Sh.uns s.sl σ.sl with
  | some d => match unB s.bl σ.bl with
    | some ds => some (cat d ds)
    | none => none
  | none => none

theorem unB_mk : ∀ {l : List (Nat × Sh)} {b : BL} {ds : List Dat}, unB l b = some ds → mkB l ds = b
  | [], [], ds, h => by simp [unB] at h; subst h; rfl
  | [], _ :: _, ds, h => by simp [unB] at h
  | _ :: _, [], ds, h => by simp [unB] at h
  | (k, s) :: l, (k', v) :: b, ds, h => by
    simp only [unB] at h
    split at h
    · rename_i hk
      have := Nat.eq_of_beq_eq_true hk
      subst this
      split at h
      · rename_i d hd
        split at h
        · rename_i ds' hds
          simp only [Option.some.injEq] at h
          subst h
          unfold mkB
          rw [cat_eq, Sh.un_mk s hd]
          simp only
          rw [unB_mk hds]
        · cases h
      · cases h
    · cases h

theorem SSt.un_mk {s : SSt} {σ : St} {ds : List Dat} (h : s.un σ = some ds) : s.mk' ds = σ := by
  unfold SSt.un at h
  split at h
  · rename_i d hd
    split at h
    · rename_i ds' hds
      simp only [Option.some.injEq] at h
      subst h
      unfold SSt.mk'
      rw [cat_eq, Sh.uns_mk s.sl hd]
      simp only
      rw [unB_mk hds]
    · cases h
  · cases h

/-- a loop at a shape of the state at its head; its ends -/
structure Lent where
  id : Nat
  sh : SSt
  ex : List (Ex × SSt)
  m : ∀ (R : Type), List Dat → (Nat → List Dat → Option R) → Option R

def Lent.ok (P : Program) (c : Code) (e : Lent) : Prop :=
  ∀ (R : Type) (ds : List Dat) (k : Nat → List Dat → Option R) (r : R), e.m R ds k = some r → ∃ i rs x s', k i rs = some r ∧ nth e.ex i = some (x, s') ∧ LoopOK P c (e.sh.mk' ds) x (s'.mk' rs)

def endK {R : Type} (ex : List (Ex × SSt)) (κ : Ex → St → Option R) (i : Nat) (rs : List Dat) : Option R :=
  match nth ex i with
  | some (x, s') => κ x (s'.mk' rs)
  | none => none

def olOf {R : Type} : List Lent → OL R
  | [], _, _, _, _ => none
  | e :: es, id, c, σ, κ => match Nat.beq e.id id with
    | true => match e.sh.un σ with
      | some ds => e.m R ds (endK e.ex κ)
      | none => olOf es id c σ κ
    | false => olOf es id c σ κ

/-- a table of loops, for a function's body -/
def LentsOK (P : Program) (C : Code → Prop) (es : List Lent) : Prop :=
  ∀ c, C c → ∀ e ∈ es, e.id = regionOf c → e.ok P c

theorem olOf_ok {P : Program} {C : Code → Prop} {R : Type} {es : List Lent} (h : LentsOK P C es) : OLok P C (olOf (R := R) es) := by
  intro c hc σ κ r
  have key : ∀ (l : List Lent), (∀ e ∈ l, e.id = regionOf c → e.ok P c) → olOf l (regionOf c) c σ κ = some r → ∃ e σ', κ e σ' = some r ∧ LoopOK P c σ e σ' := by
    intro l
    induction l with
    | nil => intro _ h; simp [olOf] at h
    | cons e l ih =>
      intro hl h
      have rest := ih (fun e he => hl e (by simp [he]))
      unfold olOf at h
      split at h
      · rename_i hid
        split at h
        · rename_i ds hds
          obtain ⟨i, rs, x, s', h1, h2, h3⟩ := hl e (by simp) (Nat.eq_of_beq_eq_true hid) R ds _ r h
          rw [SSt.un_mk hds] at h3
          unfold endK at h1
          rw [h2] at h1
          exact ⟨x, _, h1, h3⟩
        · exact rest h
      · exact rest h
  exact key es (fun e he => h c hc e he)

/-! ### fuel -/
open Classical in
/-- what a family settles on -/
noncomputable def ev {Y : Type} (f : Nat → Option Y) : Option Y :=
  if h : ∃ y n, ∀ m, n ≤ m → f m = some y then some h.choose else none

theorem ev_some {Y : Type} {f : Nat → Option Y} {y : Y} (h : ev f = some y) : ∃ n, f n = some y := by
  unfold ev at h
  split at h
  · rename_i hx
    simp only [Option.some.injEq] at h
    obtain ⟨n, hn⟩ := hx.choose_spec
    rw [← h]
    exact ⟨n, hn n (Nat.le_refl n)⟩
  · cases h

theorem ev_eq {Y : Type} {f : Nat → Option Y} {y : Y} (n : Nat) (h : ∀ m, n ≤ m → f m = some y) : ev f = some y := by
  unfold ev
  have hx : ∃ y n, ∀ m, n ≤ m → f m = some y := ⟨y, n, h⟩
  rw [dif_pos hx]
  obtain ⟨n', hn'⟩ := hx.choose_spec
  have h1 := hn' (max n n') (Nat.le_max_right _ _)
  have h2 := h (max n n') (Nat.le_max_left _ _)
  rw [h1] at h2
  exact h2

/-! ### continuations -/
theorem bnd_ite {α β : Type} {p : Prop} [Decidable p] {a b : Option β} {a' b' : Option α} {k : α → Option β} (h1 : a = a'.bind k) (h2 : b = b'.bind k) : (if p then a else b) = (if p then a' else b').bind k := by
  split
  · exact h1
  · exact h2

theorem bnd_cond {α β : Type} {p : Bool} {a b : Option β} {a' b' : Option α} {k : α → Option β} (h1 : a = a'.bind k) (h2 : b = b'.bind k) : (bif p then a else b) = (bif p then a' else b').bind k := by
  cases p
  · exact h2
  · exact h1

theorem bnd_bind {α β γ : Type} {x : Option γ} {g : γ → Option β} {g' : γ → Option α} {k : α → Option β} (h : ∀ y, g y = (g' y).bind k) : x.bind g = (x.bind g').bind k := by
  cases x with
  | none => rfl
  | some y => exact h y

theorem bnd_leaf {α β : Type} {x : α} {k : α → Option β} : k x = (some x).bind k := rfl
theorem bnd_none {α β : Type} {k : α → Option β} : (none : Option β) = (none : Option α).bind k := rfl
theorem bnd_tail {α β : Type} {x : Option α} {k : α → Option β} : x.bind k = (x.bind some).bind k := by cases x <;> rfl

end Go.Rai

/- From evaluation to contracts. -/
set_option linter.unusedVariables false
set_option linter.unusedSimpArgs false
namespace Go.Rai

def dI {R : Type} (g : Int → List Dat → Option R) : List Dat → Option R
  | .I n :: r => g n r
  | _ => none
def dB {R : Type} (g : Bool → List Dat → Option R) : List Dat → Option R
  | .B n :: r => g n r
  | _ => none
def dS {R : Type} (g : ByteArray → List Dat → Option R) : List Dat → Option R
  | .S n :: r => g n r
  | _ => none
def dL {R : Type} (g : List D → List Dat → Option R) : List Dat → Option R
  | .L n :: r => g n r
  | _ => none
def dN {R : Type} (g : Nat → List Dat → Option R) : List Dat → Option R
  | .N n :: r => g n r
  | _ => none
def dE {R : Type} (g : Option R) : List Dat → Option R
  | [] => g
  | _ => none

theorem dI_some {R : Type} {g : Int → List Dat → Option R} {ds : List Dat} {r : R} (h : dI g ds = some r) : ∃ n ds', ds = .I n :: ds' ∧ g n ds' = some r := by
  unfold dI at h
  split at h
  · exact ⟨_, _, rfl, h⟩
  · cases h
theorem dB_some {R : Type} {g : Bool → List Dat → Option R} {ds : List Dat} {r : R} (h : dB g ds = some r) : ∃ n ds', ds = .B n :: ds' ∧ g n ds' = some r := by
  unfold dB at h
  split at h
  · exact ⟨_, _, rfl, h⟩
  · cases h
theorem dS_some {R : Type} {g : ByteArray → List Dat → Option R} {ds : List Dat} {r : R} (h : dS g ds = some r) : ∃ n ds', ds = .S n :: ds' ∧ g n ds' = some r := by
  unfold dS at h
  split at h
  · exact ⟨_, _, rfl, h⟩
  · cases h
theorem dL_some {R : Type} {g : List D → List Dat → Option R} {ds : List Dat} {r : R} (h : dL g ds = some r) : ∃ n ds', ds = .L n :: ds' ∧ g n ds' = some r := by
  unfold dL at h
  split at h
  · exact ⟨_, _, rfl, h⟩
  · cases h
theorem dN_some {R : Type} {g : Nat → List Dat → Option R} {ds : List Dat} {r : R} (h : dN g ds = some r) : ∃ n ds', ds = .N n :: ds' ∧ g n ds' = some r := by
  unfold dN at h
  split at h
  · exact ⟨_, _, rfl, h⟩
  · cases h
theorem dE_some {R : Type} {g : Option R} {ds : List Dat} {r : R} (h : dE g ds = some r) : ds = [] ∧ g = some r := by
  unfold dE at h
  split at h
  · exact ⟨rfl, h⟩
  · cases h

theorem bnd_some {X R : Type} {x : Option X} {g : X → Option R} {r : R} (h : x.bind g = some r) : ∃ y, x = some y ∧ g y = some r := by
  cases x with
  | none => cases h
  | some y => exact ⟨y, rfl, h⟩

theorem bnd_sum {α β X Y : Type} {a : X → Option β} {b : Y → Option β} {a' : X → Option α} {b' : Y → Option α} {k : α → Option β} (y : X ⊕ Y) (h1 : ∀ y, a y = (a' y).bind k) (h2 : ∀ y, b y = (b' y).bind k) : Sum.elim a b y = (Sum.elim a' b' y).bind k := by
  cases y with
  | inl y => exact h1 y
  | inr y => exact h2 y

/-! ### a function's loops -/
def uniqB : List Nat → Bool
  | [] => true
  | a :: l => band (bneg (isIn l a)) (uniqB l)

def mapR : List Code → List Nat
  | [] => []
  | c :: l => regionOf c :: mapR l

def bodyOf (fn : Func) : Code := match fn.body with
  | some c => c
  | none => .skip

def codeAt (body : Code) (id : Nat) : Code := match loopAt id body with
  | some c => c
  | none => .skip

theorem mapR_eq (l : List Code) : mapR l = l.map regionOf := by
  induction l with
  | nil => rfl
  | cons a l ih => simp [mapR, ih]

theorem uniqB_nodup : ∀ {l : List Nat}, uniqB l = true → l.Nodup
  | [], _ => List.nodup_nil
  | a :: l, h => by
    unfold uniqB at h
    rw [band_true, bneg_true] at h
    refine List.nodup_cons.2 ⟨fun hm => ?_, uniqB_nodup h.2⟩
    rw [isIn_mem.2 hm] at h
    cases h.1

theorem loopAt_mem : ∀ {b : Code} {id : Nat} {c : Code}, loopAt id b = some c → c ∈ loopsOf b ∧ regionOf c = id := by
  intro b
  induction b with
  | seq x y ih1 ih2 =>
    intro id c h
    simp only [loopAt] at h
    split at h
    · rename_i c' h1
      simp only [Option.some.injEq] at h
      subst h
      have := ih1 h1
      exact ⟨by simp [loopsOf, this.1], this.2⟩
    · have := ih2 h
      exact ⟨by simp [loopsOf, this.1], this.2⟩
  | cond _ x y ih1 ih2 =>
    intro id c h
    simp only [loopAt] at h
    split at h
    · rename_i c' h1
      simp only [Option.some.injEq] at h
      subst h
      have := ih1 h1
      exact ⟨by simp [loopsOf, this.1], this.2⟩
    · have := ih2 h
      exact ⟨by simp [loopsOf, this.1], this.2⟩
  | block _ x ih =>
    intro id c h
    simp only [loopAt] at h
    have := ih h
    exact ⟨by simp [loopsOf, this.1], this.2⟩
  | loop x ih =>
    intro id c h
    simp only [loopAt] at h
    split at h
    · rename_i hb
      simp only [Option.some.injEq] at h
      subst h
      exact ⟨by simp [loopsOf], Nat.eq_of_beq_eq_true hb⟩
    · have := ih h
      exact ⟨by simp [loopsOf, this.1], this.2⟩
  | _ => intro id c h; simp [loopAt] at h

theorem loopAt_uniq : ∀ {b : Code}, ((loopsOf b).map regionOf).Nodup → ∀ l ∈ loopsOf b, loopAt (regionOf l) b = some l := by
  intro b
  have two : ∀ {x y : Code}, (((loopsOf x) ++ (loopsOf y)).map regionOf).Nodup → (((loopsOf x).map regionOf).Nodup → ∀ l ∈ loopsOf x, loopAt (regionOf l) x = some l) → (((loopsOf y).map regionOf).Nodup → ∀ l ∈ loopsOf y, loopAt (regionOf l) y = some l) →
      ∀ l ∈ loopsOf x ++ loopsOf y, (match loopAt (regionOf l) x with | some c => some c | none => loopAt (regionOf l) y) = some l := by
    intro x y hnd ih1 ih2 l hl
    rw [List.map_append, List.nodup_append] at hnd
    obtain ⟨n1, n2, n3⟩ := hnd
    rcases List.mem_append.1 hl with hl | hl
    · rw [ih1 n1 l hl]
    · cases hq : loopAt (regionOf l) x with
      | none => exact ih2 n2 l hl
      | some c =>
        have := loopAt_mem hq
        exact absurd this.2 (fun e => n3 (regionOf c) (List.mem_map.2 ⟨c, this.1, rfl⟩) (regionOf l) (List.mem_map.2 ⟨l, hl, rfl⟩) e)
  induction b with
  | seq x y ih1 ih2 => intro hnd l hl; simp only [loopsOf] at hnd hl; simp only [loopAt]; exact two hnd ih1 ih2 l hl
  | cond _ x y ih1 ih2 => intro hnd l hl; simp only [loopsOf] at hnd hl; simp only [loopAt]; exact two hnd ih1 ih2 l hl
  | block _ x ih => intro hnd l hl; simp only [loopsOf] at hnd hl; simp only [loopAt]; exact ih hnd l hl
  | loop x ih =>
    intro hnd l hl
    simp only [loopsOf, List.map_cons, List.nodup_cons] at hnd
    simp only [loopsOf] at hl
    simp only [loopAt]
    rcases List.mem_cons.1 hl with rfl | hl
    · rw [Nat.beq_refl]
    · have hb : Nat.beq (regionOf x) (regionOf l) = false := by
        cases hq : Nat.beq (regionOf x) (regionOf l) with
        | false => rfl
        | true => exact absurd (List.mem_map.2 ⟨l, hl, (Nat.eq_of_beq_eq_true hq).symm⟩) hnd.1
      rw [hb]
      exact ih hnd.2 l hl
  | _ => intro hnd l hl; simp [loopsOf] at hl

theorem loopsOf_trans : ∀ {b c l : Code}, c ∈ loopsOf b → l ∈ loopsOf c → l ∈ loopsOf b := by
  intro b
  induction b with
  | seq x y ih1 ih2 =>
    intro c l h1 h2
    simp only [loopsOf, List.mem_append] at h1 ⊢
    exact h1.imp (fun h => ih1 h h2) (fun h => ih2 h h2)
  | cond _ x y ih1 ih2 =>
    intro c l h1 h2
    simp only [loopsOf, List.mem_append] at h1 ⊢
    exact h1.imp (fun h => ih1 h h2) (fun h => ih2 h h2)
  | block _ x ih => intro c l h1 h2; simp only [loopsOf] at h1 ⊢; exact ih h1 h2
  | loop x ih =>
    intro c l h1 h2
    simp only [loopsOf] at h1 ⊢
    rcases List.mem_cons.1 h1 with rfl | h1
    · exact List.mem_cons_of_mem _ h2
    · exact List.mem_cons_of_mem _ (ih h1 h2)
  | _ => intro c l h1 h2; simp [loopsOf] at h1

/-- what is known of a program -/
structure PX (P : Program) (A : Ann) : Prop where
  tys : TysOK P A.ty
  mixed : P.follows .mixedOrders = true

/-- what is known of a function -/
structure FX (P : Program) (f : FuncId) (fn : Func) : Prop where
  get : P.funcs[f]? = some fn
  name : (fn.name == "runtime.NumGoroutine") = false
  uniq : uniqB (mapR (loopsOf (bodyOf fn))) = true

def entsOK (P : Program) (A : Ann) (es : List Ent) : Prop := ∀ e ∈ es, e.ok P A
def lentsOK (P : Program) (fn : Func) (es : List Lent) : Prop := ∀ e ∈ es, e.ok P (codeAt (bodyOf fn) e.id)

theorem entsOK_nil {P : Program} {A : Ann} : entsOK P A [] := fun e h => by cases h
theorem entsOK_cons {P : Program} {A : Ann} {e : Ent} {es : List Ent} (h : e.ok P A) (hs : entsOK P A es) : entsOK P A (e :: es) := fun x hx => by
  rcases List.mem_cons.1 hx with rfl | hx
  · exact h
  · exact hs x hx
theorem lentsOK_nil {P : Program} {fn : Func} : lentsOK P fn [] := fun e h => by cases h
theorem lentsOK_cons {P : Program} {fn : Func} {e : Lent} {es : List Lent} (h : e.ok P (codeAt (bodyOf fn) e.id)) (hs : lentsOK P fn es) : lentsOK P fn (e :: es) := fun x hx => by
  rcases List.mem_cons.1 hx with rfl | hx
  · exact h
  · exact hs x hx

def Cof (fn : Func) (c : Code) : Prop := c ∈ loopsOf (bodyOf fn) ∧ loopAt (regionOf c) (bodyOf fn) = some c

theorem cof_all {P : Program} {f : FuncId} {fn : Func} (fx : FX P f fn) : ∀ l ∈ loopsOf (bodyOf fn), Cof fn l :=
  fun l hl => ⟨hl, loopAt_uniq (by rw [← mapR_eq]; exact uniqB_nodup fx.uniq) l hl⟩

theorem lents_cof {P : Program} {fn : Func} {es : List Lent} (h : lentsOK P fn es) : LentsOK P (Cof fn) es := by
  intro c hc e he hid
  have := h e he
  rw [hid] at this
  unfold codeAt at this
  rw [hc.2] at this
  exact this

section
variable {P : Program} {A : Ann}

/-- a function -/
theorem fn_ok (px : PX P A) {f : FuncId} {fn : Func} (fx : FX P f fn) {es : List Ent} (hes : entsOK P A es) {ls : List Lent} (hls : lentsOK P fn ls) {args : List V} {res : V} {outs : List V}
    (h : runFn (ocOf es) (olOf ls) A f fn args (fun v os => some (v, os)) = some (res, outs)) : CallsOK P (fun i => isIo (A.mode f i)) f args res outs :=
  runFn_ok px.tys px.mixed (ocOf_ok hes) (olOf_ok (lents_cof hls)) fx.get fx.name (fun b hb l hl => cof_all fx l (by
    have : bodyOf fn = b := by unfold bodyOf; rw [hb]
    rw [this]; exact hl)) h

/-- a loop -/
theorem loop_ok (px : PX P A) {f : FuncId} {fn : Func} (fx : FX P f fn) {es : List Ent} (hes : entsOK P A es) {ls : List Lent} (hls : lentsOK P fn ls) {id : Nat} (hid : (loopAt id (bodyOf fn)).isSome = true) {σ σ' : St} {e : Ex}
    (h : runLoop (ocOf es) (olOf ls) A f (codeAt (bodyOf fn) id) σ (fun e σ' => some (e, σ')) = some (e, σ')) : LoopOK P (codeAt (bodyOf fn) id) σ e σ' := by
  have hc : Cof fn (codeAt (bodyOf fn) id) := by
    unfold codeAt
    cases hq : loopAt id (bodyOf fn) with
    | none => rw [hq] at hid; cases hid
    | some c =>
      have := loopAt_mem hq
      exact ⟨this.1, by simp only; rw [this.2]; exact hq⟩
  exact runLoop_ok px.tys px.mixed (ocOf_ok hes) (olOf_ok (lents_cof hls)) hc (fun l hl => cof_all fx l (loopsOf_trans hc.1 hl)) h

end
end Go.Rai

/- The types of a program, checked. -/
set_option linter.unusedVariables false
set_option linter.unusedSimpArgs false
namespace Go.Rai

def lookTy : List (Nat × Ty) → Nat → Ty
  | [], _ => .other
  | (k, v) :: r, t => match Nat.beq k t with
    | true => v
    | false => lookTy r t

def lookL : List (Nat × Nat × List Nat) → Nat → Nat → List Nat
  | [], _, _ => []
  | (k, i, v) :: r, f, t => match band (Nat.beq k f) (Nat.beq i t) with
    | true => v
    | false => lookL r f t

def isPair : List (Nat × Nat) → Nat → Nat → Bool
  | [], _, _ => false
  | (k, i) :: r, f, t => match band (Nat.beq k f) (Nat.beq i t) with
    | true => true
    | false => isPair r f t

/-- the arguments that a function may change are listed; all others are lent -/
def mkAnn (tys : List (Nat × Ty)) (ks os : List (Nat × Nat × List Nat)) (ios : List (Nat × Nat)) : Ann :=
  { ty := lookTy tys, mode := fun f i => match isPair ios f i with | true => .io | false => .lend, keep := lookL ks, out := lookL os }

def isZ : Int → Bool
  | .ofNat n => Nat.beq n 0
  | .negSucc _ => false

mutual
def zvB : Value → Value → Bool
  | .int k n, .int k' n' => band (keq k k') (band (isZ n) (isZ n'))
  | .bool b, .bool b' => band (bneg b) (bneg b')
  | .string s, .string s' => band (Nat.beq s.size 0) (Nat.beq s'.size 0)
  | .slice a n c, .slice a' n' c' => match a, a' with
    | none, none => band (band (Nat.beq n 0) (Nat.beq c 0)) (band (Nat.beq n' 0) (Nat.beq c' 0))
    | _, _ => false
  | .pointer a, .pointer a' => match a, a' with
    | none, none => true
    | _, _ => false
  | .nilFunc, .nilFunc => true
  | _, _ => false
end

def zvsB : List Value → List Value → Bool
  | [], [] => true
  | a :: l, b :: m => band (zvB a b) (zvsB l m)
  | _, _ => false

def zvA : Value → Value → Bool
  | .agg cs, .agg cs' => zvsB cs.toList cs'.toList
  | x, y => zvB x y

theorem isZ_eq {n : Int} (h : isZ n = true) : n = 0 := by
  cases n with
  | ofNat n => have := Nat.eq_of_beq_eq_true h; subst this; rfl
  | negSucc n => cases h

theorem empty_of_size {s : ByteArray} (h : s.size = 0) : s = ⟨#[]⟩ := by
  cases s with
  | mk d =>
    have : d = #[] := Array.eq_empty_of_size_eq_zero h
    rw [this]

theorem zvB_eq {a b : Value} (h : zvB a b = true) : a = b := by
  unfold zvB at h
  split at h
  · simp only [band_true] at h
    rw [keq_eq h.1, isZ_eq h.2.1, isZ_eq h.2.2]
  · rename_i b b'
    cases b <;> cases b' <;> simp [band, bneg] at h ⊢
  · simp only [band_true] at h
    rw [empty_of_size (Nat.eq_of_beq_eq_true h.1), empty_of_size (Nat.eq_of_beq_eq_true h.2)]
  · split at h
    · simp only [band_true] at h
      rw [Nat.eq_of_beq_eq_true h.1.1, Nat.eq_of_beq_eq_true h.1.2, Nat.eq_of_beq_eq_true h.2.1, Nat.eq_of_beq_eq_true h.2.2]
    · cases h
  · split at h
    · rfl
    · cases h
  · rfl
  · cases h

theorem zvsB_eq : ∀ {a b : List Value}, zvsB a b = true → a = b
  | [], [], _ => rfl
  | a :: l, b :: m, h => by
    unfold zvsB at h
    rw [band_true] at h
    rw [zvB_eq h.1, zvsB_eq h.2]
  | [], _ :: _, h => by simp [zvsB] at h
  | _ :: _, [], h => by simp [zvsB] at h

theorem zvA_eq {a b : Value} (h : zvA a b = true) : a = b := by
  unfold zvA at h
  split at h
  · rw [Array.toList_inj.1 (zvsB_eq h)]
  · exact zvB_eq h

def fieldsB (T : TypeId → Ty) : List Ty → Nat → List Field → Bool
  | [], _, [] => true
  | t :: ts, off, f :: fs => band (band ((T f.type).beq t) (bneg (Nat.beq t.size 0))) (band (Nat.beq f.offset off) (band (bneg (f.name == "_")) (fieldsB T ts (off + t.size) fs)))
  | _, _, _ => false

def descB (T : TypeId → Ty) : Ty → TypeDesc → Bool
  | .int k, .int k' => keq k' k
  | .bool, .bool => true
  | .str, .string => true
  | .slice e, .slice te => (T te).beq e
  | .struct fs, .struct fields => fieldsB T fs 0 fields.toList
  | .arr n e, .array n' te => band (Nat.beq n' n) ((T te).beq e)
  | .ptr, .pointer _ => true
  | .fn, .func _ _ _ => true
  | _, _ => false

def tyB (P : Program) (T : TypeId → Ty) (t : TypeId) : Bool :=
  match P.info? t with
  | some i => match i.zero with
    | some z => band (band (Nat.beq i.size (T t).size) (band (Nat.ble i.bytes 32768) (Nat.ble (T t).size 65536)))
      (band (zvA z (cval (isAT (T t)) (zcells (T t)))) (band (match P.underlying t with | some d => descB T (T t) d | none => false)
        (bor (bneg (isAT (T t))) (band (bneg (P.eqGuardType P.depth t)) (bneg (P.stoodInHeld t))))))
    | none => false
  | none => false

def tysB (P : Program) (T : TypeId → Ty) : List (Nat × Ty) → Bool
  | [] => true
  | (t, _) :: r => band (tyB P T t) (tysB P T r)

theorem beq_not_other {a b : Ty} (h : a.beq b = true) : b ≠ .other := by
  rintro rfl
  cases a <;> simp [Ty.beq] at h

theorem fieldsB_ok {T : TypeId → Ty} : ∀ {ts : List Ty} {off : Nat} {fs : List Field}, fieldsB T ts off fs = true → fs.length = ts.length ∧
    ∀ j f, fs[j]? = some f → ts[j]? = some (T f.type) ∧ T f.type ≠ .other ∧ (T f.type).size ≠ 0 ∧ f.offset = off + Ty.sizes (ts.take j) ∧ f.name ≠ "_"
  | [], off, [], _ => ⟨rfl, fun j f h => by simp at h⟩
  | [], off, _ :: _, h => by simp [fieldsB] at h
  | _ :: _, off, [], h => by simp [fieldsB] at h
  | t :: ts, off, f :: fs, h => by
    unfold fieldsB at h
    simp only [band_true, bneg_true] at h
    obtain ⟨⟨h1, h2⟩, h3, h4, h5⟩ := h
    obtain ⟨i1, i2⟩ := fieldsB_ok h5
    have e1 := Ty.beq_eq _ _ h1
    refine ⟨by simp [i1], fun j g hg => ?_⟩
    cases j with
    | zero =>
      simp only [List.getElem?_cons_zero, Option.some.injEq] at hg
      subst hg
      refine ⟨by simp [e1], by rw [e1]; exact beq_not_other h1, ?_, ?_, ?_⟩
      · intro h0
        rw [e1] at h0
        rw [h0] at h2
        cases h2
      · simp [Ty.sizes, Nat.eq_of_beq_eq_true h3]
      · intro hn; rw [hn] at h4; simp at h4
    | succ j =>
      simp only [List.getElem?_cons_succ] at hg ⊢
      obtain ⟨k1, k2, k3, k4, k5⟩ := i2 j g hg
      exact ⟨k1, k2, k3, by rw [k4]; simp [Ty.sizes]; omega, k5⟩

theorem descB_ok {T : TypeId → Ty} {t : Ty} {d : TypeDesc} (h : descB T t d = true) : DescOK T t d := by
  unfold descB at h
  split at h
  · exact keq_eq h
  · trivial
  · trivial
  · exact ⟨Ty.beq_eq _ _ h, beq_not_other h⟩
  · obtain ⟨h1, h2⟩ := fieldsB_ok h
    refine ⟨by simpa using h1, fun j f hj => ?_⟩
    have := h2 j f (by simpa using hj)
    simpa using this
  · rw [band_true] at h
    exact ⟨Nat.eq_of_beq_eq_true h.1, Ty.beq_eq _ _ h.2, beq_not_other h.2⟩
  · trivial
  · trivial
  · cases h

theorem tyB_ok {P : Program} {T : TypeId → Ty} {t : TypeId} (h : tyB P T t = true) : TyOK P T t := by
  unfold tyB at h
  split at h
  · rename_i i hi
    split at h
    · rename_i z hz
      simp only [band_true] at h
      obtain ⟨⟨h1, h2, h3⟩, h4, h5, h6⟩ := h
      refine ⟨⟨i, z, hi, Nat.eq_of_beq_eq_true h1, hz, Nat.le_of_ble_eq_true h2, Nat.le_of_ble_eq_true h3, zvA_eq h4⟩, ?_, ?_⟩
      · split at h5
        · rename_i d hd
          exact ⟨d, hd, descB_ok h5⟩
        · cases h5
      · intro hA
        rw [hA, bor_true] at h6
        rcases h6 with h6 | h6
        · cases h6
        · rw [band_true, bneg_true, bneg_true] at h6
          exact h6
    · cases h
  · cases h

theorem tysB_mem {P : Program} {T : TypeId → Ty} : ∀ {l : List (Nat × Ty)}, tysB P T l = true → ∀ t v, (t, v) ∈ l → tyB P T t = true
  | [], _, t, v, h => by cases h
  | (a, b) :: l, h, t, v, hm => by
    unfold tysB at h
    rw [band_true] at h
    rcases List.mem_cons.1 hm with hm | hm
    · simp only [Prod.mk.injEq] at hm
      rw [hm.1]; exact h.1
    · exact tysB_mem h.2 t v hm

theorem lookTy_mem : ∀ {l : List (Nat × Ty)} {t : Nat}, lookTy l t ≠ .other → ∃ v, (t, v) ∈ l
  | [], t, h => absurd rfl h
  | (k, v) :: l, t, h => by
    unfold lookTy at h
    split at h
    · rename_i hb
      exact ⟨v, by rw [Nat.eq_of_beq_eq_true hb]; simp⟩
    · obtain ⟨v', hv⟩ := lookTy_mem h
      exact ⟨v', by simp [hv]⟩

theorem tysOK_of {P : Program} {l : List (Nat × Ty)} (h : tysB P (lookTy l) l = true) : TysOK P (lookTy l) := by
  intro t ht
  obtain ⟨v, hv⟩ := lookTy_mem ht
  exact tyB_ok (tysB_mem h t v hv)

end Go.Rai

/- The arguments of a law, read as data. -/
set_option linter.unusedVariables false
set_option linter.unusedSimpArgs false
namespace Go.Rai

mutual
/-- data of a type, whole -/
def wfD : Ty → D → Prop
  | .int k, d => ∃ n, d = .int n ∧ (Lit.int k n).wf = true
  | .bool, d => ∃ b, d = .bool b
  | .str, d => ∃ s, d = .str s ∧ s.size ≤ maxLen
  | .struct ts, d => ∃ l, d = .node l ∧ wfDs ts l
  | .slice e, d => ∃ l, d = .node l ∧ l.length ≤ maxLen ∧ ∀ x ∈ l, wfD e x
  | _, _ => False
def wfDs : List Ty → List D → Prop
  | [], l => l = []
  | t :: ts, l => ∃ x r, l = x :: r ∧ wfD t x ∧ wfDs ts r
end

mutual
/-- types of arguments -/
def goodTy : Ty → Bool
  | .int _ => true
  | .bool => true
  | .str => true
  | .struct ts => goodTys ts
  | .slice e => band (bneg (Nat.beq e.size 0)) (goodTy e)
  | _ => false
def goodTys : List Ty → Bool
  | [] => true
  | t :: ts => band (goodTy t) (goodTys ts)
end

mutual
theorem good_plain : ∀ (t : Ty), goodTy t = true → t.plain = true
  | .int _, _ => rfl
  | .bool, _ => rfl
  | .str, _ => rfl
  | .struct ts, h => by unfold goodTy at h; unfold Ty.plain; exact goods_plain ts h
  | .slice e, h => by unfold goodTy at h; rw [band_true] at h; unfold Ty.plain; exact good_plain e h.2
  | .arr _ _, h => by simp [goodTy] at h
  | .ptr, h => by simp [goodTy] at h
  | .fn, h => by simp [goodTy] at h
  | .other, h => by simp [goodTy] at h
theorem goods_plain : ∀ (ts : List Ty), goodTys ts = true → Ty.plains ts = true
  | [], _ => rfl
  | t :: ts, h => by unfold goodTys at h; rw [band_true] at h; unfold Ty.plains; rw [band_true]; exact ⟨good_plain t h.1, goods_plain ts h.2⟩
end

section
variable {H : Type} {enc' : TypeId × Value → H} {P : Program} {T : TypeId → Ty} {W : World} {t : TypeId}

theorem cells_of (h : TyOK P T t) : P.cellsOf t = (T t).size := by
  obtain ⟨i, z, h1, h2, _⟩ := h.info
  unfold Program.cellsOf
  rw [h1]
  exact h2

theorem add_block' (a : Addr) (n : Nat) : (a.add n).block = a.block := by unfold Addr.add; split <;> rfl

/-- one reading -/
def Reads (W : World) (T : TypeId → Ty) (t : TypeId) (cs : List Value) : Prop :=
  ∃ d F, DIn false W (T t) d cs F ∧ wfD (T t) d ∧ ∀ b ∈ F, b < W.heap.size

theorem reads_fields (HT : TysOK P T) {n : Nat} (ih : ∀ t cs x, goodTy (T t) = true → DataW.trod enc' P W 0 (fun _ => true) true n t cs = some x → Reads W T t cs) {cs : List Value} : ∀ {fs : List Field} {ts : List Ty} {off : Nat} {pre : List D},
    goodTys ts = true → fs.length = ts.length → (∀ j f, fs[j]? = some f → ts[j]? = some (T f.type) ∧ T f.type ≠ .other ∧ f.offset = off + Ty.sizes (ts.take j)) → cs.length = off + Ty.sizes ts →
    (∀ f ∈ fs, ∃ x, DataW.trod enc' P W 0 (fun _ => true) true n f.type ((cs.drop f.offset).take (P.cellsOf f.type)) = some x) →
    ∃ l F, DIns false W ts pre.length (.node (pre ++ l)) (cs.drop off) F ∧ wfDs ts l ∧ ∀ b ∈ F, b < W.heap.size
  | [], [], off, pre, _, _, _, hl, _ => by
    refine ⟨[], [], ?_, rfl, fun b hb => by cases hb⟩
    unfold DIns
    simp only [Ty.sizes, Nat.add_zero] at hl
    exact ⟨by rw [← hl]; simp, rfl⟩
  | [], _ :: _, off, pre, _, h, _, _, _ => by simp at h
  | _ :: _, [], off, pre, _, h, _, _, _ => by simp at h
  | f :: fs, t :: ts, off, pre, hg, hlen, hf, hl, hm => by
    unfold goodTys at hg
    rw [band_true] at hg
    obtain ⟨x, hx⟩ := hm f (by simp)
    obtain ⟨h1, h2, h3⟩ := hf 0 f rfl
    simp only [List.getElem?_cons_zero, Option.some.injEq] at h1
    simp only [List.take_zero, Ty.sizes, Nat.add_zero] at h3
    obtain ⟨d, F1, r1, r2, r3⟩ := ih f.type _ x (by rw [← h1]; exact hg.1) hx
    rw [h3, cells_of (HT f.type h2), ← h1] at r1
    rw [← h1] at r2
    obtain ⟨l, F2, s1, s2, s3⟩ := reads_fields HT ih (fs := fs) (ts := ts) (off := off + t.size) (pre := pre ++ [d]) hg.2 (by simpa using hlen) (fun j g hj => by
      obtain ⟨k1, k2, k3⟩ := hf (j + 1) g (by simpa using hj)
      refine ⟨by simpa using k1, k2, ?_⟩
      rw [k3]; simp [Ty.sizes]; omega) (by rw [hl]; simp [Ty.sizes]; omega) (fun g hg => hm g (by simp [hg]))
    refine ⟨d :: l, F1 ++ F2, ?_, ⟨d, l, rfl, r2, s2⟩, fun b hb => (List.mem_append.1 hb).elim (r3 b) (s3 b)⟩
    unfold DIns
    refine ⟨(cs.drop off).take t.size, cs.drop (off + t.size), F1, F2, ?_, rfl, ?_, ?_⟩
    · rw [← List.drop_drop, List.take_append_drop]
    · have : D.fld (.node (pre ++ d :: l)) pre.length = d := by simp [D.fld, D.items]
      rw [this]; exact r1
    · simpa using s1

theorem reads_elems {fuel : Nat} {te : TypeId} {e : Ty} {sz : Nat} {a : Addr} (hsz : P.cellsOf te = sz) (hp : 0 < sz)
    (ih : ∀ cs x, DataW.trod enc' P W 0 (fun _ => true) true fuel te cs = some x → ∃ d F, DIn false W e d cs F ∧ wfD e d ∧ ∀ b ∈ F, b < W.heap.size) : ∀ {n : Nat},
    (∀ i, i < n → ∃ x, (W.cells? 0 (a.add (i * P.cellsOf te)) (P.cellsOf te)).bind (DataW.trod enc' P W 0 (fun _ => true) true fuel te) = some x) →
    ∃ l cs F, l.length = n ∧ cs.length = n * sz ∧ Row (DIn false W e) l cs F ∧ cellsAt W a cs ∧ (∀ x ∈ l, wfD e x) ∧ (∀ b ∈ F, b < W.heap.size) := by
  intro n
  induction n with
  | zero =>
    intro _
    exact ⟨[], [], [], rfl, by simp, ⟨rfl, rfl⟩, fun j v h => by simp at h, fun x hx => (by cases hx), fun b hb => (by cases hb)⟩
  | succ n ihn =>
    intro hm
    obtain ⟨l, cs, F, h1, h2, h3, h4, h5, h6⟩ := ihn (fun i hi => hm i (by omega))
    obtain ⟨x, hx⟩ := hm n (by omega)
    obtain ⟨c, hc, hx⟩ := Option.bind_eq_some_iff.1 hx
    obtain ⟨d, F1, r1, r2, r3⟩ := ih c x hx
    obtain ⟨_, c1, c2⟩ := World.cells?_some hc
    refine ⟨l ++ [d], cs ++ c, F ++ F1, by simp [h1], by simp [h2, c1, hsz]; rw [Nat.succ_mul], ?_, ?_, ?_, ?_⟩
    · exact Row_append h3 ⟨c, [], F1, [], by simp, by simp, r1, rfl, rfl⟩
    · intro j v hj
      by_cases hlt : j < cs.length
      · rw [List.getElem?_append_left hlt] at hj
        exact h4 j v hj
      · rw [List.getElem?_append_right (by omega)] at hj
        have hlt2 : j - cs.length < c.length := (List.getElem?_eq_some_iff.1 hj).1
        have := c2 (j - cs.length) (by omega)
        rw [hj] at this
        have he : (a.add (n * P.cellsOf te)).add (j - cs.length) = a.add j := by
          rw [add_add', hsz]
          congr 1
          omega
        rw [he] at this
        exact this
    · intro y hy
      rcases List.mem_append.1 hy with hy | hy
      · exact h5 y hy
      · simp only [List.mem_singleton] at hy; subst hy; exact r2
    · intro b hb
      exact (List.mem_append.1 hb).elim (h6 b) (r3 b)

theorem trod_reads (HT : TysOK P T) : ∀ (fuel : Nat) (t : TypeId) (cs : List Value) x, goodTy (T t) = true → DataW.trod enc' P W 0 (fun _ => true) true fuel t cs = some x → Reads W T t cs := by
  intro fuel
  induction fuel with
  | zero => intro t cs x _ h; simp [DataW.trod] at h
  | succ fuel ih =>
    intro t cs x hg h
    have hne : T t ≠ .other := by intro e; rw [e] at hg; cases hg
    obtain ⟨d, hd, hk⟩ := (HT t hne).desc
    unfold Reads
    cases hT : T t with
    | int k =>
      rw [hT] at hk
      have := desc_int hk; subst this
      obtain ⟨n, rfl, _, hw⟩ := DataW.trod_int hd h
      exact ⟨.int n, [], by unfold DIn; exact ⟨rfl, rfl⟩, ⟨n, rfl, hw⟩, fun b hb => by cases hb⟩
    | bool =>
      rw [hT] at hk
      have := desc_bool hk; subst this
      obtain ⟨n, rfl, _⟩ := DataW.trod_bool hd h
      exact ⟨.bool n, [], by unfold DIn; exact ⟨rfl, rfl⟩, ⟨n, rfl⟩, fun b hb => by cases hb⟩
    | str =>
      rw [hT] at hk
      have := desc_str hk; subst this
      obtain ⟨n, rfl, _, hw⟩ := DataW.trod_string hd h
      exact ⟨.str n, [], by unfold DIn; exact ⟨rfl, rfl⟩, ⟨n, rfl, hw⟩, fun b hb => by cases hb⟩
    | struct ts =>
      rw [hT] at hk hg
      unfold goodTy at hg
      obtain ⟨fs, rfl, h1, h2⟩ := desc_struct hk
      obtain ⟨xs, n, hn, _, hl, hxl, hx⟩ := DataW.trod_struct hd h
      simp only [Nat.add_right_cancel_iff] at hn
      subst hn
      obtain ⟨l, F, r1, r2, r3⟩ := reads_fields HT ih (cs := cs) (fs := fs.toList) (ts := ts) (off := 0) (pre := []) hg (by simpa using h1) (fun j f hj => by
        obtain ⟨k1, k2, k3, k4, k5⟩ := h2 j f (by simpa using hj)
        exact ⟨k1, k2, by simpa using k4⟩) (by rw [hl, cells_of (HT t hne), hT]; simp [Ty.size]) (fun f hf => by
        obtain ⟨j, hj⟩ := List.mem_iff_getElem?.1 hf
        have hj' : fs[j]? = some f := by simpa using hj
        have hlt : j < fs.size := (Array.getElem?_eq_some_iff.1 hj').1
        have := hx j f hj'
        rw [List.getElem?_eq_getElem (by omega)] at this
        exact ⟨_, this⟩)
      exact ⟨.node l, F, by unfold DIn; simpa using r1, ⟨l, rfl, r2⟩, r3⟩
    | slice e =>
      rw [hT] at hk hg
      unfold goodTy at hg
      rw [band_true, bneg_true] at hg
      obtain ⟨te, rfl, hte, hne'⟩ := desc_slice hk
      have hpos : 0 < e.size := Nat.pos_of_ne_zero (fun h0 => by rw [h0] at hg; simp at hg)
      have hsz : P.cellsOf te = e.size := by rw [cells_of (HT te (by rw [hte]; exact hne')), hte]
      rcases DataW.trod_slice hd h with ⟨rfl, _⟩ | ⟨a, len, cap, elems, rest, n, hn, rfl, _, _, hlc, hcm, hel, hei, hrest⟩
      · exact ⟨.node [], [], by unfold DIn; exact ⟨none, 0, rfl, .inl ⟨rfl, rfl, rfl⟩⟩, ⟨[], rfl, by simp, fun x hx => by cases hx⟩, fun b hb => by cases hb⟩
      · simp only [Nat.add_right_cancel_iff] at hn
        subst hn
        have all : ∀ i, i < len → ∃ x, (W.cells? 0 (a.add (i * P.cellsOf te)) (P.cellsOf te)).bind (DataW.trod enc' P W 0 (fun _ => true) true fuel te) = some x := by
          intro i hi
          have := hei i hi
          rw [List.getElem?_eq_getElem (by omega)] at this
          exact ⟨_, this⟩
        obtain ⟨l, cs', F, r1, r2, r3, r4, r5, r6⟩ := reads_elems (e := e) hsz hpos (fun cs x hx => by
          have := ih te cs x (by rw [hte]; exact hg.2) hx
          unfold Reads at this
          rw [hte] at this
          exact this) all
        by_cases hc0 : cap = 0
        · have : len = 0 := by omega
          subst this; subst hc0
          have hl0 : l = [] := List.eq_nil_of_length_eq_zero r1
          exact ⟨.node [], [], by unfold DIn; exact ⟨some a, 0, rfl, .inl ⟨rfl, rfl, rfl⟩⟩, ⟨[], rfl, by simp, fun x hx => by cases hx⟩, fun b hb => by cases hb⟩
        · have hblk : a.block < W.heap.size := by
            by_cases hl0 : len = 0
            · obtain ⟨q1, q2⟩ := hrest.1 rfl
              have q3 := q2 0 (by omega)
              rw [List.getElem?_eq_getElem (by omega)] at q3
              obtain ⟨c, hc, _⟩ := Option.bind_eq_some_iff.1 q3
              have hb := World.cells?_block hc (by rw [hsz]; exact hpos)
              rw [add_block'] at hb
              exact hb
            · obtain ⟨x, hx⟩ := all 0 (by omega)
              obtain ⟨c, hc, _⟩ := Option.bind_eq_some_iff.1 hx
              have hb := World.cells?_block hc (by rw [hsz]; exact hpos)
              rw [add_block'] at hb
              exact hb
          refine ⟨.node l, a.block :: F, ?_, ⟨l, rfl, by rw [r1]; omega, r5⟩, fun b hb => ?_⟩
          · unfold DIn
            exact ⟨some a, cap, by simp [D.items, r1], .inr ⟨a, cs', F, rfl, r3, r4, rfl, by simp [D.items, r1]; exact hlc, hblk, fun h => by cases h⟩⟩
          · rcases List.mem_cons.1 hb with rfl | hb
            · exact hblk
            · exact r6 b hb
    | arr n e => rw [hT] at hg; cases hg
    | ptr => rw [hT] at hg; cases hg
    | fn => rw [hT] at hg; cases hg
    | other => exact absurd hT hne

/-- an argument, as the evaluator holds it -/
theorem trod_one (HT : TysOK P T) {r : Reach} {b0 : Nat} {v : Value} {d : DataW H} {p : List MemPlace} (hg : goodTy (T t) = true) (hv : Value.okWide P W r b0 t v) (h : DataW.Trod enc' P W 0 (fun _ => true) true t v d p) :
    ∃ x, wfD (T t) x ∧ One (calleeEnv W []) (dec false (T t) x) v [] := by
  obtain ⟨fuel, hf⟩ := h
  obtain ⟨x, F, h1, h2, h3⟩ := trod_reads HT fuel t _ _ hg hf
  refine ⟨x, h2, v.cells.toList, dec_rd (E := calleeEnv W []) (T t) (good_plain _ hg) (fun b hb => ⟨h3 b hb, by simp⟩) h1, ?_⟩
  have hne : T t ≠ .other := by intro e; rw [e] at hg; cases hg
  obtain ⟨dd, hd, hk⟩ := (HT t hne).desc
  unfold asVal
  cases hT : T t with
  | int k =>
    rw [hT] at hk
    have := desc_int hk; subst this
    obtain ⟨n, rfl⟩ := WideShapes.okWide_int hd hv
    rfl
  | bool =>
    rw [hT] at hk
    have := desc_bool hk; subst this
    obtain ⟨n, rfl⟩ := WideShapes.okWide_bool hd hv
    rfl
  | str =>
    rw [hT] at hk
    have := desc_str hk; subst this
    obtain ⟨n, rfl⟩ := WideShapes.okWide_string hd hv
    rfl
  | struct ts =>
    rw [hT] at hk
    obtain ⟨fs, rfl, _⟩ := desc_struct hk
    unfold Value.okWide at hv
    rw [hd] at hv
    obtain ⟨cs, rfl, _⟩ := hv
    show Value.agg cs = .agg cs.toList.toArray
    simp
  | slice e =>
    rw [hT] at hk
    obtain ⟨te, rfl, _⟩ := desc_slice hk
    obtain ⟨a, l, c, rfl⟩ := WideShapes.okWide_slice hd hv
    rfl
  | arr n e => rw [hT] at hg; cases hg
  | ptr => rw [hT] at hg; cases hg
  | fn => rw [hT] at hg; cases hg
  | other => exact absurd hT hne

/-- the arguments' data and what is known of them -/
def Wf (T : TypeId → Ty) : List TypeId → List D → Prop
  | [], xs => xs = []
  | t :: ts, xs => ∃ x r, xs = x :: r ∧ wfD (T t) x ∧ Wf T ts r

def decArgs (T : TypeId → Ty) : List TypeId → List D → List V
  | [], _ => []
  | t :: ts, x :: xs => dec false (T t) x :: decArgs T ts xs
  | _ :: _, [] => []

def goodTs (T : TypeId → Ty) : List TypeId → Bool
  | [] => true
  | t :: ts => band (goodTy (T t)) (goodTs T ts)

theorem trodAll_args (HT : TysOK P T) {r : Reach} {b0 : Nat} : ∀ {ts : List TypeId} {vs : List Value} {ds : List (DataW H)} {p : List MemPlace}, goodTs T ts = true → (∀ (j : Nat) t v, ts[j]? = some t → vs[j]? = some v → Value.okWide P W r b0 t v) →
    DataW.TrodAll enc' P W 0 (fun _ => true) true ts vs ds p → ∃ xs, Wf T ts xs ∧ Tup (calleeEnv W []) (decArgs T ts xs) vs []
  | [], [], [], p, _, _, _ => ⟨[], rfl, rfl, rfl⟩
  | t :: ts, v :: vs, d :: ds, p, hg, hv, h => by
    unfold goodTs at hg
    rw [band_true] at hg
    obtain ⟨p1, q, h1, h2, _⟩ := h
    obtain ⟨x, x1, x2⟩ := trod_one HT hg.1 (hv 0 t v rfl rfl) h1
    obtain ⟨xs, r1, r2⟩ := trodAll_args HT hg.2 (fun j t v h1 h2 => hv (j + 1) t v (by simpa using h1) (by simpa using h2)) h2
    exact ⟨x :: xs, ⟨x, xs, rfl, x1, r1⟩, v, vs, [], [], rfl, rfl, x2, r2⟩
  | [], _ :: _, _, _, _, _, h => by simp [DataW.TrodAll] at h
  | [], [], _ :: _, _, _, _, h => by simp [DataW.TrodAll] at h
  | _ :: _, [], _, _, _, _, h => by simp [DataW.TrodAll] at h
  | _ :: _, _ :: _, [], _, _, _, h => by simp [DataW.TrodAll] at h

def rowsB (P : Program) : List TypeId → Bool
  | [] => true
  | t :: ts => band (P.readableRec t) (band (Nat.blt t P.types.size) (rowsB P ts))

theorem trodAll_stays {W' : World} (hl : laidOutB P = true) (hb : RowKit.Below W.heap.size W W') : ∀ {ts : List TypeId} {vs : List Value} {ds : List (DataW H)} {p : List MemPlace}, rowsB P ts = true →
    DataW.TrodAll enc' P W 0 (fun _ => true) true ts vs ds p → DataW.TrodAll enc' P W' 0 (fun b => decide (b < W.heap.size)) true ts vs ds p
  | [], [], [], p, _, h => by simpa [DataW.TrodAll] using h
  | t :: ts, v :: vs, d :: ds, p, hr, h => by
    unfold rowsB at hr
    rw [band_true, band_true] at hr
    obtain ⟨p1, q, h1, h2, h3⟩ := h
    refine ⟨p1, q, RowKit.Below.trod hl hr.1 (by simpa [Nat.blt_eq] using hr.2.1) h1 hb ?_, trodAll_stays hl hb hr.2.2 h2, h3⟩
    obtain ⟨m, hm⟩ := h1
    exact DataW.trod_lt m _ _ _ hm
  | [], _ :: _, _, _, _, h => by simp [DataW.TrodAll] at h
  | [], [], _ :: _, _, _, h => by simp [DataW.TrodAll] at h
  | _ :: _, [], _, _, _, h => by simp [DataW.TrodAll] at h
  | _ :: _, _ :: _, [], _, _, h => by simp [DataW.TrodAll] at h

end

/-- a law that holds of all data: as the row wants it -/
theorem law_calls {P : Program} {A : Ann} {f : FuncId} {ts : List TypeId} (HT : TysOK P A.ty) (hg : goodTs A.ty ts = true)
    (h : ∀ xs, Wf A.ty ts xs → ∃ outs, CallsOK P (fun i => isIo (A.mode f i)) f (decArgs A.ty ts xs) (.bool true) outs)
    {H : Type} {enc' : TypeId × Value → H} {W : World} {r : Reach} {b0 : Nat} {vs : List Value} {ds : List (DataW H)} {p : List MemPlace}
    (hv : ∀ (j : Nat) t v, ts[j]? = some t → vs[j]? = some v → Value.okWide P W r b0 t v) (hA : DataW.TrodAll enc' P W 0 (fun _ => true) true ts vs ds p) :
    Calls P f vs.toArray W fun e w' => e = .returned (.bool true) ∧ RowKit.Below W.heap.size W w' := by
  obtain ⟨xs, h1, h2⟩ := trodAll_args HT hg hv hA
  obtain ⟨outs, h3⟩ := h xs h1
  refine (h3.2 W vs [] h2 List.nodup_nil (fun b hb => by cases hb)).mono ?_
  rintro e w' ⟨v, Fr, Fo, rfl, q1, q2, q3, q4, q5, q6, q7, q8, q9⟩
  obtain ⟨rfl, _⟩ := val_bool.1 q1
  exact ⟨rfl, ⟨q7, q8, q9, q6, fun b hb => q5 b hb (by simp)⟩⟩

end Go.Rai

/- Plain lemmas for the models. -/
set_option linter.unusedVariables false
set_option linter.unusedSimpArgs false
namespace Go.Rai

theorem wrap_id {n : Int} (h1 : -9223372036854775808 ≤ n) (h2 : n ≤ 9223372036854775807) : IntKind.i64.wrap n = n := by
  unfold IntKind.wrap
  simp [IntKind.signed, IntKind.bits]
  omega

theorem wf_i64 {n : Int} (h : (Lit.int .i64 n).wf = true) : -9223372036854775808 ≤ n ∧ n ≤ 9223372036854775807 := by
  simp [Lit.wf, IntKind.min, IntKind.max, IntKind.signed, IntKind.bits] at h
  omega

theorem getD_mem {l : List D} {i : Nat} (h : i < l.length) : l.getD i (.int 0) ∈ l := by
  rw [List.getD_eq_getElem?_getD, List.getElem?_eq_getElem h]
  exact List.getElem_mem h

theorem toInt_int (n : Int) : (D.int n).toInt = n := rfl
theorem toBool_bool (n : Bool) : (D.bool n).toBool = n := rfl
theorem toStr_str (n : ByteArray) : (D.str n).toStr = n := rfl
theorem items_node (l : List D) : (D.node l).items = l := rfl
theorem fld_node (l : List D) (j : Nat) : (D.node l).fld j = (l[j]?).getD (.int 0) := by
  unfold D.fld D.items
  rw [List.getD_eq_getElem?_getD]
theorem get_mem {l : List D} {i : Nat} (h : i < l.length) : l[i]?.getD (.int 0) ∈ l := by
  rw [← List.getD_eq_getElem?_getD]; exact getD_mem h

/-- a loop that copies -/
theorem copy_loop {N : Nat → List D → Int → List D → Option (List D)} {l : List D} {z : D}
    (hs : ∀ m (i : Nat) acc, i < l.length → acc.length = l.length → N (m + 1) l (i : Int) acc = N m l ((i : Int) + 1) (acc.set i (l.getD i (.int 0))))
    (he : ∀ m acc, acc.length = l.length → N (m + 1) l (l.length : Int) acc = some acc) :
    ev (fun n => N n l 0 (List.replicate l.length z)) = some l := by
  have key : ∀ k, ∀ m (i : Nat) acc, i + k = l.length → k < m → acc.length = l.length → acc.take i = l.take i → N m l (i : Int) acc = some l := by
    intro k
    induction k with
    | zero =>
      intro m i acc h1 h2 h3 h4
      obtain ⟨m, rfl⟩ : ∃ m', m = m' + 1 := ⟨m - 1, by omega⟩
      have hi : i = l.length := by omega
      subst hi
      rw [he m acc h3]
      rw [List.take_of_length_le (by omega), List.take_of_length_le (by omega)] at h4
      rw [h4]
    | succ k ih =>
      intro m i acc h1 h2 h3 h4
      obtain ⟨m, rfl⟩ : ∃ m', m = m' + 1 := ⟨m - 1, by omega⟩
      rw [hs m i acc (by omega) h3]
      rw [show ((i : Int) + 1) = ((i + 1 : Nat) : Int) by omega]
      refine ih m (i + 1) _ (by omega) (by omega) (by simpa using h3) ?_
      rw [List.take_succ_eq_append_getElem (by simp; omega), List.take_succ_eq_append_getElem (by omega)]
      rw [List.take_set_of_le (by omega), h4]
      have hi : i < l.length := by omega
      simp [List.getD_eq_getElem?_getD, List.getElem?_eq_getElem hi]
  exact ev_eq (l.length + 1) (fun m hm => key l.length m 0 _ (by omega) (by omega) (by simp) (by simp))

/-- a loop that asks for each element -/
theorem all_loop {X : Type} {N : Nat → Int → Option X} {len : Nat} {x : X}
    (hs : ∀ m (i : Nat), i < len → N (m + 1) (i : Int) = N m ((i : Int) + 1))
    (he : ∀ m, N (m + 1) (len : Int) = some x) : ev (fun n => N n 0) = some x := by
  have key : ∀ k, ∀ m (i : Nat), i + k = len → k < m → N m (i : Int) = some x := by
    intro k
    induction k with
    | zero =>
      intro m i h1 h2
      obtain ⟨m, rfl⟩ : ∃ m', m = m' + 1 := ⟨m - 1, by omega⟩
      have hi : i = len := by omega
      subst hi
      exact he m
    | succ k ih =>
      intro m i h1 h2
      obtain ⟨m, rfl⟩ : ∃ m', m = m' + 1 := ⟨m - 1, by omega⟩
      rw [hs m i (by omega)]
      rw [show ((i : Int) + 1) = ((i + 1 : Nat) : Int) by omega]
      exact ih m (i + 1) (by omega) (by omega)
  exact ev_eq (len + 1) (fun m hm => key len m 0 (by omega) (by omega))

/-- the first number below a bound that has a property -/
def firstN (p : Nat → Bool) (len : Nat) : Option Nat := (List.range len).find? p

theorem firstN_congr {p q : Nat → Bool} {len : Nat} (h : ∀ i, i < len → p i = q i) : firstN p len = firstN q len := by
  unfold firstN
  have : ∀ (l : List Nat), (∀ i ∈ l, i < len) → l.find? p = l.find? q := by
    intro l
    induction l with
    | nil => intro _; rfl
    | cons a l ih =>
      intro hl
      rw [List.find?_cons, List.find?_cons, h a (hl a (by simp)), ih (fun i hi => hl i (by simp [hi]))]
  exact this _ (fun i hi => List.mem_range.1 hi)

theorem firstN_some {p : Nat → Bool} {len i : Nat} (h : firstN p len = some i) : i < len ∧ p i = true ∧ ∀ j, j < i → p j = false := by
  unfold firstN at h
  have h1 := List.find?_some h
  have h2 := List.mem_range.1 (List.mem_of_find?_eq_some h)
  refine ⟨h2, h1, fun j hj => ?_⟩
  rw [List.find?_range_eq_some] at h
  have := h.2.2 j hj
  simpa using this

theorem firstN_none {p : Nat → Bool} {len : Nat} (h : firstN p len = none) : ∀ j, j < len → p j = false := by
  unfold firstN at h
  intro j hj
  have := List.find?_eq_none.1 h j (List.mem_range.2 hj)
  simpa using this

/-- a loop that looks for the first element of a kind -/
theorem scan_loop {X : Type} {N : Nat → Int → Option X} {len : Nat} (p : Nat → Bool) (bad : Nat → X) {fin : X}
    (hs : ∀ m (i : Nat), i < len → N (m + 1) (i : Int) = bif p i then some (bad i) else N m ((i : Int) + 1))
    (he : ∀ m, N (m + 1) (len : Int) = some fin) : ev (fun n => N n 0) = some (match firstN p len with | some i => bad i | none => fin) := by
  have key : ∀ k, ∀ m (i : Nat), i + k = len → k < m → (∀ j, j < i → p j = false) → N m (i : Int) = some (match firstN p len with | some i => bad i | none => fin) := by
    intro k
    induction k with
    | zero =>
      intro m i h1 h2 h3
      obtain ⟨m, rfl⟩ : ∃ m', m = m' + 1 := ⟨m - 1, by omega⟩
      have hi : i = len := by omega
      subst hi
      rw [he m]
      cases hf : firstN p i with
      | none => rfl
      | some j =>
        obtain ⟨q1, q2, _⟩ := firstN_some hf
        rw [h3 j q1] at q2
        cases q2
    | succ k ih =>
      intro m i h1 h2 h3
      obtain ⟨m, rfl⟩ : ∃ m', m = m' + 1 := ⟨m - 1, by omega⟩
      rw [hs m i (by omega)]
      cases hp : p i with
      | true =>
        rw [cond_true]
        have : firstN p len = some i := by
          unfold firstN
          rw [List.find?_range_eq_some]
          exact ⟨hp, List.mem_range.2 (by omega), fun j hj => by simp [h3 j hj]⟩
        rw [this]
      | false =>
        rw [cond_false, show ((i : Int) + 1) = ((i + 1 : Nat) : Int) by omega]
        refine ih m (i + 1) (by omega) (by omega) (fun j hj => ?_)
        by_cases hji : j = i
        · subst hji; exact hp
        · exact h3 j (by omega)
  exact ev_eq (len + 1) (fun m hm => key len m 0 (by omega) (by omega) (fun j hj => by omega))

/-- a loop, by what holds of its end -/
theorem loop_post {X Y : Type} {N : Nat → X → Option Y} (Inv : X → Prop) (μ : X → Nat) (Post : X → Y → Prop)
    (step : ∀ x, Inv x → (∃ y, Post x y ∧ ∀ m, N (m + 1) x = some y) ∨ ∃ x', Inv x' ∧ μ x' < μ x ∧ (∀ y, Post x' y → Post x y) ∧ ∀ m, N (m + 1) x = N m x') :
    ∀ x, Inv x → ∃ y, ev (fun n => N n x) = some y ∧ Post x y := by
  have key : ∀ k x, Inv x → μ x ≤ k → ∃ y, Post x y ∧ ∀ m, k < m → N m x = some y := by
    intro k
    induction k with
    | zero =>
      intro x hi hk
      rcases step x hi with ⟨y, h1, h2⟩ | ⟨x', _, h2, _⟩
      · refine ⟨y, h1, fun m hm => ?_⟩
        obtain ⟨m, rfl⟩ : ∃ m', m = m' + 1 := ⟨m - 1, by omega⟩
        exact h2 m
      · omega
    | succ k ih =>
      intro x hi hk
      rcases step x hi with ⟨y, h1, h2⟩ | ⟨x', h1, h2, h3, h4⟩
      · refine ⟨y, h1, fun m hm => ?_⟩
        obtain ⟨m, rfl⟩ : ∃ m', m = m' + 1 := ⟨m - 1, by omega⟩
        exact h2 m
      · obtain ⟨y, q1, q2⟩ := ih x' h1 (by omega)
        refine ⟨y, h3 y q1, fun m hm => ?_⟩
        obtain ⟨m, rfl⟩ : ∃ m', m = m' + 1 := ⟨m - 1, by omega⟩
        rw [h4]
        exact q2 m (by omega)
  intro x hi
  obtain ⟨y, h1, h2⟩ := key (μ x) x hi (Nat.le_refl _)
  exact ⟨y, ev_eq (μ x + 1) (fun m hm => h2 m (by omega)), h1⟩

/-- a number between two -/
def btw (x a b : Int) : Bool := decide (a ≤ x) && decide (x ≤ b)
theorem btw_iff {x a b : Int} : btw x a b = true ↔ a ≤ x ∧ x ≤ b := by simp [btw]

theorem drop_cons {l : List D} {i : Nat} (h : i < l.length) : l.drop i = l[i]?.getD (.int 0) :: l.drop (i + 1) := by
  rw [List.drop_eq_getElem_cons h, List.getElem?_eq_getElem h]; rfl

theorem drop_end {l : List D} {i : Nat} (h : ¬ i < l.length) : l.drop i = [] := List.drop_of_length_le (by omega)

theorem succ_wrap {i : Nat} (h : i < 4611686018427387904) : IntKind.i64.wrap ((i : Int) + 1) = ((i + 1 : Nat) : Int) := by
  rw [wrap_id (by omega) (by omega)]; omega

theorem pred_wrap {i : Nat} (h : i < 4611686018427387904) (h0 : 0 < i) : IntKind.i64.wrap ((i : Int) - 1) = ((i - 1 : Nat) : Int) := by
  rw [wrap_id (by omega) (by omega)]; omega

theorem cond_some {α : Type} {b : Bool} {x y : Option α} (h1 : ∃ r, x = some r) (h2 : ∃ r, y = some r) : ∃ r, (bif b then x else y) = some r := by
  cases b
  · exact h2
  · exact h1

theorem cond_self {α : Type} {b : Bool} {x : α} : (bif b then x else x) = x := by cases b <;> rfl

/-- two loops in step -/
theorem loop_two {X Y Y' : Type} {N : Nat → X → Option Y} {N' : Nat → X → Option Y'} (Inv : X → Prop) (μ : X → Nat) (R : Y → Y' → Prop)
    (step : ∀ x, Inv x → (∃ y y', R y y' ∧ ∀ m, N (m + 1) x = some y ∧ N' (m + 1) x = some y') ∨ ∃ x', Inv x' ∧ μ x' < μ x ∧ ∀ m, N (m + 1) x = N m x' ∧ N' (m + 1) x = N' m x') :
    ∀ x, Inv x → ∃ y y', ev (fun n => N n x) = some y ∧ ev (fun n => N' n x) = some y' ∧ R y y' := by
  have key : ∀ k x, Inv x → μ x ≤ k → ∃ y y', R y y' ∧ ∀ m, k < m → N m x = some y ∧ N' m x = some y' := by
    intro k
    induction k with
    | zero =>
      intro x hi hk
      rcases step x hi with ⟨y, y', h1, h2⟩ | ⟨x', _, h2, _⟩
      · refine ⟨y, y', h1, fun m hm => ?_⟩
        obtain ⟨m, rfl⟩ : ∃ m', m = m' + 1 := ⟨m - 1, by omega⟩
        exact h2 m
      · omega
    | succ k ih =>
      intro x hi hk
      rcases step x hi with ⟨y, y', h1, h2⟩ | ⟨x', h1, h2, h3⟩
      · refine ⟨y, y', h1, fun m hm => ?_⟩
        obtain ⟨m, rfl⟩ : ∃ m', m = m' + 1 := ⟨m - 1, by omega⟩
        exact h2 m
      · obtain ⟨y, y', q1, q2⟩ := ih x' h1 (by omega)
        refine ⟨y, y', q1, fun m hm => ?_⟩
        obtain ⟨m, rfl⟩ : ∃ m', m = m' + 1 := ⟨m - 1, by omega⟩
        rw [(h3 m).1, (h3 m).2]
        exact q2 m (by omega)
  intro x hi
  obtain ⟨y, y', h1, h2⟩ := key (μ x) x hi (Nat.le_refl _)
  exact ⟨y, y', ev_eq (μ x + 1) (fun m hm => (h2 m (by omega)).1), ev_eq (μ x + 1) (fun m hm => (h2 m (by omega)).2), h1⟩

theorem tmod_nat {a b : Nat} : ((a : Int)).tmod (b : Int) = ((a % b : Nat) : Int) := by
  rw [Int.tmod_eq_emod_of_nonneg (by omega)]; rfl

end Go.Rai
