/- An evaluator of the model's programs over plain values, proved sound, part 4 of 5. It is used by the claim's law; it has no condition of its own. -/
import Derived.Test.YticcpkmednijlaaRaiU3
import Derived.Orders
/- Calls in other surroundings. -/
set_option linter.unusedVariables false
set_option linter.unusedSimpArgs false
namespace Go.Rai

def SubB (b b' : BL) : Prop := ∀ s c, lookB b s = some c → lookB b' s = some c

theorem getAt_sub {b b' : BL} (h : SubB b b') {s : Nat} {p : List Nat} {r : List Cond × V} (hg : getAt b s p = some r) : getAt b' s p = some r := by
  unfold getAt at hg ⊢
  split at hg
  · rename_i c hc
    rw [h s c hc]
    exact hg
  · cases hg

theorem lend_sub {b b' : BL} (h : SubB b b') : ∀ (n : Nat), (∀ v r, lend b n v = some r → lend b' n v = some r) ∧ (∀ vs r, lends b n vs = some r → lends b' n vs = some r)
  | 0 => ⟨fun v r hv => by simp [lend] at hv, fun vs r hv => by simp [lends] at hv⟩
  | n + 1 => by
    have ih := lend_sub h n
    constructor
    · intro v r hv
      cases v with
      | full s p e =>
        simp only [lend] at hv ⊢
        split at hv
        · rename_i hg
          rw [getAt_sub h hg]
          exact hv
        · rename_i c e' vs hg
          rw [getAt_sub h hg]
          simp only
          split at hv
          · rename_i c' ws hl
            rw [ih.2 _ _ hl]
            exact hv
          · cases hv
        · cases hv
      | sub s p o l e =>
        simp only [lend] at hv ⊢
        split at hv
        · rename_i hg
          rw [getAt_sub h hg]
          exact hv
        · cases hv
      | ptr s p =>
        simp only [lend] at hv ⊢
        split at hv
        · rename_i hg
          rw [getAt_sub h hg]
          simp only
          split at hv
          · rename_i hl
            rw [ih.1 _ _ hl]
            exact hv
          · cases hv
        · cases hv
      | obox x =>
        simp only [lend] at hv ⊢
        split at hv
        · rename_i hl
          rw [ih.1 _ _ hl]
          exact hv
        · cases hv
      | agg vs =>
        simp only [lend] at hv ⊢
        split at hv
        · rename_i hl
          rw [ih.2 _ _ hl]
          exact hv
        · cases hv
      | fn f caps =>
        simp only [lend] at hv ⊢
        split at hv
        · rename_i hl
          rw [ih.2 _ _ hl]
          exact hv
        · cases hv
      | _ => simpa only [lend] using hv
    · intro vs r hv
      cases vs with
      | nil => simpa only [lends] using hv
      | cons v vs =>
        simp only [lends] at hv ⊢
        split at hv
        · rename_i hl
          rw [ih.1 _ _ hl]
          simp only
          split at hv
          · rename_i hl2
            rw [ih.2 _ _ hl2]
            exact hv
          · cases hv
        · cases hv

theorem prepLend_sub {A : Ann} {f : FuncId} {b b' : BL} (h : SubB b b') : ∀ {vs : List V} {i : Nat} {ts : List Ty} {r : List Cond × List V}, prepLend A f b i ts vs = some r → prepLend A f b' i ts vs = some r
  | [], i, ts, r, hv => by simpa only [prepLend] using hv
  | v :: vs, i, ts, r, hv => by
    have go : ∀ (x x' : G V), (∀ q, x = some q → x' = some q) → (match x with
        | some (c, w) => match prepLend A f b (i + 1) ts.tail vs with
          | some (c', ws) => some ((cat c c'), w :: ws)
          | none => none
        | none => none) = some r → (match x' with
        | some (c, w) => match prepLend A f b' (i + 1) ts.tail vs with
          | some (c', ws) => some ((cat c c'), w :: ws)
          | none => none
        | none => none) = some r := by
      intro x x' hx hq
      split at hq
      · rename_i h1
        rw [hx _ rfl]
        simp only
        split at hq
        · rename_i h2
          rw [prepLend_sub h h2]
          exact hq
        · cases hq
      · cases hq
    simp only [prepLend] at hv ⊢
    cases hm : A.mode f i with
    | lend => simp only [hm] at hv ⊢; exact go _ _ (fun q hq => (lend_sub h 9).1 _ _ hq) hv
    | io => simp only [hm] at hv ⊢; exact go (some ([], v)) (some ([], v)) (fun q hq => hq) hv
    | keep => simp only [hm] at hv ⊢; exact go _ _ (fun q hq => hq) hv

theorem restr_sub {b : BL} : ∀ {L : List Nat}, SubB (restr b L) b
  | [] => fun s c h => by simp [restr, lookB] at h
  | t :: L => by
    intro s c h
    unfold restr at h
    split at h
    · rename_i c0 hc
      simp only [lookB] at h
      split at h
      · rename_i hb
        have := Nat.eq_of_beq_eq_true hb
        subst this
        simp only [Option.some.injEq] at h
        subst h
        exact hc
      · exact restr_sub s c h
    · exact restr_sub s c h

theorem look_keys {b : BL} {s : Nat} {c : V} (h : lookB b s = some c) : s ∈ keys b := by
  induction b with
  | nil => simp [lookB] at h
  | cons x r ih =>
    obtain ⟨k, u⟩ := x
    simp only [lookB] at h
    simp only [keys, List.mem_cons]
    split at h
    · rename_i hb; exact .inl (Nat.eq_of_beq_eq_true hb).symm
    · exact .inr (ih h)

theorem sub_of_agree {b bR b' : BL} (h : SubB bR b) (ha : AgreeB b b' (keys bR)) : SubB bR b' := fun s c hc => by rw [ha s (look_keys hc)]; exact h s c hc

theorem sitesB_drop {b : BL} {s t : Nat} (h : t ∈ sitesB (dropB b s)) : t ∈ sitesB b := by
  induction b with
  | nil => simpa [dropB] using h
  | cons x r ih =>
    obtain ⟨k, u⟩ := x
    unfold dropB at h
    simp only [sitesB, mem_cat]
    split at h
    · exact .inr (ih h)
    · simp only [sitesB, mem_cat] at h
      exact h.imp id ih

theorem sitesB_append {b b' : BL} {t : Nat} : t ∈ sitesB (b ++ b') ↔ t ∈ sitesB b ∨ t ∈ sitesB b' := by
  induction b with
  | nil => simp [sitesB]
  | cons x r ih =>
    obtain ⟨k, u⟩ := x
    simp only [List.cons_append, sitesB, mem_cat, ih, or_assoc]

theorem sitesB_set {b : BL} {s t : Nat} {x : V} (h : t ∈ sitesB (setB b s x)) : t ∈ sitesB b ∨ t ∈ sites x := by
  unfold setB at h
  rw [cat_eq, sitesB_append] at h
  rcases h with h | h
  · exact .inl (sitesB_drop h)
  · right
    simpa [sitesB, mem_cat] using h

theorem drop_none : ∀ {b : BL} {s : Nat}, lookB b s = none → dropB b s = b
  | [], s, _ => rfl
  | (k, u) :: r, s, h => by
    simp only [lookB] at h
    unfold dropB
    split at h
    · cases h
    · rw [drop_none h]

theorem sitesB_set' {b : BL} {s t : Nat} {x : V} (h : t ∈ sites x) : t ∈ sitesB (setB b s x) := by
  unfold setB
  rw [cat_eq, sitesB_append]
  right
  simpa [sitesB, mem_cat] using h

section
variable {P : Program} {A : Ann} {w w' w0 : World} {F0 : List Nat} {sl sl' : List V} {a : Act} {b b' b1 bl : BL} {G : GT} {o : Oper} {v : V} {c : List Cond}

/-- one result, in other surroundings -/
theorem place_loc {s : Nat} {x v : V} (h : place sl b s x = some (v, b1)) {bad : Nat → Prop} (h1 : ∀ t ∈ sitess sl', bad t ∨ t ∈ sitess sl) (h2 : ∀ t ∈ sitesB b', bad t ∨ t ∈ sitesB b) (h3 : ¬ bad s) (h4 : lookB b' s = lookB b s) :
    ∃ b1', place sl' b' s x = some (v, b1') ∧ lookB b1' s = lookB b1 s ∧ (∀ t, t ≠ s → lookB b1' t = lookB b' t ∧ lookB b1 t = lookB b t) ∧ (∀ t ∈ sitesB b1', bad t ∨ t ∈ sitesB b1) := by
  unfold place at h ⊢
  split at h
  · split at h
    · rename_i hun
      simp only [Option.some.injEq, Prod.mk.injEq] at h
      obtain ⟨rfl, rfl⟩ := h
      have hx := unused_x hun
      have hn : s ∉ sitess sl ∧ s ∉ sitesB b := by
        unfold unused at hun
        split at hun
        · have h1 : bor (isIn (sitess sl) s) (bor (isIn (sitesB b) s) (isIn (sites x) s)) = false := by
            cases hb : bor (isIn (sitess sl) s) (bor (isIn (sitesB b) s) (isIn (sites x) s)) with
            | false => rfl
            | true => rw [hb] at hun; simp [bneg] at hun
          rw [bor_false, bor_false] at h1
          exact ⟨fun hm => (by rw [isIn_mem.2 hm] at h1; cases h1.1), fun hm => (by rw [isIn_mem.2 hm] at h1; cases h1.2.1)⟩
        · cases hun
      have hu' : unused sl' b' x s = true := unused_mk (by rw [h4]; exact (unused_iff hun).1) (fun hm => (h1 s hm).elim h3 hn.1) (fun hm => (h2 s hm).elim h3 hn.2) hx
      rw [hu']
      refine ⟨_, rfl, by rw [lookB_set, lookB_set]; simp, fun t ht => ⟨by rw [lookB_set, if_neg ht], by rw [lookB_set, if_neg ht]⟩, fun t ht => ?_⟩
      rcases sitesB_set ht with ht | ht
      · rcases h2 t ht with ht | ht
        · exact .inl ht
        · right
          unfold setB
          rw [drop_none (unused_iff hun).1, cat_eq, sitesB_append]
          exact .inl ht
      · exact .inr (sitesB_set' ht)
    · cases h
  · simp only [Option.some.injEq, Prod.mk.injEq] at h
    obtain ⟨rfl, rfl⟩ := h
    exact ⟨b', rfl, h4, fun t ht => ⟨rfl, rfl⟩, h2⟩

theorem places_loc {s : Nat} {bad : Nat → Prop} : ∀ {vs : List V} {j : Nat} {sl sl' : List V} {b b' b1 : BL} {xs : List V}, places s sl b j vs = some (xs, b1) → (∀ t ∈ sitess sl', bad t ∨ t ∈ sitess sl) → (∀ t ∈ sitesB b', bad t ∨ t ∈ sitesB b) →
    (∀ t ∈ newSites s j vs, ¬ bad t) → (∀ t ∈ newSites s j vs, lookB b' t = lookB b t) →
    ∃ b1', places s sl' b' j vs = some (xs, b1') ∧ (∀ t ∈ newSites s j vs, lookB b1' t = lookB b1 t) ∧ (∀ t, t ∉ newSites s j vs → lookB b1' t = lookB b' t ∧ lookB b1 t = lookB b t)
  | [], j, sl, sl', b, b', b1, xs, h, h1, h2, h3, h4 => by
    simp only [places, Option.some.injEq, Prod.mk.injEq] at h
    obtain ⟨rfl, rfl⟩ := h
    exact ⟨b', rfl, fun t ht => (by cases ht), fun t _ => ⟨rfl, rfl⟩⟩
  | v :: vs, j, sl, sl', b, b', b1, xs, h, h1, h2, h3, h4 => by
    simp only [places] at h
    split at h
    · rename_i x b2 hp
      split at h
      · rename_i ys b3 hq
        simp only [Option.some.injEq, Prod.mk.injEq] at h
        obtain ⟨rfl, rfl⟩ := h
        obtain ⟨b2', p1, p2, p3, p4⟩ := place_loc hp h1 h2 (h3 _ (by simp [newSites])) (h4 _ (by simp [newSites]))
        have agree : ∀ t ∈ newSites s (j + 1) vs, lookB b2' t = lookB b2 t := by
          intro t ht
          by_cases he : t = 10000 + 16 * s + j
          · subst he; exact p2
          · rw [(p3 t he).1, (p3 t he).2]; exact h4 t (by simp [newSites, ht])
        obtain ⟨b3', q1, q2, q3⟩ := places_loc (sl := x :: sl) (sl' := x :: sl') hq
          (fun t ht => by
            simp only [sitess, mem_cat] at ht ⊢
            rcases ht with ht | ht
            · exact .inr (.inl ht)
            · exact (h1 t ht).imp id .inr) p4 (fun t ht => h3 t (by simp [newSites, ht])) agree
        refine ⟨b3', by simp only [places, p1, q1], fun t ht => ?_, fun t ht => ?_⟩
        · by_cases hm : t ∈ newSites s (j + 1) vs
          · exact q2 t hm
          · have he : t = 10000 + 16 * s + j := by simpa [newSites, hm] using ht
            rw [(q3 t hm).1, (q3 t hm).2, he]; exact p2
        · simp only [newSites, List.mem_cons, not_or] at ht
          rw [(q3 t ht.2).1, (q3 t ht.2).2]
          exact p3 t ht.1
      · cases h
    · cases h

theorem placeRes_one {s : Nat} {x : V} (h : ∀ vs, x ≠ .tup vs) : placeRes sl b (some s) x = place sl b s x := by
  cases x <;> first | exact absurd rfl (h _) | rfl

theorem resSites_one {s : Nat} {x : V} (h : ∀ vs, x ≠ .tup vs) : resSites (some s) x = [s] := by
  cases x <;> first | exact absurd rfl (h _) | rfl

theorem placeRes_loc {d : Option Nat} {x v : V} (h : placeRes sl b d x = some (v, b1)) (h1 : ∀ t ∈ resSites d x, t ∉ sitess sl' ∧ t ∉ sitesB b') (h4 : ∀ t ∈ resSites d x, lookB b' t = lookB b t) :
    ∃ b1', placeRes sl' b' d x = some (v, b1') ∧ (∀ t ∈ resSites d x, lookB b1' t = lookB b1 t) ∧ (∀ t, t ∉ resSites d x → lookB b1' t = lookB b' t ∧ lookB b1 t = lookB b t) := by
  cases d with
  | none =>
    simp only [placeRes, Option.some.injEq, Prod.mk.injEq] at h
    obtain ⟨rfl, rfl⟩ := h
    exact ⟨b', rfl, fun t ht => (by simp [resSites] at ht), fun t _ => ⟨rfl, rfl⟩⟩
  | some s =>
    let bad : Nat → Prop := fun t => t ∈ sitess sl' ∨ t ∈ sitesB b'
    have one : (∀ vs, x ≠ .tup vs) → ∃ b1', placeRes sl' b' (some s) x = some (v, b1') ∧ (∀ t ∈ resSites (some s) x, lookB b1' t = lookB b1 t) ∧ (∀ t, t ∉ resSites (some s) x → lookB b1' t = lookB b' t ∧ lookB b1 t = lookB b t) := by
      intro e0
      rw [placeRes_one e0] at h
      rw [resSites_one e0] at h1 h4 ⊢
      rw [placeRes_one e0]
      obtain ⟨b2', p1, p2, p3, p4⟩ := place_loc (sl' := sl') (b' := b') (bad := bad) h (fun t ht => .inl (.inl ht)) (fun t ht => .inl (.inr ht)) (fun hb => hb.elim (h1 s (by simp)).1 (h1 s (by simp)).2) (h4 s (by simp))
      exact ⟨b2', p1, fun t ht => (by simp only [List.mem_singleton] at ht; subst ht; exact p2), fun t ht => p3 t (by simpa using ht)⟩
    cases x with
    | tup vs =>
      simp only [placeRes] at h
      split at h
      · rename_i xs b2 hp
        simp only [Option.some.injEq, Prod.mk.injEq] at h
        obtain ⟨rfl, rfl⟩ := h
        obtain ⟨b1', p1, p2, p3⟩ := places_loc (sl' := sl') (b' := b') (bad := bad) hp (fun t ht => .inl (.inl ht)) (fun t ht => .inl (.inr ht)) (fun t ht hb => hb.elim (h1 t ht).1 (h1 t ht).2) h4
        exact ⟨b1', by simp only [placeRes, p1], p2, p3⟩
      · cases h
    | _ => exact one (by simp)

theorem place_frame {s : Nat} {x v : V} (h : place sl b s x = some (v, b1)) : ∀ t, t ≠ s → lookB b1 t = lookB b t := by
  unfold place at h
  split at h
  · split at h
    · simp only [Option.some.injEq, Prod.mk.injEq] at h
      obtain ⟨rfl, rfl⟩ := h
      intro t ht
      rw [lookB_set, if_neg ht]
    · cases h
  · simp only [Option.some.injEq, Prod.mk.injEq] at h
    obtain ⟨rfl, rfl⟩ := h
    intro t _; rfl

theorem places_frame {s : Nat} : ∀ {vs : List V} {j : Nat} {sl : List V} {b b1 : BL} {xs : List V}, places s sl b j vs = some (xs, b1) → ∀ t, t ∉ newSites s j vs → lookB b1 t = lookB b t
  | [], j, sl, b, b1, xs, h => by
    simp only [places, Option.some.injEq, Prod.mk.injEq] at h
    obtain ⟨rfl, rfl⟩ := h
    intro t _; rfl
  | v :: vs, j, sl, b, b1, xs, h => by
    simp only [places] at h
    split at h
    · rename_i x b2 hp
      split at h
      · rename_i ys b3 hq
        simp only [Option.some.injEq, Prod.mk.injEq] at h
        obtain ⟨rfl, rfl⟩ := h
        intro t ht
        simp only [newSites, List.mem_cons, not_or] at ht
        rw [places_frame hq t ht.2, place_frame hp t ht.1]
      · cases h
    · cases h

theorem placeRes_frame {s : Nat} {x v : V} (h : placeRes sl b (some s) x = some (v, b1)) : ∀ t, t ∉ resSites (some s) x → lookB b1 t = lookB b t := by
  cases x with
  | tup vs =>
    simp only [placeRes] at h
    split at h
    · rename_i xs b2 hp
      simp only [Option.some.injEq, Prod.mk.injEq] at h
      obtain ⟨rfl, rfl⟩ := h
      exact places_frame hp
    · cases h
  | _ =>
    intro t ht
    rw [placeRes_one (by simp)] at h
    exact place_frame h t (by simpa [resSites] using ht)

/-- a call that only lends: the machine's step -/
theorem call_sem {io : Nat → Bool} {cl : Call} {fo : Operand} {g : FuncId} {caps : List V} (ho : o.op = .call cl) (hcal : cl.callee = .value fo) (hf : opd sl fo = .fn g caps)
    {ts : List Ty} (hio : anyIo A g 0 (cat (mapOpd sl cl.args.toList) caps) = false) (hnt : noTups (mapOpd sl cl.args.toList) = true) (hna : noAggs caps = true) {ws : List V} {res : V} {outs : List V}
    (hp : prepLend A g b 0 ts (cat (mapOpd sl cl.args.toList) caps) = some (c, ws)) (hk : ∀ x ∈ c, x.ok) (hco : CallsOK P (fun i => isIo (A.mode g i)) g ws res outs) (how : allOwn res = true) (hpl : placeRes sl b o.dst res = some (v, b1)) :
    Semo P o sl b v b1 := by
  intro Pn w0 F0 a w hdst hr K Q hK
  let κ : St → Option St := fun σ => some σ
  let oc : OC St := fun f args k => bif Nat.beq f g then (match k res outs with | some r => some r | none => none) else none
  obtain ⟨⟨G, hc, hs⟩, hl, hd, hpin⟩ := hr
  obtain ⟨k1, k3⟩ := hco
  obtain ⟨fn, j1, j2, j3⟩ := k1
  have hfv := opd_val hs fo
  rw [hf] at hfv
  have hfv' := (val_one rfl (by simp) (by simp)).1 hfv
  unfold InV at hfv'
  obtain ⟨vals, hfe, hcaps, _⟩ := hfv'
  simp only [List.cons.injEq, and_true] at hfe
  rw [cat_eq] at hp hio
  have hargs : Args (envOf w b G []) (fun j => isIo (A.mode g j)) 0 (mapOpd sl cl.args.toList ++ caps) (cl.args.toList.map a.eval ++ vals.toList) [] := by
    have := Args_append (opds_args (io := fun j => isIo (A.mode g j)) (i := 0) hs hnt) (caps_args (i := 0 + (mapOpd sl cl.args.toList).length) hna hcaps)
    simpa using this
  have htup := prepLend_ok (Ec := calleeEnv w []) hc.ok rfl rfl (fun b hb hx => (⟨hb, hx⟩ : b < w.heap.size ∧ b ∉ [])) hargs hp hk
  have hcalls := k3 w (cl.args.toList.map a.eval ++ vals.toList) [] htup (by simp) (by simp)
  have hrun : (execOp a.eval o).run P w = .ok (.enter g (cl.args.toList.map a.eval ++ vals.toList).toArray) w := by
    have hcf := callFunc_run (P := P) (w := w) (args := (cl.args.toList.map a.eval ++ vals.toList).toArray) j1 j2 j3
    have he : (cl.args.toList.map a.eval ++ vals.toList).toArray = cl.args.map a.eval ++ vals := by apply Array.ext'; simp
    rw [he] at hcf ⊢
    simp [execOp, ho, resolve, hcal, hfe, Deferred.ofValue, invoke, hcf]
  unfold Oper.wp
  rw [hrun, Oper.upon_enter]
  refine Calls.mono hcalls ?_
  rintro e w2 ⟨v2, Fr, Fo, rfl, q1, q2, q3, q4, q5, q6, q7, q8, q9⟩
  have hFo : Fo = [] := outs_nil hio (Args_len hargs) q2
  subst hFo
  simp only [List.append_nil] at q1 q3 q4
  obtain ⟨t1, t2⟩ := hc.x.world (w' := w2) (X' := Fr) q6 (fun b hb _ => q5 b hb (by simp)) q3 (fun b hb => ⟨(q4 b hb).1, (q4 b hb).2.elim (fun h => by cases h) .inr⟩) q7 q8 q9
  obtain ⟨G', s1, s2, s3⟩ := placeRes_ok (E := calleeEnv w2 Fr) t1 (hs.go0 t2) rfl q1 how hpl
  exact hK _ _ (Rel.put s1 s2 hl hd hpin hdst s3)

/-- the same in other surroundings -/
theorem call_loc {cl : Call} {fo : Operand} {g : FuncId} {caps : List V} (ho : o.op = .call cl) (hcal : cl.callee = .value fo) (hf : opd sl fo = .fn g caps)
    {ts : List Ty} (hio : anyIo A g 0 (cat (mapOpd sl cl.args.toList) caps) = false) (hnt : noTups (mapOpd sl cl.args.toList) = true) (hna : noAggs caps = true) {ws : List V} {res : V} {outs : List V} {bR : BL} (hR : SubB bR b)
    (hp : prepLend A g bR 0 ts (cat (mapOpd sl cl.args.toList) caps) = some (c, ws)) (hk : ∀ x ∈ c, x.ok) (hco : CallsOK P (fun i => isIo (A.mode g i)) g ws res outs) (how : allOwn res = true) (hpl : placeRes sl b o.dst res = some (v, b1)) {gs : List Nat} :
    Loc P o sl b v b1 (cat gs (tmpsOf (opsOf o.op))) (cat (keys bR) (resSites o.dst res)) (resSites o.dst res) (resSites o.dst res) := by
  have hops : opsOf o.op = fo :: cl.args.toList := by rw [ho]; simp [opsOf, hcal]
  have base : ∀ t, t ∉ resSites o.dst res → lookB b1 t = lookB b t := by
    cases hd : o.dst with
    | none =>
      rw [hd] at hpl
      simp only [placeRes, Option.some.injEq, Prod.mk.injEq] at hpl
      intro t _; rw [hpl.2]
    | some s =>
      intro t ht
      rw [hd] at hpl
      exact placeRes_frame hpl t ht
  refine ⟨base, fun sl' b' h1 h2 h3 => ?_⟩
  have hag : AgreeO sl sl' (opsOf o.op) := agreeO_of (fun t ht => h1 t (by rw [cat_eq]; simp [ht]))
  rw [hops] at hag
  have e1 : opd sl' fo = .fn g caps := by rw [hag fo (by simp), hf]
  have e2 : mapOpd sl' cl.args.toList = mapOpd sl cl.args.toList := AgreeO.map (fun x hx => hag x (by simp [hx]))
  have e3 : prepLend A g b' 0 ts (cat (mapOpd sl' cl.args.toList) caps) = some (c, ws) := by
    rw [e2]
    exact prepLend_sub (sub_of_agree hR (h2.sub (fun s hs => by rw [cat_eq]; simp [hs]))) hp
  obtain ⟨b1', p1, p2, p3⟩ := placeRes_loc (sl' := sl') (b' := b') hpl h3 (fun t ht => h2 t (by rw [cat_eq]; simp [ht]))
  exact ⟨b1', call_sem (io := fun _ => false) ho hcal e1 (by rw [e2]; exact hio) (by rw [e2]; exact hnt) hna e3 hk hco how p1, p2, fun s hs => (p3 s hs).1⟩

end
end Go.Rai

/- Calls that change their arguments. -/
set_option linter.unusedVariables false
set_option linter.unusedSimpArgs false
namespace Go.Rai

theorem apart_not {l m : List Nat} (h : apartL l m = true) : ∀ s ∈ l, s ∉ m := by
  induction l with
  | nil => intro s hs; cases hs
  | cons a l ih =>
    unfold apartL at h
    rw [band_true] at h
    intro s hs
    rcases List.mem_cons.1 hs with rfl | hs
    · intro hm
      rw [isIn_mem.2 hm] at h
      simp [bneg] at h
    · exact ih h.2 s hs

theorem bneg_t {b : Bool} (h : bneg b = true) : b = false := by cases b <;> simp [bneg] at h ⊢

theorem not_isIn {l : List Nat} {s : Nat} (h : isIn l s = false) : s ∉ l := fun hm => by rw [isIn_mem.2 hm] at h; cases h

mutual
theorem own_sites : ∀ (v : V), allOwn v = true → sites v = []
  | .int _ _, _ => rfl
  | .bool _, _ => rfl
  | .str _, _ => rfl
  | .own _ _, _ => rfl
  | .arr _ _ _, _ => rfl
  | .agg vs, h => by unfold allOwn at h; unfold sites; exact own_sitess vs h
  | .obox v, h => by unfold allOwn at h; unfold sites; exact own_sites v h
  | .tup vs, h => by unfold allOwn at h; unfold sites; exact own_sitess vs h
  | .undef, ho => by simp [allOwn] at ho
  | .void, ho => by simp [allOwn] at ho
  | .rd _ _, ho => by simp [allOwn] at ho
  | .lst _ _, ho => by simp [allOwn] at ho
  | .nilsl, ho => by simp [allOwn] at ho
  | .emp _, ho => by simp [allOwn] at ho
  | .rp _, ho => by simp [allOwn] at ho
  | .full _ _ _, ho => by simp [allOwn] at ho
  | .sub _ _ _ _ _, ho => by simp [allOwn] at ho
  | .ptr _ _, ho => by simp [allOwn] at ho
  | .fn _ _, ho => by simp [allOwn] at ho
  | .nilfn, ho => by simp [allOwn] at ho
  | .nilptr, ho => by simp [allOwn] at ho
theorem own_sitess : ∀ (vs : List V), allOwns vs = true → sitess vs = []
  | [], _ => rfl
  | v :: vs, h => by
    unfold allOwns at h; rw [band_true] at h
    unfold sitess; rw [own_sites v h.1, own_sitess vs h.2]; rfl
end

section
variable {P : Program} {A : Ann} {w w' w0 : World} {F0 : List Nat} {sl : List V} {a : Act} {bl b b' b1 : BL} {G : GT} {o : Oper} {X : List Nat} {v : V} {c : List Cond}

/-- what a site's aliases said once they say again -/
structure Back (E0 E' : Env) (Lf Lp : List Nat) (s : Nat) : Prop where
  on : s ∈ Lf ∨ s ∈ Lp
  f : s ∈ Lf → ∀ e cs, InV E0 (.full s [] e) cs [] → InV E' (.full s [] e) cs []
  p : s ∈ Lp → ∀ cs, InV E0 (.ptr s [0]) cs [] → InV E' (.ptr s [0]) cs []

mutual
theorem ioV_back {E0 E E' : Env} {s : Nat} {Lf Lp : List Nat} (hE : Goes E E' (fun t => t = s)) (hb : Back E0 E' Lf Lp s) : ∀ (v : V) {cs : List Value}, ioV Lf Lp v = true → InV E0 v cs [] → InV E v cs [] → InV E' v cs []
  | .full t p e, cs, hv, h0, h1 => by
    by_cases hts : t = s
    · subst hts
      unfold ioV at hv
      rw [band_true] at hv
      have hLp := not_isIn (bneg_t hv.1)
      have hLf := hb.on.resolve_right hLp
      have h2 := hv.2
      rw [isIn_mem.2 hLf] at h2
      match p, h0, h1, h2 with
      | [], h0, h1, _ => exact hb.f hLf e cs h0
    · exact hE.inV (by intro t' ht' e; simp [sites] at ht'; exact hts (ht' ▸ e)) (fun _ hb => by cases hb) h1
  | .ptr t p, cs, hv, h0, h1 => by
    by_cases hts : t = s
    · subst hts
      unfold ioV at hv
      rw [band_true] at hv
      have hLf := not_isIn (bneg_t hv.1)
      have hLp := hb.on.resolve_left hLf
      have h2 := hv.2
      rw [isIn_mem.2 hLp] at h2
      match p, h0, h1, h2 with
      | [0], h0, h1, _ => exact hb.p hLp cs h0
      | [], _, _, h2 => simp at h2
      | (n + 1) :: q, _, _, h2 => simp at h2
      | 0 :: m :: q, _, _, h2 => simp at h2
    · exact hE.inV (by intro t' ht' e; simp [sites] at ht'; exact hts (ht' ▸ e)) (fun _ hb => by cases hb) h1
  | .agg vs, cs, hv, h0, h1 => by
    unfold ioV at hv
    unfold InV at h0 h1 ⊢
    exact ioVs_back hE hb vs hv h0 h1
  | .fn f vs, cs, hv, h0, h1 => by
    unfold ioV at hv
    unfold InV at h0 h1 ⊢
    obtain ⟨vals, rfl, i1, i2⟩ := h1
    obtain ⟨vals', e1, j1, _⟩ := h0
    simp only [List.cons.injEq, Value.func.injEq, true_and, and_true] at e1
    subst e1
    exact ⟨vals, rfl, ioVs_back hE hb vs hv j1 i1, i2⟩
  | .tup vs, cs, hv, h0, h1 => by unfold InV at h0; exact h0.elim
  | .sub t p o l e, cs, hv, h0, h1 => by
    simp only [ioV, band_true] at hv
    exact hE.inV (fun t ht e => by subst e; exact hb.on.elim (apart_not hv.1 _ ht) (apart_not hv.2 _ ht)) (fun _ hb => by cases hb) h1
  | .lst e vs, cs, hv, h0, h1 => by
    simp only [ioV, band_true] at hv
    exact hE.inV (fun t ht e => by subst e; exact hb.on.elim (apart_not hv.1 _ ht) (apart_not hv.2 _ ht)) (fun _ hb => by cases hb) h1
  | .obox x, cs, hv, h0, h1 => by
    simp only [ioV, band_true] at hv
    exact hE.inV (fun t ht e => by subst e; exact hb.on.elim (apart_not hv.1 _ ht) (apart_not hv.2 _ ht)) (fun _ hb => by cases hb) h1
  | .rp x, cs, hv, h0, h1 => by
    simp only [ioV, band_true] at hv
    exact hE.inV (fun t ht e => by subst e; exact hb.on.elim (apart_not hv.1 _ ht) (apart_not hv.2 _ ht)) (fun _ hb => by cases hb) h1
  | .int _ _, cs, hv, h0, h1 => hE.inV (fun t ht => by cases ht) (fun _ hb => by cases hb) h1
  | .bool _, cs, hv, h0, h1 => hE.inV (fun t ht => by cases ht) (fun _ hb => by cases hb) h1
  | .str _, cs, hv, h0, h1 => hE.inV (fun t ht => by cases ht) (fun _ hb => by cases hb) h1
  | .own _ _, cs, hv, h0, h1 => hE.inV (fun t ht => by cases ht) (fun _ hb => by cases hb) h1
  | .rd _ _, cs, hv, h0, h1 => hE.inV (fun t ht => by cases ht) (fun _ hb => by cases hb) h1
  | .arr _ _ _, cs, hv, h0, h1 => hE.inV (fun t ht => by cases ht) (fun _ hb => by cases hb) h1
  | .undef, cs, hv, h0, h1 => hE.inV (fun t ht => by cases ht) (fun _ hb => by cases hb) h1
  | .void, cs, hv, h0, h1 => hE.inV (fun t ht => by cases ht) (fun _ hb => by cases hb) h1
  | .nilsl, cs, hv, h0, h1 => hE.inV (fun t ht => by cases ht) (fun _ hb => by cases hb) h1
  | .emp _, cs, hv, h0, h1 => hE.inV (fun t ht => by cases ht) (fun _ hb => by cases hb) h1
  | .nilfn, cs, hv, h0, h1 => hE.inV (fun t ht => by cases ht) (fun _ hb => by cases hb) h1
  | .nilptr, cs, hv, h0, h1 => hE.inV (fun t ht => by cases ht) (fun _ hb => by cases hb) h1
theorem ioVs_back {E0 E E' : Env} {s : Nat} {Lf Lp : List Nat} (hE : Goes E E' (fun t => t = s)) (hb : Back E0 E' Lf Lp s) : ∀ (vs : List V) {cs : List Value}, ioVs Lf Lp vs = true → InVs E0 vs cs [] → InVs E vs cs [] → InVs E' vs cs []
  | [], cs, hv, h0, h1 => by unfold InVs at h1 ⊢; exact h1
  | v :: vs, cs, hv, h0, h1 => by
    unfold ioVs at hv
    rw [band_true] at hv
    unfold InVs at h0 h1 ⊢
    obtain ⟨c1, c2, F1, F2, e1, e2, i1, i2⟩ := h0
    obtain ⟨d1, d2, G1, G2, k1, k2, j1, j2⟩ := h1
    obtain ⟨rfl, rfl⟩ := List.append_eq_nil_iff.1 e2.symm
    obtain ⟨rfl, rfl⟩ := List.append_eq_nil_iff.1 k2.symm
    subst k1
    obtain ⟨rfl, rfl⟩ := List.append_inj e1 (by rw [InV_len v i1, InV_len v j1])
    exact ⟨d1, d2, [], [], rfl, rfl, ioV_back hE hb v hv.1 i1 j1, ioVs_back hE hb vs hv.2 i2 j2⟩
end

theorem asVal_det {x : V} {cs cs' : List Value} {u : Value} (h : asVal x cs u) (h' : asVal x cs' u) : cs = cs' := by
  unfold asVal at h h'
  cases hx : isA x with
  | true =>
    rw [hx] at h h'
    simp only at h h'
    rw [h] at h'
    simpa using h'
  | false =>
    rw [hx] at h h'
    simp only at h h'
    rw [h, h']

theorem one_back {E0 E E' : Env} {s : Nat} {Lf Lp : List Nat} (hE : Goes E E' (fun t => t = s)) (hb : Back E0 E' Lf Lp s) {x : V} {u : Value} (hv : ioV Lf Lp x = true) (h0 : One E0 x u []) (h1 : One E x u []) : One E' x u [] := by
  obtain ⟨cs, i1, i2⟩ := h0
  obtain ⟨cs', j1, j2⟩ := h1
  have := asVal_det i2 j2
  subst this
  exact ⟨cs, ioV_back hE hb x hv i1 j1, j2⟩

theorem tup_back {E0 E E' : Env} {s : Nat} {Lf Lp : List Nat} (hE : Goes E E' (fun t => t = s)) (hb : Back E0 E' Lf Lp s) : ∀ {xs : List V} {us : List Value}, ioVs Lf Lp xs = true → Tup E0 xs us [] → Tup E xs us [] → Tup E' xs us []
  | [], us, hv, h0, h1 => h1
  | x :: xs, us, hv, ⟨u, r, F1, F2, e1, e2, i1, i2⟩, ⟨u', r', G1, G2, k1, k2, j1, j2⟩ => by
    unfold ioVs at hv
    rw [band_true] at hv
    obtain ⟨rfl, rfl⟩ := List.append_eq_nil_iff.1 e2.symm
    obtain ⟨rfl, rfl⟩ := List.append_eq_nil_iff.1 k2.symm
    subst e1
    simp only [List.cons.injEq] at k1
    obtain ⟨rfl, rfl⟩ := k1
    exact ⟨u, r, [], [], rfl, rfl, one_back hE hb hv.1 i1 j1, tup_back hE hb hv.2 i2 j2⟩

theorem val_back {E0 E E' : Env} {s : Nat} {Lf Lp : List Nat} (hE : Goes E E' (fun t => t = s)) (hb : Back E0 E' Lf Lp s) {x : V} {u : Value} (hv : ioV Lf Lp x = true) (h0 : Val E0 x u []) (h1 : Val E x u []) : Val E' x u [] := by
  cases x with
  | tup xs =>
    obtain ⟨us, rfl, i1⟩ := h0
    obtain ⟨us', e1, j1⟩ := h1
    simp only [Value.tuple.injEq] at e1
    subst e1
    unfold ioV at hv
    exact ⟨us, rfl, tup_back hE hb hv i1 j1⟩
  | undef => exact h1
  | _ => exact one_back hE hb hv h0 h1

theorem ioVs_slot {Lf Lp : List Nat} : ∀ {sl : List V} {t : Nat}, ioVs Lf Lp sl = true → ioV Lf Lp (slotL sl t) = true
  | [], t, h => by cases t <;> rfl
  | v :: sl, t, h => by
    unfold ioVs at h
    rw [band_true] at h
    cases t with
    | zero => exact h.1
    | succ t => exact ioVs_slot (sl := sl) (t := t) h.2

theorem slots_back {E0 E E' : Env} {s : Nat} {Lf Lp : List Nat} (hE : Goes E E' (fun t => t = s)) (hb : Back E0 E' Lf Lp s) (hv : ioVs Lf Lp sl = true) (h0 : Slots E0 sl a) (h1 : Slots E sl a) : Slots E' sl a :=
  fun t => val_back hE hb (ioVs_slot hv) (h0 t) (h1 t)

theorem ioF_root {f : FuncId} : ∀ {vs : List V} {i : Nat}, ioRoots A f b i vs = true → ∀ s ∈ ioF A f i vs, ∃ x, lookB b s = some x ∧ ownish x = true
  | [], i, _, s, hs => by simp [ioF] at hs
  | v :: vs, i, h, s, hs => by
    unfold ioRoots at h
    unfold ioF at hs
    split at h
    · rename_i hm
      rw [hm] at hs
      rw [band_true] at h
      simp only at hs
      split at hs
      · rename_i s' p e
        rcases List.mem_cons.1 hs with rfl | hs
        · have h1 := h.1
          simp only [ioRoot] at h1
          split at h1
          · split at h1
            · rename_i hl; exact ⟨_, hl, rfl⟩
            · rename_i hl; exact ⟨_, hl, rfl⟩
            · simp at h1
          · simp at h1
        · exact ioF_root h.2 s hs
      · exact ioF_root h.2 s hs
    · rename_i hm
      have : s ∈ ioF A f (i + 1) vs := by
        split at hs
        · rename_i hm'; exact absurd hm' hm
        · exact hs
      exact ioF_root h s this

theorem ioP_root {f : FuncId} : ∀ {vs : List V} {i : Nat}, ioRoots A f b i vs = true → ∀ s ∈ ioP A f i vs, ∃ x, lookB b s = some (.obox x)
  | [], i, _, s, hs => by simp [ioP] at hs
  | v :: vs, i, h, s, hs => by
    unfold ioRoots at h
    unfold ioP at hs
    split at h
    · rename_i hm
      rw [hm] at hs
      rw [band_true] at h
      simp only at hs
      split at hs
      · rename_i s' p
        rcases List.mem_cons.1 hs with rfl | hs
        · have h1 := h.1
          simp only [ioRoot] at h1
          split at h1
          · split at h1
            · rename_i hl; exact ⟨_, hl⟩
            · simp at h1
          · simp at h1
        · exact ioP_root h.2 s hs
      · exact ioP_root h.2 s hs
    · rename_i hm
      have : s ∈ ioP A f (i + 1) vs := by
        split at hs
        · rename_i hm'; exact absurd hm' hm
        · exact hs
      exact ioP_root h s this


/-- a site that is free -/
theorem free_iff {s : Nat} (h : bor (isIn (sitesB b) s) (match lookB b s with | some _ => true | none => false) = false) : lookB b s = none ∧ ∀ t c, lookB b t = some c → s ∉ sites c := by
  rw [bor_false] at h
  refine ⟨?_, fun t c hc hm => not_isIn h.1 (mem_sitesB hc hm)⟩
  cases hl : lookB b s with
  | none => rfl
  | some c => rw [hl] at h; simp at h

/-- the roots of a memory -/
def Roots (E : Env) : Prop := ∀ s c, lookB E.bl s = some c → ∃ rc F F', E.G s = some (rc, F) ∧ InV E c rc F'

theorem reput_ok {E0 : Env} (h0 : Slots E0 sl a) (hr0 : Roots E0) {Lf Lp : List Nat} (hf0 : ∀ s ∈ Lf, ∃ x, lookB E0.bl s = some x ∧ ownish x = true) (hp0 : ∀ s ∈ Lp, ∃ x, lookB E0.bl s = some (.obox x)) (hsl : ioVs Lf Lp sl = true)
    {F : List Nat} {v x : V} {u : Value} {E : Env} (hc : CoreX w bl G (F ++ X) w0 F0) (hs : Slots (envOf w bl G (F ++ X)) sl a) (hE : E.w = w) (hx : One E x u F) (hv : One E0 v u []) (ho : allOwn x = true)
    (hfull : ∀ s p e, v = .full s p e → s ∈ Lf) (hptr : ∀ s p, v = .ptr s p → s ∈ Lp) (h : reput bl v x = some b') :
    ∃ G', CoreX w b' G' X w0 F0 ∧ Slots (envOf w b' G' X) sl a ∧ ∀ y, allOwn y = true → ∀ cs F', InV (envOf w bl G (F ++ X)) y cs F' → InV (envOf w b' G' X) y cs F' := by
  unfold reput at h
  split at h
  · rename_i s p e
    split at h
    · split at h
      · rename_i e' l
        split at h
        · rename_i hfree
          simp only [Option.some.injEq] at h
          subst h
          obtain ⟨f1, f2⟩ := free_iff hfree
          obtain ⟨cs, i1, i2⟩ := hx
          obtain ⟨cs0, j1, j2⟩ := hv
          unfold asVal at i2 j2
          simp only [isA] at i2 j2
          subst i2; subst j2
          have hin : InV (envOf w bl G (F ++ X)) (.own e' l) [u] F := own_env (E := E) (by rw [hE]; rfl) _ rfl i1
          obtain ⟨g1, g2⟩ := hc.add f1 f2 hin (by simp [sites])
          have hLf : s ∈ Lf := hfull _ _ _ rfl
          obtain ⟨x0, k1, k2⟩ := hf0 s hLf
          obtain ⟨rc0, Fr0, _, k3, _⟩ := hr0 s x0 k1
          refine ⟨_, g1, slots_back g2 ⟨.inl hLf, ?_, ?_⟩ hsl h0 hs, fun y hy cs F' hi => own_env (by rfl) y hy hi⟩
          · intro _ e2 cs hcs
            unfold InV at hcs j1 ⊢
            obtain ⟨_, ⟨A1, n1, c1, e1⟩, q1⟩ := hcs
            obtain ⟨_, _, q2⟩ := j1
            obtain ⟨v1, r1, r2⟩ := q1 x0 rc0 Fr0 k1 k3 x0 _ rfl k2
            obtain ⟨v2, r3, r4⟩ := q2 x0 rc0 Fr0 k1 k3 x0 _ rfl k2
            rw [r1] at r3
            simp only [Option.some.injEq, List.cons.injEq, and_true] at r3 r4
            refine ⟨rfl, ⟨A1, n1, c1, e1⟩, ?_⟩
            intro c rc F1 hl hg x L hloc _
            simp only [envOf, lookB_set, if_true, Option.some.injEq, Prod.mk.injEq] at hl hg
            obtain ⟨rfl, rfl⟩ := hg
            subst hl
            simp only [locF, Option.some.injEq, Prod.mk.injEq] at hloc
            obtain ⟨rfl, rfl⟩ := hloc
            exact ⟨u, rfl, by rw [r2, r3, ← r4]⟩
          · intro hLp
            obtain ⟨y0, hy0⟩ := hp0 s hLp
            rw [k1] at hy0
            simp only [Option.some.injEq] at hy0
            subst hy0
            simp [ownish] at k2
        · cases h
      · cases h
    · cases h
  · rename_i s p
    split at h
    · split at h
      · rename_i y
        split at h
        · rename_i hfree
          simp only [Option.some.injEq] at h
          subst h
          obtain ⟨f1, f2⟩ := free_iff hfree
          obtain ⟨cs, i1, i2⟩ := hx
          obtain ⟨cs0, j1, j2⟩ := hv
          unfold asVal at i2 j2
          simp only [isA] at i2 j2
          subst i2; subst j2
          have hin : InV (envOf w bl G (F ++ X)) (.obox y) [u] F := own_env (E := E) (by rw [hE]; rfl) _ ho i1
          obtain ⟨g1, g2⟩ := hc.add f1 f2 hin (by rw [own_sites _ ho]; simp)
          have hLp : s ∈ Lp := hptr _ _ rfl
          obtain ⟨y0, k1⟩ := hp0 s hLp
          obtain ⟨rc0, Fr0, Fr1, k3, k4⟩ := hr0 s _ k1
          unfold InV at k4
          obtain ⟨a0, cs0, _, rfl, _⟩ := k4
          refine ⟨_, g1, slots_back g2 ⟨.inr hLp, ?_, ?_⟩ hsl h0 hs, fun y hy cs F' hi => own_env (by rfl) y hy hi⟩
          · intro hLf
            obtain ⟨x0, hx0, hx1⟩ := hf0 s hLf
            rw [k1] at hx0
            simp only [Option.some.injEq] at hx0
            subst hx0
            simp [ownish] at hx1
          · intro _ cs hcs
            unfold InV at hcs j1 ⊢
            obtain ⟨_, ⟨a1, e1⟩, q1⟩ := hcs
            obtain ⟨_, _, q2⟩ := j1
            have hloc : locF E0.w (.obox y0) (.reg [.pointer (some a0)]) [0] = some (y0, .mem a0) := by simp [locF, Where.head]
            obtain ⟨a2, r1, r2⟩ := q1 _ _ _ k1 k3 _ _ hloc
            obtain ⟨a3, r3, r4⟩ := q2 _ _ _ k1 k3 _ _ hloc
            simp only [Where.mem.injEq] at r1 r3
            subst r1; subst r3
            simp only [List.cons.injEq, and_true] at r4
            refine ⟨rfl, ⟨a0, r2⟩, ?_⟩
            intro c rc F1 hl hg x L hloc
            simp only [envOf, lookB_set, if_true, Option.some.injEq, Prod.mk.injEq] at hl hg
            obtain ⟨rfl, rfl⟩ := hg
            subst hl
            rw [r4] at hloc
            simp only [locF, Where.head, List.getElem?_cons_zero, Option.some.injEq, Prod.mk.injEq] at hloc
            obtain ⟨rfl, rfl⟩ := hloc
            exact ⟨a0, rfl, r2⟩
        · cases h
      · cases h
    · cases h
  · cases h

theorem outs_own {E E' : Env} (hw : E'.w = E.w) {f : FuncId} : ∀ {vs xs : List V} {i : Nat} {us : List Value} {F : List Nat} {bl b' : BL}, reputAll A f i bl vs xs = some b' → Outs E (fun j => isIo (A.mode f j)) i xs us F → Outs E' (fun j => isIo (A.mode f j)) i xs us F := by
  intro vs
  induction vs with
  | nil =>
    intro xs i us F bl b' h ho
    cases xs with
    | nil => exact ho
    | cons x xs => simp [reputAll] at h
  | cons v vs ih =>
    intro xs i us F bl b' h ho
    cases xs with
    | nil => simp [reputAll] at h
    | cons x xs =>
      obtain ⟨u, r, F1, F2, e1, e2, h1, h2, h3⟩ := ho
      simp only [reputAll] at h
      split at h
      · rename_i hm
        split at h
        · rename_i hx
          split at h
          · exact ⟨u, r, F1, F2, e1, e2, fun hi => by
              obtain ⟨cs, i1, i2⟩ := h1 hi
              exact ⟨cs, own_env hw x hx i1, i2⟩, h2, ih h h3⟩
          · cases h
        · cases h
      · rename_i hm
        have hf : isIo (A.mode f i) = false := by
          cases hq : A.mode f i with
          | io => exact absurd hq hm
          | lend => rfl
          | keep => rfl
        exact ⟨u, r, F1, F2, e1, e2, fun hi => (by have hi' : isIo (A.mode f i) = true := hi; rw [hf] at hi'; cases hi'), h2, ih h h3⟩

theorem reputAll_ok {f : FuncId} {E0 : Env} (h0 : Slots E0 sl a) (hr0 : Roots E0) {Lf Lp : List Nat} (hf0 : ∀ s ∈ Lf, ∃ x, lookB E0.bl s = some x ∧ ownish x = true) (hp0 : ∀ s ∈ Lp, ∃ x, lookB E0.bl s = some (.obox x)) (hsl : ioVs Lf Lp sl = true) :
    ∀ {vs xs : List V} {i : Nat} {us : List Value} {Fo : List Nat} {bl b' : BL} {G : GT} {E : Env}, CoreX w bl G (Fo ++ X) w0 F0 → Slots (envOf w bl G (Fo ++ X)) sl a → E.w = w → Outs E (fun j => isIo (A.mode f j)) i xs us Fo → Tup E0 vs us [] →
      (∀ s ∈ ioF A f i vs, s ∈ Lf) → (∀ s ∈ ioP A f i vs, s ∈ Lp) → reputAll A f i bl vs xs = some b' → ∃ G', CoreX w b' G' X w0 F0 ∧ Slots (envOf w b' G' X) sl a
  | [], [], i, us, Fo, bl, b', G, E, hc, hs, hE, ho, hv, hlf, hlp, h => by
    simp only [reputAll, Option.some.injEq] at h
    subst h
    obtain ⟨_, rfl⟩ := ho
    exact ⟨G, hc, hs⟩
  | [], x :: xs, i, us, Fo, bl, b', G, E, hc, hs, hE, ho, hv, hlf, hlp, h => by simp [reputAll] at h
  | v :: vs, [], i, us, Fo, bl, b', G, E, hc, hs, hE, ho, hv, hlf, hlp, h => by simp [reputAll] at h
  | v :: vs, x :: xs, i, us, Fo, bl, b', G, E, hc, hs, hE, ho, hv, hlf, hlp, h => by
    obtain ⟨u, r, F1, F2, e1, rfl, h1, h2, h3⟩ := ho
    obtain ⟨u', r', K1, K2, k1, k2, j1, j2⟩ := hv
    obtain ⟨rfl, rfl⟩ := List.append_eq_nil_iff.1 k2.symm
    rw [e1] at k1
    simp only [List.cons.injEq] at k1
    obtain ⟨rfl, rfl⟩ := k1
    simp only [reputAll] at h
    split at h
    · rename_i hm
      have hlf' : ∀ s p e, v = .full s p e → s ∈ Lf := fun s p e hv => hlf s (by rw [hv]; simp [ioF, hm])
      have hlp' : ∀ s p, v = .ptr s p → s ∈ Lp := fun s p hv => hlp s (by rw [hv]; simp [ioP, hm])
      have hlf2 : ∀ s ∈ ioF A f (i + 1) vs, s ∈ Lf := fun s hs => hlf s (by
        simp only [ioF, hm]
        split
        · simp [hs]
        · exact hs)
      have hlp2 : ∀ s ∈ ioP A f (i + 1) vs, s ∈ Lp := fun s hs => hlp s (by
        simp only [ioP, hm]
        split
        · simp [hs]
        · exact hs)
      split at h
      · rename_i hx
        split at h
        · rename_i b2 hp
          obtain ⟨t1, t2⟩ := hc.perm (show ((F1 ++ F2) ++ X).Perm (F1 ++ (F2 ++ X)) by rw [List.append_assoc])
          obtain ⟨G1, q1, q2, _⟩ := reput_ok h0 hr0 hf0 hp0 hsl t1 (hs.go0 t2) hE (h1 (by show isIo (A.mode f i) = true; rw [hm]; rfl)) j1 hx hlf' hlp' hp
          exact reputAll_ok h0 hr0 hf0 hp0 hsl q1 q2 hE h3 j2 hlf2 hlp2 h
        · cases h
      · cases h
    · rename_i hm
      have hf : isIo (A.mode f i) = false := by
        cases hq : A.mode f i with
        | io => exact absurd hq hm
        | lend => rfl
        | keep => rfl
      have := h2 hf
      subst this
      refine reputAll_ok h0 hr0 hf0 hp0 hsl (Fo := F2) hc hs hE h3 j2 (fun s hs => hlf s ?_) (fun s hs => hlp s ?_) h
      · unfold ioF
        split
        · rename_i hm'; exact absurd hm' hm
        · exact hs
      · unfold ioP
        split
        · rename_i hm'; exact absurd hm' hm
        · exact hs

theorem args_tup {E : Env} {io : Nat → Bool} : ∀ {xs : List V} {i : Nat} {vs : List Value} {F : List Nat}, Args E io i xs vs F → Tup E xs vs F
  | [], i, vs, F, h => h
  | x :: xs, i, vs, F, ⟨v, r, F1, F2, e1, e2, h1, h2, h3⟩ => ⟨v, r, F1, F2, e1, e2, h1, args_tup h3⟩

/-- a call that changes its arguments: the machine's step -/
theorem callIo_sem {cl : Call} {fo : Operand} {g : FuncId} {caps : List V} {b2 : BL} (ho : o.op = .call cl) (hcal : cl.callee = .value fo) (hf : opd sl fo = .fn g caps)
    {ts : List Ty} (hnt : noTups (mapOpd sl cl.args.toList) = true) (hna : noAggs caps = true)
    (hroots : ioRoots A g b 0 (cat (mapOpd sl cl.args.toList) caps) = true)
    (hsl : ioVs (ioF A g 0 (cat (mapOpd sl cl.args.toList) caps)) (ioP A g 0 (cat (mapOpd sl cl.args.toList) caps)) sl = true)
    {ws : List V} {res : V} {outs : List V}
    (hp : prep A g b ts (cat (mapOpd sl cl.args.toList) caps) = some (c, ws, bl)) (hk : ∀ x ∈ c, x.ok) (hco : CallsOK P (fun i => isIo (A.mode g i)) g ws res outs) (how : allOwn res = true)
    (hre : reputAll A g 0 bl (cat (mapOpd sl cl.args.toList) caps) outs = some b2) (hpl : placeRes sl b2 o.dst res = some (v, b1)) :
    Semo P o sl b v b1 := by
  intro Pn w0 F0 a w hdst hr K Q hK
  obtain ⟨⟨G, hc, hs⟩, hl, hd, hpin⟩ := hr
  obtain ⟨k1, k3⟩ := hco
  obtain ⟨fn, j1, j2, j3⟩ := k1
  have hfv := opd_val hs fo
  rw [hf] at hfv
  have hfv' := (val_one rfl (by simp) (by simp)).1 hfv
  unfold InV at hfv'
  obtain ⟨vals, hfe, hcaps, _⟩ := hfv'
  simp only [List.cons.injEq, and_true] at hfe
  rw [cat_eq] at hp hroots hsl hre
  have hargs : Tup (envOf w b G []) (mapOpd sl cl.args.toList ++ caps) (cl.args.toList.map a.eval ++ vals.toList) [] := by
    have := Args_append (opds_args (io := fun j => isIo (A.mode g j)) (i := 0) hs hnt) (caps_args (i := 0 + (mapOpd sl cl.args.toList).length) hna hcaps)
    exact args_tup (by simpa using this)
  have hroot0 : Roots (envOf w b G []) := fun s c hc' => by
    obtain ⟨rc, F, F1, h1, h2, _⟩ := hc.ok.root s c hc'
    exact ⟨rc, F, F1, h1, h2⟩
  obtain ⟨F, G1, p1, p2, p3⟩ := prep_ok hc hargs hp hk
  have hcalls := k3 w (cl.args.toList.map a.eval ++ vals.toList) F p2 p1.ok.xnd p1.ok.xlt
  have hrun : (execOp a.eval o).run P w = .ok (.enter g (cl.args.toList.map a.eval ++ vals.toList).toArray) w := by
    have hcf := callFunc_run (P := P) (w := w) (args := (cl.args.toList.map a.eval ++ vals.toList).toArray) j1 j2 j3
    have he : (cl.args.toList.map a.eval ++ vals.toList).toArray = cl.args.map a.eval ++ vals := by apply Array.ext'; simp
    rw [he] at hcf ⊢
    simp [execOp, ho, resolve, hcal, hfe, Deferred.ofValue, invoke, hcf]
  unfold Oper.wp
  rw [hrun, Oper.upon_enter]
  refine Calls.mono hcalls ?_
  rintro e w2 ⟨v2, Fr, Fo, rfl, q1, q2, q3, q4, q5, q6, q7, q8, q9⟩
  obtain ⟨t1, t2⟩ := p1.world (w' := w2) (X' := Fr ++ Fo) q6 (fun b hb hx => q5 b hb hx) q3 q4 q7 q8 q9
  have hs2 : Slots (envOf w2 bl G1 (Fr ++ Fo)) sl a := (hs.go0 p3).go0 t2
  obtain ⟨t3, t4⟩ := t1.perm (List.perm_append_comm (l₁ := Fr) (l₂ := Fo))
  obtain ⟨G2, r1, r2⟩ := reputAll_ok (X := Fr) (E := calleeEnv w2 (Fr ++ Fo)) hs hroot0 (ioF_root hroots) (ioP_root hroots) hsl t3 (hs2.go0 t4) rfl q2 hargs (fun s h => h) (fun s h => h) hre
  obtain ⟨G', s1, s2, s3⟩ := placeRes_ok (E := calleeEnv w2 (Fr ++ Fo)) r1 r2 rfl q1 how hpl
  exact hK _ _ (Rel.put s1 s2 hl hd hpin hdst s3)

end
end Go.Rai

/- Stores of memory among own data; calls that change one argument in its place. -/
set_option linter.unusedVariables false
set_option linter.unusedSimpArgs false
namespace Go.Rai

/-- what the short paths of a site say -/
def Short (E E' : Env) (s n m : Nat) : Prop :=
  ∀ c' rc F', lookB E'.bl s = some c' → E'.G s = some (rc, F') → ∃ c F0, lookB E.bl s = some c ∧ E.G s = some (rc, F0) ∧
    LocN false n E.w E'.w c c' (.reg rc) ∧ LocN true m E.w E'.w c c' (.reg rc)

theorem llen_eq {α : Type} : ∀ (l : List α), llen l = l.length
  | [] => rfl
  | _ :: l => by simp [llen, llen_eq l]

theorem shortP_iff {s n : Nat} {p : List Nat} (h : shortP s n s p = true) : p.length < n := by
  unfold shortP at h
  rw [Nat.beq_refl] at h
  have := Nat.le_of_ble_eq_true h
  rw [llen_eq] at this
  exact this

mutual
theorem pathV_ok {E E' : Env} {s n m : Nat} (hE : Goes E E' (fun t => t = s)) (hb : Short E E' s n m) : ∀ (v : V) {cs : List Value}, pathV s n m v = true → InV E v cs [] → InV E' v cs []
  | .full t p e, cs, hv, h1 => by
    by_cases hts : t = s
    · subst hts
      unfold pathV at hv
      have hlen := shortP_iff hv
      unfold InV at h1 ⊢
      obtain ⟨h0, h2, h3⟩ := h1
      refine ⟨h0, h2, fun c' rc F' hc hg x' L hl ho => ?_⟩
      obtain ⟨c, F0, hc0, hg0, _, hal⟩ := hb c' rc F' hc hg
      obtain ⟨x, hx, hown⟩ := hal p hlen x' L hl
      obtain ⟨ho', hh⟩ := hown rfl ho
      obtain ⟨v, hv, hcs⟩ := h3 c rc F0 hc0 hg0 x L hx ho'
      exact ⟨v, by rw [hh]; exact hv, hcs⟩
    · exact hE.inV (by intro t' ht' e; simp [sites] at ht'; exact hts (ht' ▸ e)) (fun _ hb => by cases hb) h1
  | .sub t p off len e, cs, hv, h1 => by
    by_cases hts : t = s
    · subst hts
      unfold pathV at hv
      have hlen := shortP_iff hv
      unfold InV at h1 ⊢
      obtain ⟨h0, h2, h3⟩ := h1
      refine ⟨h0, h2, fun c' rc F' hc hg x' L hl ho => ?_⟩
      obtain ⟨c, F0, hc0, hg0, _, hal⟩ := hb c' rc F' hc hg
      obtain ⟨x, hx, hown⟩ := hal p hlen x' L hl
      obtain ⟨ho', hh⟩ := hown rfl ho
      obtain ⟨A, n, k, A', hv, hcs⟩ := h3 c rc F0 hc0 hg0 x L hx ho'
      exact ⟨A, n, k, A', by rw [hh]; exact hv, hcs⟩
    · exact hE.inV (by intro t' ht' e; simp [sites] at ht'; exact hts (ht' ▸ e)) (fun _ hb => by cases hb) h1
  | .ptr t p, cs, hv, h1 => by
    by_cases hts : t = s
    · subst hts
      unfold pathV at hv
      have hlen := shortP_iff hv
      unfold InV at h1 ⊢
      obtain ⟨h0, h2, h3⟩ := h1
      refine ⟨h0, h2, fun c' rc F' hc hg x' L hl => ?_⟩
      obtain ⟨c, F0, hc0, hg0, hal, _⟩ := hb c' rc F' hc hg
      obtain ⟨x, hx, _⟩ := hal p hlen x' L hl
      exact h3 c rc F0 hc0 hg0 x L hx
    · exact hE.inV (by intro t' ht' e; simp [sites] at ht'; exact hts (ht' ▸ e)) (fun _ hb => by cases hb) h1
  | .agg vs, cs, hv, h1 => by
    unfold pathV at hv
    unfold InV at h1 ⊢
    exact pathVs_ok hE hb vs hv h1
  | .fn f vs, cs, hv, h1 => by
    unfold pathV at hv
    unfold InV at h1 ⊢
    obtain ⟨vals, rfl, i1, i2⟩ := h1
    exact ⟨vals, rfl, pathVs_ok hE hb vs hv i1, i2⟩
  | .tup vs, cs, hv, h1 => by unfold InV at h1; exact h1.elim
  | .lst e vs, cs, hv, h1 => by
    simp only [pathV] at hv
    exact hE.inV (fun t ht e => by subst e; exact not_isIn (bneg_t hv) ht) (fun _ hb => by cases hb) h1
  | .obox x, cs, hv, h1 => by
    simp only [pathV] at hv
    exact hE.inV (fun t ht e => by subst e; exact not_isIn (bneg_t hv) ht) (fun _ hb => by cases hb) h1
  | .rp x, cs, hv, h1 => by
    simp only [pathV] at hv
    exact hE.inV (fun t ht e => by subst e; exact not_isIn (bneg_t hv) ht) (fun _ hb => by cases hb) h1
  | .int _ _, cs, hv, h1 => hE.inV (fun t ht => by cases ht) (fun _ hb => by cases hb) h1
  | .bool _, cs, hv, h1 => hE.inV (fun t ht => by cases ht) (fun _ hb => by cases hb) h1
  | .str _, cs, hv, h1 => hE.inV (fun t ht => by cases ht) (fun _ hb => by cases hb) h1
  | .own _ _, cs, hv, h1 => hE.inV (fun t ht => by cases ht) (fun _ hb => by cases hb) h1
  | .rd _ _, cs, hv, h1 => hE.inV (fun t ht => by cases ht) (fun _ hb => by cases hb) h1
  | .arr _ _ _, cs, hv, h1 => hE.inV (fun t ht => by cases ht) (fun _ hb => by cases hb) h1
  | .undef, cs, hv, h1 => hE.inV (fun t ht => by cases ht) (fun _ hb => by cases hb) h1
  | .void, cs, hv, h1 => hE.inV (fun t ht => by cases ht) (fun _ hb => by cases hb) h1
  | .nilsl, cs, hv, h1 => hE.inV (fun t ht => by cases ht) (fun _ hb => by cases hb) h1
  | .emp _, cs, hv, h1 => hE.inV (fun t ht => by cases ht) (fun _ hb => by cases hb) h1
  | .nilfn, cs, hv, h1 => hE.inV (fun t ht => by cases ht) (fun _ hb => by cases hb) h1
  | .nilptr, cs, hv, h1 => hE.inV (fun t ht => by cases ht) (fun _ hb => by cases hb) h1
theorem pathVs_ok {E E' : Env} {s n m : Nat} (hE : Goes E E' (fun t => t = s)) (hb : Short E E' s n m) : ∀ (vs : List V) {cs : List Value}, pathVs s n m vs = true → InVs E vs cs [] → InVs E' vs cs []
  | [], cs, hv, h1 => by unfold InVs at h1 ⊢; exact h1
  | v :: vs, cs, hv, h1 => by
    unfold pathVs at hv
    rw [band_true] at hv
    unfold InVs at h1 ⊢
    obtain ⟨d1, d2, G1, G2, k1, k2, j1, j2⟩ := h1
    obtain ⟨rfl, rfl⟩ := List.append_eq_nil_iff.1 k2.symm
    exact ⟨d1, d2, [], [], k1, rfl, pathV_ok hE hb v hv.1 j1, pathVs_ok hE hb vs hv.2 j2⟩
end

section
variable {P : Program} {A : Ann} {w w' w0 : World} {F0 : List Nat} {sl : List V} {a : Act} {bl b b' b1 : BL} {G : GT} {o : Oper} {X : List Nat} {v : V} {c : List Cond}

theorem one_short {E E' : Env} {s n m : Nat} (hE : Goes E E' (fun t => t = s)) (hb : Short E E' s n m) {x : V} {u : Value} (hv : pathV s n m x = true) (h1 : One E x u []) : One E' x u [] := by
  obtain ⟨cs', j1, j2⟩ := h1
  exact ⟨cs', pathV_ok hE hb x hv j1, j2⟩

theorem tup_short {E E' : Env} {s n m : Nat} (hE : Goes E E' (fun t => t = s)) (hb : Short E E' s n m) : ∀ {xs : List V} {us : List Value}, pathVs s n m xs = true → Tup E xs us [] → Tup E' xs us []
  | [], us, hv, h1 => h1
  | x :: xs, us, hv, ⟨u', r', G1, G2, k1, k2, j1, j2⟩ => by
    unfold pathVs at hv
    rw [band_true] at hv
    obtain ⟨rfl, rfl⟩ := List.append_eq_nil_iff.1 k2.symm
    exact ⟨u', r', [], [], k1, rfl, one_short hE hb hv.1 j1, tup_short hE hb hv.2 j2⟩

theorem val_short {E E' : Env} {s n m : Nat} (hE : Goes E E' (fun t => t = s)) (hb : Short E E' s n m) {x : V} {u : Value} (hv : pathV s n m x = true) (h1 : Val E x u []) : Val E' x u [] := by
  cases x with
  | tup xs =>
    obtain ⟨us', e1, j1⟩ := h1
    unfold pathV at hv
    exact ⟨us', e1, tup_short hE hb hv j1⟩
  | undef => exact h1
  | _ => exact one_short hE hb hv h1

theorem pathVs_slot {s n m : Nat} : ∀ {sl : List V} {t : Nat}, pathVs s n m sl = true → pathV s n m (slotL sl t) = true
  | [], t, h => by cases t <;> rfl
  | v :: sl, t, h => by
    unfold pathVs at h
    rw [band_true] at h
    cases t with
    | zero => exact h.1
    | succ t => exact pathVs_slot (sl := sl) (t := t) h.2

theorem slots_short {E E' : Env} {s n m : Nat} (hE : Goes E E' (fun t => t = s)) (hb : Short E E' s n m) (hv : pathVs s n m sl = true) (h1 : Slots E sl a) : Slots E' sl a :=
  fun t => val_short hE hb (pathVs_slot hv) (h1 t)

theorem ownNil_tupl {t : Ty} {vs : List V} : ownNil t (.tup vs) = .tup vs := by cases t <;> rfl

/-! ### stores -/
theorem storeIn_ok (HT : TysOK P A.ty) (hc : Core w bl G w0 F0) (hs : Slots (envOf w bl G []) sl a) {t : TypeId} {x y : Operand} {co : List Cond} {b : BL} (h : o.op = .store t x y)
    (hv : storeIn (A.ty t) sl bl (opd sl x) (opd sl y) = some (co, b)) (hk : ∀ k ∈ co, k.ok) : Prim P w0 F0 sl a w o .void b := by
  have hx := opd_val hs x
  unfold storeIn at hv
  split at hv
  · rename_i s p hxe
    split at hv
    · rename_i c1 yv b1 hin
      split at hv
      · rename_i hchk
        rw [band_true, band_true, band_true, band_true] at hchk
        obtain ⟨⟨hyo, hyf⟩, ⟨hpl, hpos⟩, hns⟩ := hchk
        have hns' := not_isIn (bneg_t hns)
        have hpos' : (A.ty t).size ≠ 0 := by
          intro h0
          have := bneg_t hpos
          rw [h0] at this
          cases this
        split at hv
        · rename_i c hl
          split at hv
          · rename_i c2 z hg
            split at hv
            · rename_i hz
              simp only [Option.some.injEq, Prod.mk.injEq] at hv
              obtain ⟨rfl, rfl⟩ := hv
              rw [band_true, band_true] at hz
              obtain ⟨⟨hzo, hzf⟩, hpath⟩ := hz
              obtain ⟨hk1, hk2⟩ := conds_cat hk
              have hyt : ∀ xs, opd sl y ≠ .tup xs := by
                intro xs hxs
                rw [hxs, ownNil_tupl] at hin
                cases hq : inl 9 bl (.tup xs) with
                | none => rw [hq] at hin; cases hin
                | some r =>
                  simp only [inl] at hin
                  split at hin
                  · simp only [Option.some.injEq, Prod.mk.injEq] at hin
                    rw [← hin.2.1] at hyf
                    cases hA : A.ty t <;> rw [hA] at hyf <;> simp [fits] at hyf
                  · cases hin
              obtain ⟨csy, y1, y2⟩ := val_one_nt hyt (opd_val hs y)
              obtain ⟨Fy, G1, q1, q2, q3⟩ := (inl_ok 9).1 (F := []) (X := []) hc.x (ownNil_in (A.ty t) y1) hin hk1
              simp only [List.append_nil] at q1 q2 q3
              have hT := HT t (fits_other hyf)
              have hx' : Val (envOf w b1 G1 Fy) (.ptr s p) (a.eval x) [] := by rw [← hxe]; exact opd_val (hs.go0 q3) x
              obtain ⟨rc, F, F1, g1, g2, g3, g4, g5⟩ := q1.ok.root s c hl
              obtain ⟨Lx, i4⟩ := get_loc (envOf w b1 G1 Fy) p c rc F1 (.reg rc) c2 z g2 ⟨[], by simp⟩ hg hk2
              obtain ⟨csx, Fx, Fr, m1, m2, m3, m4, m5⟩ := q1.modifyN hl g1 i4
              obtain ⟨ad, rfl, hpx⟩ := ptr_at hx' hl g1 i4
              have hunf := loc_unfz (envOf w b1 G1 Fy) p c rc F1 (.reg rc) z ad g2 ⟨[], by simp⟩ (fun b hb => by cases hb) i4
              have hzs : vsz z = (A.ty t).size := (fits_size hzf).1
              have q4 : csy.length = (A.ty t).size := by rw [InV_len _ q2, (fits_size hyf).1]
              have q5 : ∀ u ∈ csy, u.oneCell' = true := InV_one hyf q2
              have hcells : (a.eval y).cells = csy.toArray := by
                unfold asVal at y2
                split at y2
                · rw [y2]; rfl
                · subst y2; exact cells_one (q5 _ (by simp))
              rw [hzs, ← q4] at hunf
              have hunf' : unfz w ad csy.length := hunf
              have hrun := store_run (w := w) hT hunf' q4 hcells q5 (by rw [q4]; exact hpos')
              obtain ⟨e1, e2, e3⟩ := setCells_streams ad.block csy ad.off w
              have hadF : ad.block ∈ F := by
                rcases m4 with ⟨a', ha', hin'⟩ | ⟨ds, hds⟩
                · cases ha'; exact (m3.mem_iff).2 (by simp [hin'])
                · cases hds
              have hadY : ad.block ∉ Fy := (g5 _ hadF).2
              have hmem : ∀ b, b < w.heap.size → b ∉ Fx → (∀ a, Where.mem ad = .mem a → b ≠ a.block) → (w.setCells ad.block ad.off csy).heap[b]? = w.heap[b]? :=
                fun b hb hbF hba => setCells_heap _ _ (fun e => hba ad rfl e) _ _ _
              have hyin : ∀ E' : Env, E'.w = w.setCells ad.block ad.off csy → InV E' yv csy Fy := by
                intro E' hE'
                have h1 : InV ⟨w.setCells ad.block ad.off csy, (envOf w b1 G1 Fy).S, [], fun _ => none⟩ yv csy Fy := by
                  refine InV_frame (E := envOf w b1 G1 Fy) (E' := ⟨w.setCells ad.block ad.off csy, (envOf w b1 G1 Fy).S, [], fun _ => none⟩) ⟨fun b hb => ⟨hb, ?_⟩, by show _ ≤ (World.setCells _ _ _ _).heap.size; rw [setCells_size]; exact Nat.le_refl _⟩ _ (fun s' hs' => by rw [own_sites _ hyo] at hs'; cases hs') (fun b hb => ?_) q2
                  · refine setCells_heap _ _ (fun e => hb.2 ?_) _ _ _
                    subst e
                    exact .inr ⟨s, c, rc, F, hl, g1, hadF⟩
                  · exact setCells_heap _ _ (fun (e : _ = ad.block) => hadY (by rw [← e]; exact hb)) _ _ _
                exact own_env (by rw [hE']) yv hyo h1
              obtain ⟨p1, p2, p3⟩ := m5 (w.setCells ad.block ad.off csy) yv csy Fy [] (fun u => u = s) (fun _ h => h)
                (fun _ t' ct hct hm => hns' (mem_sitesB hct hm))
                (by rw [hzs, (fits_size hyf).1])
                (by
                  intro _ t' ht'
                  have s1 := fits_shp_own hpl hzf hzo
                  have s2 := fits_shp_own hpl hyf hyo
                  rw [← shp_det s1 ht']
                  exact s2)
                (by rw [setCells_size]; exact Nat.le_refl _)
                (fun b hb hbF _ hba => hmem b hb hbF hba)
                (fun _ _ => .inr (.inr trivial))
                (by rw [hzs, ← q4]; exact setCells_part (spot_of_unfz hunf') hunf' rfl)
                (setCells_at (spot_of_unfz hunf') hunf')
                (by rintro ⟨ds, hd⟩; cases hd)
                (by rw [List.append_nil]; exact q1.ok.xnd)
                (by
                  intro b hb
                  rw [List.append_nil] at hb
                  exact ⟨by rw [setCells_size]; exact q1.ok.xlt b hb, .inr (.inl hb)⟩)
                (fun h => absurd rfl h) e1 e2 e3 hmem
                (fun _ => hyin _ rfl) (fun _ => hyin _ rfl)
              refine ⟨undef, _, _, .inr ⟨?_, rfl⟩, p1.c, slots_short p2 ?_ hpath (hs.go0 q3), val_void.2 ⟨rfl, rfl⟩⟩
              · simp only [execOp, h, hpx, Sem.run_bind, hrun, Result.andThen_ok, Sem.run_pure]
              · intro c' rc' F' hl' hg'
                simp only [envOf, lookB_set, if_true, Option.some.injEq, Prod.mk.injEq] at hl' hg'
                obtain ⟨rfl, _⟩ := hg'
                subst hl'
                refine ⟨c, F, hl, g1, ?_, ?_⟩
                · refine (p3 false 1 ?_).mono (by rw [llen_eq]; omega)
                  intro q hq x' L' hlq
                  have : q = [] := List.eq_nil_of_length_eq_zero (by omega)
                  subst this
                  simp only [locF, Option.some.injEq, Prod.mk.injEq] at hlq
                  obtain ⟨rfl, rfl⟩ := hlq
                  exact ⟨z, rfl, fun h => by cases h⟩
                · refine (p3 true 0 (fun q hq => by omega)).mono (by rw [llen_eq]; omega)
            · simp at hv
          · simp at hv
        · simp at hv
      · simp at hv
    · simp at hv
  · simp at hv

theorem storeIn_sem (HT : TysOK P A.ty) {t : TypeId} {x y : Operand} {co : List Cond} (h : o.op = .store t x y)
    (hv : storeIn (A.ty t) sl b (opd sl x) (opd sl y) = some (co, b1)) (hk : ∀ k ∈ co, k.ok) : Semo P o sl b .void b1 := by
  intro Pn w0 F0 a w hdst hr K Q hK
  obtain ⟨⟨G, hc, hs⟩, hl, hd, hpin⟩ := hr
  obtain ⟨vv, w', G', hrun, k1, k2, k3⟩ := storeIn_ok (o := o) HT hc hs h hv hk
  have hrel := Rel.put (d := o.dst) k1 k2 hl hd hpin hdst k3
  unfold Oper.wp
  rcases hrun with hrun | ⟨hrun, hvv⟩
  · rw [hrun]; exact hK _ _ hrel
  · rw [hrun]; subst hvv; exact hK _ _ hrel

/-! ### one argument, in its place -/
mutual
theorem like_ok : ∀ (x y : V), likeV x y = true → vsz y = vsz x ∧ isA y = isA x ∧ (ownish y = true → ownish x = true) ∧ ∀ t, shp t x = true → shp t y = true
  | .int k _, y, h => by
    cases y <;> simp [likeV] at h
    exact ⟨rfl, rfl, id, fun t ht => by cases t <;> simp [shp] at ht ⊢; rw [keq_eq ht, keq_eq h]; exact keq_refl _⟩
  | .bool _, y, h => by
    cases y <;> simp [likeV] at h
    exact ⟨rfl, rfl, id, fun t ht => by cases t <;> simp [shp] at ht ⊢⟩
  | .str _, y, h => by
    cases y <;> simp [likeV] at h
    exact ⟨rfl, rfl, id, fun t ht => by cases t <;> simp [shp] at ht ⊢⟩
  | .own e _, y, h => by
    cases y <;> simp [likeV] at h
    rw [Ty.beq_eq _ _ h]
    exact ⟨rfl, rfl, id, fun t ht => shp_own_any ht⟩
  | .arr n e _, y, h => by
    cases y <;> simp [likeV, band_true] at h
    rw [← h.1, ← Ty.beq_eq _ _ h.2]
    exact ⟨rfl, rfl, id, fun t ht => shp_arr_any ht⟩
  | .agg vs, y, h => by
    cases y with
    | agg xs =>
      unfold likeV at h
      obtain ⟨h1, h2⟩ := likes_ok vs xs h
      refine ⟨h1, rfl, id, fun t ht => ?_⟩
      cases t <;> simp only [shp] at ht ⊢ <;> first | exact h2 _ ht | cases ht
    | _ => simp [likeV] at h
  | .undef, y, h => by simp [likeV] at h
  | .void, y, h => by simp [likeV] at h
  | .rd _ _, y, h => by simp [likeV] at h
  | .lst _ _, y, h => by simp [likeV] at h
  | .nilsl, y, h => by simp [likeV] at h
  | .emp _, y, h => by simp [likeV] at h
  | .obox _, y, h => by simp [likeV] at h
  | .rp _, y, h => by simp [likeV] at h
  | .full _ _ _, y, h => by simp [likeV] at h
  | .sub _ _ _ _ _, y, h => by simp [likeV] at h
  | .ptr _ _, y, h => by simp [likeV] at h
  | .fn _ _, y, h => by simp [likeV] at h
  | .nilfn, y, h => by simp [likeV] at h
  | .nilptr, y, h => by simp [likeV] at h
  | .tup _, y, h => by simp [likeV] at h
theorem likes_ok : ∀ (xs ys : List V), likeVs xs ys = true → vszs ys = vszs xs ∧ ∀ ts, shps ts xs = true → shps ts ys = true
  | [], ys, h => by
    cases ys with
    | nil => exact ⟨rfl, fun _ h => h⟩
    | cons _ _ => simp [likeVs] at h
  | x :: xs, ys, h => by
    cases ys with
    | nil => simp [likeVs] at h
    | cons y ys =>
      unfold likeVs at h
      rw [band_true] at h
      obtain ⟨h1, _, _, h2⟩ := like_ok x y h.1
      obtain ⟨h3, h4⟩ := likes_ok xs ys h.2
      refine ⟨by simp [vszs, h1, h3], fun ts ht => ?_⟩
      cases ts with
      | nil => simp [shps] at ht
      | cons t ts =>
        unfold shps at ht ⊢
        rw [band_true] at ht ⊢
        exact ⟨h2 t ht.1, h4 ts ht.2⟩
end

theorem eqP_ok : ∀ {p q : List Nat} {c : List Cond}, eqP p q = some c → (∀ k ∈ c, k.ok) → p = q
  | [], [], c, h, hk => rfl
  | [], _ :: _, c, h, hk => by simp [eqP] at h
  | _ :: _, [], c, h, hk => by simp [eqP] at h
  | a :: p, b :: q, c, h, hk => by
    simp only [eqP] at h
    split at h
    · rename_i c' hc
      simp only [Option.some.injEq] at h
      subst h
      have h1 : a ≤ b := hk (.le a b) (by simp)
      have h2 : b ≤ a := hk (.le b a) (by simp)
      rw [eqP_ok hc (fun k hk' => hk k (by simp [hk'])), Nat.le_antisymm h1 h2]
    · cases h

mutual
/-- a slot's value that tells what lies at a place has the same cells -/
theorem alC_ok {E : Env} {s : Nat} {c0 : V} {rc : List Value} {F : List Nat} (hl : lookB E.bl s = some c0) (hg : E.G s = some (rc, F)) : ∀ (v x : V) {p : List Nat} {cs cx : List Value} {Fx : List Nat} {L : Where} {c : List Cond},
    alC s p v x = some c → (∀ k ∈ c, k.ok) → locF E.w c0 (.reg rc) p = some (x, L) → L.holds E.w cx → InV E x cx Fx → InV E v cs [] → cs = cx ∧ isA v = isA x
  | .full t q e, x, p, cs, cx, Fx, L, c, h, hk, h1, h2, h3, h4 => by
    cases x <;> simp only [alC] at h <;> try (cases h; done)
    split at h
    · rename_i hts
      have := Nat.eq_of_beq_eq_true hts
      subst this
      have := eqP_ok h hk
      subst this
      unfold InV at h4
      obtain ⟨_, _, h5⟩ := h4
      obtain ⟨u, g1, g2⟩ := h5 c0 rc F hl hg _ L h1 rfl
      unfold InV at h3
      obtain ⟨_, Ad, cap, hcs, _⟩ := h3
      rw [hcs] at h2
      rw [head_of h2] at g1
      simp only [Option.some.injEq] at g1
      rw [g2, hcs, g1]
      exact ⟨rfl, rfl⟩
    · cases h
  | .int k n, x, p, cs, cx, Fx, L, c, h, hk, h1, h2, h3, h4 => by
    cases x <;> simp only [alC] at h <;> try (cases h; done)
    split at h
    · rename_i hkk
      simp only [Option.some.injEq] at h
      subst h
      have he : n = _ := hk _ (List.mem_singleton.2 rfl)
      unfold InV at h3 h4
      rw [h3.1, h4.1, he, keq_eq hkk]
      exact ⟨rfl, rfl⟩
    · cases h
  | .bool n, x, p, cs, cx, Fx, L, c, h, hk, h1, h2, h3, h4 => by
    cases x <;> simp only [alC] at h <;> try (cases h; done)
    simp only [Option.some.injEq] at h
    subst h
    have he : n = _ := hk _ (List.mem_singleton.2 rfl)
    unfold InV at h3 h4
    rw [h3.1, h4.1, he]
    exact ⟨rfl, rfl⟩
  | .agg vs, x, p, cs, cx, Fx, L, c, h, hk, h1, h2, h3, h4 => by
    cases x <;> simp only [alC] at h <;> try (cases h; done)
    rename_i xs
    unfold InV at h3 h4
    refine ⟨alCs_ok hl hg vs xs (L := L) (j := 0) h hk (fun i x hi => ?_) h2 h3 h4, rfl⟩
    rw [loc_append, h1]
    simp [locF, hi]
  | .undef, x, p, cs, cx, Fx, L, c, h, hk, h1, h2, h3, h4 => by simp [alC] at h
  | .void, x, p, cs, cx, Fx, L, c, h, hk, h1, h2, h3, h4 => by simp [alC] at h
  | .str _, x, p, cs, cx, Fx, L, c, h, hk, h1, h2, h3, h4 => by simp [alC] at h
  | .arr _ _ _, x, p, cs, cx, Fx, L, c, h, hk, h1, h2, h3, h4 => by simp [alC] at h
  | .own _ _, x, p, cs, cx, Fx, L, c, h, hk, h1, h2, h3, h4 => by simp [alC] at h
  | .rd _ _, x, p, cs, cx, Fx, L, c, h, hk, h1, h2, h3, h4 => by simp [alC] at h
  | .lst _ _, x, p, cs, cx, Fx, L, c, h, hk, h1, h2, h3, h4 => by simp [alC] at h
  | .nilsl, x, p, cs, cx, Fx, L, c, h, hk, h1, h2, h3, h4 => by simp [alC] at h
  | .emp _, x, p, cs, cx, Fx, L, c, h, hk, h1, h2, h3, h4 => by simp [alC] at h
  | .obox _, x, p, cs, cx, Fx, L, c, h, hk, h1, h2, h3, h4 => by simp [alC] at h
  | .rp _, x, p, cs, cx, Fx, L, c, h, hk, h1, h2, h3, h4 => by simp [alC] at h
  | .sub _ _ _ _ _, x, p, cs, cx, Fx, L, c, h, hk, h1, h2, h3, h4 => by simp [alC] at h
  | .ptr _ _, x, p, cs, cx, Fx, L, c, h, hk, h1, h2, h3, h4 => by simp [alC] at h
  | .fn _ _, x, p, cs, cx, Fx, L, c, h, hk, h1, h2, h3, h4 => by simp [alC] at h
  | .nilfn, x, p, cs, cx, Fx, L, c, h, hk, h1, h2, h3, h4 => by simp [alC] at h
  | .nilptr, x, p, cs, cx, Fx, L, c, h, hk, h1, h2, h3, h4 => by simp [alC] at h
  | .tup _, x, p, cs, cx, Fx, L, c, h, hk, h1, h2, h3, h4 => by simp [alC] at h
theorem alCs_ok {E : Env} {s : Nat} {c0 : V} {rc : List Value} {F : List Nat} (hl : lookB E.bl s = some c0) (hg : E.G s = some (rc, F)) : ∀ (vs xs : List V) {p : List Nat} {j : Nat} {cs cx : List Value} {Fx : List Nat} {L : Where} {c : List Cond},
    alCs s p j vs xs = some c → (∀ k ∈ c, k.ok) → (∀ i x, nth xs i = some x → locF E.w c0 (.reg rc) (p ++ [j + i]) = some (x, L.shift (vszs (xs.take i)))) → L.holds E.w cx → InVs E xs cx Fx → InVs E vs cs [] → cs = cx
  | [], xs, p, j, cs, cx, Fx, L, c, h, hk, h1, h2, h3, h4 => by
    cases xs with
    | nil => unfold InVs at h3 h4; rw [h3.1, h4.1]
    | cons _ _ => simp [alCs] at h
  | v :: vs, xs, p, j, cs, cx, Fx, L, c, h, hk, h1, h2, h3, h4 => by
    cases xs with
    | nil => simp [alCs] at h
    | cons x xs =>
      simp only [alCs] at h
      split at h
      · rename_i c1 e1
        split at h
        · rename_i c2 e2
          simp only [Option.some.injEq] at h
          subst h
          obtain ⟨hk1, hk2⟩ := conds_cat hk
          unfold InVs at h3 h4
          obtain ⟨a1, a2, F1, F2, e3, e4, i1, i2⟩ := h3
          obtain ⟨b1, b2, K1, K2, e5, e6, j1, j2⟩ := h4
          obtain ⟨rfl, rfl⟩ := List.append_eq_nil_iff.1 e6.symm
          subst e3; subst e5
          have g0 := h1 0 x rfl
          have hsh0 : L.shift 0 = L := by cases L <;> simp [Where.shift, Addr.add]
          simp only [Nat.add_zero, List.take_zero, vszs, hsh0] at g0
          have r1 := (alC_ok hl hg v x e1 hk1 (by rw [cat_eq]; exact g0) (holds_left h2) i1 j1).1
          have r2 := alCs_ok hl hg vs xs (L := L.shift a1.length) e2 hk2 (fun i y hi => by
            have := h1 (i + 1) y (by simpa [nth] using hi)
            rw [shift_shift, InV_len x i1]
            simp only [List.take_succ_cons, vszs] at this
            rw [show j + 1 + i = j + (i + 1) by omega]
            exact this) (holds_right h2) i2 j2
          rw [r1, r2]
        · cases h
      · cases h
end

theorem alTop_ok {E : Env} {s : Nat} {c0 : V} {rc : List Value} {F : List Nat} (hl : lookB E.bl s = some c0) (hg : E.G s = some (rc, F)) {v x : V} {p : List Nat} {cs cx : List Value} {Fx : List Nat} {L : Where} {c : List Cond} (hv : ioLoc v = some (s, p))
    (h : alTop s p v x = some c) (hk : ∀ k ∈ c, k.ok) (h1 : locF E.w c0 (.reg rc) p = some (x, L)) (h2 : L.holds E.w cx) (h3 : InV E x cx Fx) (h4 : InV E v cs []) : cs = cx ∧ isA v = isA x := by
  unfold alTop at h
  split at h
  · rename_i t q e
    simp only [ioLoc, Option.some.injEq, Prod.mk.injEq] at hv
    obtain ⟨rfl, rfl⟩ := hv
    split at h
    · unfold InV at h4
      obtain ⟨_, _, h5⟩ := h4
      obtain ⟨u, g1, g2⟩ := h5 c0 rc F hl hg _ L h1 rfl
      unfold InV at h3
      obtain ⟨_, Ad, cap, hcs, _⟩ := h3
      rw [hcs] at h2
      rw [head_of h2] at g1
      simp only [Option.some.injEq] at g1
      rw [g2, hcs, g1]
      exact ⟨rfl, rfl⟩
    · cases h
  · exact alC_ok hl hg v x h hk h1 h2 h3 h4

/-- the arguments with the one that may change as the callee gets it -/
theorem putIo_args {f : FuncId} {E E' : Env} (hg : Goes E E' (fun _ => False)) {x v : V} {Fx : List Nat} : ∀ {vs : List V} {i : Nat} {us : List Value}, oneIo A f i vs = some v → Tup E vs us [] → (∀ u, One E v u [] → One E' x u Fx) → Args E' (fun j => isIo (A.mode f j)) i (putIo A f x i vs) us Fx
  | [], i, us, h, _, _ => by simp [oneIo] at h
  | y :: vs, i, us, h, ⟨u, r, F1, F2, e1, e2, h1, h2⟩, hx => by
    obtain ⟨rfl, rfl⟩ := List.append_eq_nil_iff.1 e2.symm
    subst e1
    have up : One E y u [] → One E' y u [] := fun ⟨cs, i1, i2⟩ => ⟨cs, hg.inV (fun _ _ => id) (fun b hb => by cases hb) i1, i2⟩
    have other : isIo (A.mode f i) = false → oneIo A f (i + 1) vs = some v → putIo A f x i (y :: vs) = y :: putIo A f x (i + 1) vs → Args E' (fun j => isIo (A.mode f j)) i (putIo A f x i (y :: vs)) (u :: r) Fx := by
      intro hm ho hp
      rw [hp]
      exact ⟨u, r, [], Fx, rfl, rfl, up h1, fun _ => rfl, putIo_args hg ho h2 hx⟩
    cases hm : A.mode f i with
    | io =>
      simp only [oneIo, hm] at h
      simp only [putIo, hm]
      split at h
      · cases h
      · rename_i hany
        simp only [Option.some.injEq] at h
        subst h
        have rest : ∀ {vs : List V} {j : Nat} {us : List Value}, anyIo A f j vs = false → Tup E vs us [] → Args E' (fun j => isIo (A.mode f j)) j vs us [] := by
          intro vs
          induction vs with
          | nil => intro j us _ h; exact h
          | cons z vs ih =>
            rintro j us ha ⟨u', r', K1, K2, k1, k2, k3, k4⟩
            obtain ⟨rfl, rfl⟩ := List.append_eq_nil_iff.1 k2.symm
            obtain ⟨cs, i1, i2⟩ := k3
            refine ⟨u', r', [], [], k1, rfl, ⟨cs, hg.inV (fun _ _ => id) (fun b hb => by cases hb) i1, i2⟩, fun _ => rfl, ih ?_ k4⟩
            simp only [anyIo] at ha
            split at ha
            · cases ha
            · exact ha
        exact ⟨u, r, Fx, [], rfl, by simp, hx u h1, fun hf => (by have hf' : isIo (A.mode f i) = false := hf; rw [hm] at hf'; cases hf'), rest hany h2⟩
    | lend => exact other (by rw [hm]; rfl) (by simpa only [oneIo, hm] using h) (by simp only [putIo, hm])
    | keep => exact other (by rw [hm]; rfl) (by simpa only [oneIo, hm] using h) (by simp only [putIo, hm])

/-- what is left of it -/
theorem oneOut_ok {f : FuncId} {E E' : Env} {v y : V} {Fo : List Nat} : ∀ {vs outs : List V} {i : Nat} {us : List Value}, oneIo A f i vs = some v → oneOut A f i vs outs = some y → Tup E vs us [] → Outs E' (fun j => isIo (A.mode f j)) i outs us Fo → ∃ u, One E v u [] ∧ One E' y u Fo
  | [], outs, i, us, h, _, _, _ => by simp [oneIo] at h
  | z :: vs, [], i, us, h, h', _, _ => by simp [oneOut] at h'
  | z :: vs, o :: outs, i, us, h, h', ⟨u, r, F1, F2, e1, e2, h1, h2⟩, ⟨u', r', K1, K2, k1, k2, k3, k4, k5⟩ => by
    obtain ⟨rfl, rfl⟩ := List.append_eq_nil_iff.1 e2.symm
    rw [e1] at k1
    simp only [List.cons.injEq] at k1
    obtain ⟨rfl, rfl⟩ := k1
    have other : isIo (A.mode f i) = false → oneIo A f (i + 1) vs = some v → oneOut A f (i + 1) vs outs = some y → ∃ u, One E v u [] ∧ One E' y u Fo := by
      intro hm ho hp
      have := k4 hm
      subst this
      subst k2
      exact oneOut_ok ho hp h2 k5
    cases hm : A.mode f i with
    | io =>
      simp only [oneIo, hm] at h
      simp only [oneOut, hm, Option.some.injEq] at h'
      subst h'
      split at h
      · cases h
      · rename_i hany
        simp only [Option.some.injEq] at h
        subst h
        have rest : ∀ {vs outs : List V} {j : Nat} {us : List Value} {K : List Nat}, anyIo A f j vs = false → Tup E vs us [] → Outs E' (fun j => isIo (A.mode f j)) j outs us K → K = [] := by
          intro vs
          induction vs with
          | nil =>
            rintro outs j us K _ ⟨rfl, _⟩ ho
            cases outs with
            | nil => exact ho.2
            | cons o outs => obtain ⟨_, _, _, _, q, _⟩ := ho; cases q
          | cons z vs ih =>
            rintro outs j us K ha ⟨u', r', L1, L2, l1, l2, l3, l4⟩ ho
            obtain ⟨rfl, rfl⟩ := List.append_eq_nil_iff.1 l2.symm
            simp only [anyIo] at ha
            split at ha
            · cases ha
            · rename_i hm'
              cases outs with
              | nil => exact ho.2
              | cons o outs =>
                obtain ⟨u2, r2, M1, M2, n1, n2, n3, n4, n5⟩ := ho
                rw [l1] at n1
                simp only [List.cons.injEq] at n1
                obtain ⟨rfl, rfl⟩ := n1
                have hf : isIo (A.mode f j) = false := by
                  cases hq : A.mode f j with
                  | io => exact absurd hq hm'
                  | lend => rfl
                  | keep => rfl
                rw [n2, n4 hf, ih ha l4 n5]; rfl
        have := rest hany h2 k5
        subst this
        rw [List.append_nil] at k2
        subst k2
        exact ⟨u, h1, k3 (by show isIo (A.mode f i) = true; rw [hm]; rfl)⟩
    | lend => exact other (by rw [hm]; rfl) (by simpa only [oneIo, hm] using h) (by simpa only [oneOut, hm] using h')
    | keep => exact other (by rw [hm]; rfl) (by simpa only [oneIo, hm] using h) (by simpa only [oneOut, hm] using h')

theorem oneIo_mem {f : FuncId} : ∀ {vs : List V} {i : Nat} {v : V} {E : Env} {us : List Value}, oneIo A f i vs = some v → Tup E vs us [] → ∃ u, One E v u []
  | [], i, v, E, us, h, _ => by simp [oneIo] at h
  | z :: vs, i, v, E, us, h, ⟨u, r, F1, F2, e1, e2, h1, h2⟩ => by
    obtain ⟨rfl, rfl⟩ := List.append_eq_nil_iff.1 e2.symm
    simp only [oneIo] at h
    split at h
    · split at h
      · cases h
      · simp only [Option.some.injEq] at h
        subst h
        exact ⟨u, h1⟩
    · exact oneIo_mem h h2

/-- a call that changes one argument in its place: the machine's step -/
theorem callIo1_sem {cl : Call} {fo : Operand} {g : FuncId} {caps : List V} (ho : o.op = .call cl) (hcal : cl.callee = .value fo) (hf : opd sl fo = .fn g caps)
    {ts : List Ty} (hnt : noTups (mapOpd sl cl.args.toList) = true) (hna : noAggs caps = true)
    {s : Nat} {p : List Nat} {vio c0 x y : V} (hone : oneIo A g 0 (cat (mapOpd sl cl.args.toList) caps) = some vio) (hloc : ioLoc vio = some (s, p)) (hl0 : lookB b s = some c0) (hc0 : allOwn c0 = true) (hxo : allOwn x = true)
    {c1 c2 c3 : List Cond} (hget : c0.get p = some (c1, x)) (hns : isIn (sitesB b) s = false) (hpath : pathVs s (Nat.succ (llen p)) (Nat.succ (llen p)) sl = true) (hal : alTop s p vio x = some c2)
    {ws : List V} {res : V} {outs : List V} (hp : prepLend A g (dropB b s) 0 ts (putIo A g x 0 (cat (mapOpd sl cl.args.toList) caps)) = some (c3, ws)) (hk : ∀ x ∈ cat c1 (cat c2 c3), x.ok)
    (hco : CallsOK P (fun i => isIo (A.mode g i)) g ws res outs) (hout : oneOut A g 0 (cat (mapOpd sl cl.args.toList) caps) outs = some y) (how : allOwn res = true) (hoy : allOwn y = true) (hlike : likeV x y = true)
    (hpl : placeRes sl (setB b s (c0.set p y)) o.dst res = some (v, b1)) : Semo P o sl b v b1 := by
  intro Pn w0 F0 a w hdst hr K Q hK
  obtain ⟨⟨G, hc, hs⟩, hl, hd, hpin⟩ := hr
  obtain ⟨k1, k3⟩ := hco
  obtain ⟨fn, j1, j2, j3⟩ := k1
  obtain ⟨hk1, hk23⟩ := conds_cat hk
  obtain ⟨hk2, hk3⟩ := conds_cat hk23
  have hfv := opd_val hs fo
  rw [hf] at hfv
  have hfv' := (val_one rfl (by simp) (by simp)).1 hfv
  unfold InV at hfv'
  obtain ⟨vals, hfe, hcaps, _⟩ := hfv'
  simp only [List.cons.injEq, and_true] at hfe
  rw [cat_eq] at hp hone hout
  have hargs : Tup (envOf w b G []) (mapOpd sl cl.args.toList ++ caps) (cl.args.toList.map a.eval ++ vals.toList) [] := by
    have := Args_append (opds_args (io := fun j => isIo (A.mode g j)) (i := 0) hs hnt) (caps_args (i := 0 + (mapOpd sl cl.args.toList).length) hna hcaps)
    exact args_tup (by simpa using this)
  -- the place
  obtain ⟨rc, F, F1, g1, g2, g3, g4, g5⟩ := hc.ok.root s c0 hl0
  obtain ⟨Lx, i4⟩ := get_loc (envOf w b G []) p c0 rc F1 (.reg rc) c1 x g2 ⟨[], by simp⟩ hget hk1
  obtain ⟨csx, Fx, Fr, m1, m2, m3, m4, m5⟩ := hc.x.modifyN hl0 g1 i4
  have hnd := (List.nodup_append.1 ((m3.nodup_iff).1 g4))
  have hFxF : ∀ q ∈ Fx, q ∈ F := fun q hq => (m3.mem_iff).2 (by simp [hq])
  have arg : ∀ u, One (envOf w b G []) vio u [] → asVal x csx u := by
    rintro u ⟨cs, r1, r2⟩
    obtain ⟨r3, r4⟩ := alTop_ok (E := envOf w b G []) hl0 g1 hloc hal hk2 i4 m2 m1 r1
    rw [← r3]
    unfold asVal at r2 ⊢
    rw [← r4]
    exact r2
  obtain ⟨rc', F', Fc, d1, d2, d3, d4, d5⟩ := hc.x.drop hl0
  rw [g1] at d1
  simp only [Option.some.injEq, Prod.mk.injEq] at d1
  obtain ⟨rfl, rfl⟩ := d1
  have hargs2 := putIo_args (A := A) (f := g) (x := x) (Fx := Fx) d5 hone hargs (fun u hu => ⟨csx, own_env (by rfl) x hxo m1, arg u hu⟩)
  have htup := prepLend_ok (Ec := calleeEnv w Fx) d4.ok rfl rfl (fun q hq hx => (⟨hq, fun hm => hx (by simp [(d2.mem_iff).2 (hFxF q hm)])⟩ : q < w.heap.size ∧ q ∉ Fx)) hargs2 hp hk3
  have hcalls := k3 w (cl.args.toList.map a.eval ++ vals.toList) Fx htup hnd.2.1 (fun q hq => (g5 q (hFxF q hq)).1)
  have hrun : (execOp a.eval o).run P w = .ok (.enter g (cl.args.toList.map a.eval ++ vals.toList).toArray) w := by
    have hcf := callFunc_run (P := P) (w := w) (args := (cl.args.toList.map a.eval ++ vals.toList).toArray) j1 j2 j3
    have he : (cl.args.toList.map a.eval ++ vals.toList).toArray = cl.args.map a.eval ++ vals := by apply Array.ext'; simp
    rw [he] at hcf ⊢
    simp [execOp, ho, resolve, hcal, hfe, Deferred.ofValue, invoke, hcf]
  unfold Oper.wp
  rw [hrun, Oper.upon_enter]
  refine Calls.mono hcalls ?_
  rintro e w2 ⟨v2, Fr2, Fo, rfl, q1, q2, q3, q4, q5, q6, q7, q8, q9⟩
  obtain ⟨u, hu, cs', o1, o2⟩ := oneOut_ok hone hout hargs q2
  obtain ⟨l1, l2, l3, l4⟩ := like_ok x y hlike
  have hcsy : cs' = csx := by
    refine asVal_det o2 ?_
    have := arg u hu
    unfold asVal at this ⊢
    rw [l2]
    exact this
  subst hcsy
  have hLb : ∀ ad, Lx = .mem ad → w2.heap[ad.block]? = w.heap[ad.block]? := by
    intro ad had
    rcases m4 with ⟨a', ha', hin⟩ | ⟨ds, hds⟩
    · rw [had] at ha'; cases ha'
      have hmF : ad.block ∈ F := (m3.mem_iff).2 (by simp [hin])
      exact q5 _ (g5 _ hmF).1 (fun hx => hnd.2.2 _ hin _ hx rfl)
    · rw [had] at hds; cases hds
  have hmem : ∀ q, q < w.heap.size → q ∉ Fx → (∀ a, Lx = .mem a → q ≠ a.block) → w2.heap[q]? = w.heap[q]? := fun q hq hx _ => q5 q hq hx
  have hhead : Lx.head w2 = Lx.head w := by
    cases Lx with
    | reg ds => rfl
    | mem ad => exact cell_of_block (hLb ad rfl)
  obtain ⟨t1, t2, t3⟩ := m5 w2 y cs' Fo Fr2 (fun t => t = s) (fun _ h => h) (fun _ t ct hct hm => not_isIn hns (mem_sitesB hct hm))
    l1 (fun _ => l4) q6 (fun q hq hx _ hne => hmem q hq hx hne) (fun _ _ => .inr (.inr trivial))
    (by
      cases Lx with
      | reg ds => trivial
      | mem ad =>
        intro bb hbb hsp
        have hblk := hLb ad rfl
        rw [← hbb] at hblk
        exact ⟨fun _ => cell_of_block hblk, frozen_of_block hblk, fun ⟨z, hz⟩ => ⟨z, by rw [cell_of_block hblk]; exact hz⟩⟩)
    (holds_keep m2 hLb) (fun _ => rfl)
    ((List.perm_append_comm.nodup_iff).1 q3)
    (by
      intro q hq
      have := q4 q (by
        rcases List.mem_append.1 hq with h | h
        · exact List.mem_append.2 (.inr h)
        · exact List.mem_append.2 (.inl h))
      exact ⟨this.1, this.2.elim .inl (fun h => .inr (.inr h))⟩)
    (fun h => absurd rfl h) q7 q8 q9 hmem
    (fun _ => own_env (by rfl) y hoy o1) (fun _ => own_env (by rfl) y hoy o1)
  have hs2 := slots_short (m := Nat.succ (llen p)) (n := Nat.succ (llen p)) t2 (by
    intro c' rc2 F2 hl' hg'
    simp only [envOf, lookB_set, if_true, Option.some.injEq, Prod.mk.injEq] at hl' hg'
    obtain ⟨rfl, _⟩ := hg'
    subst hl'
    have base : ∀ al, LocN al 1 w w2 x y Lx := by
      intro al q hq x' L' hlq
      have : q = [] := List.eq_nil_of_length_eq_zero (by omega)
      subst this
      simp only [locF, Option.some.injEq, Prod.mk.injEq] at hlq
      obtain ⟨rfl, rfl⟩ := hlq
      exact ⟨x, rfl, fun _ h => ⟨l3 h, hhead⟩⟩
    exact ⟨c0, F, hl0, g1, (t3 false 1 (base _)).mono (by rw [llen_eq]; omega), (t3 true 1 (base _)).mono (by rw [llen_eq]; omega)⟩) hpath hs
  obtain ⟨G', s1, s2, s3⟩ := placeRes_ok (E := calleeEnv w2 (Fr2 ++ Fo)) t1 hs2 rfl q1 how hpl
  exact hK _ _ (Rel.put s1 s2 hl hd hpin hdst s3)

end
end Go.Rai

/- Regions whose order is open: what each operation did, in the text's order. -/
set_option linter.unusedVariables false
set_option linter.unusedSimpArgs false
namespace Go.Rai

/-- with its guard -/
def SemG (P : Program) (ops : Array Oper) (o : Oper) (sl : List V) (b : BL) (v : V) (b1 : BL) : Prop :=
  ∀ (Pn : Nat → Option Value) (w0 : World) (F0 : List Nat) (a : Act) (w : World), (∀ t, o.dst = some t → Pn t = none) → Rel Pn w0 F0 ⟨sl, b⟩ a w → ∀ (K : Act → World → Prop) (Q : Exit → Act → World → Prop),
    (∀ a' w', Rel Pn w0 F0 ⟨putSl sl o.dst v, b1⟩ a' w' → K a' w') → (if Region.wanted o (yielded ops a.tmps) then o.wp P a w K Q ∨ (o.asks P a w ∧ LetsOut Q) else K (a.put o.dst undef) w)

def LocG (P : Program) (ops : Array Oper) (o : Oper) (sl : List V) (b : BL) (v : V) (b1 : BL) (rd T W N : List Nat) : Prop :=
  (∀ s, s ∉ W → lookB b1 s = lookB b s) ∧
  ∀ sl' b', (∀ t ∈ rd, slotL sl' t = slotL sl t) → AgreeB b b' T → (∀ s ∈ N, s ∉ sitess sl' ∧ s ∉ sitesB b') →
    ∃ b1', SemG P ops o sl' b' v b1' ∧ (∀ s ∈ W, lookB b1' s = lookB b1 s) ∧ (∀ s, s ∉ W → lookB b1' s = lookB b' s)

structure Done (P : Program) (ops : Array Oper) (o : Oper) (σ : St) (r : Rec) (σ' : St) : Prop where
  sl : σ'.sl = putSl σ.sl o.dst r.v
  dst : r.dst = o.dst
  bar : r.bar = true → SemG P ops o σ.sl σ.bl r.v σ'.bl ∧ ∀ s, (s ∈ sites r.v ∨ s ∈ sitesB σ'.bl) → s ∈ r.nm
  loc : r.bar = false → LocG P ops o σ.sl σ.bl r.v σ'.bl r.rd r.T r.W r.N ∧ (∀ s ∈ r.W, s ∈ r.T) ∧ (∀ s ∈ r.N, s ∈ r.W) ∧ ∀ s, (s ∈ sites r.v ∨ ∃ t ∈ r.W, ∃ c, lookB σ'.bl t = some c ∧ s ∈ sites c) → s ∈ r.nm
  nb : r.bar = true → r.N = []

section
variable {P : Program} {A : Ann} {w w' w0 : World} {F0 : List Nat} {sl sl' : List V} {a : Act} {b b' b1 bl : BL} {G : GT} {o : Oper} {v : V} {c : List Cond} {ops : Array Oper}

theorem sitesW_mem {b : BL} : ∀ {W : List Nat} {s t : Nat} {c : V}, t ∈ W → lookB b t = some c → s ∈ sites c → s ∈ sitesW b W
  | [], s, t, c, ht, _, _ => by cases ht
  | u :: W, s, t, c, ht, hl, hs => by
    unfold sitesW
    rcases List.mem_cons.1 ht with rfl | ht
    · rw [hl]; simp only [mem_cat]; exact .inl hs
    · have := sitesW_mem ht hl hs
      split
      · simp only [mem_cat]; exact .inr this
      · exact this

theorem recK_eq {R : Type} {all : List Oper} {σ : St} {bar : Bool} {T W N : List Nat} {κ : Rec → St → Option R} : recK all σ o bar v b T W N κ =
    κ ⟨v, cat (guardSlot all o) (tmpsOf (opsOf o.op)), o.dst, bar, T, W, N, nmOf bar v b W⟩ ⟨putSl σ.sl o.dst v, b⟩ := by
  unfold recK
  rw [deepV_eq, putK_eq]
  simp only [deepP_eq]

/-- an operation that is wanted -/
def Wants (all : List Oper) (sl : List V) (o : Oper) : Prop :=
  match o.guard with
  | none => True
  | some (j, want) => ∃ t, dstAt all j = some t ∧ slotL sl t = .bool want

theorem wants_wanted {E : Env} (hs : Slots E sl a) (h : Wants ops.toList sl o) : Region.wanted o (yielded ops a.tmps) = true := by
  unfold Wants at h
  cases hg : o.guard with
  | none => simp [Region.wanted, hg]
  | some jw =>
    obtain ⟨j, want⟩ := jw
    rw [hg] at h
    obtain ⟨t, h1, h2⟩ := h
    simp [Region.wanted, hg, yielded_bool hs h1 h2]

theorem wants_agree (h : Wants ops.toList sl o) (ha : ∀ t ∈ guardSlot ops.toList o, slotL sl' t = slotL sl t) : Wants ops.toList sl' o := by
  unfold Wants at h ⊢
  cases hg : o.guard with
  | none => trivial
  | some jw =>
    obtain ⟨j, want⟩ := jw
    rw [hg] at h
    obtain ⟨t, h1, h2⟩ := h
    exact ⟨t, h1, by rw [ha t (by simp [guardSlot, hg, h1])]; exact h2⟩

/-- an operation that is not wanted -/
def Skips (all : List Oper) (sl : List V) (o : Oper) : Prop :=
  ∃ j want t, o.guard = some (j, want) ∧ dstAt all j = some t ∧ (slotL sl t = .void ∨ slotL sl t = .bool (!want))

theorem skips_wanted {E : Env} (hs : Slots E sl a) (h : Skips ops.toList sl o) : Region.wanted o (yielded ops a.tmps) = false := by
  obtain ⟨j, want, t, hg, h1, h2⟩ := h
  rcases h2 with h2 | h2
  · simp [Region.wanted, hg, yielded_void hs h1 h2]
  · cases want <;> simp [Region.wanted, hg, yielded_bool hs h1 h2]

theorem skips_agree (h : Skips ops.toList sl o) (ha : ∀ t ∈ guardSlot ops.toList o, slotL sl' t = slotL sl t) : Skips ops.toList sl' o := by
  obtain ⟨j, want, t, hg, h1, h2⟩ := h
  exact ⟨j, want, t, hg, h1, by rw [ha t (by simp [guardSlot, hg, h1])]; exact h2⟩

theorem Semo.g (h : Semo P o sl b v b1) (hw : Wants ops.toList sl o) : SemG P ops o sl b v b1 := by
  intro Pn w0 F0 a w hdst hr K Q hK
  obtain ⟨⟨G, hc, hs⟩, hl, hd, hpin⟩ := hr
  rw [wants_wanted hs hw]
  simp only [if_true]
  exact .inl (h hdst ⟨⟨G, hc, hs⟩, hl, hd, hpin⟩ hK)

theorem skip_g (h : Skips ops.toList sl o) : SemG P ops o sl b .void b := by
  intro Pn w0 F0 a w hdst hr K Q hK
  obtain ⟨⟨G, hc, hs⟩, hl, hd, hpin⟩ := hr
  rw [skips_wanted hs h]
  simp only [Bool.false_eq_true, if_false]
  exact hK _ _ (Rel.put hc hs hl hd hpin hdst (val_void.2 ⟨rfl, rfl⟩))

theorem Loc.g {gs rd T W N : List Nat} (h : Loc P o sl b v b1 (cat gs rd) T W N) (hg : gs = guardSlot ops.toList o) (hw : Wants ops.toList sl o) : LocG P ops o sl b v b1 (cat gs rd) T W N := by
  refine ⟨h.1, fun sl' b' h1 h2 h3 => ?_⟩
  obtain ⟨b1', k1, k2⟩ := h.2 sl' b' h1 h2 h3
  exact ⟨b1', Semo.g k1 (wants_agree hw (fun t ht => h1 t (by rw [cat_eq, hg]; simp [ht]))), k2⟩

theorem stepOp_sem (HT : TysOK P A.ty) {R : Type} {oc : OC R} (hoc : OCok P A oc) {σ : St} {κ : St → Option R} {r : R} (h : stepOp oc A σ o κ = some r) : ∃ v b1, κ ⟨putSl σ.sl o.dst v, b1⟩ = some r ∧ Semo P o σ.sl σ.bl v b1 := by
  have prim : primK A σ o κ = some r → ∃ v b1, κ ⟨putSl σ.sl o.dst v, b1⟩ = some r ∧ Semo P o σ.sl σ.bl v b1 := by
    intro h
    unfold primK at h
    split at h
    · rename_i c v b hp
      obtain ⟨h1, h2⟩ := guards_some h
      rw [putK_eq] at h2
      exact ⟨v, b, h2, prim_sem HT hp h1⟩
    · cases h
  unfold stepOp at h
  split at h
  · rename_i cl ho
    split at h
    · rename_i fo hcal
      split at h
      · rename_i g caps hf
        unfold callV at h
        split at h
        · rename_i hb
          rw [band_true] at hb
          obtain ⟨hnt, hna⟩ := hb
          split at h
          · rename_i hio
            split at h
            · rename_i c1 ws hp
              obtain ⟨h1, h2⟩ := guards_some h
              rw [deepVs_eq] at h2
              obtain ⟨res, outs, k1, hco⟩ := hoc _ _ _ _ h2
              split at k1
              · rename_i how
                split at k1
                · rename_i v b2 hpl
                  rw [putK_eq] at k1
                  exact ⟨v, b2, k1, call_sem (io := fun _ => false) ho hcal hf hio hnt hna hp h1 hco how hpl⟩
                · cases k1
              · cases k1
            · cases h
          · split at h
            · rename_i s p vio c0 hone
              unfold ioOne at hone
              split at hone
              · rename_i v0 h1o
                split at hone
                · rename_i s0 p0 hloc
                  split at hone
                  · rename_i c00 hl0
                    split at hone
                    · rename_i hc0
                      simp only [Option.some.injEq, Prod.mk.injEq] at hone
                      obtain ⟨rfl, rfl, rfl, rfl⟩ := hone
                      unfold callIo1 at h
                      split at h
                      · rename_i c1 x hget
                        split at h
                        · rename_i hchk
                          rw [band_true, band_true] at hchk
                          split at h
                          · rename_i c2 hal
                            split at h
                            · rename_i c3 ws hp
                              obtain ⟨h1, h2⟩ := guards_some h
                              rw [deepVs_eq] at h2
                              obtain ⟨res, outs, k1, hco⟩ := hoc _ _ _ _ h2
                              split at k1
                              · rename_i y hout
                                split at k1
                                · rename_i hb3
                                  rw [band_true, band_true] at hb3
                                  rw [deepB_eq] at k1
                                  split at k1
                                  · rename_i r0 b3 hpl
                                    rw [putK_eq] at k1
                                    exact ⟨r0, b3, k1, callIo1_sem ho hcal hf hnt hna h1o hloc hl0 hc0 hchk.1.1 hget (bneg_t hchk.1.2) hchk.2 hal hp h1 hco hout hb3.1 hb3.2.1 hb3.2.2 hpl⟩
                                  · cases k1
                                · cases k1
                              · cases k1
                            · cases h
                          · cases h
                        · cases h
                      · cases h
                    · cases hone
                  · cases hone
                · cases hone
              · cases hone
            · unfold callIoN at h
              split at h
              · rename_i hroot
                rw [band_true] at hroot
                split at h
                · rename_i c1 ws b1 hp
                  obtain ⟨h1, h2⟩ := guards_some h
                  rw [deepVs_eq, deepB_eq] at h2
                  obtain ⟨res, outs, k1, hco⟩ := hoc _ _ _ _ h2
                  split at k1
                  · rename_i how
                    split at k1
                    · rename_i b2 hre
                      split at k1
                      · rename_i v b3 hpl
                        rw [putK_eq] at k1
                        exact ⟨v, b3, k1, callIo_sem ho hcal hf hnt hna hroot.1 hroot.2 hp h1 hco how hre hpl⟩
                      · cases k1
                    · cases k1
                  · cases k1
                · cases h
              · cases h
        · cases h
      · cases h
    · exact prim h
  · rename_i t a x ho
    split at h
    · rename_i c v b hp
      obtain ⟨h1, h2⟩ := guards_some h
      rw [putK_eq] at h2
      exact ⟨v, b, h2, prim_sem HT hp h1⟩
    · split at h
      · rename_i c b hp
        obtain ⟨h1, h2⟩ := guards_some h
        rw [putK_eq] at h2
        exact ⟨.void, b, h2, storeIn_sem HT ho hp h1⟩
      · cases h
  · exact prim h

theorem putSl_slot (sl : List V) (d : Option Nat) (v : V) : putSl sl d (dstV d (putSl sl d v)) = putSl sl d v := by
  cases d with
  | none => rfl
  | some t =>
    simp only [putSl, dstV, slotL_set]
    by_cases h : t < sl.length
    · simp [h]
    · have : ∀ (l : List V) (t : Nat) (x y : V), ¬ t < l.length → setNth l t x = setNth l t y := by
        intro l
        induction l with
        | nil => intro t x y _; rfl
        | cons a l ih =>
          intro t x y ht
          cases t with
          | zero => simp at ht
          | succ t => simp only [setNth]; rw [ih t x y (by simpa using ht)]
      exact this sl t _ _ h

theorem stepD_done (HT : TysOK P A.ty) {R : Type} {oc : OC R} (hoc : OCok P A oc) {σ : St} {κ : Rec → St → Option R} {r : R} (hw : Wants ops.toList σ.sl o) (h : stepD oc A ops.toList σ o κ = some r) :
    ∃ rc σ', κ rc σ' = some r ∧ Done P ops o σ rc σ' := by
  have prim : ∀ {T W N : List Nat}, (∀ s ∈ W, s ∈ T) → (∀ s ∈ N, s ∈ W) → (∀ c v b1, stepPrim A σ.sl σ.bl o.dst o.op = some (c, v, b1) → (∀ x ∈ c, x.ok) → Loc P o σ.sl σ.bl v b1 (cat (guardSlot ops.toList o) (tmpsOf (opsOf o.op))) T W N) →
      primD A ops.toList σ o false T W N κ = some r → ∃ rc σ', κ rc σ' = some r ∧ Done P ops o σ rc σ' := by
    intro T W N hWT hNW hloc h
    unfold primD at h
    split at h
    · rename_i c v b hp
      obtain ⟨h1, h2⟩ := guards_some h
      rw [recK_eq] at h2
      refine ⟨_, _, h2, rfl, rfl, fun hb => (by cases hb), fun _ => ⟨(hloc c v b hp h1).g rfl hw, hWT, hNW, ?_⟩, fun hb => (by cases hb)⟩
      rintro s (hs | ⟨t, ht, c', hc', hs⟩)
      · simp only [nmOf, mem_cat]; exact .inl hs
      · simp only [nmOf, mem_cat]; exact .inr (sitesW_mem ht hc' hs)
    · cases h
  have barr : stepOp oc A σ o (fun σ' => recK ops.toList σ o true (dstV o.dst σ'.sl) σ'.bl [] [] [] κ) = some r → ∃ rc σ', κ rc σ' = some r ∧ Done P ops o σ rc σ' := by
    intro h
    obtain ⟨v, b1, h1, h2⟩ := stepOp_sem HT hoc h
    rw [recK_eq] at h1
    have hput := putSl_slot σ.sl o.dst v
    have h2' : Semo P o σ.sl σ.bl (dstV o.dst (putSl σ.sl o.dst v)) b1 := by
      intro Pn w0 F0 a w hdst hr K Q hK
      refine h2 hdst hr (fun a' w' hr' => hK a' w' ?_)
      rw [hput]
      exact hr'
    refine ⟨_, _, h1, rfl, rfl, fun _ => ⟨Semo.g h2' hw, ?_⟩, fun hb => (by cases hb), fun _ => rfl⟩
    intro s hs
    simp only [nmOf, mem_cat]
    exact hs
  unfold stepD at h
  split at h
  · rename_i hcl
    exact prim (fun s hs => by cases hs) (fun s hs => by cases hs) (fun c v b1 hp hk => read_loc HT (by rw [hcl]) hp hk) h
  · rename_i hcl
    exact prim (fun s hs => hs) (fun s hs => hs) (fun c v b1 hp hk => fresh_loc HT (by rw [hcl]) hp hk) h
  · rename_i hcl
    split at h
    · exact prim (fun s hs => hs) (fun s hs => by cases hs) (fun c v b1 hp hk => store_loc HT (by rw [hcl]) hp hk) h
    · exact barr h
  · split at h
    · rename_i cl hop
      split at h
      · rename_i fo hcal
        split at h
        · rename_i g caps hf
          split at h
          · rename_i hio
            unfold callL at h
            split at h
            · rename_i hb
              rw [band_true] at hb
              rw [deepB_eq] at h
              split at h
              · rename_i c1 ws hp
                obtain ⟨h1, h2⟩ := guards_some h
                rw [deepVs_eq] at h2
                obtain ⟨res, outs, k1, hco⟩ := hoc _ _ _ _ h2
                split at k1
                · rename_i how
                  split at k1
                  · rename_i v b2 hpl
                    simp only [recK_eq] at k1
                    refine ⟨_, _, k1, rfl, rfl, fun hb => (by cases hb), fun _ => ⟨(call_loc hop hcal hf hio hb.1 hb.2 restr_sub hp h1 hco how hpl).g rfl hw, fun s hs => (by simp only [nmOf, mem_cat]; exact .inr hs), fun s hs => hs, ?_⟩, fun hb => (by cases hb)⟩
                    rintro s (hs | ⟨t, ht, c', hc', hs⟩)
                    · simp only [nmOf, mem_cat]; exact .inl hs
                    · simp only [nmOf, mem_cat]; exact .inr (sitesW_mem ht hc' hs)
                  · cases k1
                · cases k1
              · cases h
            · cases h
          · exact barr h
        · cases h
      · cases h
    · cases h
  · exact barr h

theorem skipD_done {R : Type} {σ : St} {κ : Rec → St → Option R} {r : R} (hw : Skips ops.toList σ.sl o) (h : recK ops.toList σ o false .void σ.bl [] [] [] κ = some r) :
    ∃ rc σ', κ rc σ' = some r ∧ Done P ops o σ rc σ' := by
  rw [recK_eq] at h
  refine ⟨_, _, h, rfl, rfl, fun hb => (by cases hb), fun _ => ⟨⟨fun _ _ => rfl, fun sl' b' h1 h2 h3 => ⟨b', skip_g (skips_agree hw (fun t ht => h1 t (by rw [cat_eq]; simp [ht]))), fun s hs => (by cases hs), fun _ _ => rfl⟩⟩, fun s hs => hs, fun s hs => hs, ?_⟩, fun hb => (by cases hb)⟩
  rintro s (hs | ⟨t, ht, _⟩)
  · simp [sites] at hs
  · cases ht

theorem runRec_done (HT : TysOK P A.ty) {R : Type} {oc : OC R} (hoc : OCok P A oc) {r : R} : ∀ {l : List Oper} {σ : St} {κ : List Rec → St → Option R}, runRec oc A ops.toList l σ κ = some r →
    ∃ (rc : Nat → Rec) (st : Nat → St), st 0 = σ ∧ (∀ j o, l[j]? = some o → Done P ops o (st j) (rc j) (st (j + 1))) ∧ κ ((List.range l.length).map rc) (st l.length) = some r
  | [], σ, κ, h => ⟨fun _ => default, fun _ => σ, rfl, fun j o hj => (by simp at hj), h⟩
  | o :: l, σ, κ, h => by
    have next : (∃ rc σ', runRec oc A ops.toList l σ' (fun rs => κ (rc :: rs)) = some r ∧ Done P ops o σ rc σ') → ∃ (rc : Nat → Rec) (st : Nat → St), st 0 = σ ∧ (∀ j o', (o :: l)[j]? = some o' → Done P ops o' (st j) (rc j) (st (j + 1))) ∧ κ ((List.range (o :: l).length).map rc) (st (o :: l).length) = some r := by
      rintro ⟨rc0, σ', h1, h2⟩
      obtain ⟨rc, st, k1, k2, k3⟩ := runRec_done HT hoc h1
      refine ⟨fun j => match j with | 0 => rc0 | j + 1 => rc j, fun j => match j with | 0 => σ | j + 1 => st j, rfl, ?_, ?_⟩
      · intro j o' hj
        cases j with
        | zero =>
          simp only [List.getElem?_cons_zero, Option.some.injEq] at hj
          subst hj
          simp only [k1]
          exact h2
        | succ j =>
          simp only [List.getElem?_cons_succ] at hj
          exact k2 j o' hj
      · rw [List.length_cons, List.range_succ_eq_map, List.map_cons, List.map_map]
        exact k3
    apply next
    unfold runRec at h
    split at h
    · rename_i hg
      exact stepD_done HT hoc (by simp [Wants, hg]) h
    · rename_i j want hg
      split at h
      · rename_i t hd
        split at h
        · rename_i hv
          exact skipD_done ⟨j, want, t, hg, hd, .inl hv⟩ h
        · rename_i bb hv
          have hsame : setNth σ.sl t (.bool bb) = σ.sl := setNth_same hv (by simp)
          have hσ : (⟨σ.sl, σ.bl⟩ : St) = σ := rfl
          cases bb with
          | true =>
            simp only [cond_true, setK_eq] at h
            rw [hsame, hσ] at h
            cases want with
            | true => exact stepD_done HT hoc (by simp only [Wants, hg]; exact ⟨t, hd, hv⟩) h
            | false => exact skipD_done ⟨j, false, t, hg, hd, .inr hv⟩ h
          | false =>
            simp only [cond_false, setK_eq] at h
            rw [hsame, hσ] at h
            cases want with
            | true => exact skipD_done ⟨j, true, t, hg, hd, .inr hv⟩ h
            | false => exact stepD_done HT hoc (by simp only [Wants, hg]; exact ⟨t, hd, hv⟩) h
        · cases h
      · cases h

/-- an operation of a region that does not draw, wanted or not -/
theorem runOps_wp (HT : TysOK P A.ty) {R : Type} {oc : OC R} (hoc : OCok P A oc) {Pn : Nat → Option Value} {r : R} {Q : Exit → Act → World → Prop} : ∀ {l : List Oper} {σ : St} {a : Act} {w : World} {κ : St → Option R}, (∀ o ∈ l, ∀ t, o.dst = some t → Pn t = none) → Rel Pn w0 F0 σ a w → runOps oc A ops.toList l σ κ = some r →
    (∀ σ' a' w', κ σ' = some r → Rel Pn w0 F0 σ' a' w' → Q .normal a' w') → wpList P ops Q l a w
  | [], σ, a, w, κ, _, hr, h, hK => hK _ _ _ h hr
  | o :: l, σ, a, w, κ, hd, hr, h, hK => by
    have hr0 : Rel Pn w0 F0 ⟨σ.sl, σ.bl⟩ a w := hr
    have use : ∀ {v : V} {b1 : BL}, SemG P ops o σ.sl σ.bl v b1 → runOps oc A ops.toList l ⟨putSl σ.sl o.dst v, b1⟩ κ = some r → wpList P ops Q (o :: l) a w := by
      intro v b1 hsem hrest
      have := hsem Pn w0 F0 a w (hd o (by simp)) hr0 (wpList P ops Q l) Q (fun a' w' hr' => runOps_wp HT hoc (fun o' ho' => hd o' (by simp [ho'])) hr' hrest hK)
      unfold wpList
      exact this
    have go : Wants ops.toList σ.sl o → stepOp oc A σ o (fun σ' => runOps oc A ops.toList l σ' κ) = some r → wpList P ops Q (o :: l) a w := by
      intro hw hp
      obtain ⟨v, b1, h1, h2⟩ := stepOp_sem HT hoc hp
      exact use (Semo.g h2 hw) h1
    have skip : Skips ops.toList σ.sl o → putK σ o.dst .void σ.bl (fun σ' => runOps oc A ops.toList l σ' κ) = some r → wpList P ops Q (o :: l) a w := by
      intro hw hp
      rw [putK_eq] at hp
      exact use (skip_g hw) hp
    unfold runOps at h
    split at h
    · rename_i hg
      exact go (by simp [Wants, hg]) h
    · rename_i j want hg
      split at h
      · rename_i t hdt
        split at h
        · rename_i hv
          exact skip ⟨j, want, t, hg, hdt, .inl hv⟩ h
        · rename_i bb hv
          have hsame : setNth σ.sl t (.bool bb) = σ.sl := setNth_same hv (by simp)
          have hσ : (⟨σ.sl, σ.bl⟩ : St) = σ := rfl
          cases bb with
          | true =>
            simp only [cond_true, setK_eq] at h
            rw [hsame, hσ] at h
            cases want with
            | true => exact go (by simp only [Wants, hg]; exact ⟨t, hdt, hv⟩) h
            | false => exact skip ⟨j, false, t, hg, hdt, .inr hv⟩ h
          | false =>
            simp only [cond_false, setK_eq] at h
            rw [hsame, hσ] at h
            cases want with
            | true => exact skip ⟨j, true, t, hg, hdt, .inr hv⟩ h
            | false => exact go (by simp only [Wants, hg]; exact ⟨t, hdt, hv⟩) h
        · cases h
      · cases h

end
end Go.Rai

/- Regions whose order is open: every order gives what the text's order gives. -/
set_option linter.unusedVariables false
set_option linter.unusedSimpArgs false
namespace Go.Rai

/-! ### which comes before which -/
theorem bindsAny_eq (e : Edge) : bindsAny e = Region.binds .any e := by
  unfold bindsAny Region.binds
  cases e.ground <;> rfl

theorem addNew_mem : ∀ {l acc : List Nat} {i : Nat}, i ∈ addNew l acc → i ∈ l ∨ i ∈ acc
  | [], acc, i, h => .inr h
  | a :: l, acc, i, h => by
    unfold addNew at h
    split at h
    · exact (addNew_mem h).imp (fun h => by simp [h]) id
    · rcases addNew_mem h with h | h
      · exact .inl (by simp [h])
      · rcases List.mem_cons.1 h with rfl | h
        · exact .inl (by simp)
        · exact .inr h

theorem befOf_spec {acc : List (List Nat)} : ∀ {es : List Edge} {l r : List Nat}, befOf acc es l = some r →
    (∀ e ∈ es, Region.binds .any e = true → e.on < acc.length) ∧ ∀ i ∈ r, i ∈ l ∨ ∃ e ∈ es, Region.binds .any e = true ∧ (i = e.on ∨ ∃ p, acc[e.on]? = some p ∧ i ∈ p)
  | [], l, r, h => by
    simp only [befOf, Option.some.injEq] at h
    subst h
    exact ⟨fun e he => (by cases he), fun i hi => .inl hi⟩
  | e :: es, l, r, h => by
    unfold befOf at h
    split at h
    · rename_i hb
      rw [bindsAny_eq] at hb
      split at h
      · rename_i p hp
        rw [nth_eq] at hp
        obtain ⟨h1, h2⟩ := befOf_spec h
        refine ⟨fun e' he' hb' => ?_, fun i hi => ?_⟩
        · rcases List.mem_cons.1 he' with rfl | he'
          · exact (List.getElem?_eq_some_iff.1 hp).1
          · exact h1 e' he' hb'
        · rcases h2 i hi with h2 | ⟨e', he', h3⟩
          · rcases addNew_mem h2 with h2 | h2
            · rcases List.mem_cons.1 h2 with h2 | h2
              · exact .inr ⟨e, by simp, hb, .inl h2⟩
              · exact .inr ⟨e, by simp, hb, .inr ⟨p, hp, h2⟩⟩
            · exact .inl h2
          · exact .inr ⟨e', by simp [he'], h3⟩
      · cases h
    · rename_i hb
      rw [bindsAny_eq] at hb
      obtain ⟨h1, h2⟩ := befOf_spec h
      refine ⟨fun e' he' hb' => ?_, fun i hi => ?_⟩
      · rcases List.mem_cons.1 he' with rfl | he'
        · rw [hb] at hb'; cases hb'
        · exact h1 e' he' hb'
      · rcases h2 i hi with h2 | ⟨e', he', h3⟩
        · exact .inl h2
        · exact .inr ⟨e', by simp [he'], h3⟩

theorem befs_spec : ∀ {l : List Oper} {acc bs : List (List Nat)}, befs acc l = some bs → ∃ tl, bs = acc ++ tl ∧ tl.length = l.length ∧
    ∀ k o, l[k]? = some o → ∃ r, bs[acc.length + k]? = some r ∧ (∀ e ∈ o.after.toList, Region.binds .any e = true → e.on < acc.length + k) ∧ ∀ i ∈ r, ∃ e ∈ o.after.toList, Region.binds .any e = true ∧ (i = e.on ∨ ∃ p, bs[e.on]? = some p ∧ i ∈ p)
  | [], acc, bs, h => by
    simp only [befs, Option.some.injEq] at h
    subst h
    exact ⟨[], by simp, rfl, fun k o hk => by simp at hk⟩
  | o :: l, acc, bs, h => by
    unfold befs at h
    split at h
    · rename_i r hr
      rw [cat_eq] at h
      obtain ⟨tl, e1, e2, e3⟩ := befs_spec h
      refine ⟨r :: tl, by simp [e1], by simp [e2], fun k o' hk => ?_⟩
      cases k with
      | zero =>
        simp only [List.getElem?_cons_zero, Option.some.injEq] at hk
        subst hk
        obtain ⟨h1, h2⟩ := befOf_spec hr
        refine ⟨r, by simp [e1], fun e he hb => by simpa using h1 e he hb, fun i hi => ?_⟩
        rcases h2 i hi with h2 | ⟨e, he, hb, h3⟩
        · cases h2
        · refine ⟨e, he, hb, h3.imp id ?_⟩
          rintro ⟨p, hp, hi⟩
          have hlt := h1 e he hb
          refine ⟨p, ?_, hi⟩
          rw [e1, List.append_assoc, List.getElem?_append_left hlt]
          exact hp
      | succ k =>
        simp only [List.getElem?_cons_succ] at hk
        obtain ⟨r', h1, h2, h3⟩ := e3 k o' hk
        have : (acc ++ [r]).length + k = acc.length + (k + 1) := by simp; omega
        rw [this] at h1 h2
        exact ⟨r', h1, h2, h3⟩
    · cases h

/-! ### what is there behind some of the operations -/
section
variable (st : Nat → St) (rc : Nat → Rec) (len : Nat)

def slC (E : Nat → Bool) : Nat → Nat → V
  | 0, t => slotL (st 0).sl t
  | k + 1, t => if E k = true ∧ (rc k).dst = some t ∧ t < len then (rc k).v else slC E k t

def writes (k s : Nat) : Prop := (rc k).bar = true ∨ s ∈ (rc k).W

open Classical in
noncomputable def cont (E : Nat → Bool) : Nat → Nat → Option V
  | 0, s => lookB (st 0).bl s
  | k + 1, s => if E k = true ∧ writes rc k s then lookB (st (k + 1)).bl s else cont E k s

theorem slC_agree {E : Nat → Bool} {t j n : Nat} (hj : j ≤ n) (h : ∀ i, i < n → (rc i).dst = some t → (E i = true ↔ i < j)) : slC st rc len E n t = slC st rc len (fun _ => true) j t := by
  have low : ∀ k, k ≤ j → slC st rc len E k t = slC st rc len (fun _ => true) k t := by
    intro k
    induction k with
    | zero => intro _; rfl
    | succ k ih =>
      intro hk
      simp only [slC]
      rw [ih (by omega)]
      by_cases hd : (rc k).dst = some t
      · have := (h k (by omega) hd).2 (by omega)
        simp [this]
      · simp [hd]
  have high : ∀ k, j ≤ k → k ≤ n → slC st rc len E k t = slC st rc len E j t := by
    intro k hk
    induction k with
    | zero => intro _; have : j = 0 := by omega
              rw [this]
    | succ k ih =>
      intro hn
      by_cases he : j = k + 1
      · rw [he]
      · simp only [slC]
        rw [ih (by omega) (by omega), if_neg]
        rintro ⟨h1, h2, h3⟩
        have := (h k (by omega) h2).1 h1
        omega
  rw [high n hj (Nat.le_refl n), low j (Nat.le_refl j)]

theorem cont_agree {E : Nat → Bool} {s j n : Nat} (hj : j ≤ n) (h : ∀ i, i < n → writes rc i s → (E i = true ↔ i < j)) : cont st rc E n s = cont st rc (fun _ => true) j s := by
  have low : ∀ k, k ≤ j → cont st rc E k s = cont st rc (fun _ => true) k s := by
    intro k
    induction k with
    | zero => intro _; rfl
    | succ k ih =>
      intro hk
      simp only [cont]
      rw [ih (by omega)]
      by_cases hd : writes rc k s
      · have := (h k (by omega) hd).2 (by omega)
        rw [if_pos ⟨this, hd⟩, if_pos ⟨rfl, hd⟩]
      · rw [if_neg (fun h => hd h.2), if_neg (fun h => hd h.2)]
  have high : ∀ k, j ≤ k → k ≤ n → cont st rc E k s = cont st rc E j s := by
    intro k hk
    induction k with
    | zero =>
      intro _
      have : j = 0 := by omega
      rw [this]
    | succ k ih =>
      intro hn
      by_cases he : j = k + 1
      · rw [he]
      · rw [cont]
        rw [ih (by omega) (by omega), if_neg]
        rintro ⟨h1, h2⟩
        have := (h k (by omega) h2).1 h1
        omega
  rw [high n hj (Nat.le_refl n), low j (Nat.le_refl j)]

theorem cont_same {E E' : Nat → Bool} {s n : Nat} (h : ∀ i, i < n → writes rc i s → E' i = E i) : cont st rc E' n s = cont st rc E n s := by
  induction n with
  | zero => rfl
  | succ n ih =>
    simp only [cont]
    rw [ih (fun i hi => h i (by omega))]
    by_cases hd : writes rc n s
    · rw [h n (by omega) hd]
    · simp [hd]

theorem slC_add {E E' : Nat → Bool} {t j n : Nat} (hj : j < n) (h0 : ∀ i, i < n → i ≠ j → E' i = E i) (h1 : E' j = true) (h2 : ∀ i, i < n → i ≠ j → (rc i).dst = some t → (rc j).dst ≠ some t) :
    slC st rc len E' n t = if (rc j).dst = some t ∧ t < len then (rc j).v else slC st rc len E n t := by
  have key : ∀ k, k ≤ n → slC st rc len E' k t = if j < k ∧ (rc j).dst = some t ∧ t < len then (rc j).v else slC st rc len E k t := by
    intro k
    induction k with
    | zero => intro _; simp [slC]
    | succ k ih =>
      intro hk
      simp only [slC]
      rw [ih (by omega)]
      by_cases hkj : k = j
      · subst hkj
        by_cases hd : (rc k).dst = some t ∧ t < len
        · simp [h1, hd]
        · have : ¬ (E' k = true ∧ (rc k).dst = some t ∧ t < len) := fun h => hd h.2
          have e2 : ¬ (E k = true ∧ (rc k).dst = some t ∧ t < len) := fun h => hd h.2
          simp [hd]
      · rw [h0 k (by omega) hkj]
        by_cases hd : E k = true ∧ (rc k).dst = some t ∧ t < len
        · have hne := h2 k (by omega) hkj hd.2.1
          simp [hd, hne]
        · rw [if_neg hd, if_neg hd]
          have : (j < k + 1 ∧ (rc j).dst = some t ∧ t < len) ↔ (j < k ∧ (rc j).dst = some t ∧ t < len) := by
            constructor
            · rintro ⟨a, b⟩; exact ⟨by omega, b⟩
            · rintro ⟨a, b⟩; exact ⟨by omega, b⟩
          simp only [this]
  rw [key n (Nat.le_refl n)]
  simp [hj]

theorem slC_mem {E : Nat → Bool} {t n : Nat} : slC st rc len E n t = slotL (st 0).sl t ∨ ∃ i, i < n ∧ E i = true ∧ slC st rc len E n t = (rc i).v := by
  induction n with
  | zero => exact .inl rfl
  | succ n ih =>
    simp only [slC]
    by_cases hd : E n = true ∧ (rc n).dst = some t ∧ t < len
    · rw [if_pos hd]
      exact .inr ⟨n, by omega, hd.1, rfl⟩
    · rw [if_neg hd]
      rcases ih with h | ⟨i, h1, h2, h3⟩
      · exact .inl h
      · exact .inr ⟨i, by omega, h2, h3⟩

theorem cont_mem {E : Nat → Bool} {s n : Nat} : cont st rc E n s = lookB (st 0).bl s ∨ ∃ i, i < n ∧ E i = true ∧ writes rc i s ∧ cont st rc E n s = lookB (st (i + 1)).bl s := by
  induction n with
  | zero => exact .inl rfl
  | succ n ih =>
    simp only [cont]
    by_cases hd : E n = true ∧ writes rc n s
    · rw [if_pos hd]
      exact .inr ⟨n, by omega, hd.1, hd.2, rfl⟩
    · rw [if_neg hd]
      rcases ih with h | ⟨i, h1, h2, h3⟩
      · exact .inl h
      · exact .inr ⟨i, by omega, h2, h3⟩

end

/-! ### the checks -/
theorem bneg_true {a : Bool} : bneg a = true ↔ a = false := by cases a <;> simp [bneg]

theorem apartL_spec : ∀ {l m : List Nat}, apartL l m = true → ∀ s ∈ l, s ∉ m
  | [], m, _, s, hs => by cases hs
  | a :: l, m, h, s, hs => by
    unfold apartL at h
    rw [band_true, bneg_true] at h
    rcases List.mem_cons.1 hs with rfl | hs
    · intro hm; rw [isIn_mem.2 hm] at h; cases h.1
    · exact apartL_spec h.2 s hs

structure Pair (i : Nat) (ri : Rec) (bj : List Nat) (rj : Rec) : Prop where
  dst : ∀ t, ri.dst = some t → rj.dst ≠ some t
  nm : ∀ s ∈ rj.N, s ∉ ri.nm
  free : i ∉ bj → ri.bar = false ∧ rj.bar = false ∧ (∀ t, ri.dst = some t → t ∉ rj.rd) ∧ (∀ t, rj.dst = some t → t ∉ ri.rd) ∧ (∀ s ∈ ri.W, s ∉ rj.T) ∧ (∀ s ∈ rj.W, s ∉ ri.T) ∧ (∀ s ∈ ri.N, s ∉ rj.nm)

theorem pairOK_spec {i : Nat} {ri rj : Rec} {bj : List Nat} (h : pairOK i ri bj rj = true) : Pair i ri bj rj := by
  unfold pairOK at h
  rw [band_true, bneg_true] at h
  obtain ⟨h1, h2⟩ := h
  have hd : ∀ t, ri.dst = some t → rj.dst ≠ some t := by
    intro t e1 e2
    rw [e1, e2] at h1
    simp [sameDst] at h1
  split at h2
  · rename_i hin
    exact ⟨hd, apartL_spec h2, fun hn => absurd (isIn_mem.1 hin) hn⟩
  · simp only [band_true, bneg_true] at h2
    obtain ⟨⟨a1, a2⟩, ⟨a3, a4⟩, ⟨a5, a6⟩, a7, a8⟩ := h2
    exact ⟨hd, apartL_spec a7, fun _ => ⟨a1, a2, fun t ht => apartL_spec a3 t (by simp [ht, dstL]), fun t ht => apartL_spec a4 t (by simp [ht, dstL]), apartL_spec a5, apartL_spec a6, apartL_spec a8⟩⟩

theorem pairsOK_spec {bj : List Nat} {rj : Rec} : ∀ {l : List Rec} {i : Nat}, pairsOK i l bj rj = true → ∀ k r, l[k]? = some r → Pair (i + k) r bj rj
  | [], i, _, k, r, hk => by simp at hk
  | r0 :: l, i, h, k, r, hk => by
    unfold pairsOK at h
    rw [band_true] at h
    cases k with
    | zero =>
      simp only [List.getElem?_cons_zero, Option.some.injEq] at hk
      subst hk
      exact pairOK_spec h.1
    | succ k =>
      simp only [List.getElem?_cons_succ] at hk
      have := pairsOK_spec h.2 k r hk
      rw [show i + 1 + k = i + (k + 1) by omega] at this
      exact this

theorem newOK_spec {σ : St} : ∀ {l : List Nat}, newOK σ l = true → ∀ s ∈ l, unused σ.sl σ.bl .undef s = true
  | [], _, s, hs => by cases hs
  | a :: l, h, s, hs => by
    unfold newOK at h
    rw [band_true] at h
    rcases List.mem_cons.1 hs with rfl | hs
    · exact h.1
    · exact newOK_spec h.2 s hs

theorem drawOK_spec {σ : St} : ∀ {rs pre : List Rec} {bs : List (List Nat)}, drawOK σ pre bs rs = true → ∀ k rj, rs[k]? = some rj →
    (∀ s ∈ rj.N, unused σ.sl σ.bl .undef s = true) ∧ ∃ bj, bs[k]? = some bj ∧ ∀ i ri, (pre ++ rs)[i]? = some ri → i < pre.length + k → Pair i ri bj rj
  | [], pre, bs, _, k, rj, hk => by simp at hk
  | r0 :: rs, pre, [], h, _, _, _ => by simp [drawOK] at h
  | r0 :: rs, pre, b0 :: bs, h, k, rj, hk => by
    unfold drawOK at h
    rw [band_true, band_true, cat_eq] at h
    obtain ⟨⟨h1, h2⟩, h3⟩ := h
    cases k with
    | zero =>
      simp only [List.getElem?_cons_zero, Option.some.injEq] at hk
      subst hk
      refine ⟨newOK_spec h1, b0, rfl, fun i ri hi hlt => ?_⟩
      rw [List.getElem?_append_left (by simpa using hlt)] at hi
      simpa using pairsOK_spec h2 i ri hi
    | succ k =>
      simp only [List.getElem?_cons_succ] at hk
      obtain ⟨k1, bj, k2, k3⟩ := drawOK_spec h3 k rj hk
      refine ⟨k1, bj, by simpa using k2, fun i ri hi hlt => ?_⟩
      exact k3 i ri (by simpa using hi) (by simp; omega)

end Go.Rai

/- Regions whose order is open: the machine's step. -/
set_option linter.unusedVariables false
set_option linter.unusedSimpArgs false
namespace Go.Rai

/-! ### memories that read alike -/
def normB : BL → BL
  | [] => []
  | (k, v) :: r => (k, v) :: dropB (normB r) k

theorem look_norm : ∀ (b : BL) (s : Nat), lookB (normB b) s = lookB b s
  | [], s => rfl
  | (k, v) :: r, s => by
    simp only [normB, lookB]
    cases h : Nat.beq k s with
    | true => rfl
    | false =>
      simp only
      rw [lookB_drop, look_norm r s, if_neg]
      intro he; subst he; rw [Nat.beq_refl] at h; cases h

theorem mem_drop : ∀ {b : BL} {s : Nat} {x : Nat × V}, x ∈ dropB b s → x ∈ b ∧ x.1 ≠ s
  | [], s, x, h => by simp [dropB] at h
  | (k, v) :: r, s, x, h => by
    unfold dropB at h
    split at h
    · have := mem_drop h
      exact ⟨by simp [this.1], this.2⟩
    · rename_i hb
      rcases List.mem_cons.1 h with rfl | h
      · refine ⟨by simp, fun he => ?_⟩
        simp only at he
        subst he
        rw [Nat.beq_refl] at hb; cases hb
      · have := mem_drop h
        exact ⟨by simp [this.1], this.2⟩

theorem norm_mem : ∀ {b : BL} {k : Nat} {v : V}, (k, v) ∈ normB b → lookB b k = some v
  | [], k, v, h => by simp [normB] at h
  | (k0, v0) :: r, k, v, h => by
    simp only [normB] at h
    rcases List.mem_cons.1 h with h | h
    · simp only [Prod.mk.injEq] at h
      obtain ⟨rfl, rfl⟩ := h
      simp [lookB, Nat.beq_refl]
    · obtain ⟨h1, h2⟩ := mem_drop h
      have := norm_mem h1
      simp only [lookB]
      have hb : Nat.beq k0 k = false := by
        cases hq : Nat.beq k0 k with
        | false => rfl
        | true => exact absurd (Nat.eq_of_beq_eq_true hq).symm h2
      rw [hb]
      exact this

theorem mem_sitesB' : ∀ {b : BL} {s : Nat}, s ∈ sitesB b → ∃ k c, (k, c) ∈ b ∧ s ∈ sites c
  | [], s, h => by simp [sitesB] at h
  | (k, c) :: r, s, h => by
    simp only [sitesB, mem_cat] at h
    rcases h with h | h
    · exact ⟨k, c, by simp, h⟩
    · obtain ⟨k', c', h1, h2⟩ := mem_sitesB' h
      exact ⟨k', c', by simp [h1], h2⟩

theorem norm_sites {b : BL} {s : Nat} (h : s ∈ sitesB (normB b)) : ∃ k c, lookB b k = some c ∧ s ∈ sites c := by
  obtain ⟨k, c, h1, h2⟩ := mem_sitesB' h
  exact ⟨k, c, norm_mem h1, h2⟩

theorem mem_sitess_slot : ∀ {sl : List V} {s : Nat}, s ∈ sitess sl → ∃ t, s ∈ sites (slotL sl t)
  | [], s, h => by simp [sitess] at h
  | v :: sl, s, h => by
    simp only [sitess, mem_cat] at h
    rcases h with h | h
    · exact ⟨0, h⟩
    · obtain ⟨t, ht⟩ := mem_sitess_slot h
      exact ⟨t + 1, ht⟩

section
variable {Pn : Nat → Option Value} {P : Program} {A : Ann} {w w' w0 : World} {F0 : List Nat} {sl sl' : List V} {a : Act} {b b' b1 bl : BL} {G : GT} {o : Oper} {v : V} {c : List Cond} {ops : Array Oper}

theorem owned_ext (hb : ∀ s, lookB b' s = lookB b s) {X : List Nat} {k : Nat} : Owned b' G X k ↔ Owned b G X k := by
  unfold Owned
  simp only [hb]

theorem Goes.ext (hb : ∀ s, lookB b' s = lookB b s) {X : List Nat} : Goes (envOf w b G X) (envOf w b' G X) (fun _ => False) := by
  refine ⟨⟨fun k hk => ⟨⟨hk.1, fun ho => hk.2 ((owned_ext hb).1 ho)⟩, rfl⟩, Nat.le_refl _⟩, fun s _ => ?_⟩
  exact AlOK.same (hb s) rfl (fun c rc F _ _ => LocLe.refl)

theorem Rel.ext (h : Rel Pn w0 F0 ⟨sl, b⟩ a w) (hl : sl'.length = sl.length) (hs : ∀ t, slotL sl' t = slotL sl t) (hb : ∀ s, lookB b' s = lookB b s) : Rel Pn w0 F0 ⟨sl', b'⟩ a w := by
  obtain ⟨⟨G, hc, hv⟩, h1, h2, h3⟩ := h
  have hg : Goes (envOf w b G []) (envOf w b' G []) (fun _ => False) := Goes.ext hb
  refine ⟨⟨G, ⟨⟨?_, ?_, hc.ok.xnd, hc.ok.xlt⟩, hc.frame, fun k hk => hc.own k ((owned_ext hb).1 hk), hc.size, hc.os, hc.tape, hc.output⟩, ?_⟩, by rw [h1, ← hl], h2, h3⟩
  · intro s c hsc
    have hsc' : lookB b s = some c := by rw [← hb s]; exact hsc
    obtain ⟨rc, F, Fc, g1, g2, g3⟩ := hc.ok.root s c hsc'
    exact ⟨rc, F, Fc, g1, hg.inV (fun _ _ => id) (fun _ _ => rfl) g2, g3⟩
  · intro s s' c c' rc rc' F F' hne k1 k2
    exact hc.ok.apart s s' c c' rc rc' F F' hne (by rw [← hb s]; exact k1) (by rw [← hb s']; exact k2)
  · intro t
    rw [hs t]
    exact Val_goes hg (fun _ _ => id) (fun _ hb => by cases hb) (hv t)

/-- some of the operations are done -/
structure Inv (Pn : Nat → Option Value) (w0 : World) (F0 : List Nat) (st : Nat → St) (rc : Nat → Rec) (n : Nat) (E : Nat → Bool) (a : Act) (w : World) : Prop where
  rel : ∃ sl b, Rel Pn w0 F0 ⟨sl, b⟩ a w ∧ sl.length = (st 0).sl.length ∧ (∀ t, slotL sl t = slC st rc (st 0).sl.length E n t) ∧ (∀ s, lookB b s = cont st rc E n s)

/-- what is known of a region -/
structure Reg (P : Program) (ops : Array Oper) (st : Nat → St) (rc : Nat → Rec) (B : Nat → List Nat) : Prop where
  done : ∀ j o, ops[j]? = some o → Done P ops o (st j) (rc j) (st (j + 1))
  edge : ∀ j o, ops[j]? = some o → ∀ e ∈ o.after, Region.binds .any e = true → e.on < j
  bef : ∀ j o, ops[j]? = some o → ∀ i ∈ B j, ∃ e ∈ o.after, Region.binds .any e = true ∧ (i = e.on ∨ i ∈ B e.on)
  pair : ∀ i j, i < j → j < ops.size → Pair i (rc i) (B j) (rc j)
  new : ∀ j, j < ops.size → ∀ s ∈ (rc j).N, unused (st 0).sl (st 0).bl .undef s = true

def listedE (listed : Array Bool) (j : Nat) : Bool := listed.getD j false

def Closed (ops : Array Oper) (listed : Array Bool) : Prop :=
  ∀ j o, ops[j]? = some o → listed.getD j false = true → ∀ e ∈ o.after, Region.binds .any e = true → listed.getD e.on false = true

variable {st : Nat → St} {rc : Nat → Rec} {B : Nat → List Nat} {n : Nat}

theorem Reg.before (h : Reg P ops st rc B) {listed : Array Bool} (hcl : Closed ops listed) : ∀ (j : Nat) (o : Oper), ops[j]? = some o → (∀ e ∈ o.after, Region.binds .any e = true → listed.getD e.on false = true) → ∀ i ∈ B j, i < j ∧ listed.getD i false = true := by
  intro j
  induction j using Nat.strongRecOn with
  | _ j ih =>
    intro o ho hr i hi
    obtain ⟨e, he, hb, h1⟩ := h.bef j o ho i hi
    have hlt := h.edge j o ho e he hb
    rcases h1 with rfl | h1
    · exact ⟨hlt, hr e he hb⟩
    · have hsz : e.on < ops.size := Nat.lt_trans hlt (Array.getElem?_eq_some_iff.1 ho).1
      have ho' : ops[e.on]? = some ops[e.on] := Array.getElem?_eq_getElem hsz
      have := ih e.on hlt _ ho' (hcl e.on _ ho' (hr e he hb)) i h1
      exact ⟨by omega, this.2⟩

/-- ordered with a ready one -/
theorem Reg.ord (h : Reg P ops st rc B) {listed : Array Bool} (hcl : Closed ops listed) {j : Nat} {o : Oper} (ho : ops[j]? = some o) (hr : ∀ e ∈ o.after, Region.binds .any e = true → listed.getD e.on false = true) (hn : listed.getD j false = false)
    {i : Nat} (hi : i < ops.size) (hij : i ≠ j) (hc : i ∈ B j ∨ j ∈ B i) : (listed.getD i false = true ↔ i < j) := by
  have ho' : ops[i]? = some ops[i] := Array.getElem?_eq_getElem hi
  rcases hc with hc | hc
  · have := h.before hcl j o ho hr i hc
    exact ⟨fun _ => this.1, fun _ => this.2⟩
  · constructor
    · intro hl
      have := (h.before hcl i _ ho' (hcl i _ ho' hl) j hc).2
      rw [hn] at this; cases this
    · intro hlt
      -- j ∈ B i asks j < i
      have : ∀ (k : Nat) (o : Oper), ops[k]? = some o → ∀ i ∈ B k, i < k := by
        intro k
        induction k using Nat.strongRecOn with
        | _ k ih =>
          intro o ho i hi
          obtain ⟨e, he, hb, h1⟩ := h.bef k o ho i hi
          have hlt := h.edge k o ho e he hb
          rcases h1 with rfl | h1
          · exact hlt
          · have hsz : e.on < ops.size := Nat.lt_trans hlt (Array.getElem?_eq_some_iff.1 ho).1
            have := ih e.on hlt _ (Array.getElem?_eq_getElem hsz) i h1
            omega
      have := this i _ ho' j hc
      omega

theorem Reg.slots (h : Reg P ops st rc B) : ∀ j, j ≤ ops.size → (st j).sl.length = (st 0).sl.length ∧ (∀ t, slotL (st j).sl t = slC st rc (st 0).sl.length (fun _ => true) j t) ∧ (∀ s, lookB (st j).bl s = cont st rc (fun _ => true) j s) := by
  intro j
  induction j with
  | zero => intro _; exact ⟨rfl, fun _ => rfl, fun _ => rfl⟩
  | succ j ih =>
    intro hj
    obtain ⟨h1, h2, h3⟩ := ih (by omega)
    have ho : ops[j]? = some ops[j] := Array.getElem?_eq_getElem (by omega)
    have hd := h.done j _ ho
    refine ⟨?_, ?_, ?_⟩
    · rw [hd.sl]
      cases hdd : ops[j].dst with
      | none => exact h1
      | some t => simp only [putSl]; rw [setNth_len']; exact h1
    · intro t
      rw [hd.sl]
      simp only [slC]
      rw [hd.dst]
      cases hdd : ops[j].dst with
      | none => simp [putSl, h2]
      | some u =>
        simp only [putSl, slotL_set, h1]
        by_cases hu : t = u ∧ u < (st 0).sl.length
        · obtain ⟨rfl, hu⟩ := hu
          simp [hu]
        · rw [if_neg hu, h2, if_neg]
          rintro ⟨_, e1, e2⟩
          simp only [Option.some.injEq] at e1
          subst e1
          exact hu ⟨rfl, e2⟩
    · intro s
      simp only [cont]
      by_cases hw : writes rc j s
      · rw [if_pos ⟨rfl, hw⟩]
      · rw [if_neg (fun h => hw h.2), ← h3]
        unfold writes at hw
        have hb : (rc j).bar = false := by
          cases hq : (rc j).bar with
          | false => rfl
          | true => exact absurd (.inl hq) hw
        exact (hd.loc hb).1.1 s (fun hm => hw (.inr hm))

/-- one more operation -/
theorem Reg.step (h : Reg P ops st rc B) {Q : Exit → Act → World → Prop} {listed : Array Bool} (hsz : listed.size = ops.size) (hcl : Closed ops listed) {j : Nat} (hj : j ∈ Region.ready .any ops listed) (hD : ∀ o ∈ ops.toList, ∀ t, o.dst = some t → Pn t = none)
    (hi : Inv Pn w0 F0 st rc ops.size (listedE listed) a w) {K : Act → World → Prop} (hK : ∀ a' w', Inv Pn w0 F0 st rc ops.size (listedE (listed.setIfInBounds j true)) a' w' → K a' w') : wpOp P ops Q j K a w := by
  obtain ⟨hnl, o, ho, hr⟩ := mem_ready.1 hj
  have hjn : j < ops.size := (Array.getElem?_eq_some_iff.1 ho).1
  have hdst : ∀ t, o.dst = some t → Pn t = none := hD o (by have h' := Array.mem_of_getElem? ho; simpa using h')
  have hnl' : listed.getD j false = false := by
    rw [Array.getD_eq_getD_getElem?] at hnl ⊢
    rw [Array.getElem?_eq_getElem (by omega)] at hnl ⊢
    exact hnl
  let E' : Nat → Bool := listedE (listed.setIfInBounds j true)
  have e1 : E' j = true := by
    show (listed.setIfInBounds j true).getD j false = true
    rw [Array.getD_eq_getD_getElem?, Array.getElem?_setIfInBounds_self_of_lt (by omega)]
    rfl
  have e0 : ∀ i, i ≠ j → E' i = listedE listed i := by
    intro i hij
    show (listed.setIfInBounds j true).getD i false = listed.getD i false
    rw [Array.getD_eq_getD_getElem?, Array.getD_eq_getD_getElem?, Array.getElem?_setIfInBounds_ne (Ne.symm hij)]
  have hord := fun {i : Nat} (hi : i < ops.size) (hij : i ≠ j) (hc : i ∈ B j ∨ j ∈ B i) => h.ord hcl ho hr hnl' hi hij hc
  -- apart from the unordered ones
  have hpair : ∀ i, i < ops.size → i ≠ j → ¬ (i ∈ B j ∨ j ∈ B i) → (rc i).bar = false ∧ (rc j).bar = false ∧ (∀ t, (rc i).dst = some t → t ∉ (rc j).rd) ∧ (∀ s ∈ (rc i).W, s ∉ (rc j).T) ∧ (∀ s ∈ (rc j).W, s ∉ (rc i).T) := by
    intro i hin hij hc
    rw [not_or] at hc
    rcases Nat.lt_or_ge i j with hlt | hge
    · obtain ⟨a1, a2, a3, a4, a5, a6, a7⟩ := (h.pair i j hlt hjn).free hc.1
      exact ⟨a1, a2, a3, a5, a6⟩
    · obtain ⟨a1, a2, a3, a4, a5, a6, a7⟩ := (h.pair j i (by omega) hin).free hc.2
      exact ⟨a2, a1, a4, a6, a5⟩
  have hdsts : ∀ i t, i < ops.size → i ≠ j → (rc i).dst = some t → (rc j).dst ≠ some t := by
    intro i t hin hij hd
    rcases Nat.lt_or_ge i j with hlt | hge
    · exact (h.pair i j hlt hjn).dst t hd
    · intro hd'
      exact (h.pair j i (by omega) hin).dst t hd' hd
  have hdone := h.done j o ho
  obtain ⟨t1, t2, t3⟩ := h.slots j (by omega)
  obtain ⟨u1, u2, u3⟩ := h.slots (j + 1) (by omega)
  obtain ⟨sl, b, i1, i2, i3, i4⟩ := hi.rel
  unfold wpOp
  rw [ho]
  cases hbar : (rc j).bar with
  | true =>
    have hall : ∀ i, i < ops.size → i ≠ j → (listedE listed i = true ↔ i < j) := by
      intro i hin hij
      apply hord hin hij
      apply Classical.byContradiction
      intro hc
      have := (hpair i hin hij hc).2.1
      rw [hbar] at this; cases this
    have hall' : ∀ i, i < ops.size → (listedE listed i = true ↔ i < j) := by
      intro i hin
      by_cases hij : i = j
      · subst hij
        constructor
        · intro hl; have hl' : listed.getD i false = true := hl; rw [hnl'] at hl'; cases hl'
        · intro hl; omega
      · exact hall i hin hij
    have hrel : Rel Pn w0 F0 ⟨(st j).sl, (st j).bl⟩ a w := by
      refine i1.ext (by rw [t1, i2]) (fun t => ?_) (fun s => ?_)
      · rw [i3, t2, slC_agree st rc _ (Nat.le_of_lt hjn) (fun i hin _ => hall' i hin)]
      · rw [i4, t3, cont_agree st rc (Nat.le_of_lt hjn) (fun i hin _ => hall' i hin)]
    refine (hdone.bar hbar).1 Pn w0 F0 a w hdst hrel K Q (fun a' w' hr' => hK a' w' ⟨_, _, hr', ?_, fun t => ?_, fun s => ?_⟩)
    · rw [← hdone.sl, u1]
    · rw [← hdone.sl, u2]
      refine (slC_agree st rc _ (by omega) (fun i hin _ => ?_)).symm
      by_cases hij : i = j
      · subst hij; exact ⟨fun _ => by omega, fun _ => e1⟩
      · rw [show listedE (listed.setIfInBounds j true) i = listedE listed i from e0 i hij, hall i hin hij]; omega
    · rw [u3]
      refine (cont_agree st rc (by omega) (fun i hin _ => ?_)).symm
      by_cases hij : i = j
      · subst hij; exact ⟨fun _ => by omega, fun _ => e1⟩
      · rw [show listedE (listed.setIfInBounds j true) i = listedE listed i from e0 i hij, hall i hin hij]; omega
  | false =>
    obtain ⟨⟨hframe, hloc⟩, hWT, hNW, hnm⟩ := hdone.loc hbar
    have own : ¬ (listedE listed j = true) ∧ ¬ (j < j) := ⟨fun hl => (by have hl' : listed.getD j false = true := hl; rw [hnl'] at hl'; cases hl'), by omega⟩
    have a1 : ∀ t ∈ (rc j).rd, slotL sl t = slotL (st j).sl t := by
      intro t ht
      rw [i3, t2]
      refine slC_agree st rc _ (Nat.le_of_lt hjn) (fun i hin hd => ?_)
      by_cases hij : i = j
      · subst hij; exact ⟨fun x => absurd x own.1, fun x => absurd x own.2⟩
      · apply hord hin hij
        apply Classical.byContradiction
        intro hc
        exact (hpair i hin hij hc).2.2.1 t hd ht
    have a2 : AgreeB (st j).bl (normB b) (rc j).T := by
      intro s hs
      rw [look_norm, i4, t3]
      refine cont_agree st rc (Nat.le_of_lt hjn) (fun i hin hd => ?_)
      by_cases hij : i = j
      · subst hij; exact ⟨fun x => absurd x own.1, fun x => absurd x own.2⟩
      · apply hord hin hij
        apply Classical.byContradiction
        intro hc
        obtain ⟨p1, p2, p3, p4, p5⟩ := hpair i hin hij hc
        rcases hd with hd | hd
        · rw [p1] at hd; cases hd
        · exact p4 s hd hs
    -- new sites are named by nobody
    have named : ∀ s ∈ (rc j).N, ∀ i, i < ops.size → listedE listed i = true → s ∉ (rc i).nm := by
      intro s hs i hin hl
      have hij : i ≠ j := fun e => own.1 (e ▸ hl)
      rcases Nat.lt_or_ge i j with hlt | hge
      · exact (h.pair i j hlt hjn).nm s hs
      · have hnb : j ∉ B i := by
          intro hc
          have := (hord hin hij (.inr hc)).1 hl
          omega
        exact ((h.pair j i (by omega) hin).free hnb).2.2.2.2.2.2 s hs
    have a3 : ∀ s ∈ (rc j).N, s ∉ sitess sl ∧ s ∉ sitesB (normB b) := by
      intro s hs
      have hu := unused_iff (h.new j hjn s hs)
      constructor
      · intro hm
        obtain ⟨t, ht⟩ := mem_sitess_slot hm
        rw [i3] at ht
        rcases slC_mem st rc _ (E := listedE listed) (t := t) (n := ops.size) with he | ⟨i, hin, hl, he⟩
        · rw [he] at ht; exact hu.2.1 (mem_sites_slot ht)
        · rw [he] at ht
          have ho' : ops[i]? = some ops[i] := Array.getElem?_eq_getElem hin
          have hd' := h.done i _ ho'
          refine named s hs i hin hl ?_
          cases hb' : (rc i).bar with
          | true => exact (hd'.bar hb').2 s (.inl ht)
          | false => exact (hd'.loc hb').2.2.2 s (.inl ht)
      · intro hm
        obtain ⟨k, c, hk, hc⟩ := norm_sites hm
        rw [i4] at hk
        rcases cont_mem st rc (E := listedE listed) (s := k) (n := ops.size) with he | ⟨i, hin, hl, hw, he⟩
        · rw [he] at hk; exact hu.2.2.1 k c hk hc
        · rw [he] at hk
          have ho' : ops[i]? = some ops[i] := Array.getElem?_eq_getElem hin
          have hd' := h.done i _ ho'
          refine named s hs i hin hl ?_
          cases hb' : (rc i).bar with
          | true => exact (hd'.bar hb').2 s (.inr (mem_sitesB hk hc))
          | false =>
            rcases hw with hw | hw
            · rw [hb'] at hw; cases hw
            · exact (hd'.loc hb').2.2.2 s (.inr ⟨k, hw, c, hk, hc⟩)
    obtain ⟨b1', k1, k2, k3⟩ := hloc sl (normB b) a1 a2 a3
    have hrel : Rel Pn w0 F0 ⟨sl, normB b⟩ a w := i1.ext rfl (fun _ => rfl) (fun s => look_norm b s)
    refine k1 Pn w0 F0 a w hdst hrel K Q (fun a' w' hr' => hK a' w' ⟨_, _, hr', ?_, fun t => ?_, fun s => ?_⟩)
    · cases hdd : o.dst with
      | none => exact i2
      | some t => simp only [putSl]; rw [setNth_len', i2]
    · rw [slC_add st rc _ hjn (fun i _ hij => e0 i hij) e1 (fun i hin hij hd => hdsts i t hin hij hd), hdone.dst]
      cases hdd : o.dst with
      | none => simp [putSl, i3]
      | some u =>
        simp only [putSl, slotL_set, i2]
        by_cases hu : t = u ∧ u < (st 0).sl.length
        · obtain ⟨rfl, hu⟩ := hu
          simp [hu]
        · rw [if_neg hu, i3, if_neg]
          rintro ⟨e1, e2⟩
          simp only [Option.some.injEq] at e1
          subst e1
          exact hu ⟨rfl, e2⟩
    · by_cases hw : s ∈ (rc j).W
      · rw [k2 s hw, u3]
        refine (cont_agree st rc (by omega) (fun i hin hd => ?_)).symm
        by_cases hij : i = j
        · subst hij; exact ⟨fun _ => by omega, fun _ => e1⟩
        · rw [show listedE (listed.setIfInBounds j true) i = listedE listed i from e0 i hij]
          have : listedE listed i = true ↔ i < j := by
            apply hord hin hij
            apply Classical.byContradiction
            intro hc
            obtain ⟨p1, p2, p3, p4, p5⟩ := hpair i hin hij hc
            rcases hd with hd | hd
            · rw [p1] at hd; cases hd
            · exact p4 s hd (hWT s hw)
          rw [this]; omega
      · rw [k3 s hw, look_norm, i4]
        refine (cont_same st rc (fun i hin hd => ?_)).symm
        by_cases hij : i = j
        · subst hij
          rcases hd with hd | hd
          · rw [hbar] at hd; cases hd
          · exact absurd hd hw
        · exact e0 i hij

/-- when nothing is ready all is done -/
theorem Reg.all (h : Reg P ops st rc B) {listed : Array Bool} (hsz : listed.size = ops.size) (hr : Region.ready .any ops listed = []) : ∀ j, j < ops.size → listed.getD j false = true := by
  intro j
  induction j using Nat.strongRecOn with
  | _ j ih =>
    intro hj
    cases hl : listed.getD j false with
    | true => rfl
    | false =>
      have ho : ops[j]? = some ops[j] := Array.getElem?_eq_getElem hj
      have : j ∈ Region.ready .any ops listed := by
        refine mem_ready.2 ⟨?_, _, ho, fun e he hb => ?_⟩
        · rw [Array.getD_eq_getD_getElem?] at hl ⊢
          rw [Array.getElem?_eq_getElem (by omega)] at hl ⊢
          exact hl
        · have := h.edge j _ ho e he hb
          exact ih e.on this (by omega)
      rw [hr] at this
      cases this

def left (listed : Array Bool) (n : Nat) : Nat := (List.range n).countP (fun i => !listed.getD i false)

theorem left_set {listed : Array Bool} {n j : Nat} (hn : listed.size = n) (hj : j < n) (hl : listed.getD j false = false) : left (listed.setIfInBounds j true) n + 1 = left listed n := by
  unfold left
  have hmem : j ∈ List.range n := List.mem_range.2 hj
  have hnd : (List.range n).Nodup := List.nodup_range
  have key : ∀ (l : List Nat), l.Nodup → j ∈ l → l.countP (fun i => !(listed.setIfInBounds j true).getD i false) + 1 = l.countP (fun i => !listed.getD i false) := by
    intro l
    induction l with
    | nil => intro _ h; cases h
    | cons x l ih =>
      intro hnd hm
      rw [List.nodup_cons] at hnd
      by_cases hx : x = j
      · subst hx
        have hrest : ∀ (m : List Nat), x ∉ m → m.countP (fun i => !(listed.setIfInBounds x true).getD i false) = m.countP (fun i => !listed.getD i false) := by
          intro m hm
          apply List.countP_congr
          intro y hy
          have hne : x ≠ y := fun e => hm (e ▸ hy)
          rw [Array.getD_eq_getD_getElem?, Array.getD_eq_getD_getElem?, Array.getElem?_setIfInBounds_ne hne]
        rw [List.countP_cons, List.countP_cons, hrest l hnd.1]
        have h1 : (listed.setIfInBounds x true).getD x false = true := by
          rw [Array.getD_eq_getD_getElem?, Array.getElem?_setIfInBounds_self_of_lt (by omega)]
          rfl
        simp [h1, hl]
      · have hm' : j ∈ l := (List.mem_cons.1 hm).resolve_left (fun e => hx e.symm)
        rw [List.countP_cons, List.countP_cons, ← ih hnd.2 hm']
        have h1 : (listed.setIfInBounds j true).getD x false = listed.getD x false := by
          rw [Array.getD_eq_getD_getElem?, Array.getD_eq_getD_getElem?, Array.getElem?_setIfInBounds_ne (fun e => hx e.symm)]
        rw [h1]
        omega
  exact key _ hnd hmem

theorem closed_set {listed : Array Bool} (hcl : Closed ops listed) {j : Nat} (hj : j ∈ Region.ready .any ops listed) : Closed ops (listed.setIfInBounds j true) := by
  obtain ⟨hnl, o, ho, hr⟩ := mem_ready.1 hj
  have up : ∀ i, listed.getD i false = true → (listed.setIfInBounds j true).getD i false = true := by
    intro i hi
    rw [Array.getD_eq_getD_getElem?] at hi ⊢
    by_cases hij : j = i
    · subst hij
      by_cases hlt : j < listed.size
      · rw [Array.getElem?_setIfInBounds_self_of_lt hlt]; rfl
      · rw [Array.setIfInBounds_eq_of_size_le (by omega)]; exact hi
    · rw [Array.getElem?_setIfInBounds_ne hij]; exact hi
  intro i o' ho' hi e he hb
  by_cases hij : j = i
  · subst hij
    rw [ho] at ho'
    simp only [Option.some.injEq] at ho'
    subst ho'
    exact up _ (hr e he hb)
  · rw [Array.getD_eq_getD_getElem?, Array.getElem?_setIfInBounds_ne hij, ← Array.getD_eq_getD_getElem?] at hi
    exact up _ (hcl i o' ho' hi e he hb)

theorem Reg.any (h : Reg P ops st rc B) {Q : Exit → Act → World → Prop} (hD : ∀ o ∈ ops.toList, ∀ t, o.dst = some t → Pn t = none) (hQ : ∀ a' w', Rel Pn w0 F0 (st ops.size) a' w' → Q .normal a' w') : ∀ (fuel : Nat) (listed : Array Bool) (a : Act) (w : World), listed.size = ops.size → Closed ops listed → left listed ops.size = fuel →
    Inv Pn w0 F0 st rc ops.size (listedE listed) a w → wpAny P .any ops Q fuel listed a w := by
  have fin : ∀ (listed : Array Bool) (a : Act) (w : World), listed.size = ops.size → Inv Pn w0 F0 st rc ops.size (listedE listed) a w → Region.ready .any ops listed = [] → Q .normal a w := by
    intro listed a w hsz hi hr
    have hall := h.all hsz hr
    obtain ⟨sl, b, i1, i2, i3, i4⟩ := hi.rel
    obtain ⟨t1, t2, t3⟩ := h.slots ops.size (Nat.le_refl _)
    refine hQ a w ?_
    have := i1.ext (sl' := (st ops.size).sl) (b' := (st ops.size).bl) (by rw [t1, i2]) (fun t => ?_) (fun s => ?_)
    · exact this
    · rw [i3, t2, slC_agree (E := listedE listed) st rc _ (Nat.le_refl _) (fun i hin _ => ⟨fun _ => hin, fun _ => hall i hin⟩)]
    · rw [i4, t3, cont_agree (E := listedE listed) st rc (Nat.le_refl _) (fun i hin _ => ⟨fun _ => hin, fun _ => hall i hin⟩)]
  intro fuel
  induction fuel with
  | zero =>
    intro listed a w hsz hcl hle hi
    have hr : Region.ready .any ops listed = [] := by
      apply List.eq_nil_iff_forall_not_mem.2
      intro j hj
      obtain ⟨hnl, o, ho, hr⟩ := mem_ready.1 hj
      have hjn : j < ops.size := (Array.getElem?_eq_some_iff.1 ho).1
      have hnl' : listed.getD j false = false := by
        rw [Array.getD_eq_getD_getElem?] at hnl ⊢
        rw [Array.getElem?_eq_getElem (by omega)] at hnl ⊢
        exact hnl
      have := left_set hsz hjn hnl'
      omega
    exact ⟨hr, fin listed a w hsz hi hr⟩
  | succ fuel ih =>
    intro listed a w hsz hcl hle hi
    refine ⟨fin listed a w hsz hi, fun j hj => ?_⟩
    refine h.step hsz hcl hj hD hi (fun a' w' hi' => ?_)
    obtain ⟨hnl, o, ho, hr⟩ := mem_ready.1 hj
    have hjn : j < ops.size := (Array.getElem?_eq_some_iff.1 ho).1
    have hnl' : listed.getD j false = false := by
      rw [Array.getD_eq_getD_getElem?] at hnl ⊢
      rw [Array.getElem?_eq_getElem (by omega)] at hnl ⊢
      exact hnl
    have := left_set hsz hjn hnl'
    exact ih _ a' w' (by simp [hsz]) (closed_set hcl hj) (by omega) hi'

theorem Rel.drew (h : Rel Pn w0 F0 ⟨sl, b⟩ a w) : Rel Pn w0 F0 ⟨sl, b⟩ a { w with drawn := w.drawn + 1 } := by
  obtain ⟨⟨G, hc, hv⟩, h1, h2, h3⟩ := h
  obtain ⟨k1, k2⟩ := hc.x.drew
  exact ⟨⟨G, k1.c, hv.goes k2 (fun _ _ => id)⟩, h1, h2, h3⟩

/-- the operations of a region that draws its order -/
theorem runDraw_wp (HT : TysOK P A.ty) {R : Type} {oc : OC R} (hoc : OCok P A oc) {r : R} {Q : Exit → Act → World → Prop} {σ : St} {κ : St → Option R} (hD : ∀ o ∈ ops.toList, ∀ t, o.dst = some t → Pn t = none) (hr : Rel Pn w0 F0 σ a w) (h : runDraw oc A ops.toList σ κ = some r)
    (hK : ∀ σ' a' w', κ σ' = some r → Rel Pn w0 F0 σ' a' w' → Q .normal a' w') : wpAny P .any ops Q ops.size (Array.replicate ops.size false) a { w with drawn := w.drawn + 1 } := by
  unfold runDraw at h
  split at h
  · rename_i bs hbs
    obtain ⟨rc, st, k1, k2, k3⟩ := runRec_done HT hoc h
    split at k3
    · rename_i hok
      obtain ⟨tl, e1, e2, e3⟩ := befs_spec hbs
      simp only [List.nil_append] at e1
      subst e1
      have hn : ops.toList.length = ops.size := by simp
      have hget : ∀ j o, ops[j]? = some o → ops.toList[j]? = some o := fun j o ho => (by rw [Array.getElem?_toList]; exact ho)
      have hrec : ∀ j, j < ops.size → ((List.range ops.toList.length).map rc)[j]? = some (rc j) := by
        intro j hj
        simp [hj]
      have hreg : Reg P ops st rc (fun j => bs.getD j []) := by
        refine ⟨fun j o ho => k2 j o (hget j o ho), fun j o ho e he hb => ?_, fun j o ho i hi => ?_, fun i j hij hj => ?_, fun j hj s hs => ?_⟩
        · obtain ⟨r', _, h2, _⟩ := e3 j o (hget j o ho)
          have := h2 e (by simpa using he) hb
          simpa using this
        · obtain ⟨r', h1, _, h3⟩ := e3 j o (hget j o ho)
          have hbj : bs.getD j [] = r' := by
            rw [List.getD_eq_getElem?_getD]
            rw [show ([] : List (List Nat)).length + j = j by simp] at h1
            rw [h1]; rfl
          rw [hbj] at hi
          obtain ⟨e, he, hb, h4⟩ := h3 i hi
          refine ⟨e, by simpa using he, hb, h4.imp id ?_⟩
          rintro ⟨p, hp, hi'⟩
          rw [List.getD_eq_getElem?_getD, hp]
          exact hi'
        · obtain ⟨_, bj, h2, h3⟩ := drawOK_spec hok j (rc j) (hrec j hj)
          have hbj : bs.getD j [] = bj := by
            rw [List.getD_eq_getElem?_getD, h2]; rfl
          show Pair i (rc i) (bs.getD j []) (rc j)
          rw [hbj]
          exact h3 i (rc i) (by simpa using hrec i (by omega)) (by simpa using hij)
        · rw [k1]
          exact (drawOK_spec hok j (rc j) (hrec j hj)).1 s hs
      have hfalse : ∀ i, listedE (Array.replicate ops.size false) i = false := by
        intro i
        show (Array.replicate ops.size false).getD i false = false
        rw [Array.getD_eq_getD_getElem?]
        by_cases hi : i < ops.size
        · rw [Array.getElem?_eq_getElem (by simpa using hi)]; simp
        · rw [Array.getElem?_eq_none (by simpa using hi)]; rfl
      refine hreg.any (w0 := w0) (F0 := F0) hD (fun a' w' hr' => hK (st ops.size) a' w' (by rw [← hn]; exact k3) hr') ops.size _ a _ (by simp) ?_ ?_ ?_
      · intro j o ho hl
        have h' : listedE (Array.replicate ops.size false) j = true := hl
        rw [hfalse] at h'; cases h'
      · unfold left
        rw [List.countP_eq_length.2]
        · simp
        · intro i _
          have h' : (Array.replicate ops.size false).getD i false = false := hfalse i
          rw [h']; rfl
      · have hr' : Rel Pn w0 F0 ⟨σ.sl, σ.bl⟩ a w := hr
        refine ⟨σ.sl, σ.bl, hr'.drew, by rw [k1], fun t => ?_, fun s => ?_⟩
        · rw [slC_agree st rc _ (Nat.zero_le _) (fun i _ _ => ⟨fun hl => (by rw [hfalse] at hl; cases hl), fun hl => (by omega)⟩)]
          simp [slC, k1]
        · rw [cont_agree st rc (Nat.zero_le _) (fun i _ _ => ⟨fun hl => (by rw [hfalse] at hl; cases hl), fun hl => (by omega)⟩)]
          simp [cont, k1]
    · cases k3
  · cases h

end
end Go.Rai

/- Code, loops, calls of a function. -/
set_option linter.unusedVariables false
set_option linter.unusedSimpArgs false
namespace Go.Rai

def Ex.to : Ex → Exit
  | .normal => .normal
  | .exit i => .exit i
  | .ret => .ret

/-- no operation writes a pinned slot -/
def DstOK (Pn : Nat → Option Value) : Code → Prop
  | .region _ ops _ => ∀ o ∈ ops.toList, ∀ t, o.dst = some t → Pn t = none
  | .seq a b => DstOK Pn a ∧ DstOK Pn b
  | .cond _ a b => DstOK Pn a ∧ DstOK Pn b
  | .block _ b => DstOK Pn b
  | .loop b => DstOK Pn b
  | _ => True

/-- what a loop does -/
def LoopOK (P : Program) (c : Code) (σ : St) (e : Ex) (σ' : St) : Prop :=
  ∀ (Pn : Nat → Option Value) (w0 : World) (F0 : List Nat) (a : Act) (w : World), DstOK Pn c → Rel Pn w0 F0 σ a w → ∀ (Q : Exit → Act → World → Prop),
    (∀ a' w', Rel Pn w0 F0 σ' a' w' → Q e.to a' w') → Loops P c Q a w

/-- the oracle of loops keeps its word -/
def OLok (P : Program) (C : Code → Prop) {R : Type} (ol : OL R) : Prop :=
  ∀ c, C c → ∀ σ (κ : Ex → St → Option R) r, ol (regionOf c) c σ κ = some r → ∃ e σ', κ e σ' = some r ∧ LoopOK P c σ e σ'

section
variable {Pn : Nat → Option Value} {P : Program} {A : Ann} {w w' w0 : World} {F0 : List Nat} {sl sl' : List V} {a : Act} {b b' b1 bl : BL} {G : GT} {o : Oper} {v : V} {c : List Cond} {ops : Array Oper}

theorem slot_eval {σ : St} (hr : Rel Pn w0 F0 σ a w) {t : Nat} {b : Bool} (h : slotL σ.sl t = .bool b) : a.eval (.tmp t) = .bool b := by
  obtain ⟨⟨G, hc, hs⟩, hl, hd, _⟩ := hr
  have := hs t
  rw [h] at this
  have := (val_bool.1 this).1
  simpa [Act.eval, Array.getD_eq_getD_getElem?] using this

theorem runCode_wp (HT : TysOK P A.ty) (hm : P.follows .mixedOrders = true) {R : Type} {oc : OC R} (hoc : OCok P A oc) {ol : OL R} {C : Code → Prop} (hol : OLok P C ol) {fid : FuncId} {r : R} : ∀ (c : Code) (hC : ∀ l ∈ loopsOf c, C l) (hD : DstOK Pn c) {σ : St} {a : Act} {w : World} {κ : Ex → St → Option R} {Q : Exit → Act → World → Prop},
    Rel Pn w0 F0 σ a w → runCode oc ol A fid c σ κ = some r → (∀ e σ' a' w', κ e σ' = some r → Rel Pn w0 F0 σ' a' w' → Q e.to a' w') → c.wp P Q a w
  | .skip, hC, hD, σ, a, w, κ, Q, hr, h, hK => wp_skip (hK .normal σ a w (by simpa only [runCode] using h) hr)
  | .region id ops draw, hC, hD, σ, a, w, κ, Q, hr, h, hK => by
    cases draw with
    | false =>
      simp only [runCode] at h
      exact wp_region_list (runOps_wp HT hoc hD hr h (fun σ' a' w' h1 h2 => hK .normal σ' a' w' h1 h2))
    | true =>
      simp only [runCode] at h
      exact wp_region_any hm (runDraw_wp HT hoc hD hr h (fun σ' a' w' h1 h2 => hK .normal σ' a' w' h1 h2))
  | .seq x y, hC, hD, σ, a, w, κ, Q, hr, h, hK => by
    simp only [runCode] at h
    refine wp_seq (runCode_wp HT hm hoc hol x (fun l hl => hC l (by simp [loopsOf, hl])) hD.1 hr h (fun e σ' a' w' h1 h2 => ?_))
    cases e with
    | normal => exact runCode_wp HT hm hoc hol y (fun l hl => hC l (by simp [loopsOf, hl])) hD.2 h2 h1 hK
    | exit i => exact hK (.exit i) σ' a' w' h1 h2
    | ret => exact hK .ret σ' a' w' h1 h2
  | .cond c x y, hC, hD, σ, a, w, κ, Q, hr, h, hK => by
    cases c with
    | tmp t =>
      simp only [runCode] at h
      split at h
      · rename_i bb hv
        have hsame : setNth σ.sl t (.bool bb) = σ.sl := setNth_same hv (by simp)
        have hσ : (⟨σ.sl, σ.bl⟩ : St) = σ := rfl
        refine wp_cond (slot_eval hr hv) ?_
        cases bb with
        | true =>
          simp only [cond_true, setK_eq] at h
          rw [hsame, hσ] at h
          exact runCode_wp HT hm hoc hol x (fun l hl => hC l (by simp [loopsOf, hl])) hD.1 hr h hK
        | false =>
          simp only [cond_false, setK_eq] at h
          rw [hsame, hσ] at h
          exact runCode_wp HT hm hoc hol y (fun l hl => hC l (by simp [loopsOf, hl])) hD.2 hr h hK
      · cases h
    | _ => simp [runCode] at h
  | .block id b, hC, hD, σ, a, w, κ, Q, hr, h, hK => by
    simp only [runCode] at h
    refine wp_block (runCode_wp HT hm hoc hol b (fun l hl => hC l (by simp [loopsOf, hl])) hD hr h (fun e σ' a' w' h1 h2 => ?_))
    cases e with
    | normal => exact hK .normal σ' a' w' h1 h2
    | exit i =>
      simp only [Ex.to, Exit.inBlock]
      simp only at h1
      split at h1
      · rename_i hb
        rw [if_pos (Nat.eq_of_beq_eq_true hb)]
        exact hK .normal σ' a' w' h1 h2
      · rename_i hb
        rw [if_neg (fun he => by subst he; rw [Nat.beq_refl] at hb; cases hb)]
        exact hK (.exit i) σ' a' w' h1 h2
    | ret => exact hK .ret σ' a' w' h1 h2
  | .loop b, hC, hD, σ, a, w, κ, Q, hr, h, hK => by
    simp only [runCode] at h
    obtain ⟨σ', h1, h2⟩ := canonK_rel hr h
    obtain ⟨e, σ2, h3, h4⟩ := hol b (hC b (by simp [loopsOf])) _ _ _ h1
    exact wp_of_loops (h4 Pn w0 F0 a w hD h2 Q (fun a' w' h5 => hK e σ2 a' w' h3 h5))
  | .exit id, hC, hD, σ, a, w, κ, Q, hr, h, hK => wp_exit (hK (.exit id) σ a w (by simpa only [runCode] using h) hr)
  | .ret, hC, hD, σ, a, w, κ, Q, hr, h, hK => wp_ret (hK .ret σ a w (by simpa only [runCode] using h) hr)
  | .goto _, hC, hD, σ, a, w, κ, Q, hr, h, hK => by simp [runCode] at h
  | .label _, hC, hD, σ, a, w, κ, Q, hr, h, hK => by simp [runCode] at h
  | .refuse _, hC, hD, σ, a, w, κ, Q, hr, h, hK => by simp [runCode] at h


/-- one round of a loop -/
theorem runLoop_ok (HT : TysOK P A.ty) (hm : P.follows .mixedOrders = true) {oc : OC (Ex × St)} (hoc : OCok P A oc) {ol : OL (Ex × St)} {C : Code → Prop} (hol : OLok P C ol) {fid : FuncId} {c : Code} (hC : C c) (hCs : ∀ l ∈ loopsOf c, C l) {σ σ' : St} {e : Ex}
    (h : runLoop oc ol A fid c σ (fun e σ' => some (e, σ')) = some (e, σ')) : LoopOK P c σ e σ' := by
  intro Pn w0 F0 a w hD hr Q hQ
  refine loops_round (runCode_wp HT hm hoc hol c hCs hD hr h (fun e1 σ1 a1 w1 h1 h2 => ?_))
  cases e1 with
  | normal =>
    obtain ⟨σ2, h3, h4⟩ := canonK_rel h2 h1
    obtain ⟨e2, σ3, h5, h6⟩ := hol c hC _ _ _ h3
    simp only [Option.some.injEq, Prod.mk.injEq] at h5
    obtain ⟨rfl, rfl⟩ := h5
    exact h6 Pn w0 F0 a1 w1 hD h4 Q hQ
  | exit i =>
    obtain ⟨σ2, h3, h4⟩ := canonK_rel h2 h1
    simp only [Option.some.injEq, Prod.mk.injEq] at h3
    obtain ⟨rfl, rfl⟩ := h3
    exact hQ a1 w1 h4
  | ret =>
    obtain ⟨σ2, h3, h4⟩ := canonK_rel h2 h1
    simp only [Option.some.injEq, Prod.mk.injEq] at h3
    obtain ⟨rfl, rfl⟩ := h3
    exact hQ a1 w1 h4

end
end Go.Rai

/- One call of a function. -/
set_option linter.unusedVariables false
set_option linter.unusedSimpArgs false
namespace Go.Rai

mutual
theorem noOwn_F' {E : Env} : ∀ (v : V) {cs : List Value} {F : List Nat}, hasOwn v = false → InV E v cs F → F = []
  | .int _ _, _, _, _, h => by unfold InV at h; exact h.2
  | .bool _, _, _, _, h => by unfold InV at h; exact h.2
  | .str _, _, _, _, h => by unfold InV at h; exact h.2
  | .own e l, _, _, hn, h => by simp [hasOwn] at hn
  | .arr n e l, _, _, hn, h => by unfold InV at h; exact Row_flatF (fun d c G hd => DIn_flat e h.2.1 hd) h.2.2
  | .agg vs, cs, F, hn, h => by unfold hasOwn at hn; unfold InV at h; exact noOwns_F' vs hn h
  | .obox v, cs, F, hn, h => by simp [hasOwn] at hn
  | .tup vs, _, _, _, h => by unfold InV at h; exact h.elim
  | .undef, _, _, _, h => by unfold InV at h; exact h.2
  | .void, _, _, _, h => by unfold InV at h; exact h.2
  | .rd _ _, _, _, _, h => by unfold InV at h; exact h.1
  | .lst _ _, _, _, hn, _ => by simp [hasOwn] at hn
  | .nilsl, _, _, _, h => by unfold InV at h; exact h.2
  | .emp _, _, _, _, h => by unfold InV at h; exact h.2
  | .rp _, _, _, _, h => by unfold InV at h; exact h.1
  | .full _ _ _, _, _, _, h => by unfold InV at h; exact h.1
  | .sub _ _ _ _ _, _, _, _, h => by unfold InV at h; exact h.1
  | .ptr _ _, _, _, _, h => by unfold InV at h; exact h.1
  | .fn _ caps, _, _, hn, h => by
    unfold hasOwn at hn
    unfold InV at h
    obtain ⟨vals, _, h1, _⟩ := h
    exact noOwns_F' caps hn h1
  | .nilfn, _, _, _, h => by unfold InV at h; exact h.2
  | .nilptr, _, _, _, h => by unfold InV at h; exact h.2
theorem noOwns_F' {E : Env} : ∀ (vs : List V) {cs : List Value} {F : List Nat}, hasOwns vs = false → InVs E vs cs F → F = []
  | [], _, _, _, h => by unfold InVs at h; exact h.2
  | v :: vs, cs, F, hn, h => by
    unfold hasOwns at hn; rw [bor_false] at hn
    unfold InVs at h
    obtain ⟨c1, c2, F1, F2, e1, e2, h1, h2⟩ := h
    rw [e2, noOwn_F' v hn.1 h1, noOwns_F' vs hn.2 h2]
    rfl
end

mutual
theorem alias_no (s : Nat) : ∀ (v : V) (p : List Nat), hasOwn v = false → alias s p v = v
  | .own e l, p, hn => by simp [hasOwn] at hn
  | .agg vs, p, hn => by unfold hasOwn at hn; unfold alias; rw [aliass_no s vs p 0 hn]
  | .obox v, p, hn => by simp [hasOwn] at hn
  | .lst _ _, p, hn => by simp [hasOwn] at hn
  | .fn _ caps, p, hn => by unfold hasOwn at hn; unfold alias; rw [aliass_no s caps p 0 hn]
  | .int _ _, _, _ => rfl
  | .bool _, _, _ => rfl
  | .str _, _, _ => rfl
  | .arr _ _ _, _, _ => rfl
  | .tup _, _, _ => rfl
  | .undef, _, _ => rfl
  | .void, _, _ => rfl
  | .rd _ _, _, _ => rfl
  | .nilsl, _, _ => rfl
  | .emp _, _, _ => rfl
  | .rp _, _, _ => rfl
  | .full _ _ _, _, _ => rfl
  | .sub _ _ _ _ _, _, _ => rfl
  | .ptr _ _, _, _ => rfl
  | .nilfn, _, _ => rfl
  | .nilptr, _, _ => rfl
theorem aliass_no (s : Nat) : ∀ (vs : List V) (p : List Nat) (j : Nat), hasOwns vs = false → aliass s p j vs = vs
  | [], _, _, _ => rfl
  | v :: vs, p, j, hn => by
    unfold hasOwns at hn; rw [bor_false] at hn
    unfold aliass
    rw [alias_no s v _ hn.1, aliass_no s vs _ _ hn.2]
end

/-- the arguments, one by one -/
theorem tup_get {E : Env} : ∀ {args : List V} {vals : List Value} {F : List Nat}, Tup E args vals F → ∃ (css : List (List Value)) (Fs : List (List Nat)), css.length = args.length ∧ Fs.length = args.length ∧ vals.length = args.length ∧ Fs.flatten = F ∧
    ∀ (k : Nat) (x : V), args[k]? = some x → ∃ (cs : List Value) (Fk : List Nat) (u : Value), css[k]? = some cs ∧ Fs[k]? = some Fk ∧ vals[k]? = some u ∧ InV E x cs Fk ∧ asVal x cs u
  | [], vals, F, h => by
    obtain ⟨rfl, rfl⟩ := h
    exact ⟨[], [], rfl, rfl, rfl, rfl, fun k x hk => by simp at hk⟩
  | x :: args, vals, F, ⟨v, r, F1, F2, e1, e2, ⟨cs, h1, h2⟩, h3⟩ => by
    subst e1; subst e2
    obtain ⟨css, Fs, k1, k2, k3, k4, k5⟩ := tup_get h3
    refine ⟨cs :: css, F1 :: Fs, by simp [k1], by simp [k2], by simp [k3], by simp [k4], fun k y hk => ?_⟩
    cases k with
    | zero =>
      simp only [List.getElem?_cons_zero, Option.some.injEq] at hk
      subst hk
      exact ⟨cs, F1, v, rfl, rfl, rfl, h1, h2⟩
    | succ k =>
      simp only [List.getElem?_cons_succ] at hk ⊢
      exact k5 k y hk

theorem entryBl_look : ∀ {args : List V} {i k : Nat} {c : V}, lookB (entryBl i args) k = some c → i ≤ k ∧ args[k - i]? = some c ∧ hasOwn c = true
  | [], i, k, c, h => by simp [entryBl, lookB] at h
  | x :: args, i, k, c, h => by
    unfold entryBl at h
    have rest : lookB (entryBl (i + 1) args) k = some c → i ≤ k ∧ (x :: args)[k - i]? = some c ∧ hasOwn c = true := by
      intro h
      obtain ⟨h1, h2, h3⟩ := entryBl_look h
      refine ⟨by omega, ?_, h3⟩
      rw [show k - i = (k - (i + 1)) + 1 by omega, List.getElem?_cons_succ]
      exact h2
    split at h
    · rename_i ho
      simp only [lookB] at h
      split at h
      · rename_i hb
        have := Nat.eq_of_beq_eq_true hb
        subst this
        simp only [Option.some.injEq] at h
        subst h
        exact ⟨Nat.le_refl _, by simp, ho⟩
      · exact rest h
    · exact rest h

theorem entryBl_own : ∀ {args : List V} {i j : Nat} {c : V}, args[j]? = some c → hasOwn c = true → lookB (entryBl i args) (i + j) = some c
  | [], i, j, c, h, _ => by simp at h
  | x :: args, i, j, c, h, ho => by
    cases j with
    | zero =>
      simp only [List.getElem?_cons_zero, Option.some.injEq] at h
      subst h
      unfold entryBl
      rw [ho]
      simp [lookB, Nat.beq_refl]
    | succ j =>
      simp only [List.getElem?_cons_succ] at h
      have ih := entryBl_own (i := i + 1) h ho
      rw [show i + 1 + j = i + (j + 1) by omega] at ih
      unfold entryBl
      split
      · simp only [lookB]
        have : Nat.beq i (i + (j + 1)) = false := by
          cases hq : Nat.beq i (i + (j + 1)) with
          | false => rfl
          | true => have := Nat.eq_of_beq_eq_true hq; omega
        rw [this]
        exact ih
      · exact ih

theorem entrySl_slot : ∀ {args : List V} {i j : Nat}, slotL (entrySl i args) j = match args[j]? with | some c => alias (i + j) [] c | none => .undef
  | [], i, j => by simp [entrySl, slotL]
  | x :: args, i, 0 => by simp [entrySl, slotL]
  | x :: args, i, j + 1 => by
    simp only [entrySl, slotL, List.getElem?_cons_succ]
    rw [entrySl_slot, show i + 1 + j = i + (j + 1) by omega]

theorem slotL_pad : ∀ {n : Nat} {l : List V} {j : Nat}, slotL (padTo n l) j = slotL l j
  | 0, l, j => rfl
  | n + 1, [], 0 => by simp [padTo, slotL]
  | n + 1, [], j + 1 => by simp only [padTo, slotL]; rw [slotL_pad]; simp [slotL]
  | n + 1, v :: l, 0 => by simp [padTo, slotL]
  | n + 1, v :: l, j + 1 => by simp only [padTo, slotL]; exact slotL_pad

theorem pad_len : ∀ {n : Nat} {l : List V}, (padTo n l).length = l.length + (n - l.length)
  | 0, l => by simp [padTo]
  | n + 1, [] => by simp [padTo, pad_len]
  | n + 1, v :: l => by simp [padTo, pad_len]; omega

theorem entrySl_len : ∀ {args : List V} {i : Nat}, (entrySl i args).length = args.length
  | [], i => rfl
  | x :: args, i => by simp [entrySl, entrySl_len]

theorem noSites_eq {l : List Nat} (h : noSites l = true) : l = [] := by
  cases l with
  | nil => rfl
  | cons a l => simp [noSites] at h

section
variable {P : Program} {A : Ann} {w w' w0 : World} {F0 : List Nat} {sl sl' : List V} {a : Act} {b b' b1 bl : BL} {G : GT} {o : Oper} {v : V} {c : List Cond} {ops : Array Oper}

theorem flat_apart : ∀ {Fs : List (List Nat)}, Fs.flatten.Nodup → (∀ (i j : Nat) (Fi Fj : List Nat), i ≠ j → Fs[i]? = some Fi → Fs[j]? = some Fj → ∀ b ∈ Fi, b ∉ Fj) ∧ ∀ (i : Nat) (Fi : List Nat), Fs[i]? = some Fi → Fi.Nodup
  | [], _ => ⟨fun i j Fi Fj _ h => by simp at h, fun i Fi h => by simp at h⟩
  | F :: Fs, h => by
    rw [List.flatten_cons, List.nodup_append] at h
    obtain ⟨h1, h2, h3⟩ := h
    obtain ⟨i1, i2⟩ := flat_apart h2
    have sub : ∀ (i : Nat) (Fi : List Nat), Fs[i]? = some Fi → ∀ b ∈ Fi, b ∈ Fs.flatten := fun i Fi hi b hb => List.mem_flatten.2 ⟨Fi, List.mem_of_getElem? hi, hb⟩
    constructor
    · intro i j Fi Fj hij hi hj b hb hb'
      cases i with
      | zero =>
        simp only [List.getElem?_cons_zero, Option.some.injEq] at hi
        subst hi
        cases j with
        | zero => exact hij rfl
        | succ j =>
          simp only [List.getElem?_cons_succ] at hj
          exact h3 b hb b (sub j Fj hj b hb') rfl
      | succ i =>
        simp only [List.getElem?_cons_succ] at hi
        cases j with
        | zero =>
          simp only [List.getElem?_cons_zero, Option.some.injEq] at hj
          subst hj
          exact h3 b hb' b (sub i Fi hi b hb) rfl
        | succ j =>
          simp only [List.getElem?_cons_succ] at hj
          exact i1 i j Fi Fj (by omega) hi hj b hb hb'
    · intro i Fi hi
      cases i with
      | zero =>
        simp only [List.getElem?_cons_zero, Option.some.injEq] at hi
        subst hi
        exact h1
      | succ i =>
        simp only [List.getElem?_cons_succ] at hi
        exact i2 i Fi hi

/-- as a call begins -/
theorem entry_rel {args : List V} {vals : List Value} {F : List Nat} {n : Nat} {Pn : Nat → Option Value} (hPn : ∀ t v, Pn t = some v → vals[t]? = some v) (ht : Tup (calleeEnv w F) args vals F) (hnd : F.Nodup) (hlt : ∀ b ∈ F, b < w.heap.size) (hs : sitess args = []) :
    Rel Pn w F (entry n args) { tmps := vals.toArray ++ Array.replicate (n - vals.length) undef, defers := [] } w := by
  obtain ⟨css, Fs, k1, k2, k3, k4, k5⟩ := tup_get ht
  let G : GT := fun k => match css[k]?, Fs[k]? with
    | some cs, some Fk => some (cs, Fk)
    | _, _ => none
  have hG : ∀ k cs Fk, css[k]? = some cs → Fs[k]? = some Fk → G k = some (cs, Fk) := fun k cs Fk h1 h2 => by simp only [G, h1, h2]
  have hG' : ∀ k rc F', G k = some (rc, F') → Fs[k]? = some F' := by
    intro k rc F' h
    simp only [G] at h
    split at h
    · rename_i h1 h2
      simp only [Option.some.injEq, Prod.mk.injEq] at h
      rw [← h.2]; exact h2
    · cases h
  have sub : ∀ (i : Nat) (Fi : List Nat), Fs[i]? = some Fi → ∀ b ∈ Fi, b ∈ F := fun i Fi hi b hb => by rw [← k4]; exact List.mem_flatten.2 ⟨Fi, List.mem_of_getElem? hi, hb⟩
  obtain ⟨ap1, ap2⟩ := flat_apart (Fs := Fs) (by rw [k4]; exact hnd)
  have owned : ∀ b, Owned (entryBl 0 args) G [] b → b ∈ F := by
    rintro b (hb | ⟨k, c, rc, F', h1, h2, h3⟩)
    · cases hb
    · exact sub k F' (hG' k rc F' h2) b h3
  have hle : Le (calleeEnv w F) (envOf w (entryBl 0 args) G []) := ⟨fun b hb => ⟨⟨hb.1, fun ho => hb.2 (owned b ho)⟩, rfl⟩, Nat.le_refl _⟩
  have nos : ∀ (k : Nat) (x : V), args[k]? = some x → sites x = [] := by
    have : ∀ (l : List V), sitess l = [] → ∀ (k : Nat) (x : V), l[k]? = some x → sites x = [] := by
      intro l
      induction l with
      | nil => intro _ k x hx; simp at hx
      | cons y l ih =>
        intro hl k x hx
        unfold sitess at hl
        rw [cat_eq, List.append_eq_nil_iff] at hl
        cases k with
        | zero => simp only [List.getElem?_cons_zero, Option.some.injEq] at hx; subst hx; exact hl.1
        | succ k => exact ih hl.2 k x (by simpa using hx)
    exact this args hs
  have up : ∀ (k : Nat) (x : V) (cs : List Value) (Fk : List Nat), args[k]? = some x → InV (calleeEnv w F) x cs Fk → InV (envOf w (entryBl 0 args) G []) x cs Fk := by
    intro k x cs Fk hx h
    exact InV_frame hle x (fun s hs' => by rw [nos k x hx] at hs'; cases hs') (fun _ _ => rfl) h
  refine ⟨⟨G, ⟨⟨?_, ?_, List.nodup_nil, fun b hb => by cases hb⟩, fun _ _ _ => rfl, fun b hb => .inl (owned b hb), Nat.le_refl _, rfl, rfl, rfl⟩, ?_⟩, ?_, rfl, ?_⟩
  · intro k c hk
    obtain ⟨_, hx, _⟩ := entryBl_look hk
    simp only [Nat.sub_zero] at hx
    obtain ⟨cs, Fk, u, e1, e2, e3, e4, e5⟩ := k5 k c hx
    exact ⟨cs, Fk, Fk, hG k cs Fk e1 e2, up k c cs Fk hx e4, List.Perm.refl _, ap2 k Fk e2, fun b hb => ⟨hlt b (sub k Fk e2 b hb), by simp⟩⟩
  · intro k k' c c' rc rc' F1 F2 hne h1 h2 h3 h4
    exact ap1 k k' F1 F2 hne (hG' k rc F1 h3) (hG' k' rc' F2 h4)
  · intro t
    show Val _ (slotL (padTo n (entrySl 0 args)) t) _ []
    rw [slotL_pad, entrySl_slot]
    cases hx : args[t]? with
    | none => exact val_undef
    | some x =>
      obtain ⟨cs, Fk, u, e1, e2, e3, e4, e5⟩ := k5 t x hx
      have hu : (vals.toArray ++ Array.replicate (n - vals.length) undef).getD t undef = u := by
        rw [Array.getD_eq_getD_getElem?]
        have hlt : t < vals.length := (List.getElem?_eq_some_iff.1 e3).1
        rw [Array.getElem?_append_left (by simpa using hlt)]
        simp [e3]
      show Val _ (alias (0 + t) [] x) ((vals.toArray ++ Array.replicate (n - vals.length) undef).getD t undef) []
      rw [hu]
      cases ho : hasOwn x with
      | true =>
        have hl := entryBl_own (i := 0) hx ho
        rw [Nat.zero_add] at hl ⊢
        exact alias_val (E := envOf w (entryBl 0 args) G []) hl (hG t cs Fk e1 e2) (L := .reg cs) (by simp [locF]) ⟨[], by simp⟩ (up t x cs Fk hx e4) e5
      | false =>
        rw [alias_no _ _ _ ho]
        have hF := noOwn_F' x ho e4
        subst hF
        exact one_val ⟨cs, up t x cs [] hx e4, e5⟩
  · show (vals.toArray ++ Array.replicate (n - vals.length) undef).size = (padTo n (entrySl 0 args)).length
    rw [pad_len, entrySl_len]
    simp [k3]
  · intro t u hu
    have hu' := hPn t u hu
    have hlt : t < vals.length := (List.getElem?_eq_some_iff.1 hu').1
    rw [Array.getD_eq_getD_getElem?, Array.getElem?_append_left (by simpa using hlt)]
    simp [hu']

/-- what a load brings -/
theorem load_val (HT : TysOK P A.ty) (hc : Core w bl G w0 F0) {t : TypeId} {x : V} {u : Value} {co : List Cond} {v : V} {b : BL} (hx : Val (envOf w bl G []) x u [])
    (hv : loadV (A.ty t) bl x = some (co, v, b)) (hk : ∀ k ∈ co, k.ok) : ∃ vv, (do loadVar t (← asAddr u) : Sem Value).run P w = .ok vv w ∧ Val (envOf w bl G []) v vv [] := by
  unfold loadV at hv
  split at hv
  · rename_i y
    split at hv
    · rename_i hfit
      simp only [Option.some.injEq, Prod.mk.injEq] at hv
      obtain ⟨rfl, rfl, rfl⟩ := hv
      have hx' := (val_one rfl (by simp) (by simp)).1 hx
      unfold InV at hx'
      obtain ⟨_, ad, cs', h1, h2, h3, h4⟩ := hx'
      simp only [List.cons.injEq, and_true] at h1
      have hty := HT t (fits_other hfit)
      have hsz : cs'.length = (A.ty t).size := by rw [InV_len _ h2, (fits_size hfit).1]
      refine ⟨cval (isAT (A.ty t)) cs', ?_, ?_⟩
      · simp [h1, asAddr, run_loadVar' (w := w) hty hsz h3 size_one]
      · rw [fits_val hfit]
        refine ⟨cs', h2, ?_⟩
        unfold asVal
        rw [(fits_size hfit).2]
        cases hA : isAT (A.ty t) with
        | true => rfl
        | false =>
          have := size_one hA
          rw [this] at hsz
          match cs', hsz with
          | [q], _ => rfl
    · simp at hv
  · rename_i s p
    split at hv
    · rename_i c' y hg
      split at hv
      · rename_i hfit
        simp only [Option.some.injEq, Prod.mk.injEq] at hv
        obtain ⟨rfl, rfl, rfl⟩ := hv
        obtain ⟨c0, rc, F, i1, i2, i3, Lx, csx, Fx, i4, i5, i6, i7, i8, i9⟩ := place_of hc hg hk
        obtain ⟨ad, e1, e2⟩ := ptr_at hx i1 i2 i4
        subst e1
        have hty := HT t (fits_other hfit)
        have hsz : csx.length = (A.ty t).size := by rw [InV_len _ i5, (fits_size hfit).1]
        refine ⟨cval (isAT (A.ty t)) csx, ?_, ?_⟩
        · simp [e2, asAddr, run_loadVar' (w := w) hty hsz i6 size_one]
        · refine alias_val (E := envOf w bl G []) i1 i2 i4 i6 i5 ?_
          unfold asVal
          rw [(fits_size hfit).2]
          cases hA : isAT (A.ty t) with
          | true => rfl
          | false =>
            have := size_one hA
            rw [this] at hsz
            match csx, hsz with
            | [q], _ => rfl
      · simp at hv
    · simp at hv
  · simp at hv

theorem ownNil_isA : ∀ (t : Ty) (v : V), isA (ownNil t v) = isA v := by
  intro t v
  cases t with
  | slice e =>
    cases v with
    | nilsl => show isA (match e.plain with | true => .own e [] | false => .nilsl) = false; cases e.plain <;> rfl
    | emp e' => show isA (match e.plain with | true => .own e [] | false => .emp e') = false; cases e.plain <;> rfl
    | _ => rfl
  | struct fs => cases v <;> rfl
  | _ => cases v <;> rfl

theorem ownNil_one {E : Env} {t : Ty} {v : V} {u : Value} {F : List Nat} (h : One E v u F) : One E (ownNil t v) u F := by
  obtain ⟨cs, h1, h2⟩ := h
  refine ⟨cs, ownNil_in t h1, ?_⟩
  unfold asVal at h2 ⊢
  rw [ownNil_isA]
  exact h2

theorem ownNil_tup {t : Ty} {vs : List V} : ownNil t (.tup vs) = .tup vs := by cases t <;> rfl

def resOf (tmps : Array Value) : ResultVar → Sem Value
  | .tmp t => pure (tmps.getD t undef)
  | .cell a t => do loadVar t (← asAddr (tmps.getD a undef))

theorem results_eq (fn : Func) (tmps : Array Value) : results fn tmps = (do
    let vs ← fn.results.mapM (resOf tmps)
    pure (if h : vs.size = 1 then vs[0] else .tuple vs)) := rfl

theorem results_run (HT : TysOK P A.ty) {σ : St} (hc : Core w σ.bl G w0 F0) (hs : Slots (envOf w σ.bl G []) σ.sl a) : ∀ {rs : List ResultVar} {ts : List Ty} {vs : List V}, resultVs A σ ts rs = some vs → noTups vs = true →
    ∃ vals, (rs.mapM (resOf a.tmps)).run P w = .ok vals w ∧ Tup (envOf w σ.bl G []) vs vals []
  | [], ts, vs, h, _ => by
    simp only [resultVs, Option.some.injEq] at h
    subst h
    exact ⟨[], by simp, rfl, rfl⟩
  | rv :: rs, ts, vs, h, hn => by
    simp only [resultVs] at h
    split at h
    · rename_i v h1
      split at h
      · rename_i vs' h2
        simp only [Option.some.injEq] at h
        subst h
        have hn' : (∀ xs, v ≠ .tup xs) ∧ noTups vs' = true := by
          cases v <;> simp [noTups] at hn <;> exact ⟨(by intro xs hh; cases hh), hn⟩
        obtain ⟨vals, r1, r2⟩ := results_run HT hc hs h2 hn'.2
        have first : ∃ u, (resOf a.tmps rv).run P w = .ok u w ∧ One (envOf w σ.bl G []) v u [] := by
          cases rv with
          | tmp t =>
            simp only [resultV, Option.some.injEq] at h1
            subst h1
            refine ⟨a.tmps.getD t undef, by simp [resOf], ownNil_one (val_one_nt (fun xs hx => ?_) (hs t))⟩
            rw [hx, ownNil_tup] at hn'
            exact hn'.1 xs rfl
          | cell ad t =>
            simp only [resultV] at h1
            split at h1
            · rename_i x b0 hl
              simp only [Option.some.injEq] at h1
              subst h1
              obtain ⟨u, k1, k2⟩ := load_val HT hc (hs ad) hl (fun k hk => by cases hk)
              refine ⟨u, k1, ownNil_one (val_one_nt (fun xs hx => ?_) k2)⟩
              rw [hx, ownNil_tup] at hn'
              exact hn'.1 xs rfl
            · cases h1
        obtain ⟨u, f1, f2⟩ := first
        refine ⟨u :: vals, ?_, u, vals, [], [], rfl, rfl, f2, r2⟩
        rw [List.mapM_cons]
        simp only [Sem.run_bind, f1, Result.andThen_ok, r1, Sem.run_pure]
      · cases h
    · cases h

theorem inls_tup : ∀ (n : Nat) {vs : List V} {bl b' : BL} {G : GT} {X : List Nat} {vals : List Value} {ws : List V} {c : List Cond}, CoreX w bl G X w0 F0 → Tup (envOf w bl G X) vs vals [] → inls n bl vs = some (c, ws, b') → (∀ k ∈ c, k.ok) →
    Took w (envOf w bl G X) w0 F0 X b' (fun E F' => Tup E ws vals F')
  | 0, vs, bl, b', G, X, vals, ws, c, hc, hv, h, hk => by simp [inls] at h
  | n + 1, [], bl, b', G, X, vals, ws, c, hc, hv, h, hk => by
    simp only [inls, Option.some.injEq, Prod.mk.injEq] at h
    obtain ⟨rfl, rfl, rfl⟩ := h
    exact ⟨[], G, hc, hv, Goes.refl_ _ _⟩
  | n + 1, v :: vs, bl, b', G, X, vals, ws, c, hc, hv, h, hk => by
    obtain ⟨u, r, F1, F2, rfl, e2, ⟨cs, i1, i2⟩, i3⟩ := hv
    obtain ⟨rfl, rfl⟩ := List.append_eq_nil_iff.1 e2.symm
    simp only [inls] at h
    split at h
    · rename_i c1 w1 b1 h1
      split at h
      · rename_i c2 ws2 b2 h2
        simp only [Option.some.injEq, Prod.mk.injEq] at h
        obtain ⟨rfl, rfl, rfl⟩ := h
        obtain ⟨hk1, hk2⟩ := conds_cat hk
        obtain ⟨F', G', q1, q2, q3⟩ := (inl_ok n).1 (F := []) hc i1 h1 hk1
        have q2' : One (envOf w b1 G' (F' ++ X)) w1 u F' := by
          refine ⟨cs, q2, ?_⟩
          unfold asVal at i2 ⊢
          rw [inl_isA h1]
          exact i2
        obtain ⟨F2', G2, s1, s2, s3⟩ := inls_tup n (X := F' ++ X) q1 (Tup_goes q3 (fun b hb => by cases hb) i3) h2 hk2
        obtain ⟨t1, t2⟩ := s1.perm (show (F2' ++ (F' ++ X)).Perm ((F' ++ F2') ++ X) by
          rw [← List.append_assoc]
          exact List.Perm.append_right X List.perm_append_comm)
        obtain ⟨cs', j1, j2⟩ := q2'
        exact ⟨F' ++ F2', G2, t1, ⟨u, r, F', F2', rfl, rfl, ⟨cs', (s3.trans t2).inV (fun _ _ => id) (fun _ _ => rfl) j1, j2⟩, Tup_goes t2 (fun _ _ => rfl) s2⟩, (q3.trans s3).trans t2⟩
      · simp at h
    · simp at h

theorem noTups_cat : ∀ {xs ys : List V}, noTups (cat xs ys) = true ↔ noTups xs = true ∧ noTups ys = true
  | [], ys => by simp [cat, noTups]
  | x :: xs, ys => by
    simp only [cat]
    cases x <;> simp only [noTups, noTups_cat] <;> simp

theorem allOwns_append : ∀ {xs ys : List V}, allOwns (xs ++ ys) = true ↔ allOwns xs = true ∧ allOwns ys = true
  | [], ys => by simp [allOwns]
  | x :: xs, ys => by
    simp only [List.cons_append, allOwns, band_true, allOwns_append, and_assoc]

theorem tup_split {E : Env} : ∀ {us vs : List Value} {ws : List V} {F : List Nat}, Tup E ws (us ++ vs) F → ∃ w1 w2 F1 F2, ws = w1 ++ w2 ∧ F = F1 ++ F2 ∧ Tup E w1 us F1 ∧ Tup E w2 vs F2
  | [], vs, ws, F, h => ⟨[], ws, [], F, rfl, rfl, ⟨rfl, rfl⟩, h⟩
  | u :: us, vs, [], F, h => by simp [Tup] at h
  | u :: us, vs, x :: ws, F, ⟨v, r, F1, F2, e1, e2, h1, h2⟩ => by
    simp only [List.cons_append, List.cons.injEq] at e1
    obtain ⟨rfl, rfl⟩ := e1
    obtain ⟨w1, w2, G1, G2, k1, k2, k3, k4⟩ := tup_split h2
    subst k1; subst k2; subst e2
    exact ⟨x :: w1, w2, F1 ++ G1, G2, rfl, by simp, ⟨u, us, F1, G1, rfl, rfl, h1, k3⟩, k4⟩

theorem tup_append {E : Env} : ∀ {w1 : List V} {us vs : List Value} {w2 : List V} {F1 F2 : List Nat}, Tup E w1 us F1 → Tup E w2 vs F2 → Tup E (w1 ++ w2) (us ++ vs) (F1 ++ F2)
  | [], us, vs, w2, F1, F2, ⟨e1, e2⟩, h => by subst e1; subst e2; exact h
  | x :: w1, us, vs, w2, F1, F2, ⟨v, r, G1, G2, e1, e2, h1, h2⟩, h => by
    subst e1; subst e2
    exact ⟨v, r ++ vs, G1, G2 ++ F2, rfl, by simp, h1, tup_append h2 h⟩

theorem tup_len {E : Env} : ∀ {ws : List V} {vals : List Value} {F : List Nat}, Tup E ws vals F → vals.length = ws.length
  | [], vals, F, h => by rw [h.1]; rfl
  | x :: ws, vals, F, ⟨v, r, F1, F2, e1, e2, h1, h2⟩ => by subst e1; simp [tup_len h2]

theorem takeL_app : ∀ {vs w1 w2 : List V}, vs.length = w1.length → takeL vs (w1 ++ w2) = w1 ∧ dropL vs (w1 ++ w2) = w2
  | [], [], w2, _ => ⟨by simp [takeL], by simp [dropL]⟩
  | [], _ :: _, w2, h => by simp at h
  | _ :: _, [], w2, h => by simp at h
  | v :: vs, x :: w1, w2, h => by
    obtain ⟨h1, h2⟩ := takeL_app (w2 := w2) (show vs.length = w1.length by simpa using h)
    simp [takeL, dropL, h1, h2]

/-- the values of the arguments that may change -/
def ioVals (A : Ann) (f : FuncId) : Nat → List V → List Value → List Value
  | _, [], _ => []
  | _, _ :: _, [] => []
  | i, _ :: vs, u :: us => match isIo (A.mode f i) with
    | true => u :: ioVals A f (i + 1) vs us
    | false => ioVals A f (i + 1) vs us

theorem ioSl_tup {E : Env} {f : FuncId} (hs : Slots E sl a) : ∀ {args : List V} {i : Nat} {vals : List Value}, (∀ (j : Nat) (u : Value), vals[j]? = some u → isIo (A.mode f (i + j)) = true → a.tmps.getD (i + j) undef = u) → vals.length = args.length → noTups (ioSl A f sl i args) = true → Tup E (ioSl A f sl i args) (ioVals A f i args vals) []
  | [], i, vals, _, _, _ => by simp [ioSl, ioVals, Tup]
  | _ :: _, i, [], _, h, _ => by simp at h
  | x :: args, i, u :: vals, hp, hl, hn => by
    have hp' : ∀ (j : Nat) (u : Value), vals[j]? = some u → isIo (A.mode f (i + 1 + j)) = true → a.tmps.getD (i + 1 + j) undef = u := fun j u hj hio => by
      have := hp (j + 1) u (by simpa using hj) (by rw [show i + (j + 1) = i + 1 + j by omega]; exact hio)
      rwa [show i + (j + 1) = i + 1 + j by omega] at this
    have hl' : vals.length = args.length := by simpa using hl
    cases hm : A.mode f i with
    | io =>
      simp only [ioSl, hm] at hn ⊢
      have hn' : (∀ xs, slotL sl i ≠ .tup xs) ∧ noTups (ioSl A f sl (i + 1) args) = true := by
        cases hq : slotL sl i <;> rw [hq] at hn <;> simp [noTups] at hn <;> exact ⟨(by intro xs hh; cases hh), hn⟩
      have hu := hp 0 u (by simp) (by simp [hm, isIo])
      simp only [ioVals, hm, isIo]
      refine ⟨u, _, [], [], rfl, rfl, ?_, ioSl_tup hs hp' hl' hn'.2⟩
      have := hs i
      rw [Nat.add_zero] at hu
      rw [hu] at this
      exact val_one_nt hn'.1 this
    | lend =>
      simp only [ioSl, hm] at hn ⊢
      simp only [ioVals, hm, isIo]
      exact ioSl_tup hs hp' hl' hn
    | keep =>
      simp only [ioSl, hm] at hn ⊢
      simp only [ioVals, hm, isIo]
      exact ioSl_tup hs hp' hl' hn

/-- what is left of the arguments -/
theorem outs_of {E E' : Env} (hw : E'.w = E.w) {f : FuncId} : ∀ {args : List V} {i : Nat} {vals : List Value} {ws : List V} {F : List Nat}, vals.length = args.length → allOwns ws = true → Tup E ws (ioVals A f i args vals) F → Outs E' (fun j => isIo (A.mode f j)) i (outsV A f i args ws) vals F
  | [], i, [], ws, F, _, _, h => by
    match ws, h with
    | [], h => exact ⟨rfl, h.2⟩
    | _ :: _, ⟨v, r, F1, F2, e1, _⟩ => simp [ioVals] at e1
  | [], i, _ :: _, ws, F, h, _, _ => by simp at h
  | _ :: _, i, [], ws, F, h, _, _ => by simp at h
  | x :: args, i, u :: vals, ws, F, hl, ho, h => by
    have hl' : vals.length = args.length := by simpa using hl
    have other : isIo (A.mode f i) = false → (ioVals A f i (x :: args) (u :: vals) = ioVals A f (i + 1) args vals) → outsV A f i (x :: args) ws = .undef :: outsV A f (i + 1) args ws → Outs E' (fun j => isIo (A.mode f j)) i (outsV A f i (x :: args) ws) (u :: vals) F := by
      intro h1 h2 h3
      rw [h2] at h
      rw [h3]
      exact ⟨u, vals, [], F, rfl, rfl, fun hi => (by have hi' : isIo (A.mode f i) = true := hi; rw [h1] at hi'; cases hi'), fun _ => rfl, outs_of hw hl' ho h⟩
    cases hm : A.mode f i with
    | io =>
      simp only [ioVals, hm, isIo] at h
      match ws, h, ho with
      | [], h, _ => simp [Tup] at h
      | y :: ws, ⟨v, r, F1, F2, e1, e2, ⟨cs, h1, h1'⟩, h2⟩, ho =>
        simp only [List.cons.injEq] at e1
        obtain ⟨rfl, rfl⟩ := e1
        subst e2
        unfold allOwns at ho; rw [band_true] at ho
        simp only [outsV, hm]
        exact ⟨u, vals, F1, F2, rfl, rfl, fun _ => ⟨cs, own_env hw y ho.1 h1, h1'⟩, fun hi => (by have hi' : isIo (A.mode f i) = false := hi; rw [hm] at hi'; cases hi'), outs_of hw hl' ho.2 h2⟩
    | lend => exact other (by rw [hm]; rfl) (by simp [ioVals, hm, isIo]) (by simp [outsV, hm])
    | keep => exact other (by rw [hm]; rfl) (by simp [ioVals, hm, isIo]) (by simp [outsV, hm])

theorem dstBs_ok {f : FuncId} {Pn : Nat → Option Value} (hPn : ∀ t, isIo (A.mode f t) = false → Pn t = none) : ∀ {ops : List Oper}, dstBs A f ops = true → ∀ o ∈ ops, ∀ t, o.dst = some t → Pn t = none
  | [], _, o, ho, t, ht => by cases ho
  | o :: ops, h, o', ho, t, ht => by
    unfold dstBs at h
    split at h
    · rename_i h1
      rcases List.mem_cons.1 ho with rfl | ho
      · rw [ht] at h1
        simp only at h1
        refine hPn t ?_
        cases hm : A.mode f t with
        | io => rw [hm] at h1; simp at h1
        | lend => rfl
        | keep => rfl
      · exact dstBs_ok hPn h o' ho t ht
    · cases h

theorem dstB_ok {f : FuncId} {Pn : Nat → Option Value} (hPn : ∀ t, isIo (A.mode f t) = false → Pn t = none) : ∀ {c : Code}, dstB A f c = true → DstOK Pn c
  | .region _ ops _, h => dstBs_ok hPn h
  | .seq a b, h => by
    unfold dstB at h; rw [band_true] at h
    exact ⟨dstB_ok hPn h.1, dstB_ok hPn h.2⟩
  | .cond _ a b, h => by
    unfold dstB at h; rw [band_true] at h
    exact ⟨dstB_ok hPn h.1, dstB_ok hPn h.2⟩
  | .block _ b, h => by unfold dstB at h; unfold DstOK; exact dstB_ok hPn h
  | .loop b, h => by unfold dstB at h; unfold DstOK; exact dstB_ok hPn h
  | .skip, _ => by unfold DstOK; trivial
  | .exit _, _ => by unfold DstOK; trivial
  | .ret, _ => by unfold DstOK; trivial
  | .rangeFunc _ _ _ _, _ => by unfold DstOK; trivial
  | .scope _, _ => by unfold DstOK; trivial
  | .label _, _ => by unfold DstOK; trivial
  | .goto _, _ => by unfold DstOK; trivial
  | .refuse _, _ => by unfold DstOK; trivial

theorem dst_none {Pn : Nat → Option Value} (hPn : ∀ t, Pn t = none) : ∀ {c : Code}, DstOK Pn c
  | .region _ ops _ => fun _ _ _ _ => hPn _
  | .seq a b => ⟨dst_none hPn, dst_none hPn⟩
  | .cond _ a b => ⟨dst_none hPn, dst_none hPn⟩
  | .block _ b => by unfold DstOK; exact dst_none hPn
  | .loop b => by unfold DstOK; exact dst_none hPn
  | .skip => by unfold DstOK; trivial
  | .exit _ => by unfold DstOK; trivial
  | .ret => by unfold DstOK; trivial
  | .rangeFunc _ _ _ _ => by unfold DstOK; trivial
  | .scope _ => by unfold DstOK; trivial
  | .label _ => by unfold DstOK; trivial
  | .goto _ => by unfold DstOK; trivial
  | .refuse _ => by unfold DstOK; trivial

theorem anyIo_spec {f : FuncId} : ∀ {vs : List V} {i : Nat}, anyIo A f i vs = false → ∀ j, i ≤ j → j < i + vs.length → isIo (A.mode f j) = false
  | [], i, _, j, h1, h2 => by simp at h2; omega
  | v :: vs, i, h, j, h1, h2 => by
    simp only [anyIo] at h
    split at h
    · cases h
    · rename_i hm
      by_cases he : j = i
      · subst he
        cases hq : A.mode f j with
        | io => exact absurd hq hm
        | lend => rfl
        | keep => rfl
      · exact anyIo_spec h j (by omega) (by simp at h2; omega)

theorem oneOrTup_val {E E' : Env} (hw : E'.w = E.w) {ws : List V} {vals : List Value} {F : List Nat} (h : Tup E ws vals F) (ho : allOwns ws = true) :
    Val E' (oneOrTup ws) (if h : vals.toArray.size = 1 then vals.toArray[0] else .tuple vals.toArray) F := by
  have h' := owns_tup hw ho h
  match ws, h' with
  | [], ⟨e1, e2⟩ => subst e1; exact ⟨#[], by simp, rfl, e2⟩
  | [x], ⟨v, r, F1, F2, e1, e2, h1, ⟨e3, e4⟩⟩ =>
    subst e1; subst e3; subst e4; subst e2
    rw [List.append_nil]
    unfold allOwns at ho; rw [band_true] at ho
    have : Val E' x v F1 := by
      cases x <;> first | exact h1 | (simp [allOwn] at ho; done) | (obtain ⟨cs, h2, _⟩ := h1; unfold InV at h2; exact h2.elim)
    simpa [oneOrTup] using this
  | x :: y :: zs, h2 =>
    have hl : vals.length = (x :: y :: zs).length := by
      have : ∀ {ws : List V} {vals : List Value} {F : List Nat}, Tup E' ws vals F → vals.length = ws.length := by
        intro ws
        induction ws with
        | nil => intro vals F h; rw [h.1]; rfl
        | cons w ws ih => rintro vals F ⟨v, r, F1, F2, e1, e2, h1, h3⟩; subst e1; simp [ih h3]
      exact this h2
    simp only [List.length_cons] at hl
    rw [dif_neg (by simp; omega)]
    exact ⟨vals.toArray, rfl, h2⟩

/-- a function's contract, by evaluation -/
theorem runFn_ok (HT : TysOK P A.ty) (hm : P.follows .mixedOrders = true) {oc : OC (V × List V)} (hoc : OCok P A oc) {ol : OL (V × List V)} {C : Code → Prop} (hol : OLok P C ol) {f : FuncId} {fn : Func} (hf : P.funcs[f]? = some fn) (hname : (fn.name == "runtime.NumGoroutine") = false)
    {args : List V} {res : V} {outs : List V} (hC : ∀ b, fn.body = some b → ∀ l ∈ loopsOf b, C l) (h : runFn oc ol A f fn args (fun v os => some (v, os)) = some (res, outs)) : CallsOK P (fun i => isIo (A.mode f i)) f args res outs := by
  unfold runFn at h
  split at h
  · rename_i c hb
    split at h
    · rename_i hchk
      rw [band_true, band_true] at hchk
      obtain ⟨hnt, hns, hio⟩ := hchk
      have hs := noSites_eq hns
      rw [deepVs_eq, deepB_eq] at h
      refine ⟨⟨fn, hf, hname, by simp [hb]⟩, fun w vals F ht hnd hlt => ?_⟩
      have hargs : vals.length = args.length := by
        obtain ⟨_, _, _, _, k3, _⟩ := tup_get ht
        exact k3
      let Pn : Nat → Option Value := fun t => match isIo (A.mode f t) with
        | true => vals[t]?
        | false => none
      have hPn1 : ∀ t v, Pn t = some v → vals[t]? = some v := by
        intro t v hv
        simp only [Pn] at hv
        split at hv
        · exact hv
        · cases hv
      have hPn2 : ∀ t, isIo (A.mode f t) = false → Pn t = none := by
        intro t ht
        simp only [Pn, ht]
      have hD : DstOK Pn c := by
        rw [bor_true] at hio
        rcases hio with hio | hio
        · have hio' : anyIo A f 0 args = false := by
            cases hq : anyIo A f 0 args with
            | false => rfl
            | true => rw [hq] at hio; simp [bneg] at hio
          refine dst_none (fun t => ?_)
          by_cases htl : t < args.length
          · exact hPn2 t (anyIo_spec hio' t (Nat.zero_le _) (by simpa using htl))
          · have : vals[t]? = none := by rw [List.getElem?_eq_none_iff]; omega
            simp only [Pn]
            split
            · exact this
            · rfl
        · exact dstB_ok hPn2 hio
      have hrel := entry_rel (n := fn.ntmps) hPn1 ht hnd hlt hs
      refine calls_of_wp hf hb ?_
      have hact : ({ tmps := vals.toArray ++ Array.replicate (fn.ntmps - vals.toArray.size) undef, defers := [] } : Act) = { tmps := vals.toArray ++ Array.replicate (fn.ntmps - vals.length) undef, defers := [] } := by simp
      rw [hact]
      have fin : ∀ σ' a' w', finish A f fn args σ' (fun v os => some (v, os)) = some (res, outs) → Rel Pn w F σ' a' w' →
          a'.defers = [] ∧ ∃ v, (results fn a'.tmps).run P w' = .ok v w' ∧ (∃ v' Fr Fo, Ending.returned v = .returned v' ∧ Val (calleeEnv w' (Fr ++ Fo)) res v' Fr ∧ Outs (calleeEnv w' (Fr ++ Fo)) (fun i => isIo (A.mode f i)) 0 outs vals Fo ∧
            (Fr ++ Fo).Nodup ∧ (∀ b ∈ Fr ++ Fo, b < w'.heap.size ∧ (b ∈ F ∨ w.heap.size ≤ b)) ∧
            (∀ b, b < w.heap.size → b ∉ F → w'.heap[b]? = w.heap[b]?) ∧ w.heap.size ≤ w'.heap.size ∧ w'.os = w.os ∧ w'.tape = w.tape ∧ w'.output = w.output) := by
        intro σ' a' w' hfin hr
        obtain ⟨⟨G, hc, hsl⟩, hl, hd, hpin⟩ := hr
        refine ⟨hd, ?_⟩
        unfold finish at hfin
        split at hfin
        · rename_i vs hvs
          split at hfin
          · rename_i hnt
            rw [noTups_cat] at hnt
            split at hfin
            · rename_i cs ws b2 hin
              split at hfin
              · rename_i how
                obtain ⟨g1, g2⟩ := guards_some hfin
                rw [deepV_eq, deepVs_eq] at g2
                simp only [Option.some.injEq, Prod.mk.injEq] at g2
                obtain ⟨rfl, rfl⟩ := g2
                obtain ⟨rvals, r1, r2⟩ := results_run (a := a') HT hc hsl hvs hnt.1
                have r3 := ioSl_tup (A := A) (f := f) (i := 0) (vals := vals) hsl (fun j u hj hjo => hpin _ _ (by
                  rw [Nat.zero_add] at hjo ⊢
                  simp only [Pn, hjo]
                  exact hj)) hargs hnt.2
                have r4 := tup_append r2 r3
                rw [← cat_eq vs] at r4
                obtain ⟨F', G', q1, q2, q3⟩ := inls_tup 9 hc.x r4 hin g1
                rw [List.append_nil] at q1 q2
                obtain ⟨w1, w2, Fr, Fo, rfl, rfl, t1, t2⟩ := tup_split q2
                rw [allOwns_append] at how
                obtain ⟨e1, e2⟩ := takeL_app (vs := vs) (w1 := w1) (w2 := w2) (by rw [← tup_len t1, ← tup_len r2])
                rw [e1, e2]
                refine ⟨(if h : rvals.toArray.size = 1 then rvals.toArray[0] else .tuple rvals.toArray), ?_, _, Fr, Fo, rfl, ?_, ?_, ?_, ?_, ?_, ?_⟩
                · rw [results_eq, Array.mapM_eq_mapM_toList, map_eq_pure_bind]
                  simp only [Sem.run_bind, bind_assoc, r1, Result.andThen_ok, Sem.run_pure]
                · exact oneOrTup_val (E := envOf w' b2 G' (Fr ++ Fo)) (E' := calleeEnv w' (Fr ++ Fo)) rfl t1 how.1
                · exact outs_of (E := envOf w' b2 G' (Fr ++ Fo)) (E' := calleeEnv w' (Fr ++ Fo)) rfl hargs how.2 t2
                · exact q1.ok.xnd
                · intro k hk
                  exact ⟨q1.ok.xlt k hk, q1.own k (.inl hk)⟩
                · exact fun k h1 h2 => q1.frame k h1 h2
                · exact ⟨q1.size, q1.os, q1.tape, q1.output⟩
              · cases hfin
            · cases hfin
          · cases hfin
        · cases hfin
      refine runCode_wp HT hm hoc hol c (hC c hb) hD hrel h (fun e σ' a' w' h1 h2 => ?_)
      cases e with
      | normal => exact fin σ' a' w' h1 h2
      | ret => exact fin σ' a' w' h1 h2
      | exit i => cases h1
    · cases h
  · cases h

end
end Go.Rai
