/- Regions that draw their order. No condition. -/
import Derived.Test.YtjgcailejnokjaaDoorEvS16
namespace Go.Proofs.YtjgcailejnokjaaDoor.Ev
open Go Go.RowKit
set_option linter.unusedVariables false
set_option linter.unusedSimpArgs false
section
variable {E : Env} {w0 : World} {X : Nat → Prop} {st st' : St} {a : Act} {cx : Cx} {o : Oper} {av : AV} {R : Type} {r : R}
theorem Rel.congr (h : Rel E w0 X st a cx) (hg : ∀ t, get st' t = get st t) : Rel E w0 X st' a cx :=
  ⟨h.P, h.defers, h.kept, h.own, h.non, h.glob, h.nt, fun t => by rw [hg]; exact h.slots t⟩
theorem Rel.hide (h : Rel E w0 X st a cx) : ∀ (os : List Oper), Rel E w0 X (Ev.hide st os) a cx := by
  intro os
  induction os generalizing st with
  | nil => exact h
  | cons o os ih =>
    refine ih (st := Ev.putO st o.dst .u) ?_
    cases o.dst with
    | none => exact h
    | some d =>
      refine ⟨h.P, h.defers, h.kept, h.own, h.non, h.glob, h.nt, fun t => ?_⟩
      show AVRep cx t (get (Ev.put st d .u) t) _
      unfold Ev.put
      cases hb : (owner AV.u || owner (get st d)) with
      | false => rw [cond_false, get_cons]; split; trivial; exact h.slots t
      | true => rw [cond_true, get_cons, get_forget]; split; exact trivial; exact (h.slots t).forget d
theorem get_put_u (st : St) (d t : Nat) : get (Ev.put st d .u) t = .u ∨ (d ≠ t ∧ (get (Ev.put st d .u) t = get st t ∨ get (Ev.put st d .u) t = forgetA d (get st t))) := by
  unfold Ev.put
  cases hb : (owner AV.u || owner (get st d)) with
  | false =>
    rw [cond_false, get_cons]
    by_cases e : d = t
    · left; rw [if_pos e]
    · right; rw [if_neg e]; exact ⟨e, .inl rfl⟩
  | true =>
    rw [cond_true, get_cons, get_forget]
    by_cases e : d = t
    · left; rw [if_pos e]; rfl
    · right; rw [if_neg e]; exact ⟨e, .inr rfl⟩
theorem hide_u : ∀ {os : List Oper} {st : St} {t : Nat}, get st t = .u → get (Ev.hide st os) t = .u
  | [], _, _, h => h
  | o :: os, st, t, h => by
    refine hide_u (os := os) ?_
    cases o.dst with
    | none => exact h
    | some d =>
      rcases get_put_u st d t with e | ⟨_, e | e⟩
      · exact e
      · show get (Ev.put st d .u) t = .u; rw [e]; exact h
      · show get (Ev.put st d .u) t = .u; rw [e, h]; rfl
theorem hide_dst : ∀ {os : List Oper} {st : St} {o : Oper} {d : Nat}, o ∈ os → o.dst = some d → get (Ev.hide st os) d = .u
  | [], _, _, _, hm, _ => by cases hm
  | o' :: os, st, o, d, hm, hd => by
    rcases List.mem_cons.1 hm with rfl | hm
    · refine hide_u (os := os) ?_
      rw [hd]
      rcases get_put_u st d d with e | ⟨e, _⟩
      · exact e
      · exact absurd rfl e
    · exact hide_dst (os := os) hm hd
/-! ### The values that were reckoned -/
theorem setR_same : ∀ {rs : List (Nat × Nat × AV)} {j : Nat} {v : AV}, findR rs j = some v → setR rs j v = rs
  | [], _, _, h => by cases h
  | (i, d, a) :: rs, j, v, h => by
    simp only [findR] at h
    simp only [setR]
    cases hb : Nat.beq i j with
    | true => rw [hb] at h; obtain rfl := Option.some.inj h; rfl
    | false => rw [hb] at h; rw [cond_false, setR_same h]
/-- What the evaluation of one operation says. -/
def OpVal (E : Env) (bs : List (List Nat)) (st : St) (i : Nat) (rs : List (Nat × Nat × AV)) (o : Oper) (d : Nat) (av : AV) : Prop :=
  o.dst = some d ∧ owner av = false ∧
  ((o.guard = none ∧ ∃ av0, av = lentA av0 ∧ (evQ E (get (vis (isIn (bs.getD i [])) rs st)) o).run = some av0) ∨
   ∃ j want, o.guard = some (j, want) ∧ isIn (bs.getD i []) j = true ∧
     ((∃ b, findR rs j = some (lit1 b) ∧ ((b = want ∧ ∃ av0, av = lentA av0 ∧ (evQ E (get (vis (isIn (bs.getD i [])) rs st)) o).run = some av0) ∨ (b ≠ want ∧ av = .tup []))) ∨ (findR rs j = some (.tup []) ∧ av = .tup [])))
def Chain (E : Env) (bs : List (List Nat)) (st : St) : List Oper → Nat → List (Nat × Nat × AV) → List (Nat × Nat × AV) → Prop
  | [], _, rs, RS => RS = rs
  | o :: os, i, rs, RS => ∃ d av, OpVal E bs st i rs o d av ∧ Chain E bs st os (i + 1) ((i, d, av) :: rs) RS
theorem evDraw_chain {bs : List (List Nat)} {st : St} {k : List (Nat × Nat × AV) → Option R} : ∀ {os : List Oper} {i : Nat} {rs : List (Nat × Nat × AV)}, evDraw E bs st os i rs k = some r → ∃ RS, Chain E bs st os i rs RS ∧ k RS = some r
  | [], i, rs, h => ⟨rs, rfl, h⟩
  | o :: os, i, rs, h => by
    unfold evDraw at h
    dsimp only at h
    split at h
    · cases h
    · rename_i d hd
      have doIt : ((evQ E (get (vis (isIn (bs.getD i [])) rs st)) o).k fun av => bif owner (lentA av) then none else evDraw E bs st os (i + 1) ((i, d, lentA av) :: rs) k) = some r → ∃ av, (∃ av0, av = lentA av0 ∧ (evQ E (get (vis (isIn (bs.getD i [])) rs st)) o).run = some av0) ∧ owner av = false ∧ ∃ RS, Chain E bs st os (i + 1) ((i, d, av) :: rs) RS ∧ k RS = some r := by
        intro hh
        obtain ⟨av, h1, h2⟩ := k_run hh
        cases ho : owner (lentA av) with
        | true => rw [ho] at h2; cases h2
        | false => rw [ho] at h2; exact ⟨lentA av, ⟨av, rfl, h1⟩, ho, evDraw_chain h2⟩
      cases hg : o.guard with
      | none =>
        rw [hg] at h
        obtain ⟨av, h1, h2, RS, h3, h4⟩ := doIt h
        exact ⟨RS, ⟨d, av, ⟨hd, h2, .inl ⟨hg, h1⟩⟩, h3⟩, h4⟩
      | some jw =>
        obtain ⟨j, want⟩ := jw
        rw [hg] at h
        dsimp only at h
        cases hin : isIn (bs.getD i []) j with
        | false => rw [hin] at h; cases h
        | true =>
          rw [hin] at h
          simp only [Bool.not_true, cond_false] at h
          have skip : ∀ {rs'}, evDraw E bs st os (i + 1) ((i, d, .tup []) :: rs') k = some r → rs' = rs → ∃ RS, Chain E bs st os (i + 1) ((i, d, .tup []) :: rs) RS ∧ k RS = some r := by
            intro rs' hh e; subst e; exact evDraw_chain hh
          split at h
          · rename_i b hf
            have hs : setR rs j (lit1 b) = rs := setR_same hf
            cases b with
            | true =>
              rw [cond_true, hs] at h
              cases want with
              | true =>
                obtain ⟨av, h1, h2, RS, h3, h4⟩ := doIt h
                exact ⟨RS, ⟨d, av, ⟨hd, h2, .inr ⟨j, true, hg, hin, .inl ⟨true, hf, .inl ⟨rfl, h1⟩⟩⟩⟩, h3⟩, h4⟩
              | false =>
                obtain ⟨RS, h3, h4⟩ := skip h rfl
                exact ⟨RS, ⟨d, _, ⟨hd, rfl, .inr ⟨j, false, hg, hin, .inl ⟨true, hf, .inr ⟨by decide, rfl⟩⟩⟩⟩, h3⟩, h4⟩
            | false =>
              rw [cond_false, hs] at h
              cases want with
              | true =>
                obtain ⟨RS, h3, h4⟩ := skip h rfl
                exact ⟨RS, ⟨d, _, ⟨hd, rfl, .inr ⟨j, true, hg, hin, .inl ⟨false, hf, .inr ⟨by decide, rfl⟩⟩⟩⟩, h3⟩, h4⟩
              | false =>
                obtain ⟨av, h1, h2, RS, h3, h4⟩ := doIt h
                exact ⟨RS, ⟨d, av, ⟨hd, h2, .inr ⟨j, false, hg, hin, .inl ⟨false, hf, .inl ⟨rfl, h1⟩⟩⟩⟩, h3⟩, h4⟩
          · rename_i hf
            obtain ⟨RS, h3, h4⟩ := skip h rfl
            exact ⟨RS, ⟨d, _, ⟨hd, rfl, .inr ⟨j, want, hg, hin, .inr ⟨hf, rfl⟩⟩⟩, h3⟩, h4⟩
          · cases h
theorem chain_at {bs : List (List Nat)} {st : St} : ∀ {os : List Oper} {i : Nat} {rs RS : List (Nat × Nat × AV)}, Chain E bs st os i rs RS → (∀ e ∈ rs, e.1 < i) →
    (∃ l, RS = l ++ rs ∧ (∀ e ∈ l, i ≤ e.1)) ∧ ∀ (n : Nat) (o : Oper), os[n]? = some o → ∃ d av rsn l, RS = l ++ (i + n, d, av) :: rsn ∧ OpVal E bs st (i + n) rsn o d av ∧ (∀ e ∈ l, i + n < e.1) ∧ ∀ e ∈ rsn, e.1 < i + n
  | [], i, rs, RS, h, _ => ⟨⟨[], h, fun e he => by cases he⟩, fun n o hn => by simp at hn⟩
  | o :: os, i, rs, RS, h, hrs => by
    obtain ⟨d, av, hv, hc⟩ := h
    obtain ⟨⟨l, hl, hl1⟩, hrest⟩ := chain_at hc (fun e he => by
      rcases List.mem_cons.1 he with rfl | he
      · exact Nat.lt_succ_self _
      · exact Nat.lt_succ_of_lt (hrs e he))
    refine ⟨⟨l ++ [(i, d, av)], by rw [hl]; simp, fun e he => ?_⟩, fun n o' hn => ?_⟩
    · rcases List.mem_append.1 he with he | he
      · exact Nat.le_of_succ_le (hl1 e he)
      · rw [List.mem_singleton.1 he]; exact Nat.le_refl _
    · cases n with
      | zero =>
        obtain rfl := Option.some.inj hn
        exact ⟨d, av, rs, l, hl, hv, fun e he => hl1 e he, hrs⟩
      | succ n =>
        obtain ⟨d', av', rsn, l', h1, h2, h3, h4⟩ := hrest n o' (by simpa using hn)
        exact ⟨d', av', rsn, l', by rw [h1, show i + 1 + n = i + (n + 1) by omega], by rw [show i + (n + 1) = i + 1 + n by omega]; exact h2, fun e he => by have := h3 e he; omega, fun e he => by have := h4 e he; omega⟩
theorem get_vis_not (p : Nat → Bool) (t : Nat) : ∀ {RS : List (Nat × Nat × AV)} {st : St}, (∀ e ∈ RS, p e.1 = true → e.2.1 ≠ t) → get (vis p RS st) t = get st t
  | [], _, _ => rfl
  | (i, d, a) :: RS, st, h => by
    have ih := get_vis_not p t (RS := RS) (st := st) fun e he => h e (List.mem_cons_of_mem _ he)
    simp only [vis]
    cases hp : p i with
    | false => exact ih
    | true =>
      rw [cond_true, get_cons, if_neg (h (i, d, a) (List.mem_cons_self ..) hp)]
      exact ih
theorem get_vis_mem (p : Nat → Bool) {j d : Nat} {v : AV} (hp : p j = true) : ∀ {RS : List (Nat × Nat × AV)} {st : St}, (j, d, v) ∈ RS → (∀ e ∈ RS, e.2.1 = d → e = (j, d, v)) → get (vis p RS st) d = v
  | [], _, hm, _ => by cases hm
  | (i, d', a) :: RS, st, hm, hu => by
    simp only [vis]
    by_cases hd : d' = d
    · have := hu (i, d', a) (List.mem_cons_self ..) hd
      obtain ⟨rfl, rfl, rfl⟩ : i = j ∧ d' = d ∧ a = v := by simpa using this
      rw [hp, cond_true, get_cons, if_pos rfl]
    · have hm' : (j, d, v) ∈ RS := by
        rcases List.mem_cons.1 hm with e | hm
        · exact absurd (by simpa using (congrArg (fun x : Nat × Nat × AV => x.2.1) e).symm) hd
        · exact hm
      have ih := get_vis_mem p hp (st := st) hm' fun e he => hu e (List.mem_cons_of_mem _ he)
      cases hpi : p i with
      | false => exact ih
      | true => rw [cond_true, get_cons, if_neg hd]; exact ih
theorem vis_all : ∀ (RS : List (Nat × Nat × AV)) (st : St) (p : Nat → Bool), (∀ e ∈ RS, p e.1 = true) → vis p RS st = allRs RS st
  | [], _, _, _ => rfl
  | (i, d, a) :: RS, st, p, h => by
    simp only [vis, allRs, h (i, d, a) (List.mem_cons_self ..), cond_true, vis_all RS st p fun e he => h e (List.mem_cons_of_mem _ he)]
theorem vis_drop (p : Nat → Bool) : ∀ (l RS : List (Nat × Nat × AV)) (st : St), (∀ e ∈ l, p e.1 = false) → vis p (l ++ RS) st = vis p RS st
  | [], _, _, _ => rfl
  | (i, d, a) :: l, RS, st, h => by
    simp only [List.cons_append, vis, h (i, d, a) (List.mem_cons_self ..), cond_false]
    exact vis_drop p l RS st fun e he => h e (List.mem_cons_of_mem _ he)
theorem find_mem : ∀ {RS : List (Nat × Nat × AV)} {j : Nat} {v : AV}, findR RS j = some v → ∃ d, (j, d, v) ∈ RS
  | [], _, _, h => by cases h
  | (i, d, a) :: RS, j, v, h => by
    simp only [findR] at h
    cases hb : Nat.beq i j with
    | true =>
      rw [hb] at h
      obtain rfl := Option.some.inj h
      obtain rfl := Nat.eq_of_beq_eq_true hb
      exact ⟨d, List.mem_cons_self ..⟩
    | false =>
      rw [hb] at h
      obtain ⟨d', hd'⟩ := find_mem h
      exact ⟨d', List.mem_cons_of_mem _ hd'⟩
end
end Go.Proofs.YtjgcailejnokjaaDoor.Ev
