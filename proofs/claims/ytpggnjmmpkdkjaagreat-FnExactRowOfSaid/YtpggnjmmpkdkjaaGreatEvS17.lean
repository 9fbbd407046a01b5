/- Regions that draw their order. No condition. -/
import Derived.Test.YtpggnjmmpkdkjaaGreatEvS16
namespace Go.Proofs.YtpggnjmmpkdkjaaGreat.Ev
open Go Go.RowKit
set_option linter.unusedVariables false
set_option linter.unusedSimpArgs false
section
variable {E : Env} {w0 : World} {X : Nat → Prop} {st st' : St} {a : Act} {cx : Cx} {o : Oper} {av : AV} {R : Type} {r : R}
theorem Rel.congr (h : Rel E w0 X st a cx) (hg : ∀ t, get st' t = get st t) : Rel E w0 X st' a cx :=
  ⟨h.P, h.defers, h.kept, h.own, h.non, h.glob, h.nt, fun t => by rw [hg]; exact h.slots t⟩
theorem Rel.hide (h : Rel E w0 X st a cx) : ∀ (os : List Oper), Rel E w0 X (Ev.hide st os) a cx := by
  intro os
  induction os generalizing st with
  | nil => exact h
  | cons o os ih =>
    show Rel E w0 X (Ev.hide (match o.dst with | some d => (d, .u) :: Ev.forget d st | none => st) os) a cx
    refine ih ?_
    cases o.dst with
    | none => exact h
    | some d =>
      refine ⟨h.P, h.defers, h.kept, h.own, h.non, h.glob, h.nt, fun t => ?_⟩
      show AVRep cx t (get ((d, .u) :: Ev.forget d st) t) _
      rw [get_cons, get_forget]; split; exact trivial; exact (h.slots t).forget d
theorem hide_cons (o : Oper) (os : List Oper) (st : St) : Ev.hide st (o :: os) = Ev.hide (match o.dst with | some d => (d, .u) :: Ev.forget d st | none => st) os := rfl
theorem hide_u : ∀ {os : List Oper} {st : St} {t : Nat}, get st t = .u → get (Ev.hide st os) t = .u
  | [], _, _, h => h
  | o :: os, st, t, h => by
    rw [hide_cons]
    refine hide_u (os := os) ?_
    cases o.dst with
    | none => exact h
    | some d =>
      show get ((d, .u) :: Ev.forget d st) t = .u
      rw [get_cons, get_forget, h]; split <;> rfl
theorem hide_dst : ∀ {os : List Oper} {st : St} {o : Oper} {d : Nat}, o ∈ os → o.dst = some d → get (Ev.hide st os) d = .u
  | [], _, _, _, hm, _ => by cases hm
  | o' :: os, st, o, d, hm, hd => by
    rw [hide_cons]
    rcases List.mem_cons.1 hm with rfl | hm
    · refine hide_u (os := os) ?_
      rw [hd]
      show get ((d, .u) :: Ev.forget d st) d = .u
      rw [get_cons, if_pos rfl]
    · exact hide_dst (os := os) hm hd
theorem noRefC_forget {d : Nat} {c : Cell} (h : noRefC d c = true) : forgetC d c = c := by
  cases c with
  | ref d' j =>
    simp only [noRefC, Bool.not_eq_true'] at h
    simp only [forgetC, h, cond_false]
  | _ => rfl
theorem noRef_forget {d : Nat} (h : noRefA d av = true) : forgetA d av = av := by
  have hm : ∀ cs : List Cell, cs.all (noRefC d) = true → cs.map (forgetC d) = cs := by
    intro cs hc
    rw [List.all_eq_true] at hc
    exact (List.map_congr_left fun c hcc => noRefC_forget (hc c hcc)).trans (List.map_id cs)
  cases av with
  | p a cs => simp only [noRefA] at h; simp only [forgetA, hm cs h]
  | tup ps =>
    simp only [noRefA, List.all_eq_true] at h
    simp only [forgetA]
    congr 1
    refine (List.map_congr_left (g := id) fun x hx => ?_).trans (List.map_id ps)
    have := hm x.2 (List.all_eq_true.2 (h x hx))
    rw [this]; rfl
  | box o cs => simp only [noRefA] at h; simp only [forgetA, hm cs h]
  | ro cs o => simp only [noRefA] at h; simp only [forgetA, hm cs h]
  | pat d' o => simp only [noRefA, Bool.not_eq_true'] at h; simp only [forgetA, h, cond_false]
  | pel d' j i o => simp only [noRefA, Bool.not_eq_true'] at h; simp only [forgetA, h, cond_false]
  | _ => rfl
theorem forgetC_noRef (d : Nat) (c : Cell) : noRefC d (forgetC d c) = true := by
  cases c with
  | ref d' j => simp only [forgetC]; cases h : Nat.beq d d' <;> simp [noRefC, h]
  | _ => rfl
theorem forgetC_keeps {d : Nat} (d' : Nat) {c : Cell} (h : noRefC d c = true) : noRefC d (forgetC d' c) = true := by
  cases c with
  | ref d1 j => simp only [forgetC]; cases Nat.beq d' d1; exact h; rfl
  | _ => exact h
theorem mapC_all {f : Cell → Cell} {d : Nat} {cs : List Cell} (h : ∀ c ∈ cs, noRefC d (f c) = true) : (cs.map f).all (noRefC d) = true := by
  rw [List.all_map, List.all_eq_true]; exact h
theorem forget_noRef (d : Nat) (av : AV) : noRefA d (forgetA d av) = true := by
  cases av with
  | p a cs => exact mapC_all fun c _ => forgetC_noRef d c
  | box a cs => exact mapC_all fun c _ => forgetC_noRef d c
  | ro cs o => exact mapC_all fun c _ => forgetC_noRef d c
  | tup ps =>
    simp only [forgetA, noRefA, List.all_map, List.all_eq_true]
    intro x hx
    exact mapC_all fun c _ => forgetC_noRef d c
  | pat d' o => simp only [forgetA]; cases h : Nat.beq d d' <;> simp [noRefA, h]
  | pel d' j i o => simp only [forgetA]; cases h : Nat.beq d d' <;> simp [noRefA, h]
  | _ => rfl
theorem forget_keeps {d : Nat} (d' : Nat) (h : noRefA d av = true) : noRefA d (forgetA d' av) = true := by
  cases av with
  | p a cs => simp only [noRefA, List.all_eq_true] at h; exact mapC_all fun c hc => forgetC_keeps d' (h c hc)
  | box a cs => simp only [noRefA, List.all_eq_true] at h; exact mapC_all fun c hc => forgetC_keeps d' (h c hc)
  | ro cs o => simp only [noRefA, List.all_eq_true] at h; exact mapC_all fun c hc => forgetC_keeps d' (h c hc)
  | tup ps =>
    simp only [noRefA, List.all_eq_true] at h
    simp only [forgetA, noRefA, List.all_map, List.all_eq_true]
    intro x hx
    exact mapC_all fun c hc => forgetC_keeps d' (h x hx c hc)
  | pat d1 o => simp only [forgetA]; cases Nat.beq d' d1; exact h; rfl
  | pel d1 j i o => simp only [forgetA]; cases Nat.beq d' d1; exact h; rfl
  | _ => exact h
theorem hide_keeps {d : Nat} : ∀ {os : List Oper} {st : St}, (∀ t, noRefA d (get st t) = true) → ∀ t, noRefA d (get (Ev.hide st os) t) = true
  | [], _, h => h
  | o :: os, st, h => by
    rw [hide_cons]
    refine hide_keeps (os := os) fun t => ?_
    cases o.dst with
    | none => exact h t
    | some d' =>
      show noRefA d (get ((d', .u) :: Ev.forget d' st) t) = true
      rw [get_cons, get_forget]; split; rfl; exact forget_keeps d' (h t)
theorem hide_noRef : ∀ {os : List Oper} {st : St} {o : Oper} {d : Nat}, o ∈ os → o.dst = some d → ∀ t, noRefA d (get (Ev.hide st os) t) = true
  | [], _, _, _, hm, _ => by cases hm
  | o' :: os, st, o, d, hm, hd => by
    rw [hide_cons]
    rcases List.mem_cons.1 hm with rfl | hm
    · refine hide_keeps (os := os) fun t => ?_
      rw [hd]
      show noRefA d (get ((d, .u) :: Ev.forget d st) t) = true
      rw [get_cons, get_forget]; split; rfl; exact forget_noRef d _
    · exact hide_noRef (os := os) hm hd
theorem hideT_cons (o : Oper) (os : List Oper) (st : St) : Ev.hideT st (o :: os) = match o.dst, vdst o with | none, some d => (d, .u) :: Ev.hideT st os | _, _ => Ev.hideT st os := rfl
theorem hideT_or (t : Nat) : ∀ (os : List Oper) (st : St), get (Ev.hideT st os) t = .u ∨ get (Ev.hideT st os) t = get st t
  | [], st => .inr rfl
  | o :: os, st => by
    rw [hideT_cons]
    have ih := hideT_or t os st
    split
    · rw [get_cons]; split
      · exact .inl rfl
      · exact ih
    · exact ih
theorem hideT_vdst : ∀ {os : List Oper} {st : St} {o : Oper} {d : Nat}, o ∈ os → o.dst = none → vdst o = some d → get (Ev.hideT st os) d = .u
  | [], _, _, _, hm, _, _ => by cases hm
  | o' :: os, st, o, d, hm, hd, hv => by
    rw [hideT_cons]
    rcases List.mem_cons.1 hm with rfl | hm
    · rw [hd, hv]
      show get ((d, .u) :: Ev.hideT st os) d = .u
      rw [get_cons, if_pos rfl]
    · have ih := hideT_vdst (st := st) hm hd hv
      split
      · rw [get_cons]; split
        · rfl
        · exact ih
      · exact ih
/-! ### The values that were reckoned -/
theorem setR_same : ∀ {rs : List (Nat × Nat × AV)} {j : Nat} {v : AV}, findR rs j = some v → setR rs j v = rs
  | [], _, _, h => by cases h
  | (i, d, a) :: rs, j, v, h => by
    simp only [findR] at h
    simp only [setR]
    cases hb : Nat.beq i j with
    | true => rw [hb] at h; obtain rfl := Option.some.inj h; rfl
    | false => rw [hb] at h; rw [cond_false, setR_same h]
/-- What the evaluation of one operation says. -/
def OpVal (E : Env) (bs : List (List Nat)) (st0 st : St) (i : Nat) (rs : List (Nat × Nat × AV)) (o : Oper) (d : Nat) (av : AV) : Prop :=
  (o.dst = some d ∧ (owner av = true → isBoxA av = true) ∧
  ((o.guard = none ∧ ∃ av0, av = lentA av0 ∧ (evQ E (get (vis (isIn (bs.getD i [])) rs st)) o).run = some av0) ∨
   ∃ j want, o.guard = some (j, want) ∧ isIn (bs.getD i []) j = true ∧
     ((∃ b, findR rs j = some (lit1 b) ∧ ((b = want ∧ ∃ av0, av = lentA av0 ∧ (evQ E (get (vis (isIn (bs.getD i [])) rs st)) o).run = some av0) ∨ (b ≠ want ∧ av = .tup []))) ∨ (findR rs j = some (.tup []) ∧ av = .tup [])))) ∨
  (o.dst = none ∧ drawStore E st0 (get (vis (isIn (bs.getD i [])) rs st)) o = some (d, av))
theorem OpVal.vdst {bs : List (List Nat)} {st0 : St} {i : Nat} {rs : List (Nat × Nat × AV)} {d : Nat} (h : OpVal E bs st0 st i rs o d av) : Ev.vdst o = some d := by
  rcases h with ⟨h, _⟩ | ⟨h, hs⟩
  · unfold Ev.vdst; rw [h]
  · unfold Ev.vdst
    rw [h]
    unfold drawStore at hs
    split at hs
    · rename_i t d' x hg ho
      split at hs
      · dsimp only at hs
        generalize (Nat.beq _ _ && _ && _ && _) = q at hs
        cases q with
        | false => cases hs
        | true =>
          obtain ⟨rfl, _⟩ := Prod.mk.inj (Option.some.inj hs)
          rw [ho]
      · cases hs
    · cases hs
def Chain (E : Env) (bs : List (List Nat)) (st0 st : St) : List Oper → Nat → List (Nat × Nat × AV) → List (Nat × Nat × AV) → Prop
  | [], _, rs, RS => RS = rs
  | o :: os, i, rs, RS => ∃ d av, OpVal E bs st0 st i rs o d av ∧ Chain E bs st0 st os (i + 1) ((i, d, av) :: rs) RS
theorem evDraw_chain {bs : List (List Nat)} {st0 st : St} {k : List (Nat × Nat × AV) → Option R} : ∀ {os : List Oper} {i : Nat} {rs : List (Nat × Nat × AV)}, evDraw E bs st0 st os i rs k = some r → ∃ RS, Chain E bs st0 st os i rs RS ∧ k RS = some r
  | [], i, rs, h => ⟨rs, rfl, h⟩
  | o :: os, i, rs, h => by
    unfold evDraw at h
    dsimp only at h
    split at h
    · rename_i hd
      split at h
      · rename_i d av hs
        obtain ⟨RS, h3, h4⟩ := evDraw_chain h
        exact ⟨RS, ⟨d, av, .inr ⟨hd, hs⟩, h3⟩, h4⟩
      · cases h
    · rename_i d hd
      have doIt : ((evQ E (get (vis (isIn (bs.getD i [])) rs st)) o).k fun av => bif owner (lentA av) && !isBoxA (lentA av) then none else evDraw E bs st0 st os (i + 1) ((i, d, lentA av) :: rs) k) = some r → ∃ av, (∃ av0, av = lentA av0 ∧ (evQ E (get (vis (isIn (bs.getD i [])) rs st)) o).run = some av0) ∧ (owner av = true → isBoxA av = true) ∧ ∃ RS, Chain E bs st0 st os (i + 1) ((i, d, av) :: rs) RS ∧ k RS = some r := by
        intro hh
        obtain ⟨av, h1, h2⟩ := k_run hh
        cases ho : (owner (lentA av) && !isBoxA (lentA av)) with
        | true => rw [ho] at h2; cases h2
        | false =>
          rw [ho] at h2
          refine ⟨lentA av, ⟨av, rfl, h1⟩, fun h3 => ?_, evDraw_chain h2⟩
          rw [h3, Bool.true_and, Bool.not_eq_false'] at ho
          exact ho
      cases hg : o.guard with
      | none =>
        rw [hg] at h
        obtain ⟨av, h1, h2, RS, h3, h4⟩ := doIt h
        exact ⟨RS, ⟨d, av, .inl ⟨hd, h2, .inl ⟨hg, h1⟩⟩, h3⟩, h4⟩
      | some jw =>
        obtain ⟨j, want⟩ := jw
        rw [hg] at h
        dsimp only at h
        cases hin : isIn (bs.getD i []) j with
        | false => rw [hin] at h; cases h
        | true =>
          rw [hin] at h
          simp only [Bool.not_true, cond_false] at h
          have skip : ∀ {rs'}, evDraw E bs st0 st os (i + 1) ((i, d, .tup []) :: rs') k = some r → rs' = rs → ∃ RS, Chain E bs st0 st os (i + 1) ((i, d, .tup []) :: rs) RS ∧ k RS = some r := by
            intro rs' hh e; subst e; exact evDraw_chain hh
          have no : owner (.tup []) = true → isBoxA (.tup []) = true := fun h => by cases h
          split at h
          · rename_i b hf
            have hs : setR rs j (lit1 b) = rs := setR_same hf
            cases b with
            | true =>
              rw [cond_true, hs] at h
              cases want with
              | true =>
                obtain ⟨av, h1, h2, RS, h3, h4⟩ := doIt h
                exact ⟨RS, ⟨d, av, .inl ⟨hd, h2, .inr ⟨j, true, hg, hin, .inl ⟨true, hf, .inl ⟨rfl, h1⟩⟩⟩⟩, h3⟩, h4⟩
              | false =>
                obtain ⟨RS, h3, h4⟩ := skip h rfl
                exact ⟨RS, ⟨d, _, .inl ⟨hd, no, .inr ⟨j, false, hg, hin, .inl ⟨true, hf, .inr ⟨by decide, rfl⟩⟩⟩⟩, h3⟩, h4⟩
            | false =>
              rw [cond_false, hs] at h
              cases want with
              | true =>
                obtain ⟨RS, h3, h4⟩ := skip h rfl
                exact ⟨RS, ⟨d, _, .inl ⟨hd, no, .inr ⟨j, true, hg, hin, .inl ⟨false, hf, .inr ⟨by decide, rfl⟩⟩⟩⟩, h3⟩, h4⟩
              | false =>
                obtain ⟨av, h1, h2, RS, h3, h4⟩ := doIt h
                exact ⟨RS, ⟨d, av, .inl ⟨hd, h2, .inr ⟨j, false, hg, hin, .inl ⟨false, hf, .inl ⟨rfl, h1⟩⟩⟩⟩, h3⟩, h4⟩
          · rename_i hf
            obtain ⟨RS, h3, h4⟩ := skip h rfl
            exact ⟨RS, ⟨d, _, .inl ⟨hd, no, .inr ⟨j, want, hg, hin, .inr ⟨hf, rfl⟩⟩⟩, h3⟩, h4⟩
          · cases h
theorem chain_at {bs : List (List Nat)} {st0 st : St} : ∀ {os : List Oper} {i : Nat} {rs RS : List (Nat × Nat × AV)}, Chain E bs st0 st os i rs RS → (∀ e ∈ rs, e.1 < i) →
    (∃ l, RS = l ++ rs ∧ (∀ e ∈ l, i ≤ e.1)) ∧ ∀ (n : Nat) (o : Oper), os[n]? = some o → ∃ d av rsn l, RS = l ++ (i + n, d, av) :: rsn ∧ OpVal E bs st0 st (i + n) rsn o d av ∧ (∀ e ∈ l, i + n < e.1) ∧ ∀ e ∈ rsn, e.1 < i + n
  | [], i, rs, RS, h, _ => ⟨⟨[], h, fun e he => by cases he⟩, fun n o hn => by simp at hn⟩
  | o :: os, i, rs, RS, h, hrs => by
    obtain ⟨d, av, hv, hc⟩ := h
    obtain ⟨⟨l, hl, hl1⟩, hrest⟩ := chain_at hc (fun e he => by
      rcases List.mem_cons.1 he with rfl | he
      · exact Nat.lt_succ_self _
      · exact Nat.lt_succ_of_lt (hrs e he))
    refine ⟨⟨l ++ [(i, d, av)], by rw [hl]; simp, fun e he => ?_⟩, fun n o' hn => ?_⟩
    · rcases List.mem_append.1 he with he | he
      · exact Nat.le_of_succ_le (hl1 e he)
      · rw [List.mem_singleton.1 he]; exact Nat.le_refl _
    · cases n with
      | zero =>
        obtain rfl := Option.some.inj hn
        exact ⟨d, av, rs, l, hl, hv, fun e he => hl1 e he, hrs⟩
      | succ n =>
        obtain ⟨d', av', rsn, l', h1, h2, h3, h4⟩ := hrest n o' (by simpa using hn)
        exact ⟨d', av', rsn, l', by rw [h1, show i + 1 + n = i + (n + 1) by omega], by rw [show i + (n + 1) = i + 1 + n by omega]; exact h2, fun e he => by have := h3 e he; omega, fun e he => by have := h4 e he; omega⟩
theorem get_vis_not (p : Nat → Bool) (t : Nat) : ∀ {RS : List (Nat × Nat × AV)} {st : St}, (∀ e ∈ RS, p e.1 = true → e.2.1 ≠ t) → get (vis p RS st) t = get st t
  | [], _, _ => rfl
  | (i, d, a) :: RS, st, h => by
    have ih := get_vis_not p t (RS := RS) (st := st) fun e he => h e (List.mem_cons_of_mem _ he)
    simp only [vis]
    cases hp : p i with
    | false => exact ih
    | true =>
      rw [cond_true, get_cons, if_neg (h (i, d, a) (List.mem_cons_self ..) hp)]
      exact ih
theorem get_vis_mem (p : Nat → Bool) {j d : Nat} {v : AV} (hp : p j = true) : ∀ {RS : List (Nat × Nat × AV)} {st : St}, (j, d, v) ∈ RS → (∀ e ∈ RS, e.2.1 = d → e = (j, d, v)) → get (vis p RS st) d = v
  | [], _, hm, _ => by cases hm
  | (i, d', a) :: RS, st, hm, hu => by
    simp only [vis]
    by_cases hd : d' = d
    · have := hu (i, d', a) (List.mem_cons_self ..) hd
      obtain ⟨rfl, rfl, rfl⟩ : i = j ∧ d' = d ∧ a = v := by simpa using this
      rw [hp, cond_true, get_cons, if_pos rfl]
    · have hm' : (j, d, v) ∈ RS := by
        rcases List.mem_cons.1 hm with e | hm
        · exact absurd (by simpa using (congrArg (fun x : Nat × Nat × AV => x.2.1) e).symm) hd
        · exact hm
      have ih := get_vis_mem p hp (st := st) hm' fun e he => hu e (List.mem_cons_of_mem _ he)
      cases hpi : p i with
      | false => exact ih
      | true => rw [cond_true, get_cons, if_neg hd]; exact ih
theorem vis_all : ∀ (RS : List (Nat × Nat × AV)) (st : St) (p : Nat → Bool), (∀ e ∈ RS, p e.1 = true) → vis p RS st = allRs RS st
  | [], _, _, _ => rfl
  | (i, d, a) :: RS, st, p, h => by
    simp only [vis, allRs, h (i, d, a) (List.mem_cons_self ..), cond_true, vis_all RS st p fun e he => h e (List.mem_cons_of_mem _ he)]
theorem vis_drop (p : Nat → Bool) : ∀ (l RS : List (Nat × Nat × AV)) (st : St), (∀ e ∈ l, p e.1 = false) → vis p (l ++ RS) st = vis p RS st
  | [], _, _, _ => rfl
  | (i, d, a) :: l, RS, st, h => by
    simp only [List.cons_append, vis, h (i, d, a) (List.mem_cons_self ..), cond_false]
    exact vis_drop p l RS st fun e he => h e (List.mem_cons_of_mem _ he)
theorem find_mem : ∀ {RS : List (Nat × Nat × AV)} {j : Nat} {v : AV}, findR RS j = some v → ∃ d, (j, d, v) ∈ RS
  | [], _, _, h => by cases h
  | (i, d, a) :: RS, j, v, h => by
    simp only [findR] at h
    cases hb : Nat.beq i j with
    | true =>
      rw [hb] at h
      obtain rfl := Option.some.inj h
      obtain rfl := Nat.eq_of_beq_eq_true hb
      exact ⟨d, List.mem_cons_self ..⟩
    | false =>
      rw [hb] at h
      obtain ⟨d', hd'⟩ := find_mem h
      exact ⟨d', List.mem_cons_of_mem _ hd'⟩
end
end Go.Proofs.YtpggnjmmpkdkjaaGreat.Ev
