/- A function: what comes back. No condition. -/
import Derived.Test.YtpggnjmmpkdkjaaGreatEvS22
namespace Go.Proofs.YtpggnjmmpkdkjaaGreat.Ev
open Go Go.RowKit
set_option linter.unusedVariables false
set_option linter.unusedSimpArgs false
def flatC (E : Env) (st : St) : List (Bool × List (K × Nat)) → List ResultVar → List Cell
  | (a, _) :: ps, r :: rs => (match resCells E st a r with
    | some cs => cs
    | none => []) ++ flatC E st ps rs
  | _, _ => []
def kindsOk (P : Program) (rt : List (Bool × List (K × Nat))) : Bool := rt.all fun p => p.2.all fun k => match k.1 with
  | .sl e => Nat.blt 0 (kinds P e).length
  | _ => true
section
variable {E : Env} {w0 : World} {X : Nat → Prop} {st st' : St} {a : Act} {cx : Cx}
theorem refs_append (x y : List Cell) : refs (x ++ y) = refs x ++ refs y := by
  induction x with
  | nil => rfl
  | cons c x ih => cases c <;> simp [refs, ih]
theorem allRefs_eq (E : Env) (st : St) : ∀ (rt : List (Bool × List (K × Nat))) (rs : List ResultVar), allRefs E st rt rs = refs (flatC E st rt rs)
  | [], _ => by simp [allRefs, flatC, refs]
  | (a, ks) :: rt, [] => by simp [allRefs, flatC, refs]
  | (a, ks) :: rt, r :: rs => by
    simp only [allRefs, flatC, refs_append, allRefs_eq E st rt rs]
    cases resCells E st a r <;> rfl
theorem refs_mem : ∀ {cs : List Cell} {d j : Nat}, Cell.ref d j ∈ cs → (d, j) ∈ refs cs
  | c :: cs, d, j, h => by
    rcases List.mem_cons.1 h with rfl | h
    · exact List.mem_cons_self ..
    · have := refs_mem h
      cases c <;> first | exact this | exact List.mem_cons_of_mem _ this
theorem distinct_at : ∀ {cs : List Cell} {i j d n : Nat}, distinctB (refs cs) = true → cs[i]? = some (.ref d n) → cs[j]? = some (.ref d n) → i = j
  | [], _, _, _, _, _, h, _ => by simp at h
  | c :: cs, i, j, d, n, hd, h1, h2 => by
    have tl : distinctB (refs cs) = true := by
      cases c with
      | ref d' n' => simp only [refs, distinctB, Bool.and_eq_true] at hd; exact hd.2
      | _ => exact hd
    have no : ∀ {q : Nat}, c = .ref d n → cs[q]? = some (.ref d n) → False := by
      intro q hc hq
      subst hc
      simp only [refs, distinctB, Bool.and_eq_true, Bool.not_eq_true'] at hd
      have := List.any_eq_false.1 hd.1 _ (refs_mem (List.mem_of_getElem? hq))
      simp at this
    cases i with
    | zero => cases j with
      | zero => rfl
      | succ j => exact (no (by simpa using h1) (by simpa using h2)).elim
    | succ i => cases j with
      | zero => exact (no (by simpa using h2) (by simpa using h1)).elim
      | succ j => rw [distinct_at tl (i := i) (j := j) (by simpa using h1) (by simpa using h2)]
theorem packResCs_get : ∀ {ks : List (K × Nat)} {cs : List Cell} {ds : List D}, packResCs st ks cs = some ds → cs.length = ks.length ∧ ds.length = ks.length ∧ ∀ (j : Nat) (k : K × Nat) (c : Cell), ks[j]? = some k → cs[j]? = some c → packResC st k c = some (ds.getD j .j)
  | [], [], ds, h => by obtain rfl := Option.some.inj h; exact ⟨rfl, rfl, fun j k c h1 _ => by simp at h1⟩
  | [], _ :: _, _, h => by cases h
  | _ :: _, [], _, h => by cases h
  | k :: ks, c :: cs, ds, h => by
    simp only [packResCs] at h
    split at h
    · rename_i d ds' h1 h2
      obtain rfl := Option.some.inj h
      obtain ⟨h3, h4, h5⟩ := packResCs_get h2
      refine ⟨by simp [h3], by simp [h4], fun j k' c' hk hc => ?_⟩
      cases j with
      | zero => obtain rfl := Option.some.inj hk; obtain rfl := Option.some.inj hc; exact h1
      | succ j => exact h5 j k' c' (by simpa using hk) (by simpa using hc)
    · cases h
/-- A result variable, read. -/
def readR (a : Act) (w : World) (P : Program) : ResultVar → Value → Prop := fun r v =>
  ((match r with
    | .tmp t => pure (a.tmps.getD t undef)
    | .cell x t => do loadVar t (← asAddr (a.tmps.getD x undef)) : Sem Value)).run P w = .ok v w
inductive Reads (a : Act) (w : World) (P : Program) : List ResultVar → List Value → Prop
  | nil : Reads a w P [] []
  | cons {r v rs vs} (h : readR a w P r v) (t : Reads a w P rs vs) : Reads a w P (r :: rs) (v :: vs)
theorem Rel.resCells (h : Rel E w0 X st a cx) {ag : Bool} {r : ResultVar} {cs : List Cell} (hr : Ev.resCells E st ag r = some cs) :
    ∃ v ws, readR a cx.w E.P r v ∧ ((ag = true ∧ v = .agg ws.toArray) ∨ (ag = false ∧ ws = [v])) ∧ CellsRep cx 0 0 cs ws ∧ ∀ c ∈ cs, isOwn c = false := by
  cases r with
  | tmp t =>
    have hs := h.slots t
    simp only [Ev.resCells] at hr
    cases hg : get st t with
    | p a' cs0 =>
      rw [hg] at hr hs
      cases hb : ag == a' with
      | false => dsimp only at hr; rw [hb] at hr; cases hr
      | true =>
        dsimp only at hr
        rw [hb] at hr
        obtain rfl := eq_of_beq hb
        obtain rfl := Option.some.inj hr
        cases ag with
        | true =>
          obtain ⟨vs, hv, hc⟩ := hs
          exact ⟨_, vs, rfl, .inl ⟨rfl, hv⟩, hc.refs, refsOf_noOwn t cs0 0⟩
        | false =>
          have hc : CellsRep cx t 0 cs0 [a.tmps.getD t undef] := hs
          exact ⟨_, _, rfl, .inr ⟨rfl, rfl⟩, hc.refs, refsOf_noOwn t cs0 0⟩
    | _ => rw [hg] at hr; cases hr
  | cell t ty =>
    have hs := h.slots t
    simp only [Ev.resCells] at hr
    cases hg : get st t with
    | box ow cs0 =>
      rw [hg] at hr hs
      cases hb : (Nat.beq cs0.length (sizeP E.P ty) && (knownP E.P ty && ((ag == isAggP E.P ty) && (Nat.blt 0 cs0.length && (ag || Nat.beq cs0.length 1))))) with
      | false => dsimp only at hr; rw [hb] at hr; cases hr
      | true =>
        dsimp only at hr
        rw [hb] at hr
        obtain rfl := Option.some.inj hr
        simp only [Bool.and_eq_true] at hb
        obtain ⟨h1, h2, h3, h4, h5⟩ := hb
        obtain ⟨b, vs, t', hv, _, _, hh, hc⟩ := hs
        have e1 := Nat.eq_of_beq_eq_true h1
        have e3 := eq_of_beq h3
        have hl : vs.length = sizeP E.P ty := hc.1 ▸ e1
        have hne : sizeP E.P ty ≠ 0 := by
          intro e0; rw [e1, e0] at h4; cases h4
        obtain ⟨v, hrun, hvv⟩ := run_loadVar' (P := E.P) (t := ty) (w := cx.w) (b := b) (o := 0) (vs := vs) h2 hne hl (fun hf => by
          rw [e3, hf, Bool.false_or] at h5
          exact e1 ▸ Nat.eq_of_beq_eq_true h5) (fun j u hj => by
            rw [cell_of_row cx.w b _ vs.toArray t' (0, 0) hh]
            simpa using hj)
        refine ⟨v, vs, ?_, by rw [e3]; exact hvv, hc.refs, refsOf_noOwn t cs0 0⟩
        show (asAddr (a.tmps.getD t undef) >>= fun x => loadVar ty x : Sem Value).run E.P cx.w = _
        simp only [hv, asAddr, Sem.run_bind, Sem.run_pure, Result.andThen_ok, hrun]
    | _ => rw [hg] at hr; cases hr
theorem partsR_same {t t' : List D} : ∀ (rt : List (Bool × List (K × Nat))) (i : Nat), (∀ j, i ≤ j → j < i + countR rt → t.getD j .j = t'.getD j .j) → partsR rt t i = partsR rt t' i
  | [], _, _ => rfl
  | (a, ks) :: rt, i, h => by
    have hc : ∀ (ks : List (K × Nat)) (i : Nat), (∀ j, i ≤ j → j < i + ks.length → t.getD j .j = t'.getD j .j) → cellsR ks t i = cellsR ks t' i := by
      intro ks
      induction ks with
      | nil => intro i _; rfl
      | cons k ks ih =>
        intro i h
        simp only [cellsR]
        rw [h i (Nat.le_refl _) (by simp), ih (i + 1) (fun j h1 h2 => h j (by omega) (by simp; omega))]
    simp only [partsR]
    rw [hc ks i (fun j h1 h2 => h j h1 (by simp [countR]; omega)), partsR_same rt (i + ks.length) (fun j h1 h2 => h j (by omega) (by simp [countR] at h2 ⊢; omega))]
theorem res_parts (h : Rel E w0 X st a cx) {cx' : Cx} {ds : List D} : ∀ {rt : List (Bool × List (K × Nat))} {rs : List ResultVar} {d0 : List D} (off : Nat), packRes E st rt rs = some d0 → (∀ j, j < d0.length → ds.getD (off + j) .j = d0.getD j .j) →
    (∀ j k c u, (rt.flatMap (·.2))[j]? = some k → (flatC E st rt rs)[j]? = some c → isOwn c = false → packResC st k c = some (ds.getD (off + j) .j) → CellRep cx 0 0 c u → CellRep cx' 0 (off + j) (cellR k (ds.getD (off + j) .j)) u) →
    d0.length = countR rt ∧ (flatC E st rt rs).length = countR rt ∧ ∃ vs : List Value, Reads a cx.w E.P rs vs ∧ PartsRep cx' 0 off (partsR rt ds off) vs
  | [], [], d0, off, hp, _, _ => by
    obtain rfl := Option.some.inj hp
    exact ⟨rfl, rfl, [], .nil, trivial⟩
  | [], _ :: _, _, _, hp, _, _ => by cases hp
  | (_, _) :: _, [], _, _, hp, _, _ => by cases hp
  | (ag, ks) :: rt, r :: rs, d0, off, hp, hd, hc => by
    simp only [packRes] at hp
    split at hp
    · rename_i cs hcs
      split at hp
      · rename_i d1 d2 h1 h2
        obtain rfl := Option.some.inj hp
        obtain ⟨g1, g2, g3⟩ := packResCs_get h1
        obtain ⟨v, ws, hr, hv, hw, hno⟩ := h.resCells hcs
        have hfl : flatC E st ((ag, ks) :: rt) (r :: rs) = cs ++ flatC E st rt rs := by simp [flatC, hcs]
        have hkk : (((ag, ks) :: rt).flatMap (·.2)) = ks ++ rt.flatMap (·.2) := by simp
        obtain ⟨i1, i2, vs, i3, i4⟩ := res_parts h (cx' := cx') (ds := ds) (rt := rt) (rs := rs) (off + ks.length) h2 (fun j hj => by
            have := hd (d1.length + j) (by simp; omega)
            rw [g2] at this
            rw [Nat.add_assoc, this]
            rw [List.getD_eq_getElem?_getD, List.getElem?_append_right (by omega), List.getD_eq_getElem?_getD]
            congr 2; omega)
          (fun j k c u e1 e2 e3 e4 e5 => by
            have := hc (ks.length + j) k c u (by rw [hkk, List.getElem?_append_right (by omega)]; simpa using e1) (by rw [hfl, List.getElem?_append_right (by omega)]; rw [g1]; simpa using e2) e3 (by rw [← Nat.add_assoc]; exact e4) e5
            rw [← Nat.add_assoc] at this; exact this)
        have hcell : CellsRep cx' 0 off (cellsR ks ds off) ws := by
          refine ⟨by rw [cellsR_length, ← g1]; exact hw.1, hw.2.1, fun j c u e1 e2 => ?_⟩
          obtain ⟨k, hk, rfl⟩ := cellsR_get _ _ _ _ _ e1
          have hlt : j < cs.length := by rw [g1]; exact (List.getElem?_eq_some_iff.1 hk).1
          have hcj := List.getElem?_eq_getElem hlt
          have e := g3 j k _ hk hcj
          have hdj : ds.getD (off + j) .j = d1.getD j .j := by
            rw [hd j (by simp; omega), List.getD_eq_getElem?_getD, List.getElem?_append_left (by omega), ← List.getD_eq_getElem?_getD]
          refine hc j k _ u (by rw [hkk, List.getElem?_append_left (by omega)]; exact hk) (by rw [hfl, List.getElem?_append_left hlt]; exact hcj) (hno _ (List.getElem_mem hlt)) (by rw [hdj]; exact e) ?_
          exact (hw.2.2 j _ u hcj e2).moved (hno _ (List.getElem_mem hlt))
        refine ⟨by rw [List.length_append, g2, i1]; simp [countR], by rw [hfl, List.length_append, g1, i2]; simp [countR], v :: vs, .cons hr i3, ?_⟩
        have hl : (cellsR ks ds off).length = ks.length := cellsR_length ..
        rcases hv with ⟨rfl, rfl⟩ | ⟨rfl, rfl⟩
        · refine ⟨⟨ws, rfl, hcell⟩, ?_⟩
          rw [hl]; exact i4
        · refine ⟨hcell, ?_⟩
          rw [hl]; exact i4
      · cases hp
    · cases hp
theorem run_reads {P : Program} {w : World} : ∀ {rs : List ResultVar} {vs : List Value}, Reads a w P rs vs →
    (rs.mapM fun r => (match r with
    | .tmp t => pure (a.tmps.getD t undef)
    | .cell x t => do loadVar t (← asAddr (a.tmps.getD x undef)) : Sem Value)).run P w = .ok vs w
  | [], _, .nil => rfl
  | r :: rs, _, .cons h1 h2 => by
    rw [List.mapM_cons]
    rw [Sem.run_bind]
    unfold readR at h1
    rw [h1, Result.andThen_ok, Sem.run_bind, run_reads h2, Result.andThen_ok, Sem.run_pure]
theorem run_results {P : Program} {w : World} {fn : Func} {vs : List Value} (h : Reads a w P fn.results.toList vs) :
    ∃ v, (results fn a.tmps).run P w = .ok v w ∧ ((vs = [v]) ∨ (vs.length ≠ 1 ∧ v = .tuple vs.toArray)) := by
  have hm : (fn.results.mapM fun r => (match r with
    | .tmp t => pure (a.tmps.getD t undef)
    | .cell x t => do loadVar t (← asAddr (a.tmps.getD x undef)) : Sem Value)).run P w = .ok vs.toArray w := by
    rw [Array.mapM_eq_mapM_toList, Sem.run_map, run_reads h, Result.andThen_ok]
  unfold results
  rw [Sem.run_bind]
  refine ⟨if h : vs.toArray.size = 1 then vs.toArray[0] else .tuple vs.toArray, ?_, ?_⟩
  · refine Eq.trans (congrArg (fun x => Result.andThen x _) hm) ?_
    rfl
  · by_cases h1 : vs.length = 1
    · obtain ⟨v, rfl⟩ := List.length_eq_one_iff.1 h1
      exact .inl (by simp)
    · exact .inr ⟨h1, by simp [h1]⟩
end
end Go.Proofs.YtpggnjmmpkdkjaaGreat.Ev
