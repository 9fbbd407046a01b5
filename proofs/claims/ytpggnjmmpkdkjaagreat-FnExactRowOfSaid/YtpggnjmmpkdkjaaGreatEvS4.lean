/- The evaluator's quiet operations are what the model runs: fields, indices, strings, arithmetic. No condition. -/
import Derived.Test.YtpggnjmmpkdkjaaGreatEvS3
namespace Go.Proofs.YtpggnjmmpkdkjaaGreat.Ev
open Go Go.RowKit
set_option linter.unusedVariables false
set_option linter.unusedSimpArgs false
theorem qrun_run {α : Type} {P : Program} {s : Sem α} {x : α} (h : qrun P s = some x) (w : World) : s.run P w = .ok x w := by
  induction s with
  | pure a => obtain rfl := Option.some.inj h; rfl
  | program k ih => exact ih P h
  | _ => cases h
section
variable {E : Env} {w0 : World} {X : Nat → Prop} {st : St} {a : Act} {cx : Cx} {o : Oper} {av : AV}
theorem one_rep {v : Value} (h : v.oneCell' = true) : ∀ d, AVRep cx d (.p false [.v v]) v := fun d =>
  show CellsRep cx d 0 [.v v] [v] from ⟨rfl, by simpa using h, fun j c v' h1 h2 => by
    cases j with
    | zero => obtain rfl := Option.some.inj h1; obtain rfl := Option.some.inj h2; rfl
    | succ j => simp at h1⟩
theorem Goal.plain {v : Value} (hr : (execOp a.eval o).run E.P cx.w = .ok (.value v) cx.w) (hv : v.oneCell' = true) : Goal E o a cx (.p false [.v v]) := Goal.same hr (one_rep hv) rfl
theorem Rel.q_plain (h : Rel E w0 X st a cx) (hs : ∀ cs b, o.op ≠ .select cs b) (hav : (evPlain E (get st) o).run = some av) : Goal E o a cx av := by
  unfold evPlain at hav
  cases hp : o.op.operands.toList.all (isPlain E (get st)) with
  | false => rw [hp] at hav; cases hav
  | true =>
    rw [hp, cond_true] at hav
    have he : execOp a.eval o = execOp (rho E (get st)) o := execOp_congr o hs fun x hx => by
      have h1 := List.all_eq_true.1 hp x (by simpa using hx)
      obtain ⟨v, hv⟩ := Option.isSome_iff_exists.1 h1
      rw [h.plain hv]; unfold rho; rw [hv]; rfl
    cases hq : qrun E.P (execOp (rho E (get st)) o) with
    | none => rw [hq] at hav; cases hav
    | some nx =>
      cases nx with
      | value v =>
        rw [hq] at hav
        dsimp only at hav
        cases h1 : v.oneCell' with
        | false => rw [h1] at hav; cases hav
        | true =>
          rw [h1] at hav
          obtain rfl := Option.some.inj hav
          exact Goal.plain (he ▸ qrun_run hq cx.w) h1
      | _ => rw [hq] at hav; cases hav
theorem br_run {α : Type} {b : Bool} {x : Br α} {y : α} (h : (Br.br b x .none).run = some y) : b = true ∧ x.run = some y := by
  cases b with
  | true => exact ⟨rfl, h⟩
  | false => cases h
theorem br_run' {α : Type} {b : Bool} {x : Br α} {y : α} (h : (Br.br b .none x).run = some y) : b = false ∧ x.run = some y := by
  cases b with
  | false => exact ⟨rfl, h⟩
  | true => cases h
theorem Rel.q_field (h : Rel E w0 X st a cx) (s : TypeId) (x : Operand) (f : Nat) (ho : o.op = .field s x f) {fd : Field} (hf : fieldP E s f = some fd) {cs : List Cell} (hx : Ev.opnd E (get st) x = .p true cs)
    (hav : (bif Nat.beq (takeAt cs fd.offset (sizeP E.P fd.type)).length (sizeP E.P fd.type) && ((isAggP E.P fd.type || Nat.beq (sizeP E.P fd.type) 1) && (knownP E.P fd.type && Nat.blt 0 (sizeP E.P fd.type))) then Br.ret (AV.p (isAggP E.P fd.type) (takeAt cs fd.offset (sizeP E.P fd.type))) else Br.none).run = some av) : Goal E o a cx av := by
  obtain ⟨fs, h1, h2, h3⟩ := field_spec hf
  obtain ⟨rfl, k1, k2, k3, k4⟩ := fin_spec hav
  have hno : ∀ c ∈ cs, isOwn c = false := opnd_cells_noOwn E _ h.glob x (by rw [hx]; rfl)
  obtain ⟨vs, hv, hr⟩ := (hx ▸ h.opnd 0 x : AVRep cx 0 (.p true cs) (a.eval x))
  have hrc : ∀ d, CellsRep cx d 0 (takeAt cs fd.offset (sizeP E.P fd.type)) (cut vs fd.offset (sizeP E.P fd.type)) := fun d => hr.cut hno _ _
  have hl : (cut vs fd.offset (sizeP E.P fd.type)).length = sizeP E.P fd.type := (hrc 0).1 ▸ k1
  have hext : vs.toArray.extract fd.offset (fd.offset + sizeP E.P fd.type) = (cut vs fd.offset (sizeP E.P fd.type)).toArray := by
    apply Array.ext'; simp [cut, List.extract_eq_take_drop]
  cases hag : isAggP E.P fd.type with
  | true =>
    refine Goal.same (v := .agg (cut vs fd.offset (sizeP E.P fd.type)).toArray) ?_ (p_rep (.inl ⟨rfl, rfl⟩) hrc) (p_noOwner (takeAt_noOwn hno _ _))
    simp only [execOp, ho, hv, Instr.field, Sem.run_bind, run_underlying h1, Result.andThen_ok, h2, asAgg, Sem.run_pure, part, isAgg_run k3, hag, if_true, run_sizeOf k4, hext]
  | false =>
    obtain ⟨u, hu⟩ := List.length_eq_one_iff.1 (hl.trans (k2 hag))
    have hu0 : vs[fd.offset]? = some u := by
      have : (cut vs fd.offset (sizeP E.P fd.type))[0]? = some u := by rw [hu]; rfl
      simp only [cut, List.getElem?_take, List.getElem?_drop] at this
      split at this
      · simpa using this
      · cases this
    refine Goal.same (v := u) ?_ (p_rep (.inr ⟨rfl, hu⟩) hrc) (p_noOwner (takeAt_noOwn hno _ _))
    simp only [execOp, ho, hv, Instr.field, Sem.run_bind, run_underlying h1, Result.andThen_ok, h2, asAgg, Sem.run_pure, part, isAgg_run k3, hag]
    simp [hu0]
theorem Rel.q_index (h : Rel E w0 X st a cx) (t e : TypeId) (x ix : Operand) (ho : o.op = .indexAddr t x ix) {c : Cell} {kd : IntKind} {i : Int} (hx : Ev.opnd E (get st) x = .p false [c]) (hi : plainV (Ev.opnd E (get st) ix) = some (.int kd i)) (ht : E.P.underlying t = some (.slice e))
    (hsz : (kinds E.P e).length = sizeP E.P e) (h0 : 0 < sizeP E.P e) (xs : List (List D)) (hb : (decide (0 ≤ i) && decide (i < (xs.length : Int))) = true)
    (hc : (∃ d j w, c = .ref d j ∧ cellAt (get st d) j = .sl (w + 1) e xs ∧ av = .pel d j i 0) ∨ (c = .sl 0 e xs ∧ av = .ro (rowCells (kinds E.P e) (xs.getD i.toNat []) 0) 0)) : Goal E o a cx av := by
  have hiv := h.plain hi
  simp only [Bool.and_eq_true, decide_eq_true_eq] at hb
  obtain ⟨hi0, hil⟩ := hb
  have hr : CellsRep cx 0 0 [c] [a.eval x] := (hx ▸ h.opnd 0 x : AVRep cx 0 (.p false [c]) (a.eval x))
  have hcr := hr.2.2 0 c (a.eval x) rfl rfl
  have hrun : ∀ (b off n cp : Nat), a.eval x = .slice (some ⟨b, off, none⟩) n cp → i < (n : Int) → (execOp a.eval o).run E.P cx.w = .ok (.value (.pointer (some ⟨b, off + i.toNat * sizeP E.P e, none⟩))) cx.w := by
    intro b off n cp hv hn
    simp only [execOp, ho, hv, hiv, Instr.indexAt, asIntOf, Sem.run_bind, Sem.run_pure, Result.andThen_ok, run_underlying ht, Sem.run_ite, if_pos (show 0 ≤ i ∧ i < (n : Int) from ⟨hi0, hn⟩), run_sizeOf (Nat.pos_iff_ne_zero.1 h0), addr_add]
  rcases hc with ⟨d, j, w, rfl, hca, rfl⟩ | ⟨rfl, rfl⟩
  · obtain ⟨e'', hpl⟩ := hcr
    obtain ⟨v, h1, h2, _, _⟩ := h.place hca
    obtain ⟨rfl, hv⟩ := Prod.mk.inj (Option.some.inj (hpl.symm.trans h1))
    obtain ⟨_, flat, hf, _⟩ := h2
    rcases hf.2 with ⟨_, hz⟩ | ⟨g, cap, cur, he, _⟩
    · omega
    · rw [he] at hv
      refine Goal.same (hrun g 0 xs.length cap hv hil) (fun _ => ⟨_, g, xs.length, cap, by rw [hpl, hv], hi0, hil, ?_⟩) rfl
      rw [h.P, hsz]; simp
  · have hcr' : RepD cx.P cx.w (Forb cx) (.sl e) (.l xs) (a.eval x) := hcr
    generalize hv : a.eval x = v at hcr'
    cases hcr' with
    | fn _ _ he hk => rw [h.P, hsz] at hk; omega
    | clo _ _ b he hk hF' hcl => rw [h.P, hsz] at hk; omega
    | nil _ _ a' c' h0 => have : xs = [] := h0; subst this; simp at hil; omega
    | sl _ _ b off cp n vs hn hn0 hm hF hcells hrr =>
      have hn' : n = xs.length := hn
      refine Goal.same (hrun b off n cp hv (by omega)) (fun d => ?_) rfl
      rw [h.P] at hcells hrr hm
      have hin : i.toNat < n := by omega
      refine ⟨b, off + i.toNat * (kinds E.P e).length, (List.range (kinds E.P e).length).map (vs i.toNat), by rw [hsz]; rfl, by rw [rowCells_length]; exact hm, ?_, hF, fun j u hj => ?_, ?_⟩
      · rw [List.all_eq_true]; intro c hc; rw [rowCells_noOwn _ _ _ c hc]; rfl
      · rw [List.getElem?_map] at hj
        obtain ⟨j', hj', rfl⟩ := Option.map_eq_some_iff.1 hj
        have hjj : j' = j ∧ j < (kinds E.P e).length := by
          have h2 := List.getElem?_eq_some_iff.1 hj'
          obtain ⟨h3, h4⟩ := h2
          simp at h3 h4
          exact ⟨h4.symm, h3⟩
        rw [hjj.1, Nat.add_assoc]
        exact hcells i.toNat j hin hjj.2
      · refine rowCells_rep (by simp) (fun j k u hk hu => ?_) d
        rw [List.getElem?_map] at hu
        obtain ⟨j', hj', rfl⟩ := Option.map_eq_some_iff.1 hu
        obtain ⟨h3, h4⟩ := List.getElem?_eq_some_iff.1 hj'
        simp at h3 h4
        subst h4
        rw [h.P]
        exact hrr i.toNat j k hin hk
theorem Rel.q_extract (h : Rel E w0 X st a cx) (x : Operand) (i : Nat) (ho : o.op = .extract x i) {ps : List (Bool × List Cell)} (hx : Ev.opnd E (get st) x = .tup ps) {ag : Bool} {cs : List Cell} (hp : ps[i]? = some (ag, cs)) : Goal E o a cx (.p ag cs) := by
  have hno : ∀ c ∈ cs, isOwn c = false := by
    have h1 := opnd_noOwner E (get st) h.glob x
    rw [hx] at h1
    have h2 := List.any_eq_false.1 h1 (ag, cs) (List.mem_of_getElem? hp)
    simp only [List.any_eq_true, not_exists, not_and] at h2
    exact fun c hc => by simpa using h2 c hc
  obtain ⟨vs, hv, hr⟩ := (hx ▸ h.opnd 0 x : AVRep cx 0 (.tup ps) (a.eval x))
  have key : ∀ {ps : List (Bool × List Cell)} {off i : Nat} {vs : List Value} {ag : Bool} {cs : List Cell}, PartsRep cx 0 off ps vs → ps[i]? = some (ag, cs) → ∃ v, vs[i]? = some v ∧ ∃ off' ws, CellsRep cx 0 off' cs ws ∧ ((ag = true ∧ v = .agg ws.toArray) ∨ (ag = false ∧ ws = [v])) := by
    intro ps
    induction ps with
    | nil => intro off i vs ag cs _ hi; simp at hi
    | cons p ps ih =>
      intro off i vs ag cs hp hi
      obtain ⟨a', cs'⟩ := p
      cases vs with
      | nil => cases a' <;> simp [PartsRep] at hp
      | cons v vs =>
        cases i with
        | zero =>
          obtain ⟨rfl, rfl⟩ := Prod.mk.inj (Option.some.inj hi)
          cases a' with
          | true => obtain ⟨⟨ws, rfl, hc⟩, hr⟩ := hp; exact ⟨_, rfl, off, ws, hc, .inl ⟨rfl, rfl⟩⟩
          | false => obtain ⟨hc, hr⟩ := hp; exact ⟨_, rfl, off, [v], hc, .inr ⟨rfl, rfl⟩⟩
        | succ i =>
          cases a' with
          | true => obtain ⟨_, hr⟩ := hp; obtain ⟨v', h1, h2⟩ := ih hr (by simpa using hi); exact ⟨v', by simpa using h1, h2⟩
          | false => obtain ⟨_, hr⟩ := hp; obtain ⟨v', h1, h2⟩ := ih hr (by simpa using hi); exact ⟨v', by simpa using h1, h2⟩
  obtain ⟨v, hvi, off', ws, hc, hag⟩ := key hr hp
  refine Goal.same (v := v) ?_ (p_rep hag fun d => hc.moved hno) (p_noOwner hno)
  simp only [execOp, ho, hv, Instr.extract, Sem.run_bind]
  simp [hvi]
theorem Rel.q_len (h : Rel E w0 X st a cx) (x : Operand) (t : TypeId) (args : Array Operand) (ts : Array TypeId) (ho : o.op = .call { callee := .builtin .len, args := args, argTypes := ts }) (ha : args.toList = [x]) (hts : ts.toList = [t]) {c : Cell} (hx : Ev.opnd E (get st) x = .p false [c])
    {q : Nat} {e e' : TypeId} {xs : List (List D)} (hc : res (get st) c = .sl q e xs) (ht : E.P.underlying t = some (.slice e')) (hk0 : 0 < (kinds E.P e).length) : Goal E o a cx (.p false [.v (.int .i64 (xs.length : Int))]) := by
  have ha' : args = #[x] := by rw [← Array.toArray_toList (xs := args), ha]
  have ht' : ts = #[t] := by rw [← Array.toArray_toList (xs := ts), hts]
  subst ha' ht'
  have hr : CellsRep cx 0 0 [c] [a.eval x] := (hx ▸ h.opnd 0 x : AVRep cx 0 (.p false [c]) (a.eval x))
  have hcr := hr.2.2 0 c (a.eval x) rfl rfl
  have hs : ∃ ad cp, a.eval x = .slice ad xs.length cp := by
    cases c with
    | u => cases hc
    | v y => cases hc
    | sl o' e1 xs1 =>
      have : Cell.sl o' e1 xs1 = .sl q e xs := hc
      obtain ⟨rfl, rfl, rfl⟩ := Cell.sl.inj this
      cases o' with
      | zero =>
        have hcr' : RepD cx.P cx.w (Forb cx) (.sl e1) (.l xs1) (a.eval x) := hcr
        generalize hv : a.eval x = v at hcr'
        cases hcr' with
        | fn _ _ he hk => rw [h.P] at hk; omega
        | clo _ _ b he hk hF' hcl => rw [h.P] at hk; omega
        | nil _ _ a' c' h0 => have : xs1 = [] := h0; subst this; exact ⟨_, _, rfl⟩
        | sl _ _ b off cp n vs hn => have : n = xs1.length := hn; subst this; exact ⟨_, _, rfl⟩
      | succ o' =>
        obtain ⟨⟨_, flat, hf, _⟩, _⟩ := hcr
        rcases hf.2 with ⟨h1, h2⟩ | ⟨g, cap, cur, h1, _⟩
        · exact ⟨none, 0, by rw [h1, h2]⟩
        · exact ⟨_, _, h1⟩
    | ref d j =>
      obtain ⟨e'', hpl⟩ := hcr
      simp only [res] at hc
      cases hca : cellAt (get st d) j with
      | sl o' e1 xs1 => cases o' with
        | zero => rw [hca] at hc; cases hc
        | succ o' =>
          rw [hca] at hc
          obtain ⟨_, _, rfl⟩ := Cell.sl.inj hc
          obtain ⟨v, h1, ⟨_, flat, hf, _⟩, _⟩ := h.place hca
          obtain ⟨_, hv⟩ := Prod.mk.inj (Option.some.inj (hpl.symm.trans h1))
          rcases hf.2 with ⟨h3, h2⟩ | ⟨g, cap, cur, h3, _⟩
          · exact ⟨none, 0, by rw [hv, h3, h2]⟩
          · exact ⟨_, _, hv.trans h3⟩
      | _ => rw [hca] at hc; cases hc
  obtain ⟨ad, cp, hv⟩ := hs
  refine Goal.plain ?_ rfl
  simp [execOp, ho, resolve, invoke, builtin, Builtin.len_, hv, run_underlying ht, goInt]
/-! ### Arithmetic -/
theorem Rel.q_bin (h : Rel E w0 X st a cx) (op : BinOp) (t : TypeId) (x y : Operand) (yt : TypeId) (ho : o.op = .binOp op t x y yt) {p q r : Value} (hp : plainV (Ev.opnd E (get st) x) = some p) (hq : plainV (Ev.opnd E (get st) y) = some q)
    (hr : (do eqGuard op t x y p q; binOp op t p q : Sem Value).run E.P cx.w = .ok r cx.w) (h1 : r.oneCell' = true) : Goal E o a cx (.p false [.v r]) := by
  refine Goal.plain ?_ h1
  have hx := h.plain hp
  have hy := h.plain hq
  simp only [execOp, ho, hx, hy]
  rw [Sem.run_bind, hr]; rfl
theorem guard_quiet (op : BinOp) (t : TypeId) (x y : Operand) (p q : Value) (h : (op = .eql ∨ op = .neq) → False) (P : Program) (w : World) : (eqGuard op t x y p q).run P w = .ok () w := by
  unfold eqGuard
  cases op <;> first | rfl | exact (h (by simp)).elim
theorem eqV_run {E : Env} : ∀ (d : Nat) (t : TypeId) (x y : Value) (b : Bool), eqV E d t x y = some b → ∀ w, (Op.equalIn d t x y).run E.P w = .ok b w := by
  intro d
  induction d with
  | zero => intro t x y b h; cases h
  | succ d ih =>
    intro t x y b h w
    cases hu : E.P.underlying t with
    | none => unfold eqV at h; rw [hu] at h; cases h
    | some ds =>
      unfold eqV at h
      rw [hu] at h
      cases ds with
      | bool => cases x <;> cases y <;> first | (cases h; done) | (obtain rfl := Option.some.inj h; exact run_equalIn_bool w d t _ _ hu)
      | int k' =>
        cases x <;> cases y <;> first | (cases h; done) | skip
        rename_i k a k2 b2
        dsimp only at h
        by_cases hk : k = k2
        · subst hk; simp only [decide_true, cond_true] at h
          obtain rfl := Option.some.inj h
          simp [Op.equalIn, run_underlying hu]
        · simp only [hk, decide_false, cond_false] at h; cases h
      | string =>
        cases x <;> cases y <;> first | (cases h; done) | skip
        obtain rfl := Option.some.inj h
        simp [Op.equalIn, run_underlying hu]
      | struct fs =>
        cases x <;> cases y <;> first | (cases h; done) | skip
        rename_i xs ys
        dsimp only at h
        cases hst : E.P.stoodInHeld t with
        | true => rw [hst] at h; cases h
        | false =>
          rw [hst, cond_false] at h
          have key : ∀ (l : List Field) (r : Bool), l.foldr (fun f acc => bif f.name == "_" then none else
              match acc, qrun E.P (part f.type xs f.offset), qrun E.P (part f.type ys f.offset) with
              | some r, some x', some y' => match eqV E d f.type x' y' with
                | some b => some (b && r)
                | none => none
              | _, _, _ => none) (some true) = some r → (Op.eqFields d xs ys l).run E.P w = .ok r w := by
            intro l
            induction l with
            | nil => intro r hr; obtain rfl := Option.some.inj hr; rfl
            | cons f l ihl =>
              intro r hr
              rw [List.foldr_cons] at hr
              cases hn : (f.name == "_") with
              | true => rw [hn] at hr; cases hr
              | false =>
                rw [hn, cond_false] at hr
                split at hr
                · rename_i r' x' y' h1 h2 h3
                  split at hr
                  · rename_i b' hb'
                    obtain rfl := Option.some.inj hr
                    have hne : f.name ≠ "_" := fun e => by rw [e] at hn; simp at hn
                    simp only [Op.eqFields, if_pos hne, Sem.run_bind, qrun_run h2 w, qrun_run h3 w, Result.andThen_ok, ih _ _ _ _ hb' w]
                    cases b' with
                    | true => simp [ihl r' h1]
                    | false => simp
                  · cases hr
                · cases hr
          have hfo : E.P.fieldsOf t = fs := by unfold Program.fieldsOf; rw [hu]
          rw [run_equalIn_struct (P := E.P) w d t xs ys (by rw [hfo]; exact hu) hst, hfo]
          exact key fs.toList b h
      | _ => cases x <;> cases y <;> cases h
end
end Go.Proofs.YtpggnjmmpkdkjaaGreat.Ev
