/- A call that only reads and makes: what its contract gives. No condition. -/
import Derived.Test.YtpggnjmmpkdkjaaGreatEvS6
namespace Go.Proofs.YtpggnjmmpkdkjaaGreat.Ev
open Go Go.RowKit
set_option linter.unusedVariables false
set_option linter.unusedSimpArgs false
def RowRep (P : Program) (w : World) (F : Nat → Prop) (ks : List K) (ds : List D) (vs : List Value) : Prop :=
  vs.length = ks.length ∧ ∀ j k u, ks[j]? = some k → vs[j]? = some u → RepD P w F k (ds.getD j .j) u
def ArgRep (P : Program) (w : World) (F : Nat → Prop) (pt : Nat × List K) (ds : List D) (v : Value) : Prop :=
  match pt.1 with
  | 0 => RowRep P w F pt.2 ds [v]
  | 1 => ∃ vs : List Value, v = .agg vs.toArray ∧ RowRep P w F pt.2 ds vs
  | 2 => ∃ (b off : Nat) (vs : List Value), v = .pointer (some ⟨b, off, none⟩) ∧ 0 < pt.2.length ∧ ¬ F b ∧ (∀ j u, vs[j]? = some u → w.cell? ⟨b, off + j, none⟩ = some u) ∧ RowRep P w F pt.2 ds vs
  | 3 => ∃ e, pt.2 = [.sl e] ∧ Owns P w F e (ds.getD 0 .j).rows v
  | 7 => (∃ e, pt.2 = [.sl e]) ∧ v = .slice none 0 0
  | f + 10 => pt.2 = [.bool] ∧ v = .func (.func f) #[] #[]
  | _ => False
def ArgsRep (P : Program) (w : World) (F : Nat → Prop) : List (Nat × List K) → List D → List Value → Prop
  | [], _, [] => True
  | pt :: ps, ds, v :: vs => ArgRep P w F pt ds v ∧ ArgsRep P w F ps (ds.drop pt.2.length) vs
  | _, _, _ => False
/-- The memory that a call may write: that of the slices that are handed in to be written. -/
def MutB : List (Nat × List K) → List Value → Nat → Prop
  | pt :: ps, v :: vs, b => (pt.1 = 3 ∧ v.ownBlock = some b) ∨ MutB ps vs b
  | _, _, _ => False
def OutsRep (P : Program) (w : World) (F : Nat → Prop) (t : List D) : List (Nat × List K) → List Value → Nat → Prop
  | pt :: ps, v :: vs, i => if pt.1 = 3 then (∃ e, pt.2 = [.sl e] ∧ Owns P w F e (t.getD i .j).rows v) ∧ OutsRep P w F t ps vs (i + 1) else OutsRep P w F t ps vs i
  | _, _, _ => True
def cxr (P : Program) (w' : World) (own : Nat → Option Nat) (N : Nat → Prop) (pl' : Nat → Option (TypeId × Value)) : Cx :=
  { P := P, w := w', O := fun b => (own b).map fun j => (0, j), N := N, pl := fun d j => if d = 0 then pl' j else none, bx := fun _ => none, A := fun _ => undef }
def flagsOk (rt : List (Bool × List (K × Nat))) : Bool := rt.all fun p => p.2.all fun k => Nat.ble k.2 1
structure ResOk (P : Program) (w w' : World) (N : Nat → Prop) (sp : Spec) (args : List Value) (t : List D) (v : Value) : Prop where
  kept : KeptX (MutB sp.pt args) w w'
  res : ∃ own pl', (∀ b j, own b = some j → w.heap.size ≤ b ∧ b < w'.heap.size) ∧ AVRep (cxr P w' own N pl') 0 (mkR sp.rt t) v
  outs : OutsRep P w' N t sp.pt args (countR sp.rt)
structure SpecOk (P : Program) (gl : Nat → Option (List Value)) (f : FuncId) (sp : Spec) : Prop where
  flags : flagsOk sp.rt = true
  does : ∀ (w : World) (N : Nat → Prop) (args : List Value) (ds t : List D), (∀ b, N b → b < w.heap.size ∧ ¬ MutB sp.pt args b) → GlobsAt gl w (fun b => MutB sp.pt args b ∨ N b) → ArgsRep P w (fun b => N b ∨ MutB sp.pt args b) sp.pt ds args → sp.G ds = some t →
    ((∃ fn, P.funcs[f]? = some fn ∧ fn.body.isSome = true ∧ (fn.name == "runtime.NumGoroutine") = false) ∧ Calls P f args.toArray w fun e w' => ∃ v, e = .returned v ∧ ResOk P w w' N sp args t v) ∨
    (isMut sp = false ∧ ∃ v, (callFunc f args.toArray).run P w = .ok (.value v) w ∧ ResOk P w w N sp args t v)
theorem SpecOk.calls {P : Program} {gl : Nat → Option (List Value)} {f : FuncId} {sp : Spec} (h : SpecOk P gl f sp) {fn : Func} (hfn : P.funcs[f]? = some fn) (hb : fn.body.isSome = true) {w : World} {N : Nat → Prop} {args : List Value} {ds t : List D} (h1 : ∀ b, N b → b < w.heap.size ∧ ¬ MutB sp.pt args b) (hg : GlobsAt gl w (fun b => MutB sp.pt args b ∨ N b)) (h2 : ArgsRep P w (fun b => N b ∨ MutB sp.pt args b) sp.pt ds args) (h3 : sp.G ds = some t) :
    Calls P f args.toArray w fun e w' => ∃ v, e = .returned v ∧ ResOk P w w' N sp args t v := by
  rcases h.does w N args ds t h1 hg h2 h3 with h | ⟨_, v, hr, _⟩
  · exact h.2
  · exfalso
    obtain ⟨b, hb⟩ := Option.isSome_iff_exists.1 hb
    simp only [callFunc, program, bind, Sem.bind, Sem.run, hfn, hb, Option.isNone_some] at hr
    split at hr <;> cases hr
theorem Owns.rep {P : Program} {w : World} {F F' : Nat → Prop} {e : TypeId} {xs : List (List D)} {v : Value} (h : Owns P w F e xs v) (hF : ∀ b, ¬ F' b) : RepD P w F' (.sl e) (.l xs) v := by
  obtain ⟨hm, flat, hf, hr⟩ := h
  rcases hf.2 with ⟨rfl, h0⟩ | ⟨g, cap, cur, rfl, _, hh, hnc, hcm, hsz, htake⟩
  · exact .nil e _ none 0 (List.eq_nil_of_length_eq_zero h0) (.inr hm)
  · by_cases h0 : xs.length = 0
    · rw [h0]; exact .nil e _ _ cap (List.eq_nil_of_length_eq_zero h0) (.inr hm)
    · refine .sl e _ g 0 cap xs.length (fun i j => flat.getD (i * (kinds P e).length + j) undef) rfl (Nat.pos_of_ne_zero h0) hm (hF g) (fun i j hi hj => ?_) (fun i j k hi hk => ?_) hnc
      · obtain ⟨u, h1, _⟩ := hr i j _ hi (List.getElem?_eq_getElem hj)
        rw [cell_of_row w g _ cur e (0, 0) hh, Nat.zero_add, List.getD_eq_getElem?_getD, h1]
        rw [← htake, List.getElem?_take] at h1
        split at h1
        · simpa using h1
        · cases h1
      · obtain ⟨u, h1, h2⟩ := hr i j k hi hk
        have hu : flat.getD (i * (kinds P e).length + j) undef = u := by rw [List.getD_eq_getElem?_getD, h1]; rfl
        rw [hu]
        exact h2.change fun b _ _ => ⟨rfl, hF b⟩
theorem RepD.weaken {P : Program} {w : World} {F F' : Nat → Prop} {k : K} {d : D} {v : Value} (h : RepD P w F k d v) (hF : ∀ b, ¬ F b → ¬ F' b) : RepD P w F' k d v := h.change fun b _ hb => ⟨rfl, hF b hb⟩
section
variable {E : Env} {w0 : World} {X : Nat → Prop} {st : St} {a : Act} {cx : Cx} {o : Oper} {av : AV}
/-- A cell that is handed to a call. -/
theorem Rel.lent (h : Rel E w0 X st a cx) {F : Nat → Prop} (hF : (∀ b, ¬ F b) ∨ ∀ b, F b → Forb cx b) {k : K} {c : Cell} {dt : D} {u : Value} {d j : Nat} (hp : packCell k (res (get st) c) = some dt) (hno : isOwn c = false) (hl : (∀ b, ¬ F b) ∨ lendsC c = false) (hc : CellRep cx d j c u) : RepD E.P cx.w F k dt u := by
  have hFn : ∀ b, ¬ Forb cx b → ¬ F b := fun b hb hf => by
    rcases hF with h1 | h1
    · exact h1 b hf
    · exact hb (h1 b hf)
  cases c with
  | ref d' j' =>
    rcases hl with hl | hl
    · obtain ⟨e, hpl⟩ := hc
      simp only [res] at hp
      cases hca : cellAt (get st d') j' with
      | sl ow e1 xs => cases ow with
        | zero => rw [hca] at hp; cases k <;> cases hp
        | succ ow =>
          rw [hca] at hp
          obtain ⟨v, h1, h2, _, _⟩ := h.place hca
          obtain ⟨rfl, rfl⟩ := Prod.mk.inj (Option.some.inj (hpl.symm.trans h1))
          cases k with
          | sl e2 =>
            simp only [packCell] at hp
            cases hb : Nat.beq e2 e with
            | false => rw [hb] at hp; cases hp
            | true =>
              rw [hb] at hp
              obtain rfl := Option.some.inj hp
              obtain rfl := Nat.eq_of_beq_eq_true hb
              rw [← h.P]
              exact h2.rep hl
          | _ => cases hp
      | _ => rw [hca] at hp; cases k <;> cases hp
    · cases hl
  | u => rw [← h.P]; exact (packCell_rep hp hno hc).weaken hFn
  | v x => rw [← h.P]; exact (packCell_rep hp hno hc).weaken hFn
  | sl ow e xs => rw [← h.P]; exact (packCell_rep hp hno hc).weaken hFn
theorem Rel.lentRow (h : Rel E w0 X st a cx) {F : Nat → Prop} (hF : (∀ b, ¬ F b) ∨ ∀ b, F b → Forb cx b) {ks : List K} {cs : List Cell} {ds rest : List D} {vs : List Value} {d off : Nat} (hp : packCells ks (cs.map (res (get st))) = some ds) (hno : ∀ c ∈ cs, isOwn c = false) (hl : (∀ b, ¬ F b) ∨ ∀ c ∈ cs, lendsC c = false) (hc : CellsRep cx d off cs vs) : ds.length = ks.length ∧ RowRep E.P cx.w F ks (ds ++ rest) vs := by
  obtain ⟨h1, h2, h3⟩ := packCells_get hp
  refine ⟨h2, by rw [← hc.1]; simpa using h1, fun j k u hk hu => ?_⟩
  have hj : j < cs.length := by rw [hc.1]; exact (List.getElem?_eq_some_iff.1 hu).1
  have hcj := List.getElem?_eq_getElem hj
  have hjd : j < ds.length := by rw [h2]; exact (List.getElem?_eq_some_iff.1 hk).1
  have hd : (ds ++ rest).getD j .j = ds.getD j .j := by rw [List.getD_eq_getElem?_getD, List.getElem?_append_left hjd, List.getD_eq_getElem?_getD]
  rw [hd]
  exact h.lent hF (h3 j k _ hk (by rw [List.getElem?_map, hcj]; rfl)) (hno _ (List.getElem_mem hj)) (hl.imp id fun hh => hh _ (List.getElem_mem hj)) (hc.2.2 j _ u hcj hu)
theorem lends_cells {g : Nat → AV} {x : Operand} {p : Prop} (hg : p) (h : lends g x = false) : (∀ ag cs, Ev.opnd E g x = .p ag cs → ∀ c ∈ cs, lendsC c = false) ∧ (∀ d n, Ev.opnd E g x ≠ .pat d n) ∧ ∀ d j i n, Ev.opnd E g x ≠ .pel d j i n := by
  have hof : ∀ v : Value, (∀ ag cs, ofV v = .p ag cs → ∀ c ∈ cs, lendsC c = false) ∧ (∀ d n, ofV v ≠ .pat d n) ∧ ∀ d j i n, ofV v ≠ .pel d j i n := by
    intro v
    cases v with
    | agg vs =>
      show (∀ ag cs, (bif vs.toList.all Value.oneCell' then AV.p true (vs.toList.map .v) else .u) = .p ag cs → _) ∧ (∀ d n, (bif vs.toList.all Value.oneCell' then AV.p true (vs.toList.map .v) else .u) ≠ _) ∧ ∀ d j i n, (bif vs.toList.all Value.oneCell' then AV.p true (vs.toList.map .v) else .u) ≠ _
      cases vs.toList.all Value.oneCell' with
      | false => simp
      | true =>
        refine ⟨fun ag cs e c hc => ?_, by simp, by simp⟩
        simp only [cond_true, AV.p.injEq] at e
        rw [← e.2] at hc
        obtain ⟨y, _, rfl⟩ := List.mem_map.1 hc; rfl
    | tuple vs => simp [ofV]
    | _ =>
      refine ⟨fun ag cs e c hc => ?_, fun d n e => ?_, fun d j i n e => ?_⟩
      · simp only [ofV, AV.p.injEq] at e
        rw [← e.2] at hc
        obtain rfl := List.mem_singleton.1 hc; rfl
      · simp [ofV] at e
      · simp [ofV] at e
  cases x with
  | const v => exact hof v
  | global n => simp only [Ev.opnd]; cases E.glob n <;> simp
  | func f => simp [Ev.opnd]
  | tmp t =>
    simp only [Ev.opnd]
    simp only [lends] at h
    cases hgt : g t with
    | p ag cs =>
      rw [hgt] at h
      have h' := List.any_eq_false.1 h
      refine ⟨fun ag' cs' e c hc => ?_, by simp [copyOf], by simp [copyOf]⟩
      simp only [copyOf, AV.p.injEq] at e
      rw [← e.2] at hc
      obtain ⟨j, hj⟩ := List.mem_iff_getElem?.1 hc
      obtain ⟨c0, h0, rfl⟩ := refsOf_get t cs 0 j c hj
      have := h' c0 (List.mem_of_getElem? h0)
      cases c0 with
      | sl ow e xs => cases ow with
        | zero => rfl
        | succ n => simp [lendsC] at this
      | ref _ _ => simp [lendsC] at this
      | _ => rfl
    | box o cs => rw [hgt] at h; cases h
    | pat d n => rw [hgt] at h; cases h
    | pel d j i n => rw [hgt] at h; cases h
    | tup ps => rw [hgt] at h; cases h
    | u => simp [copyOf]
    | ro cs n => simp [copyOf]
    | fn f => simp [copyOf]
theorem map_res_id {g : Nat → AV} {cs : List Cell} (h : ∀ c ∈ cs, lendsC c = false) : cs.map (res g) = cs := by
  conv => rhs; rw [← List.map_id cs]
  apply List.map_congr_left
  intro c hc
  cases c with
  | ref _ _ => have := h _ hc; cases this
  | _ => rfl
theorem Rel.packArg_rep (h : Rel E w0 X st a cx) {F : Nat → Prop} (hF : (∀ b, ¬ F b) ∨ ∀ b, F b → Forb cx b) {x : Operand} (hl : (∀ b, ¬ F b) ∨ lends (get st) x = false) {pt : Nat × List K} {ds : List D} (hp : packArg E (get st) pt (Ev.opnd E (get st) x) = some ds) (h0k : 0 < pt.2.length) (rest : List D) :
    ds.length = pt.2.length ∧ ArgRep E.P cx.w F pt (ds ++ rest) (a.eval x) := by
  obtain ⟨f, ks⟩ := pt
  have hx := h.opnd 0 x
  have hno : ∀ {ag cs}, Ev.opnd E (get st) x = .p ag cs → ∀ c ∈ cs, isOwn c = false := fun e => opnd_cells_noOwn E _ h.glob x (by rw [e]; rfl)
  have hlc : (∀ b, ¬ F b) ∨ ((∀ ag cs, Ev.opnd E (get st) x = .p ag cs → ∀ c ∈ cs, lendsC c = false) ∧ (∀ d n, Ev.opnd E (get st) x ≠ .pat d n) ∧ ∀ d j i n, Ev.opnd E (get st) x ≠ .pel d j i n) := hl.imp id (lends_cells h.glob)
  unfold packArg at hp
  generalize hq : Ev.opnd E (get st) x = q at hp hx hno hlc
  split at hp
  · rename_i cs e
    obtain ⟨h1, h2⟩ := h.lentRow hF (rest := rest) hp (hno rfl) (hlc.imp id fun hh => hh.1 _ _ rfl) (show CellsRep cx 0 0 cs [a.eval x] from hx)
    have e' : f = 0 := e
    subst e'
    exact ⟨h1, h2⟩
  · rename_i cs e
    obtain ⟨vs, hv, hr⟩ := hx
    obtain ⟨h1, h2⟩ := h.lentRow hF (rest := rest) hp (hno rfl) (hlc.imp id fun hh => hh.1 _ _ rfl) hr
    have e' : f = 1 := e
    subst e'
    exact ⟨h1, vs, hv, h2⟩
  · rename_i e
    have e' : f = 7 := e
    subst e'
    split at hp
    · rename_i ek hk
      obtain rfl := Option.some.inj hp
      have hk' : ks = [.sl ek] := hk
      subst hk'
      have hr : CellsRep cx 0 0 [.v (.slice none 0 0)] [a.eval x] := hx
      exact ⟨rfl, ⟨ek, rfl⟩, hr.2.2 0 _ _ rfl rfl⟩
    · cases hp
  · rename_i cs n e
    obtain ⟨b, off, vs, hv, h0, hw, hFb, hm, hr⟩ := hx
    have hno' : ∀ c ∈ cs, isOwn c = false := fun c hc => by have := List.all_eq_true.1 hw c hc; simpa using this
    have e' : f = 2 := e
    subst e'
    obtain ⟨g1, g2, g3⟩ := packCells_get hp
    have hrc := hr.cut (d' := 0) (off' := 0) hno' n ks.length
    have hFn : ∀ b, ¬ Forb cx b → ¬ F b := fun b hb hf => by
      rcases hF with h1 | h1
      · exact h1 b hf
      · exact hb (h1 b hf)
    refine ⟨g2, b, off + n, cut vs n ks.length, hv, h0k, hFn b hFb, fun j u hj => ?_, by rw [← hrc.1]; exact g1, fun j k u hk hu => ?_⟩
    · simp only [cut, List.getElem?_take, List.getElem?_drop] at hj
      split at hj
      · rw [Nat.add_assoc]; exact hm _ u hj
      · cases hj
    · have hj : j < (takeAt cs n ks.length).length := by rw [hrc.1]; exact (List.getElem?_eq_some_iff.1 hu).1
      have hcj := List.getElem?_eq_getElem hj
      have hjd : j < ds.length := by rw [g2]; exact (List.getElem?_eq_some_iff.1 hk).1
      have hd : (ds ++ rest).getD j .j = ds.getD j .j := by rw [List.getD_eq_getElem?_getD, List.getElem?_append_left hjd, List.getD_eq_getElem?_getD]
      rw [hd, ← h.P]
      exact (packCell_rep (g3 j k _ hk hcj) (takeAt_noOwn hno' _ _ _ (List.getElem_mem hj)) (hrc.2.2 j _ u hcj hu)).weaken hFn
  · rename_i d n e
    have e' : f = 2 := e
    subst e'
    rcases hlc with hF0 | hlc
    · obtain ⟨b, hb, hv⟩ := hx
      have hs := h.slots d
      split at hp
      · rename_i ow cs hg
        rw [hg] at hs
        obtain ⟨b', vs, t', _, h1, h2, h3, hr⟩ := hs
        obtain rfl := Option.some.inj (hb.symm.trans h1)
        have hr' : CellsRep cx d 0 (refsOf d cs 0) vs := hr.refs
        have hrc := hr'.cut (d' := 0) (off' := 0) (refsOf_noOwn d cs 0) n ks.length
        have hp' : packCells ks ((takeAt (refsOf d cs 0) n ks.length).map (res (get st))) = some ds := by
          rw [← hp]; congr 1
          apply List.ext_getElem?
          intro j
          simp only [takeAt, List.getElem?_map, List.getElem?_take, List.getElem?_drop]
          by_cases hj : j < ks.length
          · rw [if_pos hj, if_pos hj]
            cases hc : cs[n + j]? with
            | none =>
              have : (refsOf d cs 0)[n + j]? = none := by
                rw [List.getElem?_eq_none_iff, refsOf_length]; exact List.getElem?_eq_none_iff.1 hc
              rw [this]
            | some c =>
              have hlt : n + j < (refsOf d cs 0).length := by rw [refsOf_length]; exact (List.getElem?_eq_some_iff.1 hc).1
              obtain ⟨c0, hc0, hc1⟩ := refsOf_get d cs 0 (n + j) _ (List.getElem?_eq_getElem hlt)
              rw [hc] at hc0
              obtain rfl := Option.some.inj hc0
              rw [List.getElem?_eq_getElem hlt, hc1]
              cases ho : isOwn c with
              | false => rfl
              | true =>
                simp only [cond_true, Option.map_some, Option.some.injEq, res, Nat.zero_add, hg, cellAt]
                rw [List.getD_eq_getElem?_getD, hc]
                cases c with
                | sl ow' e1 xs1 => cases ow' with
                  | zero => simp [isOwn] at ho
                  | succ q => rfl
                | _ => simp [isOwn] at ho
          · rw [if_neg hj, if_neg hj]
        obtain ⟨g1, g2⟩ := h.lentRow (.inl hF0) (rest := rest) hp' (takeAt_noOwn (refsOf_noOwn d cs 0) _ _) (.inl hF0) hrc
        refine ⟨g1, b, n, cut vs n ks.length, hv, h0k, hF0 b, fun j u hj => ?_, g2⟩
        rw [cell_of_row cx.w b _ vs.toArray t' (0, 0) h3]
        simp only [cut, List.getElem?_take, List.getElem?_drop] at hj
        split at hj
        · simpa using hj
        · cases hj
      · cases hp
    · exact absurd rfl (hlc.2.1 d n)
  · rename_i d j i n e
    have e' : f = 2 := e
    subst e'
    rcases hlc with hF0 | hlc
    · obtain ⟨e', b, n', c, hpl, hi0, hin, hv⟩ := hx
      split at hp
      · rename_i ow e1 xs hca
        obtain ⟨v, h1, h2, _, _⟩ := h.place hca
        obtain ⟨rfl, rfl⟩ := Prod.mk.inj (Option.some.inj (hpl.symm.trans h1))
        obtain ⟨hn, vs, hl', hm, hr⟩ := own_row h2 i.toNat (by omega)
        have hP := h.P
        rw [hP] at hl' hm hr hv
        have hrc : CellsRep cx 0 0 (takeAt (rowCells (kinds E.P e') (xs.getD i.toNat []) 0) n ks.length) (cut vs n ks.length) := (rowCells_rep hl' (by rw [hP]; exact hr) 0).cut (rowCells_noOwn _ _ _) _ _
        obtain ⟨g1, g2, g3⟩ := packCells_get hp
        refine ⟨g2, b, _, cut vs n ks.length, hv, h0k, hF0 b, fun j' u hj => ?_, by rw [← hrc.1]; exact g1, fun j' k u hk hu => ?_⟩
        · simp only [cut, List.getElem?_take, List.getElem?_drop] at hj
          split at hj
          · rw [Nat.add_assoc]; exact hm _ u hj
          · cases hj
        · have hj : j' < (takeAt (rowCells (kinds E.P e') (xs.getD i.toNat []) 0) n ks.length).length := by rw [hrc.1]; exact (List.getElem?_eq_some_iff.1 hu).1
          have hcj := List.getElem?_eq_getElem hj
          have hjd : j' < ds.length := by rw [g2]; exact (List.getElem?_eq_some_iff.1 hk).1
          have hd : (ds ++ rest).getD j' .j = ds.getD j' .j := by rw [List.getD_eq_getElem?_getD, List.getElem?_append_left hjd, List.getD_eq_getElem?_getD]
          rw [hd, ← h.P]
          exact (packCell_rep (g3 j' k _ hk hcj) (takeAt_noOwn (rowCells_noOwn _ _ _) _ _ _ (List.getElem_mem hj)) (hrc.2.2 j' _ u hcj hu)).weaken fun b _ => hF0 b
      · cases hp
    · exact absurd rfl (hlc.2.2 d j i n)
  · rename_i f' n e
    have e' : f = f' + 10 := e
    subst e'
    split at hp
    · rename_i hk
      have hk' : ks = [.bool] := hk
      subst hk'
      cases hb : Nat.beq n f' with
      | false => rw [hb] at hp; cases hp
      | true =>
        rw [hb] at hp
        obtain rfl := Option.some.inj hp
        obtain rfl := Nat.eq_of_beq_eq_true hb
        exact ⟨rfl, rfl, hx⟩
    · cases hp
  · cases hp
theorem Rel.packArgs_rep (h : Rel E w0 X st a cx) {F : Nat → Prop} (hF : (∀ b, ¬ F b) ∨ ∀ b, F b → Forb cx b) : ∀ {ps : List (Nat × List K)} {xs : List Operand} {ds : List D}, ((∀ b, ¬ F b) ∨ xs.any (lends (get st)) = false) → packArgs E (get st) ps xs = some ds → ArgsRep E.P cx.w F ps ds (xs.map a.eval)
  | [], [], ds, _, _ => trivial
  | [], _ :: _, _, _, hp => by cases hp
  | _ :: _, [], _, _, hp => by cases hp
  | p :: ps, x :: xs, ds, hl, hp => by
    simp only [packArgs] at hp
    split at hp
    · rename_i d ds' h1 h2
      obtain rfl := Option.some.inj hp
      cases h0 : Nat.beq p.2.length 0 with
      | true => rw [h0] at h1; cases h1
      | false =>
        rw [h0, cond_false] at h1
        have hpos : 0 < p.2.length := Nat.pos_of_ne_zero fun e => by rw [e] at h0; cases h0
        obtain ⟨g1, g2⟩ := h.packArg_rep hF (hl.imp id fun hh => by rw [List.any_cons, Bool.or_eq_false_iff] at hh; exact hh.1) h1 hpos ds'
        refine ⟨g2, ?_⟩
        rw [← g1, List.drop_left]
        exact h.packArgs_rep hF (hl.imp id fun hh => by rw [List.any_cons, Bool.or_eq_false_iff] at hh; exact hh.2) h2
    · cases hp
/-! ### What comes back -/
theorem CellsRep.imp {cx1 cx2 : Cx} {d1 d2 off : Nat} {cs : List Cell} {vs : List Value} (h : CellsRep cx1 d1 off cs vs) (hi : ∀ j c u, c ∈ cs → CellRep cx1 d1 j c u → CellRep cx2 d2 j c u) : CellsRep cx2 d2 off cs vs :=
  ⟨h.1, h.2.1, fun j c v h1 h2 => hi _ _ _ (List.mem_of_getElem? h1) (h.2.2 j c v h1 h2)⟩
theorem PartsRep.imp {cx1 cx2 : Cx} {d1 d2 : Nat} : ∀ {ps : List (Bool × List Cell)} {off : Nat} {vs : List Value}, PartsRep cx1 d1 off ps vs → (∀ j c u, (∃ p ∈ ps, c ∈ p.2) → CellRep cx1 d1 j c u → CellRep cx2 d2 j c u) → PartsRep cx2 d2 off ps vs
  | [], _, [], _, _ => trivial
  | [], _, _ :: _, h, _ => by simp [PartsRep] at h
  | p :: ps, _, [], h, _ => by obtain ⟨a, cs⟩ := p; cases a <;> simp [PartsRep] at h
  | (true, cs) :: ps, off, v :: vs, h, hi => by
    obtain ⟨⟨ws, rfl, hc⟩, hr⟩ := h
    exact ⟨⟨ws, rfl, hc.imp fun j c u hm => hi j c u ⟨_, List.mem_cons_self .., hm⟩⟩, hr.imp fun j c u ⟨p, hp, hm⟩ => hi j c u ⟨p, List.mem_cons_of_mem _ hp, hm⟩⟩
  | (false, cs) :: ps, off, v :: vs, h, hi => by
    obtain ⟨hc, hr⟩ := h
    exact ⟨hc.imp fun j c u hm => hi j c u ⟨_, List.mem_cons_self .., hm⟩, hr.imp fun j c u ⟨p, hp, hm⟩ => hi j c u ⟨p, List.mem_cons_of_mem _ hp, hm⟩⟩
theorem cellsR_get : ∀ (ks : List (K × Nat)) (ds : List D) (i j : Nat) (c : Cell), (cellsR ks ds i)[j]? = some c → ∃ k, ks[j]? = some k ∧ c = cellR k (ds.getD (i + j) .j)
  | [], _, _, j, c, h => by simp [cellsR] at h
  | k :: ks, ds, i, 0, c, h => ⟨k, rfl, by simpa [cellsR, eq_comm] using h⟩
  | k :: ks, ds, i, j + 1, c, h => by
    obtain ⟨k', h1, h2⟩ := cellsR_get ks ds (i + 1) j c (by simpa [cellsR] using h)
    exact ⟨k', by simpa using h1, by rw [h2, show i + 1 + j = i + (j + 1) by omega]⟩
theorem cellsR_length : ∀ (ks : List (K × Nat)) (ds : List D) (i : Nat), (cellsR ks ds i).length = ks.length
  | [], _, _ => rfl
  | k :: ks, ds, i => by simp [cellsR, cellsR_length ks]
theorem partsR_mem : ∀ {rt : List (Bool × List (K × Nat))} {ds : List D} {i : Nat} {p : Bool × List Cell}, p ∈ partsR rt ds i → ∃ q ∈ rt, ∃ i', p = (q.1, cellsR q.2 ds i')
  | [], _, _, _, h => by simp [partsR] at h
  | (a, ks) :: rt, ds, i, p, h => by
    rcases List.mem_cons.1 h with rfl | h
    · exact ⟨(a, ks), List.mem_cons_self .., i, rfl⟩
    · obtain ⟨q, hq, i', e⟩ := partsR_mem h
      exact ⟨q, List.mem_cons_of_mem _ hq, i', e⟩
theorem AVRep.impR {cx1 cx2 : Cx} {d1 d2 : Nat} {rt : List (Bool × List (K × Nat))} {ds : List D} {v : Value} (h : AVRep cx1 d1 (mkR rt ds) v)
    (hi : ∀ j k dt u, (∃ q ∈ rt, k ∈ q.2) → CellRep cx1 d1 j (cellR k dt) u → CellRep cx2 d2 j (cellR k dt) u) : AVRep cx2 d2 (mkR rt ds) v := by
  have hi' : ∀ j c u, (∃ p ∈ partsR rt ds 0, c ∈ p.2) → CellRep cx1 d1 j c u → CellRep cx2 d2 j c u := by
    rintro j c u ⟨p, hp, hc⟩
    obtain ⟨q, hq, i', rfl⟩ := partsR_mem hp
    obtain ⟨n, hn⟩ := List.mem_iff_getElem?.1 hc
    obtain ⟨k, hk, rfl⟩ := cellsR_get _ _ _ _ _ hn
    exact hi j k _ u ⟨q, hq, List.mem_of_getElem? hk⟩
  unfold mkR at h ⊢
  split at h
  · rename_i a cs e
    cases a with
    | true => obtain ⟨vs, rfl, hc⟩ := h; exact ⟨vs, rfl, hc.imp fun j c u hm => hi' j c u ⟨(true, cs), by rw [e]; simp, hm⟩⟩
    | false =>
      have hc : CellsRep cx1 d1 0 cs [v] := h
      exact hc.imp fun j c u hm => hi' j c u ⟨(false, cs), by rw [e]; simp, hm⟩
  · obtain ⟨vs, rfl, hp⟩ := h
    exact ⟨vs, rfl, hp.imp fun j c u ⟨p, hp, hm⟩ => hi' j c u ⟨p, hp, hm⟩⟩
theorem RepD.flat {P : Program} {w w' : World} {F F' : Nat → Prop} {k : K} {d : D} {v : Value} (hk : isSl k = false) (h : RepD P w F k d v) : RepD P w' F' k d v := by
  cases h with
  | int k d => exact .int k d
  | bool d => exact .bool d
  | str d => exact .str d
  | _ => cases hk
/-- What comes back, told in the caller's context. -/
theorem res_new {P : Program} {rt : List (Bool × List (K × Nat))} {t : List D} {v : Value} {w' : World} {own : Nat → Option Nat} {pl'} {N : Nat → Prop} (hP : cx.P = P) (hb : Below cx.w.heap.size cx.w w') (hfl : flagsOk rt = true)
    (hN : shares P rt = true → ∀ b, Forb cx b → N b) (hown : ∀ b j, own b = some j → cx.w.heap.size ≤ b ∧ b < w'.heap.size) (hr : AVRep (cxr P w' own N pl') 0 (mkR rt t) v) : New cx w' (mkR rt t) v := by
  have hF : shares P rt = true → ∀ b, ¬ Forb (cxr P w' own N pl') b → ∀ d pl'', ¬ Forb (cxd cx w' own d pl'' none) b := by
    intro hs b hf d pl'' hf'
    apply hf
    rcases hf' with h | ⟨p, hp⟩
    · exact .inl (hN hs b (.inl h))
    · cases ho : own b with
      | none => simp only [cxd, ho] at hp; exact .inl (hN hs b (.inr ⟨p, hp⟩))
      | some j => exact .inr ⟨(0, j), by simp [cxr, ho]⟩
  have hsl : ∀ {e : TypeId} {n : Nat}, (∃ q ∈ rt, (K.sl e, n) ∈ q.2) → shares P rt = false → n ≠ 0 ∧ (kinds P e).any isSl = false := by
    rintro e n ⟨q, hq, hk⟩ hs
    have h1 := List.any_eq_false.1 hs q hq
    have h2 := List.any_eq_false.1 (Bool.not_eq_true _ ▸ h1 : (q.2.any _) = false) (K.sl e, n) hk
    dsimp only at h2
    rw [Bool.or_eq_true, not_or] at h2
    exact ⟨(fun e0 => by subst e0; exact h2.1 rfl), by simpa using h2.2⟩
  have howner : ∀ {e : TypeId} {n : Nat}, (∃ q ∈ rt, (K.sl e, n) ∈ q.2) → n ≠ 0 → owner (mkR rt t) = true := by
    rintro e n ⟨q, hq, hkq⟩ hn0
    have hmem : ∀ {rt : List (Bool × List (K × Nat))} {i : Nat}, q ∈ rt → ∃ p ∈ partsR rt t i, p.2.any isOwn = true := by
      intro rt
      induction rt with
      | nil => intro i hq; simp at hq
      | cons r rt ih =>
        intro i hq
        obtain ⟨ag, ks⟩ := r
        rcases List.mem_cons.1 hq with rfl | hq
        · refine ⟨_, List.mem_cons_self .., ?_⟩
          rw [List.any_eq_true]
          obtain ⟨m, hm⟩ := List.mem_iff_getElem?.1 hkq
          have hlt : m < (cellsR ks t i).length := by rw [cellsR_length]; exact (List.getElem?_eq_some_iff.1 hm).1
          obtain ⟨k', hk', e'⟩ := cellsR_get ks t i m _ (List.getElem?_eq_getElem hlt)
          have hm' : ks[m]? = some (K.sl e, n) := hm
          rw [hm'] at hk'
          obtain rfl := Option.some.inj hk'
          refine ⟨_, List.getElem_mem hlt, ?_⟩
          rw [e']
          cases n with
          | zero => exact absurd rfl hn0
          | succ n => rfl
        · obtain ⟨p, hp, ho⟩ := ih (i := i + ks.length) hq
          exact ⟨p, List.mem_cons_of_mem _ hp, ho⟩
    obtain ⟨p, hp, hpo⟩ := hmem (i := 0) hq
    unfold mkR
    split
    · rename_i a cs e'
      rw [e'] at hp
      obtain rfl := List.mem_singleton.1 hp
      exact hpo
    · exact List.any_eq_true.2 ⟨p, hp, hpo⟩
  refine ⟨hb, fun ho d => ?_, fun ho => ⟨own, hown, fun d => ⟨pl', none, (AVRep.forget (AVRep.impR hr ?_) d)⟩⟩⟩
  · refine hr.impR fun j k dt u hk hc => ?_
    obtain ⟨k, n⟩ := k
    cases k with
    | int _ => exact hc
    | bool => exact hc
    | str => exact hc
    | sl e =>
      cases hs : shares P rt with
      | true =>
        cases n with
        | zero =>
          have hc' : RepD P w' (Forb (cxr P w' own N pl')) (.sl e) (.l dt.rows) u := hc
          show RepD cx.P w' _ (.sl e) (.l dt.rows) u
          rw [hP]
          refine hc'.weaken fun b hf hf' => hf ?_
          exact .inl (hN hs b hf')
        | succ n =>
          rw [howner hk (by omega)] at ho; cases ho
      | false => rw [howner hk (hsl hk hs).1] at ho; cases ho
  · intro j k dt u hk hc
    obtain ⟨k, n⟩ := k
    cases k with
    | int _ => exact hc
    | bool => exact hc
    | str => exact hc
    | sl e =>
      cases n with
      | zero =>
        cases hs : shares P rt with
        | false => exact absurd rfl (hsl hk hs).1
        | true =>
          have hc' : RepD P w' (Forb (cxr P w' own N pl')) (.sl e) (.l dt.rows) u := hc
          show RepD cx.P w' _ (.sl e) (.l dt.rows) u
          rw [hP]
          exact hc'.weaken fun b hf => hF hs b hf d pl'
      | succ n =>
        have hn0 : n = 0 := by
          obtain ⟨q, hq, hkq⟩ := hk
          have h1 := List.all_eq_true.1 hfl q hq
          have h2 := List.all_eq_true.1 h1 (K.sl e, n + 1) hkq
          have := Nat.le_of_ble_eq_true h2
          omega
        subst hn0
        obtain ⟨h1, h2, h3, h4⟩ := hc
        refine ⟨?_, ?_, fun b hb' => ?_, fun hh => absurd rfl hh⟩
        · show Owns cx.P w' _ e dt.rows u
          rw [hP]
          obtain ⟨m0, flat, hf, hrr⟩ := h1
          refine ⟨m0, flat, hf, fun i j k hi hk' => ?_⟩
          obtain ⟨u', g1, g2⟩ := hrr i j k hi hk'
          refine ⟨u', g1, ?_⟩
          cases hs : shares P rt with
          | true => exact g2.weaken fun b hf => hF hs b hf d pl'
          | false =>
            have := List.any_eq_false.1 (hsl hk hs).2 k (List.mem_of_getElem? hk')
            exact g2.flat (by simpa using this)
        · have : pl' j = some (e, u) := by simpa [cxr] using h2
          simp [cxd, this]
        · have := h3 b hb'
          simp only [cxr, Option.map_eq_some_iff, Prod.mk.injEq] at this
          obtain ⟨q, hq, _, rfl⟩ := this
          simp [cxd, hq]
end
end Go.Proofs.YtpggnjmmpkdkjaaGreat.Ev
