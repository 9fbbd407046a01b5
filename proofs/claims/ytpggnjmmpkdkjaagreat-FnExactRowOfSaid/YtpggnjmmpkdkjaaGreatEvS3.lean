/- The evaluator's quiet operations are what the model runs: pointers, loads, fields, arithmetic. No condition. -/
import Derived.Test.YtpggnjmmpkdkjaaGreatEvS2
import Derived.Laws.Strings
import Derived.Laws.Slices
import Derived.Laws.StructEq
import Derived.Laws.Entries
import Derived.Laws.Rows
import Derived.WalkKit
namespace Go.Proofs.YtpggnjmmpkdkjaaGreat.Ev
open Go Go.RowKit
set_option linter.unusedVariables false
set_option linter.unusedSimpArgs false
def Does (P : Program) (o : Oper) (a : Act) (w : World) (Post : Value → World → Prop) : Prop :=
  (∃ v w', (execOp a.eval o).run P w = .ok (.value v) w' ∧ Post v w') ∨
  (∃ f args, (execOp a.eval o).run P w = .ok (.enter f args) w ∧ Calls P f args w fun e w' => ∃ v, e = .returned v ∧ Post v w')
theorem Does.wp {P : Program} {o : Oper} {a : Act} {w : World} {Post : Value → World → Prop} {next : Act → World → Prop} {Q : Exit → Act → World → Prop} (h : Does P o a w Post) (hn : ∀ v w', Post v w' → next (a.put o.dst v) w') : o.wp P a w next Q := by
  unfold Oper.wp
  rcases h with ⟨v, w', hr, hp⟩ | ⟨f, args, hr, hc⟩
  · rw [hr]; exact hn v w' hp
  · rw [hr]
    refine hc.mono ?_
    rintro e w' ⟨v, rfl, hp⟩
    exact hn v w' hp
section
variable {E : Env} {w0 : World} {X : Nat → Prop} {st : St} {a : Act} {cx : Cx} {o : Oper} {av : AV}
abbrev Goal (E : Env) (o : Oper) (a : Act) (cx : Cx) (av : AV) : Prop := Does E.P o a cx.w fun v w' => New cx w' av v
theorem Goal.same {v : Value} (hr : (execOp a.eval o).run E.P cx.w = .ok (.value v) cx.w) (hv : ∀ d, AVRep cx d av v) (ho : owner av = false) : Goal E o a cx av := .inl ⟨v, cx.w, hr, .of hv ho⟩
theorem mv_run {av av' : AV} (h : (mv av).run = some av') : av = av' := by
  cases av <;> simp [mv, Br.run] at h <;> exact h
theorem Rel.q_move (h : Rel E w0 X st a cx) (x : Operand) (ho : o.op = .move x ∨ o.op = .assign x) (hav : (mv (Ev.opnd E (get st) x)).run = some av) : Goal E o a cx av := by
  rw [← mv_run hav]
  refine Goal.same (v := a.eval x) ?_ (fun d => h.opnd d x) (opnd_noOwner E _ h.glob x)
  rcases ho with e | e <;> simp only [execOp, e] <;> rfl
theorem Rel.q_pick (h : Rel E w0 X st a cx) (c x y : Operand) (ho : o.op = .pick c x y) {t : Bool} (hc : plainV (Ev.opnd E (get st) c) = some (.bool t)) (hav : (Br.br t (mv (Ev.opnd E (get st) x)) (mv (Ev.opnd E (get st) y))).run = some av) : Goal E o a cx av := by
  have hcv := h.plain hc
  have hrun : (execOp a.eval o).run E.P cx.w = .ok (.value (if t then a.eval x else a.eval y)) cx.w := by
    simp only [execOp, ho, hcv, asBool, Sem.run_bind, Sem.run_pure, Result.andThen_ok]
  cases t with
  | true =>
    simp only [Br.run, cond_true] at hav
    rw [← mv_run hav]
    exact Goal.same hrun (fun d => h.opnd d x) (opnd_noOwner E _ h.glob x)
  | false =>
    simp only [Br.run, cond_false] at hav
    rw [← mv_run hav]
    exact Goal.same hrun (fun d => h.opnd d y) (opnd_noOwner E _ h.glob y)
/-! ### New variables -/
theorem Below.one (w : World) (ob : Obj) : Below w.heap.size w (w.alloc ob) := (Below.refl _ _).alloc (Nat.le_refl _) ob
theorem newBlock_own {w : World} {ob : Obj} {b j q : Nat} (hj : (if b = w.heap.size then some q else none) = some j) : w.heap.size ≤ b ∧ b < (w.alloc ob).heap.size := by
  split at hj
  · rename_i e; subst e; simp
  · cases hj
theorem newBox {cs : List Cell} {vs : List Value} (hr : ∀ d, CellsRep cx d 0 cs vs) (hno : ∀ c ∈ cs, isOwn c = false) (t : TypeId) :
    New cx (cx.w.alloc (.cells vs.toArray t (0, 0))) (.box true cs) (.pointer (some ⟨cx.w.heap.size, 0, none⟩)) := by
  have hb := Below.one cx.w (.cells vs.toArray t (0, 0))
  refine ⟨hb, fun h => by simp [owner] at h, fun _ => ⟨fun b => if b = cx.w.heap.size then some 0 else none, fun b j hj => ?_, fun d => ⟨fun _ => none, some cx.w.heap.size, cx.w.heap.size, vs, t, rfl, ?_, ?_, ?_, ?_⟩⟩⟩
  · exact newBlock_own hj
  · simp [cxd]
  · simp [cxd]
  · exact heap_alloc_new cx.w _
  · have h1 : CellsRep cx d 0 (cs.map (forgetC d)) vs := (hr d).map _ (forgetC_or d)
    refine h1.change (Ch.cxd hb (own := fun b => if b = cx.w.heap.size then some 0 else none) (fun b j hj => newBlock_own hj) d _ _) (avoid_cells d cs) (fun j c hj ho => ?_)
    exfalso
    rw [List.getElem?_map] at hj
    obtain ⟨c0, h0, rfl⟩ := Option.map_eq_some_iff.1 hj
    rw [forgetC_own, hno c0 (List.mem_of_getElem? h0)] at ho; cases ho
theorem vcells_rep (cx : Cx) (d off : Nat) {vs : List Value} (h : vs.all Value.oneCell' = true) : CellsRep cx d off (vs.map .v) vs :=
  ⟨by simp, fun v hv => List.all_eq_true.1 h v hv, fun j c v h1 h2 => by
    rw [List.getElem?_map, h2] at h1
    obtain rfl := Option.some.inj h1; rfl⟩
theorem vcells_noOwn (vs : List Value) : ∀ c ∈ vs.map Cell.v, isOwn c = false := by
  intro c hc; obtain ⟨x, _, rfl⟩ := List.mem_map.1 hc; rfl
theorem zero_spec {E : Env} {e : TypeId} {cs : List Cell} (h : zeroCellsA E e = some cs) : ∃ i z, E.P.info? e = some i ∧ i.zero = some z ∧ z.cells.toList.all Value.oneCell' = true ∧ cs = z.cells.toList.map .v := by
  unfold zeroCellsA at h
  split at h
  · rename_i i hi
    split at h
    · rename_i z hz
      cases hc : z.cells.toList.all Value.oneCell' with
      | false => rw [hc] at h; cases h
      | true => rw [hc] at h; exact ⟨i, z, hi, hz, hc, (Option.some.inj h).symm⟩
    · cases h
  · cases h
theorem Rel.q_alloc (h : Rel E w0 X st a cx) (e : TypeId) (ho : o.op = .alloc e) {cs : List Cell} (hz : zeroCellsA E e = some cs) : Goal E o a cx (.box true cs) := by
  obtain ⟨i, z, hi, hzz, hall, rfl⟩ := zero_spec hz
  refine .inl ⟨_, _, ?_, newBox (fun d => vcells_rep cx d 0 hall) (vcells_noOwn _) e⟩
  simp [execOp, ho, Instr.alloc, zeroValue, typeInfo, program, hi, hzz, newVar, newRow, newObj, Sem.run]
theorem cellsOf_rep {v : Value} {cs : List Cell} (hc : cellsOf av = some cs) (hr : ∀ d, AVRep cx d av v) : ∃ vs : List Value, v.cells = vs.toArray ∧ ∀ d, CellsRep cx d 0 cs vs := by
  cases av with
  | p ag cs' =>
    obtain rfl := Option.some.inj hc
    cases ag with
    | true =>
      obtain ⟨vs, rfl, _⟩ := hr 0
      refine ⟨vs, rfl, fun d => ?_⟩
      obtain ⟨vs', e, h'⟩ := hr d
      have : vs' = vs := by simpa [eq_comm] using e
      exact this ▸ h'
    | false =>
      refine ⟨[v], ?_, hr⟩
      have h1 : v.oneCell' = true := (hr 0).2.1 v (by simp)
      cases v <;> simp [Value.oneCell'] at h1 <;> rfl
  | _ => cases hc
theorem opnd_cells_noOwn (E : Env) (g : Nat → AV) {p : Prop} (hg : p) (x : Operand) {cs : List Cell} (hc : cellsOf (Ev.opnd E g x) = some cs) : ∀ c ∈ cs, isOwn c = false := by
  have h1 := (noOwner_cells (opnd_noOwner E g hg x)).1
  cases hx : Ev.opnd E g x with
  | p ag cs' => rw [hx] at hc h1; obtain rfl := Option.some.inj hc; exact h1
  | _ => rw [hx] at hc; cases hc
theorem Rel.q_box (h : Rel E w0 X st a cx) (e : TypeId) (x : Operand) (ho : o.op = .box e x) {cs : List Cell} (hc : cellsOf (Ev.opnd E (get st) x) = some cs) : Goal E o a cx (.box true cs) := by
  obtain ⟨vs, hv, hr⟩ := cellsOf_rep hc (fun d => h.opnd d x)
  refine .inl ⟨_, _, ?_, newBox hr (opnd_cells_noOwn E _ h.glob x hc) e⟩
  simp [execOp, ho, Instr.box, newVar, newRow, newObj, Sem.run, hv]
/-! ### Pointers -/
theorem Rel.q_nilCheck (h : Rel E w0 X st a cx) (x : Operand) (ho : o.op = .nilCheck x) (hp : (∃ d i, Ev.opnd E (get st) x = .pat d i) ∨ (∃ d j i n, Ev.opnd E (get st) x = .pel d j i n) ∨ (∃ cs i, Ev.opnd E (get st) x = .ro cs i)) (hav : Ev.opnd E (get st) x = av) : Goal E o a cx av := by
  subst hav
  have hptr : ∃ ad, a.eval x = .pointer (some ad) := by
    have h1 := h.opnd 0 x
    rcases hp with ⟨d, i, e⟩ | ⟨d, j, i, n, e⟩ | ⟨cs, i, e⟩ <;> rw [e] at h1
    · obtain ⟨b, _, e2⟩ := h1; exact ⟨_, e2⟩
    · obtain ⟨e', b, n', c', _, _, _, e2⟩ := h1; exact ⟨_, e2⟩
    · obtain ⟨b, off, vs, e2, _⟩ := h1; exact ⟨_, e2⟩
  obtain ⟨ad, had⟩ := hptr
  refine Goal.same (v := a.eval x) ?_ (fun d => h.opnd d x) (opnd_noOwner E _ h.glob x)
  simp [execOp, ho, had]
theorem field_spec {E : Env} {s : TypeId} {f : Nat} {fd : Field} (h : fieldP E s f = some fd) : ∃ fs, E.P.underlying s = some (.struct fs) ∧ fs[f]? = some fd ∧ sizeP E.P fd.type ≠ 0 := by
  unfold fieldP at h
  split at h
  · rename_i fs hfs
    split at h
    · rename_i fd' hf
      cases hz : Nat.beq (sizeP E.P fd'.type) 0 with
      | true => rw [hz] at h; cases h
      | false =>
        rw [hz] at h
        obtain rfl := Option.some.inj h
        exact ⟨fs, hfs, hf, fun e => by rw [e] at hz; cases hz⟩
    · cases h
  · cases h
theorem run_sizeOf {P : Program} {t : TypeId} (h : sizeP P t ≠ 0) (w : World) : (sizeOf t).run P w = .ok (sizeP P t) w := by
  unfold sizeP at h ⊢
  cases hi : P.info? t with
  | none => rw [hi] at h; simp at h
  | some i => simp [sizeOf, typeInfo, program, hi, Sem.run]
theorem addr_add (b o n : Nat) : (⟨b, o, none⟩ : Addr).add n = ⟨b, o + n, none⟩ := by
  unfold Addr.add; split
  · rename_i h; subst h; rfl
  · rfl
theorem run_fieldAt {P : Program} {s : TypeId} {fs : Array Field} {f : Nat} {fd : Field} (h1 : P.underlying s = some (.struct fs)) (h2 : fs[f]? = some fd) (h3 : sizeP P fd.type ≠ 0) (b n : Nat) (w : World) :
    (Instr.fieldAt s (.pointer (some ⟨b, n, none⟩)) f).run P w = .ok (.pointer (some ⟨b, n + fd.offset, none⟩)) w := by
  simp [Instr.fieldAt, run_underlying h1, h2, Instr.sureAddr, fieldPlace, run_sizeOf h3, h3, addr_add]
theorem Rel.q_fieldAddr (h : Rel E w0 X st a cx) (s : TypeId) (x : Operand) (f : Nat) (ho : o.op = .fieldAddr s x f) {fd : Field} (hf : fieldP E s f = some fd)
    (hp : (∃ d i, Ev.opnd E (get st) x = .pat d i ∧ av = .pat d (i + fd.offset)) ∨ (∃ d j i n, Ev.opnd E (get st) x = .pel d j i n ∧ av = .pel d j i (n + fd.offset)) ∨ (∃ cs i, Ev.opnd E (get st) x = .ro cs i ∧ av = .ro cs (i + fd.offset))) : Goal E o a cx av := by
  obtain ⟨fs, h1, h2, h3⟩ := field_spec hf
  have hrun : ∀ b n, a.eval x = .pointer (some ⟨b, n, none⟩) → (execOp a.eval o).run E.P cx.w = .ok (.value (.pointer (some ⟨b, n + fd.offset, none⟩))) cx.w := by
    intro b n e
    simp only [execOp, ho, e, Sem.run_bind, run_fieldAt h1 h2 h3, Result.andThen_ok, Sem.run_pure]
  rcases hp with ⟨d, i, e, rfl⟩ | ⟨d, j, i, n, e, rfl⟩ | ⟨cs, i, e, rfl⟩
  · obtain ⟨b, hb, e2⟩ := e ▸ h.opnd 0 x
    exact Goal.same (hrun b i e2) (fun _ => ⟨b, hb, rfl⟩) rfl
  · obtain ⟨e', b, n', c', hb, hi1, hi2, e2⟩ := e ▸ h.opnd 0 x
    exact Goal.same (hrun _ _ e2) (fun _ => ⟨e', b, n', c', hb, hi1, hi2, by simp [Nat.add_assoc]⟩) rfl
  · obtain ⟨b, off, vs, e2, h0, hw, hF, hm, hc⟩ := e ▸ h.opnd 0 x
    exact Goal.same (hrun _ _ e2) (fun d => ⟨b, off, vs, by simp [Nat.add_assoc], h0, hw, hF, hm, hc.moved fun c hc' => by have := List.all_eq_true.1 hw c hc'; simpa using this⟩) rfl
/-! ### Loads -/
theorem isAgg_run {P : Program} {t : TypeId} (h : knownP P t = true) (w : World) : (isAgg t).run P w = .ok (isAggP P t) w := by
  obtain ⟨d, hd⟩ := Option.isSome_iff_exists.1 h
  unfold isAggP
  simp only [isAgg, Sem.run_bind, run_underlying hd, Result.andThen_ok, hd]
  cases d <;> rfl
def cut (vs : List Value) (o n : Nat) : List Value := (vs.drop o).take n
theorem CellsRep.cut {d off d' off' : Nat} {cs : List Cell} {vs : List Value} (h : CellsRep cx d off cs vs) (hno : ∀ c ∈ cs, isOwn c = false) (o n : Nat) : CellsRep cx d' off' (takeAt cs o n) (cut vs o n) := by
  refine ⟨by simp [takeAt, Ev.cut, h.1], fun v hv => h.2.1 v (List.mem_of_mem_drop (List.mem_of_mem_take hv)), fun j c v h1 h2 => ?_⟩
  simp only [takeAt, Ev.cut, List.getElem?_take, List.getElem?_drop] at h1 h2
  split at h1
  · rename_i hj; rw [if_pos hj] at h2
    exact (h.2.2 (o + j) c v h1 h2).moved (hno c (List.mem_of_getElem? h1))
  · cases h1
theorem run_loadVar' {P : Program} {t : TypeId} {w : World} {b o : Nat} {vs : List Value} (hk : knownP P t = true) (hn : sizeP P t ≠ 0) (hl : vs.length = sizeP P t) (h1 : isAggP P t = false → sizeP P t = 1)
    (hm : ∀ j u, vs[j]? = some u → w.cell? ⟨b, o + j, none⟩ = some u) :
    ∃ v, (loadVar t ⟨b, o, none⟩).run P w = .ok v w ∧ ((isAggP P t = true ∧ v = .agg vs.toArray) ∨ (isAggP P t = false ∧ vs = [v])) := by
  cases ha : isAggP P t with
  | true =>
    refine ⟨.agg vs.toArray, ?_, .inl ⟨rfl, rfl⟩⟩
    have := run_loadCells_list (P := P) w ⟨b, o, none⟩ vs (fun j u hj => by rw [addr_add]; exact hm j u hj)
    simp only [loadVar, Sem.run_bind, isAgg_run hk, ha, Result.andThen_ok, if_true, run_sizeOf hn, ← hl, this, Sem.run_pure]
  | false =>
    have hl1 : vs.length = 1 := hl.trans (h1 ha)
    obtain ⟨v, rfl⟩ := List.length_eq_one_iff.1 hl1
    refine ⟨v, ?_, .inr ⟨rfl, rfl⟩⟩
    have h0 := hm 0 v rfl
    simp only [loadVar, Sem.run_bind, isAgg_run hk, ha, Result.andThen_ok]
    have h0' : w.cell? ⟨b, o, none⟩ = some v := h0
    simp [h0']
theorem fin_spec {cs : List Cell} {n : Nat} {ag kn : Bool} {av : AV} (h : (bif Nat.beq cs.length n && ((ag || Nat.beq n 1) && (kn && Nat.blt 0 n)) then Br.ret (AV.p ag cs) else Br.none).run = some av) :
    av = .p ag cs ∧ cs.length = n ∧ (ag = false → n = 1) ∧ kn = true ∧ n ≠ 0 := by
  cases hc : (Nat.beq cs.length n && ((ag || Nat.beq n 1) && (kn && Nat.blt 0 n))) with
  | false => rw [hc] at h; cases h
  | true =>
    rw [hc] at h
    simp only [Bool.and_eq_true, Bool.or_eq_true] at hc
    obtain ⟨h1, h2, h3, h4⟩ := hc
    refine ⟨(Option.some.inj h).symm, Nat.eq_of_beq_eq_true h1, fun e => ?_, h3, ?_⟩
    · rcases h2 with h2 | h2
      · rw [e] at h2; cases h2
      · exact Nat.eq_of_beq_eq_true h2
    · intro e; subst e; cases h4
theorem p_rep {ag : Bool} {cs : List Cell} {vs : List Value} {v : Value} (hv : (ag = true ∧ v = .agg vs.toArray) ∨ (ag = false ∧ vs = [v])) (hr : ∀ d, CellsRep cx d 0 cs vs) : ∀ d, AVRep cx d (.p ag cs) v := by
  intro d
  rcases hv with ⟨rfl, rfl⟩ | ⟨rfl, rfl⟩
  · exact ⟨vs, rfl, hr d⟩
  · exact hr d
theorem p_noOwner {ag : Bool} {cs : List Cell} (h : ∀ c ∈ cs, isOwn c = false) : owner (.p ag cs) = false := by
  simp only [owner, List.any_eq_false]; intro c hc; simp [h c hc]
theorem takeAt_noOwn {cs : List Cell} (h : ∀ c ∈ cs, isOwn c = false) (o n : Nat) : ∀ c ∈ takeAt cs o n, isOwn c = false := fun c hc => h c (List.mem_of_mem_drop (List.mem_of_mem_take hc))
theorem RepD.rows {P : Program} {w : World} {F : Nat → Prop} {e : TypeId} {d d' : D} {v : Value} (h : RepD P w F (.sl e) d v) (hr : d'.rows = d.rows) : RepD P w F (.sl e) d' v := by
  cases h with
  | fn _ _ he hk => exact .fn e d' he hk
  | clo _ _ b he hk hF hc => exact .clo e d' b he hk hF hc
  | nil _ _ a c h0 hk => exact .nil e d' a c (hr.trans h0) hk
  | sl _ _ b o c n vs hn h0 hm hF hc hrr hcp => exact .sl e d' b o c n vs (by rw [hr]; exact hn) h0 hm hF hc (by rw [hr]; exact hrr) hcp
theorem cellOf_rep {k : K} {d : D} {u : Value} (h : RepD cx.P cx.w (Forb cx) k d u) (t j : Nat) : CellRep cx t j (cellOf k d) u := by
  cases k with
  | int k => cases h; rfl
  | bool => cases h; rfl
  | str => cases h; rfl
  | sl e => exact h.rows rfl
theorem cellOf_noOwn (k : K) (d : D) : isOwn (cellOf k d) = false := by cases k <;> rfl
theorem rowCells_get : ∀ (ks : List K) (r : List D) (i j : Nat) (c : Cell), (rowCells ks r i)[j]? = some c → ∃ k, ks[j]? = some k ∧ c = cellOf k (r.getD (i + j) .j)
  | [], r, i, j, c, h => by simp [rowCells] at h
  | k :: ks, r, i, 0, c, h => ⟨k, rfl, by simpa [rowCells, eq_comm] using h⟩
  | k :: ks, r, i, j + 1, c, h => by
    obtain ⟨k', h1, h2⟩ := rowCells_get ks r (i + 1) j c (by simpa [rowCells] using h)
    exact ⟨k', by simpa using h1, by rw [h2, show i + 1 + j = i + (j + 1) by omega]⟩
theorem rowCells_length : ∀ (ks : List K) (r : List D) (i : Nat), (rowCells ks r i).length = ks.length
  | [], _, _ => rfl
  | k :: ks, r, i => by simp [rowCells, rowCells_length ks]
theorem rowCells_noOwn (ks : List K) (r : List D) (i : Nat) : ∀ c ∈ rowCells ks r i, isOwn c = false := by
  intro c hc
  obtain ⟨j, hj⟩ := List.mem_iff_getElem?.1 hc
  obtain ⟨k, _, rfl⟩ := rowCells_get ks r i j c hj
  exact cellOf_noOwn _ _
theorem rowCells_rep {ks : List K} {r : List D} {vs : List Value} (hl : vs.length = ks.length) (h : ∀ j k u, ks[j]? = some k → vs[j]? = some u → RepD cx.P cx.w (Forb cx) k (r.getD j .j) u) (d : Nat) : CellsRep cx d 0 (rowCells ks r 0) vs := by
  refine ⟨by rw [rowCells_length, hl], fun v hv => ?_, fun j c v h1 h2 => ?_⟩
  · obtain ⟨j, hj⟩ := List.mem_iff_getElem?.1 hv
    have hlt : j < ks.length := by have := (List.getElem?_eq_some_iff.1 hj).1; omega
    exact (h j _ v (List.getElem?_eq_getElem hlt) hj).one
  · obtain ⟨k, hk, rfl⟩ := rowCells_get ks r 0 j c h1
    rw [Nat.zero_add]
    exact cellOf_rep (h j k v hk h2) d _
/-- What lies in a row of the call's own. -/
theorem own_row {P : Program} {w : World} {F : Nat → Prop} {e : TypeId} {xs : List (List D)} {b n c : Nat} (h : Owns P w F e xs (.slice (some ⟨b, 0, none⟩) n c)) (i : Nat) (hi : i < n) :
    n = xs.length ∧ ∃ vs : List Value, vs.length = (kinds P e).length ∧ (∀ j u, vs[j]? = some u → w.cell? ⟨b, i * (kinds P e).length + j, none⟩ = some u) ∧ ∀ j k u, (kinds P e)[j]? = some k → vs[j]? = some u → RepD P w F k ((xs.getD i []).getD j .j) u := by
  obtain ⟨_, flat, hf, hr⟩ := h
  rcases hf.2 with ⟨h0, _⟩ | ⟨g, cap, cur, he, hg, hh, hnc, hcm, hsz, htake⟩
  · cases h0
  · cases he
    refine ⟨rfl, (flat.drop (i * (kinds P e).length)).take (kinds P e).length, ?_, fun j u hj => ?_, fun j k u hk hu => ?_⟩
    · have h1 : i * (kinds P e).length + (kinds P e).length ≤ xs.length * (kinds P e).length := by
        rw [← Nat.succ_mul]; exact Nat.mul_le_mul_right _ hi
      rw [List.length_take, List.length_drop, hf.1]; omega
    · have hjl : j < (kinds P e).length := by
        have := (List.getElem?_eq_some_iff.1 hj).1
        rw [List.length_take] at this; omega
      rw [List.getElem?_take, if_pos hjl, List.getElem?_drop] at hj
      rw [cell_of_row w b _ cur e (0, 0) hh]
      rw [← htake, List.getElem?_take] at hj
      split at hj
      · simpa using hj
      · cases hj
    · have hjl : j < (kinds P e).length := (List.getElem?_eq_some_iff.1 hk).1
      obtain ⟨u', h1, h2⟩ := hr i j k hi hk
      rw [List.getElem?_take, if_pos hjl, List.getElem?_drop] at hu
      rw [h1] at hu
      obtain rfl := Option.some.inj hu
      exact h2
/-- What a place tells of the slice that lies there. -/
theorem Rel.place (h : Rel E w0 X st a cx) {d j w : Nat} {e : TypeId} {xs : List (List D)} (hc : cellAt (get st d) j = .sl (w + 1) e xs) :
    ∃ v, cx.pl d j = some (e, v) ∧ Owns cx.P cx.w (Forb cx) e xs v ∧ (∀ b, v.ownBlock = some b → cx.O b = some (d, j + 1)) ∧ (w ≠ 0 → v = cx.A d) := by
  have hs := h.slots d
  have key : ∀ {cs : List Cell} {vs : List Value}, CellsRep cx d 0 cs vs → cs.getD j .u = .sl (w + 1) e xs → ∃ v, cx.pl d j = some (e, v) ∧ Owns cx.P cx.w (Forb cx) e xs v ∧ (∀ b, v.ownBlock = some b → cx.O b = some (d, j + 1)) ∧ (w ≠ 0 → v = cx.A d) := by
    intro cs vs hr hcj
    have hj : cs[j]? = some (.sl (w + 1) e xs) := by
      rw [List.getD_eq_getElem?_getD] at hcj
      cases hq : cs[j]? with
      | none => rw [hq] at hcj; cases hcj
      | some c => rw [hq] at hcj; exact congrArg some hcj
    have hlt : j < vs.length := hr.1 ▸ (List.getElem?_eq_some_iff.1 hj).1
    have := hr.2.2 j _ _ hj (List.getElem?_eq_getElem hlt)
    rw [Nat.zero_add] at this
    exact ⟨_, this.2.1, this.1, this.2.2.1, this.2.2.2⟩
  have parts : ∀ {ps : List (Bool × List Cell)} {off : Nat} {vs : List Value} {q : Nat}, PartsRep cx d off ps vs → (ps.flatMap (·.2))[q]? = some (.sl (w + 1) e xs) → ∃ v, cx.pl d (off + q) = some (e, v) ∧ Owns cx.P cx.w (Forb cx) e xs v ∧ (∀ b, v.ownBlock = some b → cx.O b = some (d, off + q + 1)) ∧ (w ≠ 0 → v = cx.A d) := by
    intro ps
    induction ps with
    | nil => intro off vs q _ hq; simp at hq
    | cons p ps ih =>
      intro off vs q hp hq
      obtain ⟨ag, cs⟩ := p
      obtain ⟨ws, hws, v', vs', rfl, hr⟩ : ∃ ws, CellsRep cx d off cs ws ∧ ∃ v' vs', vs = v' :: vs' ∧ PartsRep cx d (off + cs.length) ps vs' := by
        cases vs with
        | nil => cases ag <;> simp [PartsRep] at hp
        | cons v' vs' => cases ag with
          | true => obtain ⟨⟨ws, rfl, hc⟩, hr⟩ := hp; exact ⟨ws, hc, _, vs', rfl, hr⟩
          | false => obtain ⟨hc, hr⟩ := hp; exact ⟨[v'], hc, v', vs', rfl, hr⟩
      rw [List.flatMap_cons] at hq
      by_cases hlt : q < cs.length
      · rw [List.getElem?_append_left hlt] at hq
        have hlt' : q < ws.length := hws.1 ▸ hlt
        have := hws.2.2 q _ _ hq (List.getElem?_eq_getElem hlt')
        exact ⟨_, this.2.1, this.1, this.2.2.1, this.2.2.2⟩
      · rw [List.getElem?_append_right (Nat.le_of_not_lt hlt)] at hq
        have := ih hr hq
        have hq' : off + cs.length + (q - cs.length) = off + q := by have := Nat.le_of_not_lt hlt; omega
        rw [show (ag, cs).snd.length = cs.length from rfl, hq'] at this
        exact this
  cases hg : get st d with
  | p ag cs =>
    rw [hg] at hs hc
    cases ag with
    | true => obtain ⟨vs, _, hr⟩ := hs; exact key hr hc
    | false => exact key (show CellsRep cx d 0 cs [_] from hs) hc
  | tup ps =>
    rw [hg] at hs hc
    obtain ⟨vs, _, hr⟩ := hs
    have hj : (ps.flatMap (·.2))[j]? = some (.sl (w + 1) e xs) := by
      have hc' : (ps.flatMap (·.2)).getD j .u = .sl (w + 1) e xs := hc
      rw [List.getD_eq_getElem?_getD] at hc'
      cases hq : (ps.flatMap (·.2))[j]? with
      | none => rw [hq] at hc'; cases hc'
      | some c => rw [hq] at hc'; exact congrArg some hc'
    have := parts hr hj
    simpa using this
  | box o cs => rw [hg] at hs hc; obtain ⟨b, vs, t, _, _, _, _, hr⟩ := hs; exact key hr hc
  | _ => rw [hg] at hc; cases hc
theorem Rel.q_load (h : Rel E w0 X st a cx) (t : TypeId) (x : Operand) (ho : o.op = .load t x) (hav : (loadV E (get st) t (Ev.opnd E (get st) x)).run = some av) : Goal E o a cx av := by
  have fin : ∀ {cs : List Cell} {vs : List Value} {b q : Nat}, (∀ d, CellsRep cx d 0 cs vs) → (∀ c ∈ cs, isOwn c = false) → a.eval x = .pointer (some ⟨b, q, none⟩) → (∀ j u, vs[j]? = some u → cx.w.cell? ⟨b, q + j, none⟩ = some u) →
      (bif Nat.beq cs.length (sizeP E.P t) && ((isAggP E.P t || Nat.beq (sizeP E.P t) 1) && (knownP E.P t && Nat.blt 0 (sizeP E.P t))) then Br.ret (AV.p (isAggP E.P t) cs) else Br.none).run = some av → Goal E o a cx av := by
    intro cs vs b q hr hno hx hm hf
    obtain ⟨rfl, h1, h2, h3, h4⟩ := fin_spec hf
    obtain ⟨v, hv, hv'⟩ := run_loadVar' (w := cx.w) (vs := vs) h3 h4 ((hr 0).1 ▸ h1) h2 hm
    refine Goal.same (v := v) ?_ (p_rep hv' hr) (p_noOwner hno)
    simp only [execOp, ho, Instr.loadAt, hx, Instr.sureAddr, Sem.run_bind, Sem.run_pure, Result.andThen_ok, hv]
  unfold loadV at hav
  have hx := h.opnd 0 x
  cases hq : Ev.opnd E (get st) x with
  | pat d q =>
    rw [hq] at hav hx
    obtain ⟨b, hb, hx⟩ := hx
    dsimp only at hav
    have hs := h.slots d
    cases hg : get st d with
    | box ow cs =>
      rw [hg] at hav hs
      obtain ⟨b', vs, t', _, h1, h2, h3, hr⟩ := hs
      obtain rfl := Option.some.inj (hb.symm.trans h1)
      refine fin (vs := cut vs q (sizeP E.P t)) (fun d' => (hr.refs (d' := d') (off' := 0)).cut (refsOf_noOwn d cs 0) q _) (takeAt_noOwn (refsOf_noOwn d cs 0) q _) hx (fun j u hj => ?_) hav
      rw [cell_of_row cx.w b _ vs.toArray t' (0, 0) h3]
      simp only [cut, List.getElem?_take, List.getElem?_drop] at hj
      split at hj
      · simpa using hj
      · cases hj
    | _ => rw [hg] at hav; cases hav
  | pel d j i q =>
    rw [hq] at hav hx
    obtain ⟨e', b, n, c, hpl, hi0, hin, hx⟩ := hx
    dsimp only at hav
    cases hc : cellAt (get st d) j with
    | sl w e xs =>
      cases w with
      | zero => rw [hc] at hav; cases hav
      | succ w =>
        rw [hc] at hav
        obtain ⟨v, h1, h2, _, _⟩ := h.place hc
        obtain ⟨rfl, rfl⟩ := Prod.mk.inj (Option.some.inj (hpl.symm.trans h1))
        obtain ⟨hn, vs, hl, hm, hr⟩ := own_row h2 i.toNat (by omega)
        have hP := h.P
        rw [hP] at hl hm hr hx
        refine fin (vs := cut vs q (sizeP E.P t)) (fun d' => (rowCells_rep hl (by rw [hP]; exact hr) d').cut (rowCells_noOwn _ _ _) q _) (takeAt_noOwn (rowCells_noOwn _ _ _) q _) hx (fun j' u hj => ?_) hav
        simp only [cut, List.getElem?_take, List.getElem?_drop] at hj
        split at hj
        · rw [Nat.add_assoc]; exact hm _ u hj
        · cases hj
    | _ => rw [hc] at hav; cases hav
  | ro cs q =>
    rw [hq] at hav hx
    obtain ⟨b, off, vs, hx, h0, hw, hF, hm, hr⟩ := hx
    dsimp only at hav
    have hno : ∀ c ∈ cs, isOwn c = false := fun c hc => by have := List.all_eq_true.1 hw c hc; simpa using this
    refine fin (vs := cut vs q (sizeP E.P t)) (fun d' => (hr.moved (d' := d') (off' := 0) hno).cut hno q _) (takeAt_noOwn hno q _) hx (fun j' u hj => ?_) hav
    simp only [cut, List.getElem?_take, List.getElem?_drop] at hj
    split at hj
    · rw [Nat.add_assoc]; exact hm _ u hj
    · cases hj
  | _ => rw [hq] at hav; cases hav
end
end Go.Proofs.YtpggnjmmpkdkjaaGreat.Ev
