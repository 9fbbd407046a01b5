/- Calls that write; every operation. No condition. -/
import Derived.Test.YtpggnjmmpkdkjaaGreatEvS12
import Derived.Lib.AppendZeros
namespace Go.Proofs.YtpggnjmmpkdkjaaGreat.Ev
open Go Go.RowKit
set_option linter.unusedVariables false
set_option linter.unusedSimpArgs false
section
variable {E : Env} {w0 : World} {X : Nat → Prop} {st st' : St} {a : Act} {cx : Cx} {o : Oper} {av : AV}
theorem bind_run {α β : Type} : ∀ {b : Br α} {f : α → Br β} {y : β}, (b.bind f).run = some y → ∃ x, b.run = some x ∧ (f x).run = some y
  | .none, f, y, h => by cases h
  | .ret x, f, y, h => ⟨x, rfl, h⟩
  | .br c t e, f, y, h => by
    cases c with
    | true => exact bind_run (b := t) h
    | false => exact bind_run (b := e) h
  | .opt x g, f, y, h => by
    cases x with
    | none => cases h
    | some t => exact bind_run (b := g t) h
/-- What an argument that is written looks like. -/
theorem Rel.mutArg (h : Rel E w0 X st a cx) {x : Operand} {d j : Nat} (hx : Ev.opnd E (get st) x = .p false [.ref d j]) {w : Nat} {e : TypeId} {xs : List (List D)} (hc : cellAt (get st d) j = .sl (w + 1) e xs) : cx.pl d j = some (e, a.eval x) ∧ Owns cx.P cx.w (Forb cx) e xs (a.eval x) ∧ ∀ b, (a.eval x).ownBlock = some b → cx.O b = some (d, j + 1) := by
  obtain ⟨v, h1, h2, h3, _⟩ := h.place hc
  have hr : CellsRep cx 0 0 [.ref d j] [a.eval x] := (hx ▸ h.opnd 0 x : AVRep cx 0 (.p false [.ref d j]) (a.eval x))
  obtain ⟨e', h4⟩ := hr.2.2 0 _ (a.eval x) rfl rfl
  obtain ⟨_, rfl⟩ := Prod.mk.inj (Option.some.inj (h4.symm.trans h1))
  exact ⟨h1, h2, h3⟩
theorem noMut_outs {g : Nat → AV} : ∀ {ps : List (Nat × List K)} {xs : List Operand} {ds : List D}, (ps.any fun q => Nat.beq q.1 3) = false → packMuts E g ps xs = some ds → ∀ t i st1, outs E g ps xs t i st1 = some st1
  | [], [], _, _, _, _, _, _ => rfl
  | [], _ :: _, _, _, hp, _, _, _ => by cases hp
  | _ :: _, [], _, _, hp, _, _, _ => by cases hp
  | p :: ps, x :: xs, ds, hm, hp, t, i, st1 => by
    rw [List.any_cons, Bool.or_eq_false_iff] at hm
    simp only [packMuts] at hp
    split at hp
    · rename_i d ds' h1 h2
      simp only [outs, hm.1, cond_false]
      exact noMut_outs hm.2 h2 t i st1
    · cases hp
theorem Owns.flatF {P : Program} {w w' : World} {F F' : Nat → Prop} {e : TypeId} {xs : List (List D)} {v : Value} (h : Owns P w F e xs v) (hk : (kinds P e).any isSl = false) (hb : ∀ b, v.ownBlock = some b → w'.heap[b]? = w.heap[b]?) : Owns P w' F' e xs v := by
  obtain ⟨hm, flat, hf, hr⟩ := h
  refine ⟨hm, flat, ⟨hf.1, hf.2.imp id fun ⟨g, cap, cur, hv, hg, hh, r⟩ => ⟨g, cap, cur, hv, hg, (hb g (by rw [hv]; rfl)).trans hh, r⟩⟩, fun i j k hi hk' => ?_⟩
  obtain ⟨u, h1, h2⟩ := hr i j k hi hk'
  have := List.any_eq_false.1 hk k (List.mem_of_getElem? hk')
  exact ⟨u, h1, h2.flat (by simpa using this)⟩
theorem packMut_three {x : Operand} {p : Nat × List K} {ds : List D} (h3 : Nat.beq p.1 3 = true) (hp : packMut E (get st) p (Ev.opnd E (get st) x) = some ds) (hk : (match p.2 with | [.sl e] => !(kinds E.P e).any isSl | _ => false) = true) :
    ∃ d j w e rows, Ev.opnd E (get st) x = .p false [.ref d j] ∧ cellAt (get st d) j = .sl (w + 1) e rows ∧ p.2 = [.sl e] ∧ ds = [.l rows] ∧ (kinds E.P e).any isSl = false := by
  obtain ⟨f, ks⟩ := p
  obtain rfl : f = 3 := Nat.eq_of_beq_eq_true h3
  unfold packMut at hp
  split at hp
  · rename_i d j e0 hx
    split at hp
    · rename_i w e rows e' hca hks
      cases hb : Nat.beq e e' with
      | false => rw [hb] at hp; cases hp
      | true =>
        rw [hb] at hp
        obtain rfl := Nat.eq_of_beq_eq_true hb
        have hks' : ks = [.sl e] := hks
        subst hks'
        exact ⟨d, j, w, e, rows, hx, hca, rfl, (Option.some.inj hp).symm, by simpa using hk⟩
    · cases hp
  · rename_i hne
    have key : ∀ {av : AV} {g : Nat → AV} {dd : List D}, packArg E g (3, ks) av ≠ some dd := by
      intro av g dd hh
      unfold packArg at hh
      cases av <;> cases hh
    exact absurd hp key
theorem Rel.muts (h : Rel E w0 X st a cx) {F : Nat → Prop} (hF : ∀ b, F b → Forb cx b) : ∀ {ps : List (Nat × List K)} {xs : List Operand} {ds : List D}, packMuts E (get st) ps xs = some ds → restLends (get st) ps xs = true → mutKinds E.P ps = true → ArgsRep E.P cx.w F ps ds (xs.map a.eval)
  | [], [], _, _, _, _ => trivial
  | [], _ :: _, _, hp, _, _ => by cases hp
  | _ :: _, [], _, hp, _, _ => by cases hp
  | p :: ps, x :: xs, ds, hp, hl, hk => by
    simp only [packMuts] at hp
    split at hp
    · rename_i d ds' h1 h2
      obtain rfl := Option.some.inj hp
      cases h0 : Nat.beq p.2.length 0 with
      | true => rw [h0] at h1; cases h1
      | false =>
        rw [h0, cond_false] at h1
        have hpos : 0 < p.2.length := Nat.pos_of_ne_zero fun e => by rw [e] at h0; cases h0
        simp only [restLends, Bool.and_eq_true] at hl
        have hk' : ((!Nat.beq p.1 3 || match p.2 with | [.sl e] => !(kinds E.P e).any isSl | _ => false) = true) ∧ mutKinds E.P ps = true := by
          unfold mutKinds at hk ⊢
          rw [List.all_cons, Bool.and_eq_true] at hk
          exact hk
        have rest := h.muts hF h2 hl.2 hk'.2
        cases h3 : Nat.beq p.1 3 with
        | true =>
          rw [h3] at hk'
          obtain ⟨d', j, w, e, rows, g1, g2, g3, rfl, g5⟩ := packMut_three h3 h1 (by simpa using hk'.1)
          obtain ⟨m1, m2, m3⟩ := h.mutArg g1 g2
          refine ⟨?_, ?_⟩
          · have e3 : p.1 = 3 := Nat.eq_of_beq_eq_true h3
            unfold ArgRep
            rw [e3]
            refine ⟨e, g3, ?_⟩
            rw [h.P] at m2
            exact m2.flatF g5 fun _ _ => rfl
          · rw [g3]; exact rest
        | false =>
          have h1' : packArg E (get st) p (Ev.opnd E (get st) x) = some d := by
            rw [← h1]; unfold packMut
            split
            · exfalso; simp_all
            · rfl
          have hlx : lends (get st) x = false := by have := hl.1; rw [h3] at this; simpa using this
          obtain ⟨g1, g2⟩ := h.packArg_rep (.inr hF) (.inr hlx) h1' hpos ds'
          refine ⟨g2, ?_⟩
          rw [← g1, List.drop_left]
          exact rest
    · cases hp
theorem noMutB : ∀ {ps : List (Nat × List K)} {vs : List Value} {b : Nat}, (ps.any fun p => Nat.beq p.1 3) = false → ¬ MutB ps vs b
  | [], _, _, _, h => by cases h
  | _ :: _, [], _, _, h => by cases h
  | p :: ps, v :: vs, b, hm, h => by
    rw [List.any_cons, Bool.or_eq_false_iff] at hm
    rcases h with ⟨e, _⟩ | h
    · rw [e] at hm; cases hm.1
    · exact noMutB hm.2 h
theorem Rel.oneMut (h : Rel E w0 X st a cx) : ∀ {ps : List (Nat × List K)} {xs : List Operand} {ds : List D}, packMuts E (get st) ps xs = some ds → Ev.oneMut ps = true → (ps.any fun p => Nat.beq p.1 3) = true → mutKinds E.P ps = true →
    ∃ d j w e rows x, Ev.opnd E (get st) x = .p false [.ref d j] ∧ cellAt (get st d) j = .sl (w + 1) e rows ∧ (kinds E.P e).any isSl = false ∧ (∀ b, MutB ps (xs.map a.eval) b → (a.eval x).ownBlock = some b) ∧
      (∀ t i, outs E (get st) ps xs t i st = some (setSl st d j (.sl (w + 1) e (t.getD i .j).rows))) ∧ ∀ (w' : World) F t i, OutsRep E.P w' F t ps (xs.map a.eval) i → Owns E.P w' F e (t.getD i .j).rows (a.eval x)
  | [], _, _, _, _, ha, _ => by cases ha
  | _ :: _, [], _, hp, _, _, _ => by cases hp
  | p :: ps, x :: xs, ds, hp, ho, ha, hk => by
    simp only [packMuts] at hp
    split at hp
    · rename_i d ds' h1 h2
      cases h0 : Nat.beq p.2.length 0 with
      | true => rw [h0] at h1; cases h1
      | false =>
        rw [h0, cond_false] at h1
        have hk' : ((!Nat.beq p.1 3 || match p.2 with | [.sl e] => !(kinds E.P e).any isSl | _ => false) = true) ∧ mutKinds E.P ps = true := by
          unfold mutKinds at hk ⊢
          rw [List.all_cons, Bool.and_eq_true] at hk
          exact hk
        cases h3 : Nat.beq p.1 3 with
        | true =>
          rw [h3] at hk'
          obtain ⟨d', j, w, e, rows, g1, g2, g3, rfl, g5⟩ := packMut_three h3 h1 (by simpa using hk'.1)
          have e3 : p.1 = 3 := Nat.eq_of_beq_eq_true h3
          have hno : (ps.any fun q => Nat.beq q.1 3) = false := by simpa [Ev.oneMut, h3] using ho
          refine ⟨d', j, w, e, rows, x, g1, g2, g5, fun b hb => ?_, fun t i => ?_, fun w' F t i hr => ?_⟩
          · rcases hb with ⟨_, hb⟩ | hb
            · exact hb
            · exact absurd hb (noMutB hno)
          · simp only [outs, h3, cond_true, g1, g2]
            exact noMut_outs hno h2 t (i + 1) _
          · simp only [List.map_cons, OutsRep, e3, if_true] at hr
            obtain ⟨⟨e', g6, g7⟩, _⟩ := hr
            rw [g3] at g6
            obtain rfl : e = e' := by simpa using g6
            exact g7
        | false =>
          have ho' : Ev.oneMut ps = true := by simpa [Ev.oneMut, h3] using ho
          have ha' : (ps.any fun p => Nat.beq p.1 3) = true := by rw [List.any_cons, h3, Bool.false_or] at ha; exact ha
          obtain ⟨d', j, w, e, rows, y, g1, g2, g3, g4, g5, g6⟩ := h.oneMut h2 ho' ha' hk'.2
          have e3 : ¬ p.1 = 3 := fun e => by rw [e] at h3; cases h3
          refine ⟨d', j, w, e, rows, y, g1, g2, g3, fun b hb => ?_, fun t i => ?_, fun w' F t i hr => ?_⟩
          · rcases hb with ⟨e1, _⟩ | hb
            · exact absurd e1 e3
            · exact g4 b hb
          · simp only [outs, h3, cond_false]; exact g5 t i
          · simp only [List.map_cons, OutsRep, if_neg e3] at hr; exact g6 w' F t i hr
    · cases hp
theorem Rel.q_mutCall (h : Rel E w0 X st a cx) (hE : EnvOk E) (hd : ∀ x, o.dst = some x → x < E.nt) (f : Operand) (args : Array Operand) (ts : Array TypeId) (ho : o.op = .call { callee := .value f, args := args, argTypes := ts }) {n : Nat} (hf : Ev.opnd E (get st) f = .fn n) {sp : Spec} (hs : E.spec n = some sp)
    (hm : isMut sp = true) (hav : (mutCall E st o.dst sp args.toList).run = some st') : After E w0 X st' o a cx := by
  unfold mutCall at hav
  obtain ⟨hk, hav⟩ := bif_run' hav
  simp only [Bool.or_eq_false_iff, Bool.not_eq_false'] at hk
  obtain ⟨⟨k1, k2, k3⟩, k4⟩ := hk
  split at hav
  · rename_i ds hp
    obtain ⟨t, hG, hav⟩ := opt_run hav
    obtain ⟨d, j, w, e, rows, x, g1, g2, g3, g4, g5, g6⟩ := h.oneMut hp k2 hm k3
    rw [g5] at hav
    obtain rfl := ret_run hav
    obtain ⟨m1, m2, m3⟩ := h.mutArg g1 g2
    obtain ⟨hfl, hdo⟩ := hE n sp hs
    have hfv : a.eval f = .func (.func n) #[] #[] := (hf ▸ h.opnd 0 f : AVRep cx 0 (.fn n) (a.eval f))
    have hargs : args.map a.eval = (args.toList.map a.eval).toArray := by apply Array.ext'; simp
    have hF : ∀ b, (False ∨ MutB sp.pt (args.toList.map a.eval) b) → Forb cx b := fun b hb => .inr ⟨_, m3 b (g4 b (hb.resolve_left id))⟩
    obtain ⟨⟨fn, h1, h2, h3⟩, hc⟩ := (hdo cx.w (fun _ => False) _ ds t (fun b hb => hb.elim) (h.globAt fun b hb => hF b hb.symm) (h.muts hF hp k4 k3) hG).resolve_right fun hx => by rw [hm] at hx; cases hx.1
    refine .inl (.inr ⟨n, (args.toList.map a.eval).toArray, ?_, ?_⟩)
    · simp only [execOp, ho, resolve, hfv, Deferred.ofValue, Sem.run_bind, Sem.run_pure, Result.andThen_ok, invoke, hargs]
      rw [Array.empty_append, Array.append_empty]
      exact run_enter h1 h2 h3 _ _
    · refine hc.mono ?_
      rintro e1 w' ⟨v, rfl, hkept, ⟨own, pl', hown, hr⟩, hout⟩
      refine ⟨v, rfl, ?_⟩
      let w1 : World := { w' with heap := w'.heap.extract 0 cx.w.heap.size }
      have hsz : w1.heap.size = cx.w.heap.size := by
        show (w'.heap.extract 0 cx.w.heap.size).size = _
        rw [Array.size_extract]; have := hkept.size; omega
      have hget : ∀ b, b < cx.w.heap.size → w1.heap[b]? = w'.heap[b]? := by
        intro b hb
        show (w'.heap.extract 0 cx.w.heap.size)[b]? = _
        rw [Array.getElem?_extract]
        have := hkept.size
        rw [if_pos (by omega)]; simp
      have hblk : ∀ b, (a.eval x).ownBlock = some b → b < cx.w.heap.size := fun b hb => (h.own b _ (m3 b hb)).1
      have hown' := g6 w' _ t _ hout
      have hr1 := h.rewrite g2 (w' := w1) hkept.os hkept.tape hkept.output (Nat.le_of_eq hsz.symm) (fun b hb hne => (hget b hb).trans (hkept.block b hb fun hmb => hne (m3 b (g4 b hmb)))) (xs' := (t.getD (countR sp.rt) .j).rows) fun v' hv' => by
        obtain ⟨_, rfl⟩ := Prod.mk.inj (Option.some.inj (hv'.symm.trans m1))
        rw [h.P]
        exact hown'.flatF g3 fun b hb => hget b (hblk b hb)
      have hbel : Below w1.heap.size w1 w' := ⟨rfl, rfl, rfl, by rw [hsz]; exact hkept.size, fun b hb => (hget b (by rw [← hsz]; exact hb)).symm⟩
      have hnew : New { cx with w := w1 } w' (mkR sp.rt t) v := res_new (cx := { cx with w := w1 }) h.P hbel hfl (fun hs' => by rw [k1] at hs'; cases hs') (fun b j hb => by show w1.heap.size ≤ b ∧ _; rw [hsz]; exact hown b j hb) hr
      obtain ⟨cx', q1, q2, q3, q4⟩ := hr1.putO hd hnew
      exact ⟨cx', q1, q2, q3, q4⟩
  · cases hav
theorem exec_append2 {args : Array Operand} {ts : Array TypeId} (ho : o.op = .call { callee := .builtin .append, args := args, argTypes := ts }) {s x : Operand} {t t' : TypeId} (ha : args.toList = [s, x]) (hts : ts.toList = [t, t']) {P : Program} {w w' : World} {v : Value} (hr : (Builtin.append_ #[t, t'] o.type #[a.eval s, a.eval x]).run P w = .ok v w') : (execOp a.eval o).run P w = .ok (.value v) w' := by
  have ha' : args = #[s, x] := by rw [← Array.toArray_toList (xs := args), ha]
  have ht' : ts = #[t, t'] := by rw [← Array.toArray_toList (xs := ts), hts]
  subst ha' ht'
  simp [execOp, ho, resolve, invoke, builtin, hr]
theorem zeroCells_eq (z : Array Value) (hz : 0 < z.size) (n : Nat) : Builtin.zeroCells z n = ((List.replicate n z.toList).flatten).toArray := made_eq z hz n
theorem Rel.q_appendMake (h : Rel E w0 X st a cx) (hd : ∀ x, o.dst = some x → x < E.nt) {args : Array Operand} {ts : Array TypeId} (ho : o.op = .call { callee := .builtin .append, args := args, argTypes := ts }) {s x : Operand} {t t' : TypeId} (ha : args.toList = [s, x]) (hts : ts.toList = [t, t'])
    (hav : (appendMake E st o.dst t t' s x).run = some st') : After E w0 X st' o a cx := by
  unfold appendMake at hav
  split at hav
  · rename_i e kn k n ht ht' hs hx
    split at hav
    · rename_i i z hi hz
      dsimp only at hav
      obtain ⟨hb, hav⟩ := bif_run hav
      split at hav
      · rename_i row hp
        obtain ⟨hc, hav⟩ := br_run hav
        rw [← ret_run hav]
        simp only [Bool.and_eq_true, decide_eq_true_eq] at hb hc
        obtain ⟨⟨hb1, hb2⟩, hb3⟩ := hb
        obtain ⟨h0, h2⟩ := hc
        have hks : (kinds E.P e).length = i.size := Nat.eq_of_beq_eq_true hb1
        obtain ⟨i', zv, hi', hzv, hall, rfl⟩ := zero_spec hz
        obtain rfl := Option.some.inj (hi.symm.trans hi')
        obtain ⟨h4, h5, h6⟩ := packCells_get hp
        have hzs : zv.cells.size = i.size := by rw [← hks, ← h4]; simp
        obtain ⟨l', rfl⟩ : ∃ l' : Nat, n = (l' : Int) := ⟨n.toNat, (Int.toNat_of_nonneg (by omega)).symm⟩
        have hcb : l' * i.bytes ≤ 140737488355328 := by
          have h7 : ((l' * i.bytes : Nat) : Int) ≤ 140737488355328 := by rw [Int.natCast_mul]; exact h2
          omega
        have hcle : l' ≤ 140737488355328 := Nat.le_trans (Nat.le_mul_of_pos_right _ hb3) hcb
        have hr := Go.Lib.run_append_nil_zeros (P := E.P) cx.w t t' o.type e i zv k kn ht ht' hi hzv l' (by omega) hb2 (by omega) (by omega)
        have hz0 : 0 < zv.cells.size := by omega
        have hfl : ((List.replicate l' zv.cells.toList).flatten).length = l' * i.size := by simp [hzs]
        have hge := grownCap_ge cx.w l' 0 e
        have hmx := grownCap_le_maxLen cx.w l' 0 e (by unfold maxLen; omega)
        generalize grownCap cx.w l' 0 e = cap at hr hge hmx
        rw [zeroCells_eq _ hz0, zeroCells_eq _ hz0] at hr
        have hs' := h.plain hs
        have hx' := h.plain hx
        refine h.after_quiet hd (.inl ⟨_, _, exec_append2 ho ha hts (by rw [hs', hx']; exact hr), newSlice (by rw [h.P, hks]; exact hb2) (((Below.refl _ _).drew).alloc (Nat.le_refl _) _) (flat := (List.replicate l' zv.cells.toList).flatten) ⟨?_, .inr ⟨cx.w.heap.size, cap, _, ?_, Nat.zero_le _, heap_alloc_new _ _, ?_, hmx, ?_, ?_⟩⟩ (fun q j k hq hk => ?_) (fun b hb => ?_)⟩)
        · rw [hfl, h.P, hks]; simp
        · simp
        · simpa using hge
        · rw [h.P, hks]
          simp only [List.size_toArray, Array.size_append, List.length_flatten, List.map_replicate, List.sum_replicate_nat, Array.length_toList, hzs]
          rw [← Nat.add_mul]; congr 1; omega
        · rw [h.P, hks, List.length_replicate, Int.toNat_natCast, Array.toList_append]
          rw [List.take_append_of_le_length (by simpa using Nat.le_of_eq hfl.symm), List.take_of_length_le (by simpa using Nat.le_of_eq hfl)]
        · have hq' : q < l' := by simpa using hq
          rw [h.P] at hk ⊢
          have hj : j < (kinds E.P e).length := (List.getElem?_eq_some_iff.1 hk).1
          have hj' : j < i.size := hks ▸ hj
          have hlt : q * i.size + j < l' * i.size := by
            have : (q + 1) * i.size ≤ l' * i.size := Nat.mul_le_mul_right _ hq'
            rw [Nat.succ_mul] at this; omega
          have hjz : j < zv.cells.toList.length := by simpa [hzs] using hj'
          refine ⟨zv.cells.toList[j], ?_, ?_⟩
          · rw [hks, flat_get _ (by simpa [hzs] using hb2) l' _ (by simpa [hzs] using hlt)]
            have : (q * i.size + j) % zv.cells.toList.length = j := by
              rw [show zv.cells.toList.length = i.size by simpa using hzs, Nat.mul_comm, Nat.mul_add_mod, Nat.mod_eq_of_lt hj']
            rw [this, List.getElem?_eq_getElem hjz]
          · have hrow : ((List.replicate l' row).getD q []) = row := by
              rw [List.getD_eq_getElem?_getD, List.getElem?_replicate, if_pos hq']; rfl
            simp only [Int.toNat_natCast, hrow]
            have := packCell_rep (cx := cx) (u := zv.cells.toList[j]) (d := 0) (j := 0) (h6 j k (.v zv.cells.toList[j]) hk (by rw [List.getElem?_map, List.getElem?_eq_getElem hjz]; rfl)) rfl rfl
            rw [h.P] at this
            exact this
        · simp [Value.ownBlock] at hb; omega
      · cases hav
    · cases hav
  · cases hav
theorem run_sliceOwn {P : Program} {w : World} {t e : TypeId} {A : Option Addr} {len cap : Nat} (ht : P.underlying t = some (.slice e)) (he : (P.info? e).isSome = true) (kh : IntKind) (h : Nat) (hc : h ≤ cap) :
    (Instr.sliceAt t (.slice A len cap) none (some (.int kh (h : Int))) none).run P w = .ok (.slice A h cap) w := by
  have hel : P.elem t = e := by unfold Program.elem; rw [ht]
  have ht' : P.underlying t = some (.slice (P.elem t)) := by rw [hel]; exact ht
  rw [run_sliceAt_slice _ t _ _ _ _ ht', run_slice_h _ t A len cap ht' kh h (by omega) (by omega), hel, run_sizeOf' he]
  simp only [Result.andThen, sliced, Int.toNat_natCast, Nat.sub_zero, Nat.zero_mul]
  cases A with
  | none => simp
  | some ad => simp [Addr.add]
theorem Rel.q_sliceOwn (h : Rel E w0 X st a cx) (hd : ∀ x, o.dst = some x → x < E.nt) (t : TypeId) (x hi : Operand) (ho : o.op = .slice t x none (some hi) none) {d j : Nat} (hx : Ev.opnd E (get st) x = .p false [.ref d j])
    (hav : (sliceOwn E st o.dst t d j hi).run = some st') : After E w0 X st' o a cx := by
  unfold sliceOwn at hav
  split at hav
  · rename_i e e' xs kh hh ht hca hhi
    obtain ⟨hb0, hav2⟩ := bif_run hav
    rw [Bool.and_eq_true] at hb0
    obtain ⟨hee, hinf⟩ := hb0
    obtain rfl := Nat.eq_of_beq_eq_true hee
    obtain ⟨hb, hav⟩ := br_run hav2
    simp only [Bool.and_eq_true, decide_eq_true_eq] at hb
    rw [← ret_run hav]
    obtain ⟨n, rfl⟩ : ∃ n : Nat, hh = (n : Int) := ⟨hh.toNat, (Int.toNat_of_nonneg hb.1).symm⟩
    have hn : n ≤ xs.length := by omega
    obtain ⟨v, hpl, hown, hO, _⟩ := h.place hca
    have hv : a.eval x = v := by
      have hr' : CellsRep cx 0 0 [.ref d j] [a.eval x] := (hx ▸ h.opnd 0 x : AVRep cx 0 (.p false [.ref d j]) (a.eval x))
      obtain ⟨e2, h2⟩ := hr'.2.2 0 _ (a.eval x) rfl rfl
      exact (Prod.mk.inj (Option.some.inj (h2.symm.trans hpl))).2
    obtain ⟨m0, flat, hf, hr⟩ := hown
    have main : ∃ v', (Instr.sliceAt t v none (some (.int kh (n : Int))) none).run E.P cx.w = .ok v' cx.w ∧ (∀ b, v'.ownBlock = some b → v.ownBlock = some b) ∧ cx.w.ownsRow 0 e (kinds cx.P e).length v' n (flat.take (n * (kinds cx.P e).length)) := by
      rcases hf.2 with ⟨rfl, h0⟩ | ⟨g, cap, cur, rfl, hg, hhp, hnc, hcm, hsz, htake⟩
      · obtain rfl : n = 0 := by omega
        exact ⟨.slice none 0 0, run_sliceOwn ht hinf kh 0 (Nat.le_refl _), fun b hb => hb, by simp, .inl ⟨rfl, rfl⟩⟩
      · refine ⟨.slice (some ⟨g, 0, none⟩) n cap, run_sliceOwn ht hinf kh n (Nat.le_trans hn hnc), fun b hb => hb, ?_, .inr ⟨g, cap, cur, rfl, hg, hhp, Nat.le_trans hn hnc, hcm, hsz, ?_⟩⟩
        · rw [List.length_take, hf.1, Nat.min_eq_left (Nat.mul_le_mul_right _ hn)]
        · rw [← htake, List.take_take, Nat.min_eq_left (Nat.mul_le_mul_right _ hn)]
    obtain ⟨v', hrun, hvb, hf'⟩ := main
    have hown' : Owns cx.P cx.w (Forb cx) e (xs.take n) v' := by
      refine ⟨m0, _, by rw [List.length_take, Nat.min_eq_left hn]; exact hf', fun q k' k hq hk => ?_⟩
      rw [List.length_take, Nat.min_eq_left hn] at hq
      obtain ⟨u, h1, h2⟩ := hr q k' k (by omega) hk
      have hk' : k' < (kinds cx.P e).length := (List.getElem?_eq_some_iff.1 hk).1
      have hlt : q * (kinds cx.P e).length + k' < n * (kinds cx.P e).length := by
        have : (q + 1) * (kinds cx.P e).length ≤ n * (kinds cx.P e).length := Nat.mul_le_mul_right _ hq
        rw [Nat.succ_mul] at this; omega
      refine ⟨u, by rw [List.getElem?_take, if_pos hlt]; exact h1, ?_⟩
      have : (xs.take n).getD q [] = xs.getD q [] := by
        rw [List.getD_eq_getElem?_getD, List.getElem?_take, if_pos hq, ← List.getD_eq_getElem?_getD]
      rw [this]; exact h2
    have h1 := h.takeOut d j
    have hfree : ∀ b, v'.ownBlock = some b → b < cx.w.heap.size ∧ (w0.heap.size ≤ b ∨ X b) ∧ ∃ p, cx.O b = some p ∧ Free (Ev.takeOut st d j) p.1 p.2 := by
      intro b hb'
      have hOb := hO b (hvb b hb')
      obtain ⟨g1, g2⟩ := h.own b _ hOb
      exact ⟨g1, g2, (d, j + 1), hOb, free_takeOut (st := st) d j⟩
    rw [show ((n : Int)).toNat = n from Int.toNat_natCast n]
    obtain ⟨cx', g1, g2, g3, g4⟩ := h1.putOwnO hd hown' hfree
    refine .inl (.inl ⟨v', cx.w, ?_, cx', g1, g2, g3, g4⟩)
    have hhi' : a.eval hi = .int kh (n : Int) := h.plain hhi
    simp only [execOp, ho, hv, hhi', Option.map_some, Option.map_none, Sem.run_bind, hrun, Result.andThen_ok, Sem.run_pure]
  · cases hav
/-- Every operation. -/
theorem evOp_sound (h : Rel E w0 X st a cx) (hE : EnvOk E) (hd : ∀ x, o.dst = some x → x < E.nt) (hav : (evOp E st o).run = some st') : After E w0 X st' o a cx := by
  have hq : ∀ {r : St}, (∀ c, o.op = .call c → ∀ f n sp, c.callee = .value f → Ev.opnd E (get st) f = .fn n → E.spec n = some sp → isMut sp = false) → ((evQ E (get st) o).bind fun av => .ret (Ev.putO st o.dst av)).run = some r → After E w0 X r o a cx := by
    intro r hm hr
    obtain ⟨av, h1, h2⟩ := bind_run hr
    obtain rfl := ret_run h2
    exact h.after_quiet hd (evQ_sound h hE hm h1)
  unfold evOp at hav
  dsimp only at hav
  split at hav
  · rename_i t x y ho
    split at hav
    · rename_i hdst; exact h.q_store hdst t x y ho hav
    · cases hav
  · rename_i t ho
    split at hav
    · rename_i ag cs hg
      cases hown : cs.any isOwn with
      | false => rw [hown] at hav; exact hq (fun c hc => by rw [ho] at hc; cases hc) hav
      | true =>
        rw [hown, cond_true] at hav
        obtain ⟨hm, hav⟩ := bif_run' hav
        obtain rfl := ret_run hav
        refine .inl (.inl ⟨a.tmps.getD t undef, cx.w, by simp only [execOp, ho]; rfl, ?_⟩)
        cases hdst : o.dst with
        | some d => exact h.assign (hd d hdst) hg hown hm
        | none =>
          refine ⟨cx, ?_, rfl, rfl, rfl⟩
          refine ⟨h.P, h.defers, h.kept, h.own, h.non, h.glob, h.nt, fun q => ?_⟩
          show AVRep cx q (get ((t, .u) :: Ev.forget t st) q) _
          rw [get_cons, get_forget]
          split
          · trivial
          · exact (h.slots q).forget t
    · exact hq (fun c hc => by rw [ho] at hc; cases hc) hav
  · rename_i args ts ho
    split at hav
    · rename_i s x t t' ha hts
      cases hb : Nat.beq t t' with
      | true =>
        rw [hb, cond_true] at hav
        obtain rfl := Nat.eq_of_beq_eq_true hb
        exact h.q_append hd ho ha hts hav
      | false =>
        rw [hb, cond_false] at hav
        exact h.q_appendMake hd ho ha hts hav
    · cases hav
  · rename_i t x hi ho
    split at hav
    · rename_i d j hx
      exact h.q_sliceOwn hd t x hi ho hx hav
    · exact hq (fun c hc => by rw [ho] at hc; cases hc) hav
  · rename_i f args ts ho
    split at hav
    · rename_i sp hsp
      unfold specOf at hsp
      split at hsp
      · rename_i n hf
        cases hm : isMut sp with
        | true => rw [hm] at hav; exact h.q_mutCall hE hd f args ts ho hf hsp hm hav
        | false =>
          rw [hm] at hav
          refine hq (fun c hc f' n' sp' hcal hf' hs' => ?_) hav
          rw [ho] at hc
          obtain rfl := Op.call.inj hc
          obtain rfl := Callee.value.inj hcal
          rw [hf] at hf'
          obtain rfl := AV.fn.inj hf'
          rw [hsp] at hs'
          obtain rfl := Option.some.inj hs'
          exact hm
      · cases hsp
    · split at hav
      · rename_i ag cs hf
        refine hq (fun c hc f' n' sp' hcal hf' hs' => ?_) hav
        rw [ho] at hc
        obtain rfl := Op.call.inj hc
        obtain rfl := Callee.value.inj hcal
        rw [hf] at hf'
        cases hf'
      · cases hav
  · rename_i h1 h2 h3 h5 h4
    refine hq (fun c hc f n sp hcal _ _ => ?_) hav
    obtain ⟨cal, args, ts⟩ := c
    have hcal' : cal = .value f := hcal
    subst hcal'
    exact absurd hc (h4 f args ts)
end
end Go.Proofs.YtpggnjmmpkdkjaaGreat.Ev
