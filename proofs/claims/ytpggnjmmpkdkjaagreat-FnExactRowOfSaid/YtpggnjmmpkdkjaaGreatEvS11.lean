/- Appends, stores, calls that write: what the model runs. No condition. -/
import Derived.Test.YtpggnjmmpkdkjaaGreatEvS10
namespace Go.Proofs.YtpggnjmmpkdkjaaGreat.Ev
open Go Go.RowKit
set_option linter.unusedVariables false
set_option linter.unusedSimpArgs false
section
variable {E : Env} {w0 : World} {X : Nat → Prop} {st st' : St} {a : Act} {cx : Cx} {o : Oper} {av : AV}
/-- The rows of a slice, laid flat. -/
def Laid (P : Program) (w : World) (F : Nat → Prop) (e : TypeId) (ys : List (List D)) (v : Value) : Prop :=
  (∃ c, v = .slice none 0 c ∧ ys = []) ∨ ∃ (ad : Addr) (c : Nat) (news : List Value), v = .slice (some ad) ys.length c ∧ news.length = ys.length * (kinds P e).length ∧ (∀ j u, news[j]? = some u → w.cell? (ad.add j) = some u) ∧ (∀ u ∈ news, u.oneCell' = true) ∧
    ∀ i j k, i < ys.length → (kinds P e)[j]? = some k → ∃ u, news[i * (kinds P e).length + j]? = some u ∧ RepD P w F k ((ys.getD i []).getD j .j) u
theorem RepD.laid {P : Program} {w : World} {F : Nat → Prop} {e : TypeId} {ys : List (List D)} {v : Value} (h : RepD P w F (.sl e) (.l ys) v) (hm0 : 0 < (kinds P e).length) : Laid P w F e ys v := by
  cases h with
  | fn _ _ he hk => omega
  | clo _ _ b he hk hF' hcl => omega
  | nil _ _ ad c h0 =>
    have : ys = [] := h0
    subst this
    cases ad with
    | none => exact .inl ⟨c, rfl, rfl⟩
    | some ad => exact .inr ⟨ad, c, [], rfl, by simp, fun j u h => by simp at h, fun u h => by simp at h, fun i j k hi => by simp at hi⟩
  | sl _ _ b off c n vs hn h0 hm hF hc hr =>
    have hn' : n = ys.length := hn
    subst hn'
    have hget : ∀ q, q < ys.length * (kinds P e).length → q / (kinds P e).length < ys.length ∧ q % (kinds P e).length < (kinds P e).length := fun q hq =>
      ⟨Nat.div_lt_of_lt_mul (by rwa [Nat.mul_comm] at hq), Nat.mod_lt _ hm⟩
    have hcell : ∀ q, q < ys.length * (kinds P e).length → w.cell? ⟨b, off + q, none⟩ = some (vs (q / (kinds P e).length) (q % (kinds P e).length)) := by
      intro q hq
      obtain ⟨h1, h2⟩ := hget q hq
      have := hc _ _ h1 h2
      rwa [Nat.mul_comm, Nat.div_add_mod] at this
    refine .inr ⟨⟨b, off, none⟩, c, (List.range (ys.length * (kinds P e).length)).map fun q => vs (q / (kinds P e).length) (q % (kinds P e).length), rfl, by simp, fun j u hj => ?_, fun u hu => ?_, fun i j k hi hk => ?_⟩
    · rw [List.getElem?_map] at hj
      obtain ⟨q, hq, rfl⟩ := Option.map_eq_some_iff.1 hj
      obtain ⟨h1, h2⟩ := List.getElem?_eq_some_iff.1 hq
      simp at h1 h2
      subst h2
      rw [addr_add]; exact hcell _ h1
    · obtain ⟨q, hq, rfl⟩ := List.mem_map.1 hu
      have hq' := List.mem_range.1 hq
      obtain ⟨h1, h2⟩ := hget q hq'
      exact (hr _ _ _ h1 (List.getElem?_eq_getElem h2)).one
    · have hj : j < (kinds P e).length := (List.getElem?_eq_some_iff.1 hk).1
      have hlt : i * (kinds P e).length + j < ys.length * (kinds P e).length := by
        have : (i + 1) * (kinds P e).length ≤ ys.length * (kinds P e).length := Nat.mul_le_mul_right _ hi
        rw [Nat.succ_mul] at this; omega
      refine ⟨vs i j, ?_, hr i j k hi hk⟩
      rw [List.getElem?_map, List.getElem?_range hlt]
      simp only [Option.map_some, Option.some.injEq]
      have e1 : (i * (kinds P e).length + j) / (kinds P e).length = i := by
        rw [Nat.mul_comm, Nat.mul_add_div hm, Nat.div_eq_of_lt hj, Nat.add_zero]
      have e2 : (i * (kinds P e).length + j) % (kinds P e).length = j := by
        rw [Nat.mul_comm, Nat.mul_add_mod, Nat.mod_eq_of_lt hj]
      rw [e1, e2]
theorem Owns.laid {P : Program} {w : World} {F : Nat → Prop} {e : TypeId} {ys : List (List D)} {v : Value} (h : Owns P w F e ys v) : Laid P w F e ys v := by
  obtain ⟨hm, flat, hf, hr⟩ := h
  rcases hf.2 with ⟨rfl, h0⟩ | ⟨g, cap, cur, rfl, hg, hh, hnc, hcm, hsz, htake⟩
  · exact .inl ⟨0, rfl, List.eq_nil_of_length_eq_zero h0⟩
  · refine .inr ⟨⟨g, 0, none⟩, cap, flat, rfl, hf.1, fun j u hj => hf.cells rfl j u hj, fun u hu => ?_, hr⟩
    obtain ⟨q, hq⟩ := List.mem_iff_getElem?.1 hu
    have hql : q < ys.length * (kinds P e).length := by rw [← hf.1]; exact (List.getElem?_eq_some_iff.1 hq).1
    have h1 : q / (kinds P e).length < ys.length := Nat.div_lt_of_lt_mul (by rwa [Nat.mul_comm] at hql)
    have h2 : q % (kinds P e).length < (kinds P e).length := Nat.mod_lt _ hm
    obtain ⟨u', h3, h4⟩ := hr _ _ _ h1 (List.getElem?_eq_getElem h2)
    rw [Nat.mul_comm, Nat.div_add_mod, hq] at h3
    obtain rfl := Option.some.inj h3
    exact h4.one
theorem Rel.laid (h : Rel E w0 X st a cx) {x : Operand} {y : Cell} (hx : Ev.opnd E (get st) x = .p false [y]) {q : Nat} {e : TypeId} {ys : List (List D)} (hy : res (get st) y = .sl q e ys) (hm0 : 0 < (kinds cx.P e).length) : Laid cx.P cx.w (Forb cx) e ys (a.eval x) := by
  have hr : CellsRep cx 0 0 [y] [a.eval x] := (hx ▸ h.opnd 0 x : AVRep cx 0 (.p false [y]) (a.eval x))
  have hc := hr.2.2 0 y (a.eval x) rfl rfl
  have hno := opnd_cells_noOwn E (get st) h.glob x (by rw [hx]; rfl) y (by simp)
  cases y with
  | u => cases hy
  | v y => cases hy
  | sl w e1 xs1 =>
    obtain ⟨rfl, rfl, rfl⟩ := Cell.sl.inj (show Cell.sl w e1 xs1 = .sl q e ys from hy)
    cases w with
    | zero => exact RepD.laid hc hm0
    | succ n => simp [isOwn] at hno
  | ref d j =>
    obtain ⟨e', hpl⟩ := hc
    simp only [res] at hy
    cases hca : cellAt (get st d) j with
    | sl w e1 xs1 => cases w with
      | zero => rw [hca] at hy; cases hy
      | succ w =>
        rw [hca] at hy
        obtain ⟨_, rfl, rfl⟩ := Cell.sl.inj hy
        obtain ⟨v, h1, h2, _, _⟩ := h.place hca
        obtain ⟨_, hv⟩ := Prod.mk.inj (Option.some.inj (hpl.symm.trans h1))
        rw [hv]; exact h2.laid
    | _ => rw [hca] at hy; cases hy
theorem run_append_nothing {P : Program} (w : World) (t ty e : TypeId) (i : TypeInfo) (size : Nat) (ht : P.underlying t = some (.slice e)) (hi : P.info? e = some i) (v : Value) (n c : Nat) (xs : List Value) (hown : w.ownsRow 0 e size v n xs) :
    (Builtin.append_ #[t, t] ty #[v, .slice none 0 c]).run P w = .ok v w := by
  rcases hown.2 with ⟨rfl, rfl⟩ | ⟨g, cap, cur, rfl, _, _, hnc, _⟩
  · simp [Builtin.append_, run_underlying ht, sizeOf, typeInfo, hi, Builtin.lenOf, Builtin.firstCells, storeCells]
  · simp [Builtin.append_, run_underlying ht, sizeOf, typeInfo, hi, Builtin.lenOf, Builtin.firstCells, storeCells, hnc]
/-- What append does with a slice of the call's own. -/
theorem append_run {P : Program} (w : World) {F : Nat → Prop} (t ty e : TypeId) (i : TypeInfo) (z : Value) (ht : P.underlying t = some (.slice e)) (hi : P.info? e = some i) (hz : i.zero = some z) (hzs : z.cells.size = i.size) (hks : (kinds P e).length = i.size) (h0 : 0 < i.size)
    {xs ys : List (List D)} {v y : Value} (hv : Owns P w F e xs v) (hy : Laid P w F e ys y) (hb : (xs.length + ys.length) * i.bytes ≤ 140737488355328) (hl : xs.length + ys.length ≤ 4611686018427387904) :
    ∃ v' w', (Builtin.append_ #[t, t] ty #[v, y]).run P w = .ok v' w' ∧ w.grownBy w' v.ownBlock ∧ (∀ b, v'.ownBlock = some b → b < w'.heap.size ∧ (v.ownBlock = some b ∨ w.heap.size ≤ b)) ∧
      ∃ flat, w'.ownsRow 0 e (kinds P e).length v' (xs ++ ys).length flat ∧ ∀ q j k, q < (xs ++ ys).length → (kinds P e)[j]? = some k → ∃ u, flat[q * (kinds P e).length + j]? = some u ∧ RepD P w F k (((xs ++ ys).getD q []).getD j .j) u := by
  obtain ⟨hm, flat, hf, hr⟩ := hv
  rcases hy with ⟨c, rfl, rfl⟩ | ⟨ad, c, news, rfl, hnl, hnc, hn1, hnr⟩
  · refine ⟨v, w, run_append_nothing w t ty e i _ ht hi v _ c flat hf, ⟨rfl, rfl, rfl, Nat.le_refl _, fun _ _ _ => rfl⟩, fun b hb' => ⟨(hf.lt b hb').2, .inl hb'⟩, flat, by simpa using hf, by simpa using hr⟩
  · obtain ⟨v', w', hrun, hown, hg, hiff⟩ := run_append_own (P := P) w 0 t ty e i z i.size i.bytes ht hi hz rfl rfl hzs h0 v xs.length flat (by rw [← hks]; exact hf) ad ys.length c news (by rw [hnl, hks]) hnc hn1 (by unfold maxLen; omega) hb (Nat.zero_le _)
    have hvb : ∀ b, v'.ownBlock = some b → v.ownBlock = some b ∨ w.heap.size ≤ b := by
      intro b hb'
      by_cases hvb : v.ownBlock = some b
      · exact .inl hvb
      · right
        have hfr : v' = .slice none 0 0 ∨ ∃ n c, v' = .slice (some ⟨w.heap.size, 0, none⟩) n c := by
          rcases hf.2 with ⟨rfl, hx0⟩ | ⟨g, cap, cur, rfl, _, hg', hnc', hcm', hcs', _⟩
          · by_cases hy0 : ys.length = 0
            · exact .inl (hiff.2 ⟨rfl, hy0⟩)
            · have hr2 := run_append_nil (P := P) w t ty e i z ht hi hz ad ys.length c news (by rw [hnl, hks]) hnc (by omega) (by omega) (by rw [hx0] at hb; simp at hb; omega)
              rw [hrun] at hr2
              exact .inr ⟨_, _, (Result.ok.inj hr2).1⟩
          · by_cases hroom : xs.length + ys.length ≤ cap
            · exfalso
              have hfit : xs.length * i.size + news.length ≤ cur.size := by rw [hnl, hcs', hks, ← Nat.add_mul]; exact Nat.mul_le_mul_right _ hroom
              have hr2 := run_append_room (P := P) w t ty e i ht hi g xs.length cap cur hg' ad ys.length c news (by rw [hnl, hks]) hnc hn1 hroom hfit
              rw [hrun] at hr2
              rw [(Result.ok.inj hr2).1] at hb'
              exact hvb hb'
            · have hr2 := run_append_grow (P := P) w t ty e i z ht hi hz ⟨g, 0, none⟩ xs.length cap flat (by rw [hf.1, hks]) (fun j u hj => hf.cells rfl j u hj) ad ys.length c news (by rw [hnl, hks]) hnc (by omega) (by omega) (growslice_fits (by omega) hb)
              rw [hrun] at hr2
              exact .inr ⟨_, _, (Result.ok.inj hr2).1⟩
        rcases hfr with e1 | ⟨n1, c1, e1⟩
        · rw [e1] at hb'; cases hb'
        · rw [e1] at hb'; simp [Value.ownBlock] at hb'; omega
    refine ⟨v', w', hrun, hg, fun b hb' => ⟨(hown.lt b hb').2, hvb b hb'⟩, flat ++ news, by rw [hks, List.length_append]; exact hown, fun q j k hq hk => ?_⟩
    have hj : j < (kinds P e).length := (List.getElem?_eq_some_iff.1 hk).1
    by_cases hqx : q < xs.length
    · obtain ⟨u, h1, h2⟩ := hr q j k hqx hk
      refine ⟨u, ?_, ?_⟩
      · rw [List.getElem?_append_left (List.getElem?_eq_some_iff.1 h1).1]; exact h1
      · have e1 : (xs ++ ys).getD q [] = xs.getD q [] := by simp only [List.getD_eq_getElem?_getD, List.getElem?_append_left hqx]
        rw [e1]; exact h2
    · have hqx' := Nat.le_of_not_lt hqx
      have hq' : q - xs.length < ys.length := by rw [List.length_append] at hq; omega
      obtain ⟨u, h1, h2⟩ := hnr (q - xs.length) j k hq' hk
      refine ⟨u, ?_, ?_⟩
      · have hle : flat.length ≤ q * (kinds P e).length + j := by
          rw [hf.1]; exact Nat.le_trans (Nat.mul_le_mul_right _ hqx') (Nat.le_add_right _ _)
        rw [List.getElem?_append_right hle, hf.1]
        have : q * (kinds P e).length + j - xs.length * (kinds P e).length = (q - xs.length) * (kinds P e).length + j := by
          rw [Nat.sub_mul]; have := Nat.mul_le_mul_right (kinds P e).length hqx'; omega
        rw [this]; exact h1
      · have e1 : (xs ++ ys).getD q [] = ys.getD (q - xs.length) [] := by simp only [List.getD_eq_getElem?_getD, List.getElem?_append_right hqx']
        rw [e1]; exact h2
theorem zeroOk_spec {e : TypeId} {n : Nat} (h : zeroOk E e n = true) : ∃ i z, E.P.info? e = some i ∧ i.zero = some z ∧ z.cells.size = n := by
  unfold zeroOk at h
  split at h
  · rename_i i hi
    split at h
    · rename_i z hz; exact ⟨i, z, hi, hz, Nat.eq_of_beq_eq_true h⟩
    · cases h
  · cases h
theorem putO_eq (st : St) (d : Option Nat) (av : AV) : Ev.putO st d av = match d with | some d => Ev.put st d av | none => st := rfl
theorem Rel.putOwnO (h : Rel E w0 X st a cx) {d : Option Nat} (hd : ∀ x, d = some x → x < E.nt) {e : TypeId} {xs : List (List D)} {v : Value} (hv : Owns cx.P cx.w (Forb cx) e xs v)
    (hf : ∀ b, v.ownBlock = some b → b < cx.w.heap.size ∧ (w0.heap.size ≤ b ∨ X b) ∧ ∃ p, cx.O b = some p ∧ Free st p.1 p.2) :
    ∃ cx', Rel E w0 X (Ev.putO st d (.p false [.sl 1 e xs])) (a.put d v) cx' ∧ cx'.w = cx.w ∧ cx'.N = cx.N ∧ cx'.A = cx.A := by
  cases d with
  | some d => exact h.putOwn (hd d rfl) hv hf
  | none => exact ⟨cx, h, rfl, rfl, rfl⟩
/-- New blocks are given to a free place; what this place owned may have changed. -/
theorem Rel.touchNew (h : Rel E w0 X st a cx) {d i : Nat} (hfree : Free st d i) {w' : World} (ho : w'.os = cx.w.os) (ht : w'.tape = cx.w.tape) (hu : w'.output = cx.w.output) (hs : cx.w.heap.size ≤ w'.heap.size) (hb : ∀ b, b < cx.w.heap.size → cx.O b ≠ some (d, i) → w'.heap[b]? = cx.w.heap[b]?) :
    Rel E w0 X st a { cx with w := w', O := fun b => if cx.w.heap.size ≤ b ∧ b < w'.heap.size then some (d, i) else cx.O b } := by
  have hold : ∀ b, b < cx.w.heap.size → (if cx.w.heap.size ≤ b ∧ b < w'.heap.size then some (d, i) else cx.O b) = cx.O b := fun b hb => if_neg fun hh => by omega
  have hch : Ch cx { cx with w := w', O := fun b => if cx.w.heap.size ≤ b ∧ b < w'.heap.size then some (d, i) else cx.O b } (fun b => cx.O b = some (d, i)) (fun _ _ => False) (fun _ => False) :=
    ⟨rfl, rfl, fun b hb' hS => hb b hb' hS, fun b hbl hf => ⟨fun hS => hf (.inr ⟨_, hS⟩), fun hf' => hf (hf'.imp id fun ⟨p, hp⟩ => ⟨p, (hold b hbl).symm.trans hp⟩)⟩, fun _ _ _ => rfl, fun _ _ => rfl⟩
  refine ⟨h.P, h.defers, ⟨ho.trans h.kept.os, ht.trans h.kept.tape, hu.trans h.kept.output, Nat.le_trans h.kept.size hs, fun k hk hx => ?_⟩, fun b p hp => ?_, h.non, h.glob, h.nt, fun t => ?_⟩
  · rw [hb k (Nat.lt_of_lt_of_le hk h.kept.size) (fun hp => by rcases (h.own k _ hp).2 with h1 | h1; omega; exact hx h1)]
    exact h.kept.block k hk hx
  · by_cases hn : cx.w.heap.size ≤ b ∧ b < w'.heap.size
    · exact ⟨hn.2, .inl (Nat.le_trans h.kept.size hn.1)⟩
    · simp only [if_neg hn] at hp; exact ⟨Nat.lt_of_lt_of_le (h.own b p hp).1 hs, (h.own b p hp).2⟩
  · refine (h.slots t).change hch (by cases get st t <;> first | trivial | (intro; simp) | exact id | (intro c hc; cases c <;> first | trivial | exact id) | (intro p hp c hc; cases c <;> first | trivial | exact id)) (fun j c hj hoc => ⟨id, fun b hb' => ⟨(h.own b _ hb').1, fun hS => ?_, (hold b (h.own b _ hb').1).trans hb'⟩⟩) (fun w cs hbx => ⟨id, fun b hb' => ⟨(h.own b _ hb').1, fun hS => ?_, (hold b (h.own b _ hb').1).trans hb'⟩⟩)
    · rw [hb'] at hS
      obtain ⟨rfl, rfl⟩ := Prod.mk.inj (Option.some.inj hS)
      have := hfree.2 j rfl
      rw [own_at hj, hoc] at this; cases this
    · rw [hb'] at hS
      obtain ⟨rfl, rfl⟩ := Prod.mk.inj (Option.some.inj hS)
      exact hfree.1 rfl w cs hbx
theorem free_takeOut (d j : Nat) : Free (Ev.takeOut st d j) d (j + 1) := by
  refine ⟨fun h => by simp at h, fun j' hj' => ?_⟩
  obtain rfl : j = j' := by omega
  show isOwn (cellAt (get ((d, clearA (forgetRA d j (get st d)) j) :: Ev.forgetR d j st) d) j) = false
  rw [get_cons, if_pos rfl, clearA_eq, cellAt_eq, cellsIn_setAt, List.getD_eq_getElem?_getD, List.getElem?_set, if_pos rfl]
  split <;> rfl
theorem exec_append {args : Array Operand} {ts : Array TypeId} (ho : o.op = .call { callee := .builtin .append, args := args, argTypes := ts }) {s x : Operand} {t : TypeId} (ha : args.toList = [s, x]) (hts : ts.toList = [t, t]) {P : Program} {w w' : World} {v : Value} (hr : (Builtin.append_ #[t, t] o.type #[a.eval s, a.eval x]).run P w = .ok v w') : (execOp a.eval o).run P w = .ok (.value v) w' := by
  have ha' : args = #[s, x] := by rw [← Array.toArray_toList (xs := args), ha]
  have ht' : ts = #[t, t] := by rw [← Array.toArray_toList (xs := ts), hts]
  subst ha' ht'
  simp [execOp, ho, resolve, invoke, builtin, hr]
theorem Rel.q_append (h : Rel E w0 X st a cx) (hd : ∀ x, o.dst = some x → x < E.nt) {args : Array Operand} {ts : Array TypeId} (ho : o.op = .call { callee := .builtin .append, args := args, argTypes := ts }) {s x : Operand} {t : TypeId} (ha : args.toList = [s, x]) (hts : ts.toList = [t, t])
    (hav : (appendOp E st o.dst t s x).run = some st') : After E w0 X st' o a cx := by
  unfold appendOp at hav
  split at hav
  · rename_i e ht
    split at hav
    · rename_i c y i hs hx hi
      dsimp only at hav
      obtain ⟨hk, hav⟩ := bif_run hav
      simp only [Bool.and_eq_true, decide_eq_true_eq] at hk
      obtain ⟨hks, h0, hzo⟩ := hk
      have hks := Nat.eq_of_beq_eq_true hks
      obtain ⟨i', z, hi', hz, hzs⟩ := zeroOk_spec hzo
      obtain rfl := Option.some.inj (hi.symm.trans hi')
      split at hav
      · rename_i ys hys
        have hl : Laid E.P cx.w (Forb cx) e ys (a.eval x) := by
          rw [← h.P]
          split at hys
          · rename_i q e' ys' hr
            cases hb : Nat.beq e e' with
            | false => rw [hb] at hys; cases hys
            | true =>
              rw [hb] at hys
              obtain rfl := Option.some.inj hys
              obtain rfl := Nat.eq_of_beq_eq_true hb
              exact h.laid hx hr (by rw [h.P, hks]; exact h0)
          · rename_i hr
            obtain rfl := Option.some.inj hys
            have hr' : CellsRep cx 0 0 [y] [a.eval x] := (hx ▸ h.opnd 0 x : AVRep cx 0 (.p false [y]) (a.eval x))
            have hc := hr'.2.2 0 y (a.eval x) rfl rfl
            cases y with
            | v yv => have hyv : Cell.v yv = Cell.v (.slice none 0 0) := hr; cases hyv; exact .inl ⟨0, hc, rfl⟩
            | u => cases hr
            | sl ow e1 xs1 => cases hr
            | ref d j =>
              simp only [res] at hr
              split at hr <;> cases hr
          · cases hys
        split at hav
        · obtain ⟨hb, hav⟩ := br_run hav
          simp only [Bool.and_eq_true, decide_eq_true_eq] at hb
          rw [← ret_run hav]
          have hv : a.eval s = .slice none 0 0 := by
            have hr' : CellsRep cx 0 0 [.v (.slice none 0 0)] [a.eval s] := (hs ▸ h.opnd 0 s : AVRep cx 0 (.p false [.v (.slice none 0 0)]) (a.eval s))
            exact hr'.2.2 0 _ (a.eval s) rfl rfl
          have hown : Owns E.P cx.w (Forb cx) e [] (.slice none 0 0) := ⟨by rw [hks]; exact h0, [], World.ownsRow_nil _ _ _ _, fun i j k hi => by simp at hi⟩
          obtain ⟨v', w', hrun, hg, hvb, flat, hf, hr⟩ := append_run cx.w t o.type e i z ht hi hz hzs hks h0 hown hl (by simpa using hb.1) (by simpa using hb.2)
          rw [List.nil_append] at hf hr
          refine h.after_quiet hd (.inl ⟨v', w', exec_append ho ha hts (by rw [hv]; exact hrun), newSlice (by rw [h.P, hks]; exact h0) ⟨hg.os, hg.tape, hg.output, hg.size, fun b hb' => hg.block b hb' (by simp [Value.ownBlock])⟩ (flat := flat) (by rw [h.P]; exact hf) (by rw [h.P]; exact hr) fun b hb' => ?_⟩)
          rcases (hvb b hb').2 with h1 | h1
          · simp [Value.ownBlock] at h1
          · exact h1
        · rename_i d j _hv0
          split at hav
          · rename_i e' xs hca
            obtain ⟨hee, hav2⟩ := bif_run hav
            obtain rfl := Nat.eq_of_beq_eq_true hee
            obtain ⟨hb, hav⟩ := br_run hav2
            simp only [Bool.and_eq_true, decide_eq_true_eq] at hb
            rw [← ret_run hav]
            obtain ⟨v, hpl, hown, hO, _⟩ := h.place hca
            have hv : a.eval s = v := by
              have hr' : CellsRep cx 0 0 [.ref d j] [a.eval s] := (hs ▸ h.opnd 0 s : AVRep cx 0 (.p false [.ref d j]) (a.eval s))
              obtain ⟨e2, h2⟩ := hr'.2.2 0 _ (a.eval s) rfl rfl
              exact (Prod.mk.inj (Option.some.inj (h2.symm.trans hpl))).2
            rw [h.P] at hown
            obtain ⟨v', w', hrun, hg, hvb, flat, hf, hr⟩ := append_run cx.w t o.type e i z ht hi hz hzs hks h0 hown hl hb.1 hb.2
            have hblk : ∀ b, b < cx.w.heap.size → cx.O b ≠ some (d, j + 1) → w'.heap[b]? = cx.w.heap[b]? := fun b hb' hne => hg.block b hb' fun e1 => hne (hO b e1.symm)
            have h1 := (h.takeOut d j).touchNew (free_takeOut (st := st) d j) hg.os hg.tape hg.output hg.size hblk
            have hF : ∀ b, b < cx.w.heap.size → ¬ Forb cx b → w'.heap[b]? = cx.w.heap[b]? ∧ ¬ Forb { cx with w := w', O := fun b => if cx.w.heap.size ≤ b ∧ b < w'.heap.size then some (d, j + 1) else cx.O b } b := by
              intro b hbl hf'
              refine ⟨hblk b hbl fun hS => hf' (.inr ⟨_, hS⟩), fun hf2 => hf' (hf2.imp id fun ⟨p, hp⟩ => ⟨p, ?_⟩)⟩
              simpa [if_neg (show ¬ (cx.w.heap.size ≤ b ∧ b < w'.heap.size) by omega)] using hp
            have hownN : Owns cx.P w' (Forb { cx with w := w', O := fun b => if cx.w.heap.size ≤ b ∧ b < w'.heap.size then some (d, j + 1) else cx.O b }) e (xs ++ ys) v' := by
              rw [h.P]
              refine ⟨by rw [hks]; exact h0, flat, hf, fun q j' k hq hk => ?_⟩
              obtain ⟨u, h3, h4⟩ := hr q j' k hq hk
              exact ⟨u, h3, h4.change hF⟩
            have hfree : ∀ b, v'.ownBlock = some b → b < w'.heap.size ∧ (w0.heap.size ≤ b ∨ X b) ∧ ∃ p, (if cx.w.heap.size ≤ b ∧ b < w'.heap.size then some (d, j + 1) else cx.O b) = some p ∧ Free (Ev.takeOut st d j) p.1 p.2 := by
              intro b hb'
              obtain ⟨hlt, hvb'⟩ := hvb b hb'
              refine ⟨hlt, ?_, (d, j + 1), ?_, free_takeOut (st := st) d j⟩
              · rcases hvb' with h5 | h5
                · exact (h.own b _ (hO b h5)).2
                · exact .inl (Nat.le_trans h.kept.size h5)
              · by_cases hn : cx.w.heap.size ≤ b ∧ b < w'.heap.size
                · exact if_pos hn
                · rcases hvb' with h5 | h5
                  · exact (if_neg hn).trans (hO b h5)
                  · exact absurd ⟨h5, hlt⟩ hn
            obtain ⟨cx', g1, g2, g3, g4⟩ := h1.putOwnO hd hownN hfree
            exact .inl (.inl ⟨v', w', exec_append ho ha hts (by rw [hv]; exact hrun), cx', g1, g2, g3, g4⟩)
          · cases hav
        · cases hav
      · cases hav
    · cases hav
  · cases hav
end
end Go.Proofs.YtpggnjmmpkdkjaaGreat.Ev
