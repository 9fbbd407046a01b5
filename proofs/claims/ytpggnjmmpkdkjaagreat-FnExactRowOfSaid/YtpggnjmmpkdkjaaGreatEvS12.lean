/- Stores and calls that write: what the model runs. No condition. -/
import Derived.Test.YtpggnjmmpkdkjaaGreatEvS11
namespace Go.Proofs.YtpggnjmmpkdkjaaGreat.Ev
open Go Go.RowKit
set_option linter.unusedVariables false
set_option linter.unusedSimpArgs false
section
variable {E : Env} {w0 : World} {X : Nat → Prop} {st st' : St} {a : Act} {cx : Cx} {o : Oper} {av : AV}
theorem splice_get (l vs : List Value) (p : Nat) (h : p + vs.length ≤ l.length) (q : Nat) : (l.take p ++ vs ++ l.drop (p + vs.length))[q]? = if p ≤ q ∧ q < p + vs.length then vs[q - p]? else l[q]? := by
  have hl : (l.take p).length = p := by rw [List.length_take]; omega
  have hl2 : (l.take p ++ vs).length = p + vs.length := by rw [List.length_append, hl]
  by_cases h1 : q < p
  · rw [List.append_assoc, List.getElem?_append_left (by omega), List.getElem?_take, if_pos h1, if_neg (by omega)]
  · by_cases h2 : q < p + vs.length
    · rw [List.getElem?_append_left (by omega), List.getElem?_append_right (by omega), hl, if_pos ⟨by omega, h2⟩]
    · rw [List.getElem?_append_right (by omega), hl2, List.getElem?_drop, if_neg (by omega)]
      congr 1; omega
theorem run_storeVar {P : Program} {t : TypeId} {w : World} {b p : Nat} {e : TypeId} {cur : Array Value} {v : Value} {vs : List Value} (hn : sizeP P t ≠ 0) (hv : v.cells = vs.toArray) (hl : vs.length = sizeP P t) (h1 : ∀ u ∈ vs, u.oneCell' = true) (hh : w.heap[b]? = some (.cells cur e (0, 0))) (hp : p + vs.length ≤ cur.size) :
    (storeVar t ⟨b, p, none⟩ v).run P w = .ok () (w.setRow b (cur.toList.take p ++ vs ++ cur.toList.drop (p + vs.length)).toArray) := by
  have hr := run_storeCells_at P b p e vs 0 cur w hh (by simpa using hp) h1
  simp only [Nat.add_zero] at hr
  have hne : ¬ (vs.toArray.size ≠ sizeP P t) := by simp [hl]
  simp only [storeVar, Sem.run_bind, run_sizeOf hn, Result.andThen_ok, hv, if_neg hne, Sem.run_ite, List.toList_toArray]
  exact hr
theorem exec_store {t : TypeId} {x y : Operand} (ho : o.op = .store t x y) {ad : Addr} (hx : a.eval x = .pointer (some ad)) {P : Program} {w w' : World} (hr : (storeVar t ad (a.eval y)).run P w = .ok () w') : (execOp a.eval o).run P w = .ok .skip w' := by
  simp [execOp, ho, Instr.storeAt, hx, Instr.sureAddr, hr]
theorem getD_setc (xs : List (List D)) (i : Int) (m p n : Nat) (ds : List D) (q j : Nat) (hj : j < m) (hq : q < xs.length) : ((setc xs i m p n ds).getD q []).getD j .j = if q = i.toNat then (if p ≤ j ∧ j < p + n then ds.getD (j - p) .j else (xs.getD q []).getD j .j) else (xs.getD q []).getD j .j := by
  unfold setc
  have e0 : (xs.set i.toNat (setRow m (xs.getD i.toNat []) p n ds)).getD q [] = if i.toNat = q then setRow m (xs.getD i.toNat []) p n ds else xs.getD q [] := by
    simp only [List.getD_eq_getElem?_getD, List.getElem?_set]
    by_cases e : i.toNat = q
    · rw [if_pos e, if_pos e, if_pos (by omega)]; rfl
    · rw [if_neg e, if_neg e]
  rw [e0]
  by_cases e : i.toNat = q
  · subst e
    rw [if_pos rfl, if_pos rfl]
    simp only [setRow]
    rw [List.getD_eq_getElem?_getD, List.getElem?_map, List.getElem?_range hj]
    simp only [Option.map_some, Option.getD_some]
    by_cases h1 : p ≤ j ∧ j < p + n
    · rw [if_pos h1]
      have e1 : (Nat.ble p j && Nat.blt j (p + n)) = true := by rw [Bool.and_eq_true]; exact ⟨Nat.ble_eq_true_of_le h1.1, Nat.ble_eq_true_of_le h1.2⟩
      rw [e1]; rfl
    · rw [if_neg h1]
      have e1 : (Nat.ble p j && Nat.blt j (p + n)) = false := by
        cases hb : (Nat.ble p j && Nat.blt j (p + n)) with
        | false => rfl
        | true => rw [Bool.and_eq_true] at hb; exact absurd ⟨Nat.le_of_ble_eq_true hb.1, Nat.le_of_ble_eq_true hb.2⟩ h1
      rw [e1]; rfl
  · rw [if_neg e, if_neg (Ne.symm e)]
theorem setc_length (xs : List (List D)) (i : Int) (m p n : Nat) (ds : List D) : (setc xs i m p n ds).length = xs.length := by simp [setc]
theorem setRow_world (w : World) (b : Nat) (cs : Array Value) : (w.setRow b cs).os = w.os ∧ (w.setRow b cs).tape = w.tape ∧ (w.setRow b cs).output = w.output ∧ (w.setRow b cs).heap.size = w.heap.size := ⟨rfl, rfl, rfl, by simp [World.setRow]⟩
theorem fgC_own (f : Nat → Nat → Bool) (c : Cell) : isOwn (fgC f c) = isOwn c := by
  cases c with
  | ref d j => simp only [fgC]; cases f d j <;> rfl
  | _ => rfl
theorem fgC_rep (f : Nat → Nat → Bool) {d j : Nat} {c : Cell} {v : Value} (h : CellRep cx d j c v) : CellRep cx d j (fgC f c) v := by
  cases c with
  | ref d' j' => simp only [fgC]; cases f d' j'; exact h; trivial
  | _ => exact h
theorem fgC_avoid (f : Nat → Nat → Bool) (c : Cell) : AvoidC (fun d j => f d j = true) (fgC f c) := by
  cases c with
  | ref d' j' =>
    simp only [fgC]
    cases h : f d' j' with
    | true => trivial
    | false => exact fun (hh : f _ _ = true) => by rw [h] at hh; cases hh
  | _ => trivial
theorem get_fgS (f : Nat → Nat → Bool) (t : Nat) : ∀ st : St, get (fgS f st) t = fgA f (get st t)
  | [] => rfl
  | (i, a) :: r => by
    have ih := get_fgS f t r
    show get ((i, fgA f a) :: fgS f r) t = _
    rw [get_cons, get_cons, ih]; split <;> rfl
theorem fgCs_rep (f : Nat → Nat → Bool) {d off : Nat} {cs : List Cell} {vs : List Value} (h : CellsRep cx d off cs vs) : CellsRep cx d off (cs.map (fgC f)) vs := by
  refine ⟨by simpa using h.1, h.2.1, fun j c v h1 h2 => ?_⟩
  rw [List.getElem?_map] at h1
  obtain ⟨c0, h0, rfl⟩ := Option.map_eq_some_iff.1 h1
  exact fgC_rep f (h.2.2 j c0 v h0 h2)
theorem fgA_rep (f : Nat → Nat → Bool) {d : Nat} {v : Value} (h : AVRep cx d av v) : AVRep cx d (fgA f av) v := by
  cases av with
  | p a cs => cases a with
    | true => obtain ⟨vs, hv, hr⟩ := h; exact ⟨vs, hv, fgCs_rep f hr⟩
    | false => exact fgCs_rep f (show CellsRep cx d 0 cs [v] from h)
  | tup ps =>
    obtain ⟨vs, hv, hr⟩ := h
    refine ⟨vs, hv, ?_⟩
    clear hv
    revert hr
    generalize (0 : Nat) = off
    intro hr
    induction ps generalizing off vs with
    | nil => cases vs with
      | nil => trivial
      | cons v vs => cases hr
    | cons p ps ih =>
      obtain ⟨ag, cs⟩ := p
      cases vs with
      | nil => cases ag <;> cases hr
      | cons v vs =>
        cases ag with
        | true =>
          obtain ⟨⟨ws, hw, h1⟩, h2⟩ := hr
          refine ⟨⟨ws, hw, fgCs_rep f h1⟩, ?_⟩
          have := ih vs _ h2
          simpa using this
        | false =>
          obtain ⟨h1, h2⟩ := hr
          refine ⟨fgCs_rep f h1, ?_⟩
          have := ih vs _ h2
          simpa using this
  | box o cs => obtain ⟨b, vs, t, h1, h2, h3, h4, hr⟩ := h; exact ⟨b, vs, t, h1, h2, h3, h4, fgCs_rep f hr⟩
  | ro cs o =>
    obtain ⟨b, off, vs, h1, h2, h3, h4, h5, hr⟩ := h
    refine ⟨b, off, vs, h1, by simpa using h2, ?_, h4, h5, fgCs_rep f hr⟩
    rw [List.all_map]
    rw [List.all_eq_true] at h3 ⊢
    intro c hc
    have := h3 c hc
    simp only [Function.comp_def, fgC_own]
    exact this
  | pel d' j i o => simp only [fgA]; cases f d' j; exact h; trivial
  | _ => exact h
theorem fgA_avoid (f : Nat → Nat → Bool) (av : AV) : Avoid (fun d j => f d j = true) (fun _ => False) (fgA f av) := by
  have hm : ∀ cs : List Cell, AvoidCs (fun d j => f d j = true) (cs.map (fgC f)) := by
    intro cs c hc
    obtain ⟨c0, _, rfl⟩ := List.mem_map.1 hc
    exact fgC_avoid f c0
  cases av with
  | p a cs => exact hm cs
  | tup ps => intro p hp; obtain ⟨p0, _, rfl⟩ := List.mem_map.1 hp; exact hm _
  | box o cs => exact hm cs
  | ro cs o => exact hm cs
  | pat d o => exact id
  | pel d' j i o =>
    simp only [fgA]
    cases h : f d' j with
    | true => trivial
    | false => exact fun (hh : f _ _ = true) => by rw [h] at hh; cases hh
  | _ => trivial
theorem fgA_cells (f : Nat → Nat → Bool) (av : AV) (j : Nat) {c : Cell} (h : (cellsIn (fgA f av))[j]? = some c) (ho : isOwn c = true) : ∃ c0, (cellsIn av)[j]? = some c0 ∧ isOwn c0 = true := by
  have key : ∀ cs : List Cell, (cs.map (fgC f))[j]? = some c → ∃ c0, cs[j]? = some c0 ∧ isOwn c0 = true := by
    intro cs h
    rw [List.getElem?_map] at h
    obtain ⟨c0, h0, rfl⟩ := Option.map_eq_some_iff.1 h
    exact ⟨c0, h0, by rwa [fgC_own] at ho⟩
  cases av with
  | p a cs => exact key cs h
  | box w cs => exact key cs h
  | tup ps =>
    refine key (ps.flatMap (·.2)) ?_
    rw [← h]
    simp only [fgA, cellsIn, List.flatMap_map, List.map_flatMap]
  | pel d' j' i o => simp only [fgA] at h; cases hf : f d' j' <;> rw [hf] at h <;> simp [cellsIn] at h
  | _ => simp [fgA, cellsIn] at h
theorem CellsRep.setAll' {d : Nat} : ∀ {ws : List Value} {new : List Cell} {cs : List Cell} {vs : List Value} (off : Nat), CellsRep cx d 0 cs vs → new.length = ws.length → (∀ v ∈ ws, v.oneCell' = true) → (∀ i c v, new[i]? = some c → ws[i]? = some v → CellRep cx d (off + i) c v) → CellsRep cx d 0 (Ev.setAll cs off new) (setAllV vs off ws)
  | [], [], cs, vs, off, h, _, _, _ => h
  | [], _ :: _, _, _, _, _, hn, _, _ => by simp at hn
  | _ :: _, [], _, _, _, _, hn, _, _ => by simp at hn
  | w :: ws, c :: new, cs, vs, off, h, hn, h1, hc => by
    show CellsRep cx d 0 (Ev.setAll (cs.set off c) (off + 1) new) (setAllV (vs.set off w) (off + 1) ws)
    refine CellsRep.setAll' (off + 1) ⟨by simp [h.1], fun v hv => ?_, fun j c' v' e1 e2 => ?_⟩ (by simpa using hn) (fun v hv => h1 v (List.mem_cons_of_mem _ hv)) fun i c' v' e1 e2 => ?_
    · rcases List.mem_or_eq_of_mem_set hv with hv | rfl
      · exact h.2.1 v hv
      · exact h1 v (List.mem_cons_self ..)
    · rw [List.getElem?_set] at e1 e2
      by_cases e : off = j
      · subst e
        rw [if_pos rfl] at e1 e2
        split at e1
        · split at e2
          · obtain rfl := Option.some.inj e1
            obtain rfl := Option.some.inj e2
            exact (Nat.zero_add off).symm ▸ hc 0 _ _ rfl rfl
          · cases e2
        · cases e1
      · rw [if_neg e] at e1 e2
        exact h.2.2 j c' v' e1 e2
    · have := hc (i + 1) c' v' (by simpa using e1) (by simpa using e2)
      rwa [show off + 1 + i = off + (i + 1) by omega]
theorem setAt_avoid {R : Nat → Nat → Prop} {B : Nat → Prop} (j : Nat) (h : Avoid R B av) : Avoid R B (setAt av j .u) := by
  have hm : ∀ cs : List Cell, AvoidCs R cs → AvoidCs R (cs.set j .u) := by
    intro cs hc c hcm
    rcases List.mem_or_eq_of_mem_set hcm with hcm | rfl
    · exact hc c hcm
    · trivial
  cases av with
  | p a cs => exact hm cs h
  | box w cs => exact hm cs h
  | tup ps =>
    show ∀ p ∈ setT ps j .u, AvoidCs R p.2
    have key : ∀ (ps : List (Bool × List Cell)) (j : Nat), (∀ p ∈ ps, AvoidCs R p.2) → ∀ p ∈ setT ps j .u, AvoidCs R p.2 := by
      intro ps
      induction ps with
      | nil => intro j _ p hp; cases hp
      | cons q ps ih =>
        intro j hq p hp
        obtain ⟨ag, cs⟩ := q
        have h0 : AvoidCs R cs := hq (ag, cs) (List.mem_cons_self ..)
        have hr : ∀ p ∈ ps, AvoidCs R p.2 := fun p hp => hq p (List.mem_cons_of_mem _ hp)
        have hp' : p ∈ (bif Nat.blt j cs.length then (ag, cs.set j .u) :: ps else (ag, cs) :: setT ps (j - cs.length) .u) := hp
        cases hb : Nat.blt j cs.length with
        | true =>
          rw [hb, cond_true] at hp'
          rcases List.mem_cons.1 hp' with rfl | hp'
          · intro c hcm
            rcases List.mem_or_eq_of_mem_set hcm with hcm | rfl
            · exact h0 c hcm
            · trivial
          · exact hr p hp'
        | false =>
          rw [hb, cond_false] at hp'
          rcases List.mem_cons.1 hp' with rfl | hp'
          · exact h0
          · exact ih _ hr p hp'
    exact key ps j h
  | _ => exact h
theorem onePl_iff {d0 j0 d1 j1 d j : Nat} : onePl d0 j0 d1 j1 d j = true ↔ (d = d0 ∧ j = j0) ∨ (d = d1 ∧ j = j1) := by
  unfold onePl
  simp only [Bool.or_eq_true, Bool.and_eq_true]
  constructor
  · rintro (⟨h1, h2⟩ | ⟨h1, h2⟩)
    · exact .inl ⟨Nat.eq_of_beq_eq_true h1, Nat.eq_of_beq_eq_true h2⟩
    · exact .inr ⟨Nat.eq_of_beq_eq_true h1, Nat.eq_of_beq_eq_true h2⟩
  · rintro (⟨rfl, rfl⟩ | ⟨rfl, rfl⟩)
    · exact .inl ⟨Nat.beq_refl _, Nat.beq_refl _⟩
    · exact .inr ⟨Nat.beq_refl _, Nat.beq_refl _⟩
theorem fgA_at (f : Nat → Nat → Bool) (av : AV) (j : Nat) : (cellsIn (fgA f av))[j]? = (cellsIn av)[j]?.map (fgC f) := by
  cases av with
  | tup ps =>
    simp only [fgA, cellsIn, List.flatMap_map]
    rw [← List.getElem?_map, List.map_flatMap]
  | pel d' j' i o => simp only [fgA]; cases f d' j' <;> simp [cellsIn]
  | _ => simp [fgA, cellsIn]
/-- The ownership of a slice goes over to a cell that refers to it. -/
theorem Rel.pull (h : Rel E w0 X st a cx) (t i : Nat) (c : Cell) : ∃ cx', Rel E w0 X (Ev.pull st t i c) a cx' ∧ cx'.w = cx.w ∧ cx'.N = cx.N ∧ cx'.A = cx.A ∧ cx'.bx = cx.bx := by
  have same : ∃ cx', Rel E w0 X st a cx' ∧ cx'.w = cx.w ∧ cx'.N = cx.N ∧ cx'.A = cx.A ∧ cx'.bx = cx.bx := ⟨cx, h, rfl, rfl, rfl, rfl⟩
  unfold Ev.pull
  split
  · rename_i d' j'
    split
    · rename_i ag cs e xs d2 j2 hgt hc hct
      cases hk : (!Nat.beq d' t && (Nat.beq d' d2 && Nat.beq j' j2)) with
      | false => rw [cond_false]; exact same
      | true =>
        rw [cond_true]
        simp only [Bool.and_eq_true, Bool.not_eq_true'] at hk
        obtain ⟨k1, k2, k3⟩ := hk
        obtain rfl := Nat.eq_of_beq_eq_true k2
        obtain rfl := Nat.eq_of_beq_eq_true k3
        have hdt : d' ≠ t := fun e => by rw [e, Nat.beq_refl] at k1; cases k1
        obtain ⟨v, p1, p2, p3, p4⟩ := h.place hc
        let f := onePl d' j' t i
        let cx' : Cx := { cx with
          O := fun b => if cx.O b = some (d', j' + 1) then some (t, i + 1) else cx.O b
          pl := fun d j => if d = t ∧ j = i then cx.pl d' j' else cx.pl d j }
        have hF : ∀ b, Forb cx' b ↔ Forb cx b := by
          intro b
          have : (∃ q, cx'.O b = some q) ↔ ∃ q, cx.O b = some q := by
            by_cases hb : cx.O b = some (d', j' + 1)
            · exact ⟨fun _ => ⟨_, hb⟩, fun _ => ⟨_, if_pos hb⟩⟩
            · simp only [cx', if_neg hb]
          unfold Forb
          rw [this]
        have hO : ∀ b q, cx.O b = some q → q ≠ (d', j' + 1) → cx'.O b = some q := fun b q hb hq => by
          show (if cx.O b = some (d', j' + 1) then _ else cx.O b) = _
          rw [if_neg fun e => hq (Option.some.inj (hb.symm.trans e)), hb]
        have hch : Ch cx cx' (fun _ => False) (fun d j => f d j = true) (fun _ => False) :=
          ⟨rfl, rfl, fun _ _ _ => rfl, fun b _ hf => ⟨id, fun hb => hf ((hF b).1 hb)⟩, fun d j hh => if_neg fun e => hh (onePl_iff.2 (.inr e)), fun _ _ => rfl⟩
        have hslot : ∀ q, q ≠ t → q ≠ d' → AVRep cx' q (fgA f (get st q)) (a.tmps.getD q undef) := by
          intro q hqt hqd
          refine (fgA_rep f (h.slots q)).change hch (fgA_avoid f _) (fun j c hj hoc => ⟨fun e => ?_, fun b hb => ⟨(h.own b _ hb).1, id, hO b _ hb fun e => hqd (Prod.mk.inj e).1⟩⟩) (fun w cs' hbx => ⟨id, fun b hb => ⟨(h.own b _ hb).1, id, hO b _ hb fun e => hqd (Prod.mk.inj e).1⟩⟩)
          rcases onePl_iff.1 e with e | e
          · exact hqd e.1
          · exact hqt e.1
        have hcs : cs[i]? = some (.ref d' j') := by
          rw [hgt] at hct
          have hct' : cs.getD i .u = .ref d' j' := hct
          rw [List.getD_eq_getElem?_getD] at hct'
          cases hq : cs[i]? with
          | none => rw [hq] at hct'; cases hct'
          | some c => rw [hq] at hct'; exact congrArg some hct'
        refine ⟨cx', ⟨h.P, h.defers, h.kept, fun b q hq => ?_, h.non, h.glob, h.nt, fun q => ?_⟩, rfl, rfl, rfl, rfl⟩
        · by_cases hb : cx.O b = some (d', j' + 1)
          · exact h.own b _ hb
          · have : cx.O b = some q := by
              have hq' : (if cx.O b = some (d', j' + 1) then some (t, i + 1) else cx.O b) = some q := hq
              rwa [if_neg hb] at hq'
            exact h.own b q this
        · show AVRep cx' q (get ((t, setAt (get (fgS f st) t) i (.sl 1 e xs)) :: (d', setAt (get (fgS f st) d') j' .u) :: fgS f st) q) _
          rw [get_cons, get_cons, get_fgS, get_fgS, get_fgS]
          by_cases hqt : t = q
          · subst hqt
            rw [if_pos rfl, hgt]
            have hst := h.slots t
            rw [hgt] at hst
            have key : ∀ {vs : List Value}, CellsRep cx t 0 cs vs → CellsRep cx' t 0 ((cs.map (fgC f)).set i (.sl 1 e xs)) vs := by
              intro vs hr
              refine ⟨by simpa using hr.1, hr.2.1, fun j c u h1 h2 => ?_⟩
              rw [List.getElem?_set] at h1
              by_cases ej : i = j
              · subst ej
                rw [if_pos rfl] at h1
                split at h1
                · obtain rfl := Option.some.inj h1
                  obtain ⟨e', he'⟩ := hr.2.2 i _ u hcs h2
                  obtain ⟨rfl, rfl⟩ := Prod.mk.inj (Option.some.inj (p1.symm.trans he'))
                  rw [Nat.zero_add]
                  refine ⟨p2.change (fun b _ hf => ⟨rfl, fun hb => hf ((hF b).1 hb)⟩) (fun _ _ => rfl), ?_, fun b hb => ?_, fun hh => absurd rfl hh⟩
                  · show (if t = t ∧ i = i then cx.pl d' j' else _) = _
                    rw [if_pos ⟨rfl, rfl⟩]; exact p1
                  · show (if cx.O b = some (d', j' + 1) then _ else _) = _
                    rw [if_pos (p3 b hb)]
                · cases h1
              · rw [if_neg ej] at h1
                have hbase := (fgCs_rep f hr).change hch (fun c hc => by obtain ⟨c0, _, rfl⟩ := List.mem_map.1 hc; exact fgC_avoid f c0) (d := t) (off := 0)
                  (fun j c hj hoc => ?_)
                · exact hbase.2.2 j c u h1 h2
                · rw [List.getElem?_map] at hj
                  obtain ⟨c0, h0, rfl⟩ := Option.map_eq_some_iff.1 hj
                  rw [fgC_own] at hoc
                  rw [Nat.zero_add]
                  refine ⟨fun e => ?_, fun b hb => ⟨(h.own b _ hb).1, id, hO b _ hb fun e => hdt (Prod.mk.inj e).1.symm⟩⟩
                  rcases onePl_iff.1 e with e | e
                  · exact hdt e.1.symm
                  · rw [e.2, hcs] at h0
                    obtain rfl := Option.some.inj h0
                    cases hoc
            cases ag with
            | true => obtain ⟨vs, hv, hr⟩ := hst; exact ⟨vs, hv, key hr⟩
            | false => exact key (show CellsRep cx t 0 cs [_] from hst)
          · rw [if_neg hqt]
            by_cases hqd : d' = q
            · subst hqd
              rw [if_pos rfl]
              have h1 : AVRep cx d' (setAt (fgA f (get st d')) j' .u) (a.tmps.getD d' undef) := (fgA_rep f (h.slots d')).setC j' fun _ _ _ => trivial
              have hav : Avoid (fun d j => f d j = true) (fun _ => False) (setAt (fgA f (get st d')) j' .u) := setAt_avoid _ (fgA_avoid f _)
              refine h1.change hch hav (fun j c hj hoc => ?_) (fun w cs' hbx => ⟨id, fun b hb => ⟨(h.own b _ hb).1, id, hO b _ hb fun e => by have := (Prod.mk.inj e).2; omega⟩⟩)
              rw [cellsIn_setAt, List.getElem?_set] at hj
              by_cases ej : j' = j
              · rw [if_pos ej] at hj
                split at hj
                · obtain rfl := Option.some.inj hj; cases hoc
                · cases hj
              · refine ⟨fun e => ?_, fun b hb => ⟨(h.own b _ hb).1, id, hO b _ hb fun e => ej (by have := (Prod.mk.inj e).2; omega)⟩⟩
                rcases onePl_iff.1 e with e | e
                · exact ej e.2.symm
                · exact hdt e.1
            · rw [if_neg hqd]
              exact hslot q (fun e => hqt e.symm) (fun e => hqd e.symm)
    · exact same
  · exact same
theorem Rel.pullAll (t : Nat) : ∀ (cs : List Cell) (i : Nat) {st : St} {cx : Cx}, Rel E w0 X st a cx → ∃ cx', Rel E w0 X (Ev.pullAll st t cs i) a cx' ∧ cx'.w = cx.w ∧ cx'.N = cx.N ∧ cx'.A = cx.A ∧ cx'.bx = cx.bx
  | [], i, st, cx, h => ⟨cx, h, rfl, rfl, rfl, rfl⟩
  | c :: cs, i, st, cx, h => by
    obtain ⟨cx1, h1, e1, e2, e3, e4⟩ := h.pull t i c
    obtain ⟨cx2, h2, f1, f2, f3, f4⟩ := Rel.pullAll t cs (i + 1) h1
    exact ⟨cx2, h2, f1.trans e1, f2.trans e2, f3.trans e3, f4.trans e4⟩
theorem Rel.q_moveStore (h : Rel E w0 X st a cx) (hdst : o.dst = none) (ty : TypeId) (x : Operand) (t : Nat) (ho : o.op = .store ty x (.tmp t)) {d p b : Nat} (hb : cx.bx d = some b) (hxv : a.eval x = .pointer (some ⟨b, p, none⟩)) {ag : Bool} {cs : List Cell} (ht : get st t = .p ag cs) {w : Bool} {bs : List Cell} (hg : get st d = .box w bs)
    (htd : t ≠ d) (hm : cs.any isMutC = false) (k1 : cs.length = sizeP E.P ty) (k2 : p + sizeP E.P ty ≤ bs.length) (k3 : (takeAt bs p (sizeP E.P ty)).any isOwn = false) (k4 : sizeP E.P ty ≠ 0) :
    After E w0 X ((d, .box w (setAll (bs.map (fgC (inPl t d p (sizeP E.P ty)))) p (cs.map noRef))) :: (t, .u) :: fgS (inPl t d p (sizeP E.P ty)) st) o a cx := by
  have hs := h.slots d
  rw [hg] at hs
  obtain ⟨b', vs0, t', hdv, h1, h2, h3, hr0⟩ := hs
  obtain rfl := Option.some.inj (hb.symm.trans h1)
  have hst := h.slots t
  rw [ht] at hst
  obtain ⟨vs, hv, hr⟩ : ∃ vs : List Value, (a.tmps.getD t undef).cells = vs.toArray ∧ CellsRep cx t 0 cs vs := by
    cases ag with
    | true => obtain ⟨vs, hv, hr⟩ := hst; exact ⟨vs, by rw [hv]; rfl, hr⟩
    | false =>
      have hr : CellsRep cx t 0 cs [a.tmps.getD t undef] := hst
      have h1 := hr.2.1 _ (List.mem_singleton.2 rfl)
      exact ⟨[a.tmps.getD t undef], by revert h1; cases a.tmps.getD t undef <;> simp [Value.oneCell', Value.cells], hr⟩
  have hvl : vs.length = sizeP E.P ty := by rw [← hr.1]; exact k1
  have hpl : p + vs.length ≤ vs0.length := by rw [← hr0.1, hvl]; exact k2
  have hrun := run_storeVar (P := E.P) (t := ty) (v := a.eval (.tmp t)) (p := p) k4 hv hvl hr.2.1 h3 (by simpa using hpl)
  rw [List.toList_toArray, ← setAllV_eq vs vs0 p hpl] at hrun
  obtain ⟨g1, g2, g3, g4⟩ := setRow_world cx.w b (setAllV vs0 p vs).toArray
  let W' := cx.w.setRow b (setAllV vs0 p vs).toArray
  let f := inPl t d p (sizeP E.P ty)
  let cx' : Cx := { cx with
    w := W'
    O := fun b => match cx.O b with
      | some (t', i + 1) => if t' = t then some (d, p + i + 1) else some (t', i + 1)
      | x => x
    pl := fun d' j => if d' = d ∧ p ≤ j ∧ j < p + sizeP E.P ty then cx.pl t (j - p) else cx.pl d' j }
  have hO0 : ∀ b, (∃ q, cx'.O b = some q) → ∃ q, cx.O b = some q := by
    rintro b ⟨q, hq⟩
    cases hb : cx.O b with
    | none => simp only [cx', hb] at hq; cases hq
    | some q => exact ⟨q, rfl⟩
  have hO1 : ∀ b t' i, cx.O b = some (t', i + 1) → cx'.O b = some (if t' = t then (d, p + i + 1) else (t', i + 1)) := by
    intro b t' i hb
    simp only [cx', hb]
    split <;> rfl
  have hO2 : ∀ b t', cx.O b = some (t', 0) → cx'.O b = some (t', 0) := by intro b t' hb; simp only [cx', hb]
  have hF : ∀ b, Forb cx' b ↔ Forb cx b := by
    intro b
    constructor
    · rintro (hN | hp)
      · exact .inl hN
      · exact .inr (hO0 b hp)
    · rintro (hN | ⟨⟨t', i⟩, hp⟩)
      · exact .inl hN
      · cases i with
        | zero => exact .inr ⟨_, hO2 b t' hp⟩
        | succ i => exact .inr ⟨_, hO1 b t' i hp⟩
  have hfR : ∀ d' j, f d' j = true ↔ d' = t ∨ (d' = d ∧ p ≤ j ∧ j < p + sizeP E.P ty) := by
    intro d' j
    show (Nat.beq d' t || (Nat.beq d' d && (Nat.ble p j && Nat.blt j (p + sizeP E.P ty)))) = true ↔ _
    simp only [Bool.or_eq_true, Bool.and_eq_true]
    constructor
    · rintro (e | ⟨e1, e2, e3⟩)
      · exact .inl (Nat.eq_of_beq_eq_true e)
      · exact .inr ⟨Nat.eq_of_beq_eq_true e1, Nat.le_of_ble_eq_true e2, Nat.le_of_ble_eq_true e3⟩
    · rintro (rfl | ⟨rfl, e2, e3⟩)
      · exact .inl (Nat.beq_refl _)
      · exact .inr ⟨Nat.beq_refl _, Nat.ble_eq_true_of_le e2, Nat.ble_eq_true_of_le e3⟩
  have hch : Ch cx cx' (fun b' => b' = b) (fun d' j => f d' j = true) (fun _ => False) :=
    ⟨rfl, rfl, fun b' _ hne => setRow_other _ _ _ _ hne, fun b' _ hf => ⟨fun e => hf (.inr ⟨(d, 0), by rw [e]; exact h2⟩), fun hb' => hf ((hF b').1 hb')⟩,
      fun d' j hh => if_neg fun e => hh ((hfR d' j).2 (.inr e)), fun _ _ => rfl⟩
  refine .inr ⟨W', exec_store ho hxv hrun, cx', ?_, rfl, rfl, rfl⟩
  rw [hdst]
  refine ⟨h.P, h.defers, ⟨g1.trans h.kept.os, g2.trans h.kept.tape, g3.trans h.kept.output, Nat.le_trans h.kept.size (Nat.le_of_eq g4.symm), fun k hk hX => ?_⟩, fun b' q hq => ?_, h.non, h.glob, h.nt, fun q => ?_⟩
  · have hne : k ≠ b := fun e => by
      rcases (h.own b _ h2).2 with e1 | e1
      · omega
      · rw [e] at hX; exact hX e1
    exact (setRow_other _ _ _ _ hne).trans (h.kept.block k hk hX)
  · obtain ⟨q', hq'⟩ := hO0 b' ⟨q, hq⟩
    have := h.own b' q' hq'
    exact ⟨Nat.lt_of_lt_of_le this.1 (Nat.le_of_eq g4.symm), this.2⟩
  · show AVRep cx' q (get ((d, .box w (Ev.setAll (bs.map (fgC f)) p (cs.map noRef))) :: (t, .u) :: fgS f st) q) _
    rw [get_cons]
    by_cases ed : d = q
    · subst ed
      rw [if_pos rfl]
      refine ⟨b, setAllV vs0 p vs, t', hdv, h1, hO2 b d h2, setRow_heap _ _ _ _ _ _ h3, ?_⟩
      have hnoB : ∀ j c, (bs.map (fgC f))[j]? = some c → isOwn c = true → ¬ (p ≤ j ∧ j < p + sizeP E.P ty) := by
        rintro j c hj hoc ⟨e1, e2⟩
        rw [List.getElem?_map] at hj
        obtain ⟨c0, h0, rfl⟩ := Option.map_eq_some_iff.1 hj
        rw [fgC_own] at hoc
        have hmem : c0 ∈ takeAt bs p (sizeP E.P ty) := by
          unfold takeAt
          refine List.mem_iff_getElem?.2 ⟨j - p, ?_⟩
          rw [List.getElem?_take, if_pos (by omega), List.getElem?_drop, show p + (j - p) = j by omega]; exact h0
        have := List.any_eq_false.1 k3 c0 hmem
        exact this hoc
      refine CellsRep.setAll' p ?_ (by simpa using hr.1) hr.2.1 fun i c v hc hv => ?_
      · refine (fgCs_rep f hr0).change hch (fun c hc => ?_) fun j c hj hoc => ⟨fun e => ?_, fun b' hb' => ⟨(h.own b' _ hb').1, fun e => ?_, ?_⟩⟩
        · obtain ⟨c0, _, rfl⟩ := List.mem_map.1 hc; exact fgC_avoid f c0
        · rcases (hfR _ _).1 e with e | ⟨_, e⟩
          · exact htd e.symm
          · exact hnoB j c hj hoc (by simpa using e)
        · rw [e, h2] at hb'; cases hb'
        · have := hO1 b' d _ hb'
          rwa [if_neg fun e => htd e.symm] at this
      · rw [List.getElem?_map] at hc
        obtain ⟨c0, h0, rfl⟩ := Option.map_eq_some_iff.1 hc
        have hcr := hr.2.2 i c0 v h0 hv
        have hi : i < sizeP E.P ty := by rw [← k1]; exact (List.getElem?_eq_some_iff.1 h0).1
        cases c0 with
        | u => trivial
        | v x => exact hcr
        | ref d' j' => trivial
        | sl n e xs => cases n with
          | zero =>
            have hcr' : RepD cx.P cx.w (Forb cx) (.sl e) (.l xs) v := hcr
            exact hcr'.change fun b' hb' hf => ⟨setRow_other _ _ _ _ fun e => hf (.inr ⟨(d, 0), by rw [e]; exact h2⟩), fun hb2 => hf ((hF b').1 hb2)⟩
          | succ n =>
            obtain rfl := isMut_no hm (List.mem_of_getElem? h0)
            obtain ⟨q1, q2, q3, q4⟩ := hcr
            rw [Nat.zero_add] at q2 q3
            refine ⟨q1.change (fun b' hb' hf => ⟨setRow_other _ _ _ _ fun e => hf (.inr ⟨(d, 0), by rw [e]; exact h2⟩), fun hb2 => hf ((hF b').1 hb2)⟩) (fun b' hb' => setRow_other _ _ _ _ fun e => ?_), ?_, fun b' hb' => ?_, fun hh => absurd rfl hh⟩
            · have := q3 b' hb'
              rw [e, h2] at this; cases this
            · show (if d = d ∧ p ≤ p + i ∧ p + i < p + sizeP E.P ty then cx.pl t (p + i - p) else cx.pl d (p + i)) = _
              rw [if_pos ⟨rfl, by omega, by omega⟩, show p + i - p = i by omega]; exact q2
            · have := hO1 b' t i (q3 b' hb')
              rwa [if_pos rfl] at this
    · rw [if_neg ed, get_cons]
      split
      · trivial
      · rename_i et
        rw [get_fgS]
        refine (fgA_rep f (h.slots q)).change hch (fgA_avoid f _) (fun j c hj hoc => ⟨fun e => ?_, fun b' hb' => ⟨(h.own b' _ hb').1, fun e => ?_, ?_⟩⟩) (fun w' cs' hbx => ⟨id, fun b' hb' => ⟨(h.own b' _ hb').1, fun e => ?_, hO2 b' q hb'⟩⟩)
        · rcases (hfR _ _).1 e with e | ⟨e, _⟩
          · exact et e.symm
          · exact ed e.symm
        · rw [e, h2] at hb'; cases hb'
        · have := hO1 b' q j hb'
          rwa [if_neg fun e => et e.symm] at this
        · rw [e, h2] at hb'
          exact ed (Prod.mk.inj (Option.some.inj hb')).1
theorem Rel.q_store (h : Rel E w0 X st a cx) (hdst : o.dst = none) (t : TypeId) (x y : Operand) (ho : o.op = .store t x y) (hav : (storeOp E st t x y).run = some st') : After E w0 X st' o a cx := by
  have fin : ∀ {cx' : Cx} {w' : World}, (execOp a.eval o).run E.P cx.w = .ok .skip w' → Rel E w0 X st' a cx' → cx'.w = w' → cx'.N = cx.N → cx'.A = cx.A → After E w0 X st' o a cx := by
    intro cx' w' h1 h2 h3 h4 h5
    refine .inr ⟨w', h1, cx', ?_, h3, h4, h5⟩
    rw [hdst]; exact h2
  unfold storeOp at hav
  dsimp only at hav
  split at hav
  · rename_i d p cs hx hy
    obtain ⟨vs, hv, hr⟩ := cellsOf_rep hy (fun d => h.opnd d y)
    have hno := opnd_cells_noOwn E (get st) h.glob y hy
    obtain ⟨b, hb, hxv⟩ := (hx ▸ h.opnd 0 x : AVRep cx 0 (.pat d p) (a.eval x))
    split at hav
    · rename_i w bs hg
      obtain ⟨hk, hav⟩ := bif_run hav
      simp only [Bool.and_eq_true, decide_eq_true_eq] at hk
      obtain ⟨⟨k1, k2⟩, k3, k4⟩ := hk
      cases hl : cs.any lendsC with
      | true =>
        rw [hl, cond_true] at hav
        unfold moveStore at hav
        split at hav
        · rename_i t0 _
          dsimp only at hav
          split at hav
          · rename_i ag cs0 w0' bs0 hgt hgd
            obtain ⟨hk2, hav⟩ := bif_run hav
            obtain rfl := ret_run hav
            simp only [Bool.and_eq_true, Bool.not_eq_true', decide_eq_true_eq] at hk2
            obtain ⟨⟨q1, q2⟩, ⟨q3, q4⟩, q5, q6⟩ := hk2
            obtain ⟨cx1, hr1, w1, n1, a1, b1⟩ := Rel.pullAll t0 (cellsP (get st t0)) 0 h
            have := hr1.q_moveStore hdst t x t0 ho (b1 ▸ hb) hxv hgt hgd (fun e => by rw [e, Nat.beq_refl] at q1; cases q1) q2 (Nat.eq_of_beq_eq_true q3) q4 (by simpa using q5) (by have := Nat.le_of_ble_eq_true q6; omega)
            rcases this with hh | ⟨w', e1, cx2, e2, e3, e4, e5⟩
            · refine .inl ?_
              have hh' : Does E.P o a cx.w _ := w1 ▸ hh
              exact hh'.mono fun v w' ⟨cx2, e2, e3, e4, e5⟩ => ⟨cx2, e2, e3, e4.trans n1, e5.trans a1⟩
            · exact .inr ⟨w', w1 ▸ e1, cx2, e2, e3, e4.trans n1, e5.trans a1⟩
          · cases hav
        · cases hav
      | false =>
      rw [hl, cond_false] at hav
      obtain rfl := ret_run hav
      have hn : cs.length = sizeP E.P t := Nat.eq_of_beq_eq_true k1
      have hn0 : sizeP E.P t ≠ 0 := by have := Nat.le_of_ble_eq_true k4; omega
      have hs := h.slots d
      rw [hg] at hs
      obtain ⟨b', vs0, t', hdv, h1, h2, h3, hr0⟩ := hs
      obtain rfl := Option.some.inj (hb.symm.trans h1)
      have hvl : vs.length = sizeP E.P t := by rw [← (hr 0).1]; exact hn
      have hpl : p + vs.length ≤ vs0.length := by rw [← hr0.1, hvl]; exact k2
      have hrun := run_storeVar (P := E.P) (t := t) (v := a.eval y) (p := p) hn0 hv hvl (hr 0).2.1 h3 (by simpa using hpl)
      rw [List.toList_toArray, ← setAllV_eq vs vs0 p hpl] at hrun
      obtain ⟨g1, g2, g3, g4⟩ := setRow_world cx.w b (setAllV vs0 p vs).toArray
      have hch : Ch cx { cx with w := cx.w.setRow b (setAllV vs0 p vs).toArray } (fun b' => b' = b) (fun _ _ => False) (fun _ => False) :=
        ⟨rfl, rfl, fun b' _ hne => setRow_other _ _ _ _ hne, fun b' _ hf => ⟨fun e => hf (.inr ⟨(d, 0), by rw [e]; exact h2⟩), hf⟩, fun _ _ _ => rfl, fun _ _ => rfl⟩
      have av0 : ∀ cs : List Cell, AvoidCs (fun _ _ => False) cs := fun cs c _ => by cases c <;> first | trivial | exact id
      have := h.touch d 0 (w' := cx.w.setRow b (setAllV vs0 p vs).toArray) g1 g2 g3 (Nat.le_of_eq g4.symm) (fun b' _ hne => setRow_other _ _ _ _ fun e => hne (by rw [e]; exact h2)) (av' := .box w (setAll bs p cs))
        ⟨b, setAllV vs0 p vs, t', hdv, h1, h2, setRow_heap _ _ _ _ _ _ h3, (hr0.change hch (av0 _) (fun j c hj hoc => ⟨id, fun b' hb' => ⟨(h.own b' _ hb').1, fun e => ?_, hb'⟩⟩)).setAll p ((hr 0).change hch (av0 _) (fun j c hj hoc => ?_)) hno⟩
      · exact fin (exec_store ho hxv hrun) this rfl rfl rfl
      · rw [e, h2] at hb'; cases hb'
      · rw [hno c (List.mem_of_getElem? hj)] at hoc; cases hoc
    · cases hav
  · rename_i d j i p cs hx hy
    obtain ⟨vs, hv, hr⟩ := cellsOf_rep hy (fun d => h.opnd d y)
    have hno := opnd_cells_noOwn E (get st) h.glob y hy
    obtain ⟨e', b, n', c, hpl, hi0, hin, hxv⟩ := (hx ▸ h.opnd 0 x : AVRep cx 0 (.pel d j i p) (a.eval x))
    split at hav
    · rename_i w e xs hca
      obtain ⟨hk, hav⟩ := bif_run hav
      simp only [Bool.and_eq_true, decide_eq_true_eq] at hk
      obtain ⟨⟨k1, k2⟩, k3, k4⟩ := hk
      have k3 := Nat.eq_of_beq_eq_true k3
      split at hav
      · rename_i ds hds
        obtain rfl := ret_run hav
        have hn : cs.length = sizeP E.P t := Nat.eq_of_beq_eq_true k1
        have hn0 : sizeP E.P t ≠ 0 := by have := Nat.le_of_ble_eq_true k4; omega
        obtain ⟨v, g1, g2, g3, g4⟩ := h.place hca
        obtain ⟨rfl, rfl⟩ := Prod.mk.inj (Option.some.inj (hpl.symm.trans g1))
        have hP := h.P
        have hvl : vs.length = sizeP E.P t := by rw [← (hr 0).1]; exact hn
        obtain ⟨hm, flat, hf, hrr⟩ := g2
        have hO := g3 b rfl
        rcases hf.2 with ⟨h0, _⟩ | ⟨g, cap, cur, he, _, hh, hnc, hcm, hsz, htake⟩
        · cases h0
        · cases he
          rw [hP] at hm hf hrr hsz htake hxv
          have hpos : i.toNat * (kinds E.P e').length + p + vs.length ≤ cur.size := by
            have h5 : (i.toNat + 1) * (kinds E.P e').length ≤ c * (kinds E.P e').length := Nat.mul_le_mul_right _ (by omega)
            rw [Nat.succ_mul] at h5; rw [hsz, hvl]; omega
          have hrun := run_storeVar (P := E.P) (t := t) (v := a.eval y) hn0 hv hvl (hr 0).2.1 hh hpos
          let L := cur.toList.take (i.toNat * (kinds E.P e').length + p) ++ vs ++ cur.toList.drop (i.toNat * (kinds E.P e').length + p + vs.length)
          have hL : ∀ q, L[q]? = if i.toNat * (kinds E.P e').length + p ≤ q ∧ q < i.toNat * (kinds E.P e').length + p + vs.length then vs[q - (i.toNat * (kinds E.P e').length + p)]? else cur.toList[q]? := splice_get cur.toList vs _ (by simpa using hpos)
          have hLl : L.length = cur.size := by
            show (cur.toList.take _ ++ vs ++ cur.toList.drop _).length = _
            simp only [List.length_append, List.length_take, List.length_drop, Array.length_toList]; omega
          obtain ⟨q1, q2, q3, q4⟩ := setRow_world cx.w b L.toArray
          have hch : ∀ b', b' < cx.w.heap.size → ¬ Forb cx b' → (cx.w.setRow b L.toArray).heap[b']? = cx.w.heap[b']? ∧ ¬ Forb cx b' := fun b' _ hf' => ⟨setRow_other _ _ _ _ fun e1 => hf' (.inr ⟨(d, j + 1), by subst e1; exact hO⟩), hf'⟩
          refine fin (exec_store ho hxv hrun) (h.rewrite hca (w' := cx.w.setRow b L.toArray) q1 q2 q3 (Nat.le_of_eq q4.symm) (fun b' _ hne => setRow_other _ _ _ _ fun e1 => hne (by subst e1; exact hO)) fun v' hv' => ?_) rfl rfl rfl
          obtain ⟨_, rfl⟩ := Prod.mk.inj (Option.some.inj (hv'.symm.trans hpl))
          rw [hP]
          obtain ⟨c1, c2, c3⟩ := packCells_get hds
          refine ⟨hm, L.take (xs.length * (kinds E.P e').length), ⟨?_, .inr ⟨b, c, L.toArray, by rw [setc_length], Nat.zero_le _, setRow_heap _ _ _ _ _ _ hh, by rw [setc_length]; exact hnc, hcm, by rw [List.size_toArray, hLl]; exact hsz, by rw [setc_length]⟩⟩, fun q j' k hq hk => ?_⟩
          · rw [List.length_take, hLl, hsz, setc_length]; exact Nat.min_eq_left (Nat.mul_le_mul_right _ hnc)
          · rw [setc_length] at hq
            have hj' : j' < (kinds E.P e').length := (List.getElem?_eq_some_iff.1 hk).1
            have hlt : q * (kinds E.P e').length + j' < xs.length * (kinds E.P e').length := by
              have h5 : (q + 1) * (kinds E.P e').length ≤ xs.length * (kinds E.P e').length := Nat.mul_le_mul_right _ hq
              rw [Nat.succ_mul] at h5; omega
            rw [List.getElem?_take, if_pos hlt, hL, getD_setc _ _ _ _ _ _ _ _ hj' hq]
            obtain ⟨u0, f1, f2⟩ := hrr q j' k hq hk
            have f1' : cur.toList[q * (kinds E.P e').length + j']? = some u0 := by
              rw [← htake, List.getElem?_take, if_pos hlt] at f1; exact f1
            by_cases eq : q = i.toNat
            · rw [if_pos eq]
              subst eq
              by_cases hin' : p ≤ j' ∧ j' < p + sizeP E.P t
              · rw [if_pos hin', if_pos (by rw [hvl]; omega), show i.toNat * (kinds E.P e').length + j' - (i.toNat * (kinds E.P e').length + p) = j' - p by omega]
                have hlt2 : j' - p < vs.length := by rw [hvl]; omega
                have hlt3 : j' - p < cs.length := by rw [hn]; omega
                have hk' : (((kinds E.P e').drop p).take (sizeP E.P t))[j' - p]? = some k := by
                  rw [List.getElem?_take, if_pos (by omega), List.getElem?_drop, show p + (j' - p) = j' by omega]; exact hk
                refine ⟨_, List.getElem?_eq_getElem hlt2, ?_⟩
                have := packCell_rep (c3 (j' - p) k _ hk' (List.getElem?_eq_getElem hlt3)) (hno _ (List.getElem_mem hlt3)) ((hr 0).2.2 _ _ _ (List.getElem?_eq_getElem hlt3) (List.getElem?_eq_getElem hlt2))
                rw [hP] at this
                exact this.change hch
              · rw [if_neg hin', if_neg (by rw [hvl]; omega)]
                exact ⟨u0, f1', f2.change hch⟩
            · rw [if_neg eq]
              have hnin : ¬ (i.toNat * (kinds E.P e').length + p ≤ q * (kinds E.P e').length + j' ∧ q * (kinds E.P e').length + j' < i.toNat * (kinds E.P e').length + p + vs.length) := by
                rw [hvl]
                rintro ⟨r1, r2⟩
                rcases Nat.lt_or_gt_of_ne eq with hlt4 | hlt4
                · have := Nat.mul_le_mul_right (kinds E.P e').length (show q + 1 ≤ i.toNat from hlt4)
                  rw [Nat.succ_mul] at this; omega
                · have := Nat.mul_le_mul_right (kinds E.P e').length (show i.toNat + 1 ≤ q from hlt4)
                  rw [Nat.succ_mul] at this; omega
              rw [if_neg hnin]
              exact ⟨u0, f1', f2.change hch⟩
      · cases hav
    · cases hav
  · cases hav
end
end Go.Proofs.YtpggnjmmpkdkjaaGreat.Ev
