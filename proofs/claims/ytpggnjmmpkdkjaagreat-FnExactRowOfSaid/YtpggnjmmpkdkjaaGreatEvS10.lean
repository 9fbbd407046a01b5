/- The operations that write are what the model runs. No condition. -/
import Derived.Test.YtpggnjmmpkdkjaaGreatEvS9
namespace Go.Proofs.YtpggnjmmpkdkjaaGreat.Ev
open Go Go.RowKit
set_option linter.unusedVariables false
set_option linter.unusedSimpArgs false
section
variable {E : Env} {w0 : World} {X : Nat → Prop} {st st' : St} {a : Act} {cx : Cx} {o : Oper} {av : AV}
/-- What one operation owes: behind it the new state tells the new frame. -/
def After (E : Env) (w0 : World) (X : Nat → Prop) (st' : St) (o : Oper) (a : Act) (cx : Cx) : Prop :=
  Does E.P o a cx.w (fun v w' => ∃ cx', Rel E w0 X st' (a.put o.dst v) cx' ∧ cx'.w = w' ∧ cx'.N = cx.N ∧ cx'.A = cx.A) ∨
  ∃ w', (execOp a.eval o).run E.P cx.w = .ok .skip w' ∧ ∃ cx', Rel E w0 X st' (a.put o.dst undef) cx' ∧ cx'.w = w' ∧ cx'.N = cx.N ∧ cx'.A = cx.A
theorem Does.mono {P : Program} {w : World} {Q Q' : Value → World → Prop} (h : Does P o a w Q) (hq : ∀ v w', Q v w' → Q' v w') : Does P o a w Q' := by
  rcases h with ⟨v, w', h1, h2⟩ | ⟨f, args, h1, h2⟩
  · exact .inl ⟨v, w', h1, hq _ _ h2⟩
  · exact .inr ⟨f, args, h1, h2.mono fun e w' ⟨v, hv, hp⟩ => ⟨v, hv, hq _ _ hp⟩⟩
theorem Rel.after_quiet (h : Rel E w0 X st a cx) (hd : ∀ x, o.dst = some x → x < E.nt) (hg : Goal E o a cx av) : After E w0 X (Ev.putO st o.dst av) o a cx :=
  .inl (hg.mono fun v w' hn => h.putO hd hn)
theorem Rel.weaken (h : Rel E w0 X st a cx) {d : Nat} {av' : AV} (hav : AVRep cx d av' (a.tmps.getD d undef)) : Rel E w0 X ((d, av') :: st) a cx :=
  ⟨h.P, h.defers, h.kept, h.own, h.non, h.glob, h.nt, fun t => by
    show AVRep cx t (get ((d, av') :: st) t) _
    rw [get_cons]; split
    · rename_i e; subst e; exact hav
    · exact h.slots t⟩
theorem cellsIn_setAt (av : AV) (j : Nat) (c : Cell) : cellsIn (setAt av j c) = (cellsIn av).set j c := by
  cases av with
  | tup ps =>
    show (setT ps j c).flatMap (·.2) = (ps.flatMap (·.2)).set j c
    induction ps generalizing j with
    | nil => simp [setT]
    | cons p ps ih =>
      obtain ⟨ag, cs⟩ := p
      show (bif Nat.blt j cs.length then (ag, cs.set j c) :: ps else (ag, cs) :: setT ps (j - cs.length) c).flatMap (·.2) = _
      cases hb : Nat.blt j cs.length with
      | true =>
        have hj : j < cs.length := Nat.le_of_ble_eq_true hb
        simp [List.set_append_left _ _ hj]
      | false =>
        have hj : ¬ j < cs.length := fun hh => by have := Nat.ble_eq_true_of_le hh; unfold Nat.blt at hb; rw [this] at hb; cases hb
        simp only [cond_false, List.flatMap_cons, ih]
        rw [List.set_append_right _ _ (Nat.le_of_not_lt hj)]
  | _ => simp [setAt, cellsIn]
theorem setAt_box {av : AV} {j : Nat} {c : Cell} {w : Bool} {cs : List Cell} (h : setAt av j c = .box w cs) : ∃ cs', av = .box w cs' := by
  cases av <;> simp [setAt] at h
  rename_i w' cs'
  exact ⟨cs', by rw [h.1]⟩
theorem free_setAt {d j : Nat} {c : Cell} (hc : isOwn c = false) : Free ((d, setAt (get st d) j c) :: st) d (j + 1) := by
  refine ⟨fun h => by simp at h, fun j' hj' => ?_⟩
  obtain rfl : j = j' := by omega
  rw [get_cons, if_pos rfl, cellAt_eq, cellsIn_setAt, List.getD_eq_getElem?_getD, List.getElem?_set, if_pos rfl]
  split
  · exact hc
  · rfl
theorem setT_set : ∀ (ps : List (Bool × List Cell)) (j : Nat) (c c' : Cell), setT (setT ps j c) j c' = setT ps j c'
  | [], _, _, _ => rfl
  | (ag, cs) :: ps, j, c, c' => by
    show setT (bif Nat.blt j cs.length then (ag, cs.set j c) :: ps else (ag, cs) :: setT ps (j - cs.length) c) j c' = (bif Nat.blt j cs.length then (ag, cs.set j c') :: ps else (ag, cs) :: setT ps (j - cs.length) c')
    cases hb : Nat.blt j cs.length with
    | true =>
      show (bif Nat.blt j (cs.set j c).length then (ag, (cs.set j c).set j c') :: ps else _) = _
      rw [List.length_set, hb]; simp
    | false =>
      show (bif Nat.blt j cs.length then _ else (ag, cs) :: setT (setT ps (j - cs.length) c) (j - cs.length) c') = _
      rw [hb, setT_set ps]; rfl
/-- The rows of a place's slice are written; the slice stays where it is. -/
theorem Rel.rewrite (h : Rel E w0 X st a cx) {d j n : Nat} {e : TypeId} {xs xs' : List (List D)} (hc : cellAt (get st d) j = .sl (n + 1) e xs) {w' : World} (ho : w'.os = cx.w.os) (ht : w'.tape = cx.w.tape) (hu : w'.output = cx.w.output) (hs : cx.w.heap.size ≤ w'.heap.size)
    (hb : ∀ b, b < cx.w.heap.size → cx.O b ≠ some (d, j + 1) → w'.heap[b]? = cx.w.heap[b]?) (hv : ∀ v, cx.pl d j = some (e, v) → Owns cx.P w' (Forb cx) e xs' v) : Rel E w0 X (setSl st d j (.sl (n + 1) e xs')) a { cx with w := w' } := by
  obtain ⟨v, h1, h2, h3, h4⟩ := h.place hc
  have hj : j < (cellsIn (get st d)).length := by
    rw [cellAt_eq, List.getD_eq_getElem?_getD] at hc
    cases hq : (cellsIn (get st d))[j]? with
    | none => rw [hq] at hc; cases hc
    | some c => exact (List.getElem?_eq_some_iff.1 hq).1
  have hcj : (cellsIn (get st d))[j]? = some (.sl (n + 1) e xs) := by
    rw [cellAt_eq, List.getD_eq_getElem?_getD, List.getElem?_eq_getElem hj] at hc
    rw [List.getElem?_eq_getElem hj]; exact congrArg some hc
  have hr0 : Rel E w0 X ((d, setAt (get st d) j (.ref d j)) :: st) a cx := h.weaken ((h.slots d).setC j fun u hu h0 => by
    obtain ⟨_, h5, _⟩ := h0 _ hcj
    exact ⟨e, h5⟩)
  have hr1 := hr0.touchFree (free_setAt (st := st) (d := d) (j := j) (c := .ref d j) rfl) ho ht hu hs hb
  refine ⟨hr1.P, hr1.defers, hr1.kept, hr1.own, hr1.non, hr1.glob, hr1.nt, fun t => ?_⟩
  show AVRep _ t (get ((d, setAt (get st d) j (.sl (n + 1) e xs')) :: st) t) _
  have hst := hr1.slots t
  rw [get_cons] at hst ⊢
  split
  · rename_i ee
    subst ee
    rw [if_pos rfl] at hst
    have he : setAt (setAt (get st d) j (.ref d j)) j (.sl (n + 1) e xs') = setAt (get st d) j (.sl (n + 1) e xs') := by
      cases get st d with
      | tup ps => exact congrArg AV.tup (setT_set ps j _ _)
      | _ => simp [setAt]
    rw [← he]
    refine hst.setC j fun u hu h0 => ?_
    have hcr : (cellsIn (setAt (get st d) j (.ref d j)))[j]? = some (.ref d j) := by
      rw [cellsIn_setAt, List.getElem?_set, if_pos rfl, if_pos hj]
    obtain ⟨e', h5⟩ := h0 _ hcr
    have h5' : cx.pl d j = some (e', u) := h5
    rw [h1] at h5'
    obtain ⟨rfl, rfl⟩ := Prod.mk.inj (Option.some.inj h5')
    exact ⟨hv v h1, h1, h3, h4⟩
  · rename_i ee; rw [if_neg ee] at hst; exact hst
theorem setAllV_eq : ∀ (vs l : List Value) (o : Nat), o + vs.length ≤ l.length → setAllV l o vs = l.take o ++ vs ++ l.drop (o + vs.length)
  | [], l, o, h => by simp [setAllV]
  | v :: vs, l, o, h => by
    have h' : o + 1 + vs.length ≤ (l.set o v).length := by simp at h ⊢; omega
    rw [setAllV, setAllV_eq vs (l.set o v) (o + 1) h']
    have ho : o < l.length := by simp at h; omega
    have e : l.set o v = l.take o ++ v :: l.drop (o + 1) := by rw [List.set_eq_take_append_cons_drop, if_pos ho]
    have hl : (l.take o).length = o := by rw [List.length_take]; omega
    have e1 : (l.set o v).take (o + 1) = l.take o ++ [v] := by
      rw [e, List.take_append, hl, List.take_of_length_le (by omega), show o + 1 - o = 1 by omega]; rfl
    have e2 : (l.set o v).drop (o + 1 + vs.length) = l.drop (o + (v :: vs).length) := by
      rw [e, List.drop_append, hl, List.drop_eq_nil_of_le (by omega), List.nil_append, show o + 1 + vs.length - o = vs.length + 1 by omega, List.drop_succ_cons, List.drop_drop]
      congr 1; simp; omega
    rw [e1, e2]; simp
/-! ### A slice is handed on -/
theorem forgetC2 (d t : Nat) (c : Cell) : AvoidC (fun d' _ => d' = d ∨ d' = t) (forgetC d (forgetC t c)) := by
  cases c with
  | ref d' j =>
    simp only [forgetC]
    cases h : Nat.beq t d' with
    | true => trivial
    | false =>
      simp only [cond_false, forgetC]
      cases h' : Nat.beq d d' with
      | true => trivial
      | false => rintro (rfl | rfl) <;> simp at h h'
  | _ => trivial
theorem forget2 (d t : Nat) (av : AV) : Avoid (fun d' _ => d' = d ∨ d' = t) (fun d' => d' = d ∨ d' = t) (forgetA d (forgetA t av)) := by
  have hm : ∀ cs : List Cell, AvoidCs (fun d' _ => d' = d ∨ d' = t) ((cs.map (forgetC t)).map (forgetC d)) := by
    intro cs c hc
    obtain ⟨c1, h1, rfl⟩ := List.mem_map.1 hc
    obtain ⟨c0, _, rfl⟩ := List.mem_map.1 h1
    exact forgetC2 d t c0
  cases av with
  | p a cs => exact hm cs
  | tup ps =>
    intro p hp
    obtain ⟨p1, h1, rfl⟩ := List.mem_map.1 hp
    obtain ⟨p0, _, rfl⟩ := List.mem_map.1 h1
    exact hm _
  | box o cs => exact hm cs
  | ro cs o => exact hm cs
  | pat d' o =>
    simp only [forgetA]
    cases h : Nat.beq t d' with
    | true => trivial
    | false =>
      simp only [cond_false, forgetA]
      cases h' : Nat.beq d d' with
      | true => trivial
      | false => rintro (rfl | rfl) <;> simp at h h'
  | pel d' j i o =>
    simp only [forgetA]
    cases h : Nat.beq t d' with
    | true => trivial
    | false =>
      simp only [cond_false, forgetA]
      cases h' : Nat.beq d d' with
      | true => trivial
      | false => rintro (rfl | rfl) <;> simp at h h'
  | _ => trivial
theorem isMut_no {cs : List Cell} (h : cs.any isMutC = false) {n : Nat} {e : TypeId} {xs : List (List D)} (hm : Cell.sl (n + 1) e xs ∈ cs) : n = 0 := by
  have := List.any_eq_false.1 h _ hm
  cases n with
  | zero => rfl
  | succ n => exact absurd rfl this
theorem Rel.assign (h : Rel E w0 X st a cx) {t d : Nat} (hd : d < E.nt) {ag : Bool} {cs : List Cell} (ht : get st t = .p ag cs) (ho : cs.any isOwn = true) (hm : cs.any isMutC = false) :
    ∃ cx', Rel E w0 X (Ev.put ((t, .u) :: Ev.forget t st) d (.p ag (cs.map (forgetC t)))) (a.put (some d) (a.tmps.getD t undef)) cx' ∧ cx'.w = cx.w ∧ cx'.N = cx.N ∧ cx'.A = cx.A := by
  have hd' : d < a.tmps.size := h.nt ▸ hd
  let cx' : Cx := { cx with
    O := fun b => match cx.O b with
      | some (t', i + 1) => if t' = t then some (d, i + 1) else some (t', i + 1)
      | x => x
    pl := fun d' j => if d' = d then cx.pl t j else cx.pl d' j
    bx := fun d' => if d' = d then none else cx.bx d' }
  have hO0 : ∀ b, (∃ p, cx'.O b = some p) → ∃ p, cx.O b = some p := by
    rintro b ⟨p, hp⟩
    cases hb : cx.O b with
    | none => simp only [cx', hb] at hp; cases hp
    | some q => exact ⟨q, rfl⟩
  have hO1 : ∀ b t' i, cx.O b = some (t', i + 1) → cx'.O b = some (if t' = t then d else t', i + 1) := by
    intro b t' i hb
    simp only [cx', hb]
    split <;> rfl
  have hO2 : ∀ b t', cx.O b = some (t', 0) → cx'.O b = some (t', 0) := by intro b t' hb; simp only [cx', hb]
  have hF : ∀ b, Forb cx' b ↔ Forb cx b := by
    intro b
    constructor
    · rintro (hN | hp)
      · exact .inl hN
      · exact .inr (hO0 b hp)
    · rintro (hN | ⟨⟨t', i⟩, hp⟩)
      · exact .inl hN
      · cases i with
        | zero => exact .inr ⟨_, hO2 b t' hp⟩
        | succ i => exact .inr ⟨_, hO1 b t' i hp⟩
  have hch : Ch cx cx' (fun _ => False) (fun d' _ => d' = d ∨ d' = t) (fun d' => d' = d ∨ d' = t) :=
    ⟨rfl, rfl, fun _ _ _ => rfl, fun b _ hb => ⟨id, fun hb' => hb ((hF b).1 hb')⟩, fun d' j hh => if_neg fun e => hh (.inl e), fun d' hh => if_neg fun e => hh (.inl e)⟩
  have hs := h.slots t
  rw [ht] at hs
  have hown : owner (.p ag (cs.map (forgetC t))) = true := by
    show (cs.map (forgetC t)).any isOwn = true
    rw [List.any_map]
    rw [show (isOwn ∘ forgetC t) = isOwn from funext fun c => forgetC_own t c]; exact ho
  refine ⟨cx', ⟨h.P, h.defers, h.kept, fun b p hp => ?_, h.non, h.glob, by simp [Act.put, h.nt], fun q => ?_⟩, rfl, rfl, rfl⟩
  · obtain ⟨p', hp'⟩ := hO0 b ⟨p, hp⟩; exact h.own b p' hp'
  · rw [getD_put hd']
    show AVRep cx' q (get (Ev.put ((t, .u) :: Ev.forget t st) d (.p ag (cs.map (forgetC t)))) q) _
    unfold Ev.put
    rw [hown, Bool.true_or, cond_true, get_cons]
    by_cases ee : d = q
    · subst ee
      rw [if_pos rfl, if_pos rfl]
      have key : ∀ {off : Nat} {vs : List Value}, CellsRep cx t off cs vs → CellsRep cx' d off ((cs.map (forgetC t)).map (forgetC d)) vs := by
        intro off vs hr
        refine ⟨by simpa using hr.1, hr.2.1, fun j c v h1 h2 => ?_⟩
        rw [List.getElem?_map, List.getElem?_map] at h1
        obtain ⟨c1, h3, rfl⟩ := Option.map_eq_some_iff.1 h1
        obtain ⟨c0, h4, rfl⟩ := Option.map_eq_some_iff.1 h3
        have hc := hr.2.2 j c0 v h4 h2
        cases c0 with
        | u => trivial
        | v x => exact hc
        | sl n e xs => cases n with
          | zero => exact RepD.weaken (show RepD cx.P cx.w (Forb cx) (.sl e) (.l xs) v from hc) fun b hb hb' => hb ((hF b).1 hb')
          | succ n =>
            obtain rfl := isMut_no hm (List.mem_of_getElem? h4)
            obtain ⟨g1, g2, g3, g4⟩ := hc
            refine ⟨g1.change (fun b _ hb => ⟨rfl, fun hb' => hb ((hF b).1 hb')⟩) (fun _ _ => rfl), by simp only [cx', if_pos]; exact g2, fun b hb => ?_, fun hh => absurd rfl hh⟩
            have := hO1 b t (off + j) (g3 b hb)
            rwa [if_pos rfl] at this
        | ref d' j' =>
          have hav := forgetC2 d t (.ref d' j')
          rcases forgetC_or t (.ref d' j') with e1 | e1
          · rw [e1] at hav ⊢
            rcases forgetC_or d (.ref d' j') with e2 | e2
            · rw [e2] at hav ⊢
              obtain ⟨e, he⟩ := hc
              exact ⟨e, (hch.pl d' j' hav).trans he⟩
            · rw [e2]; trivial
          · rw [e1]; trivial
      cases ag with
      | true => obtain ⟨vs, hv, hr⟩ := hs; rw [hv]; exact ⟨vs, rfl, key hr⟩
      | false => exact key (show CellsRep cx t 0 cs [_] from hs)
    · rw [if_neg ee, if_neg ee, get_forget]
      show AVRep cx' q (forgetA d (get ((t, .u) :: Ev.forget t st) q)) _
      rw [get_cons]
      split
      · trivial
      · rename_i et
        rw [get_forget]
        refine (((h.slots q).forget t).forget d).change hch (forget2 d t _) (fun j c _ _ => ⟨fun e' => e'.elim (fun e' => ee e'.symm) (fun e' => et e'.symm), fun b hb => ⟨(h.own b _ hb).1, id, ?_⟩⟩) (fun w cs _ => ⟨fun e' => e'.elim (fun e' => ee e'.symm) (fun e' => et e'.symm), fun b hb => ⟨(h.own b _ hb).1, id, hO2 b q hb⟩⟩)
        have := hO1 b q j hb
        rwa [if_neg fun e' => et e'.symm] at this
end
end Go.Proofs.YtpggnjmmpkdkjaaGreat.Ev
