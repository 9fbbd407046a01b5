/- Operations that write: a slice taken out of its place, memory that one place owns. No condition. -/
import Derived.Test.YtpggnjmmpkdkjaaGreatEvS8
namespace Go.Proofs.YtpggnjmmpkdkjaaGreat.Ev
open Go Go.RowKit
set_option linter.unusedVariables false
set_option linter.unusedSimpArgs false
theorem get_forgetR (d j t : Nat) : ∀ st : St, get (forgetR d j st) t = forgetRA d j (get st t)
  | [] => rfl
  | (i, a) :: r => by
    have ih := get_forgetR d j t r
    show get ((i, forgetRA d j a) :: forgetR d j r) t = _
    rw [get_cons, get_cons, ih]; split <;> rfl
section
variable {E : Env} {w0 : World} {X : Nat → Prop} {st : St} {a : Act} {cx : Cx} {o : Oper} {av : AV}
theorem AVRep.forgetR {d : Nat} {v : Value} (h : AVRep cx d av v) (d' j' : Nat) : AVRep cx d (forgetRA d' j' av) v := by
  refine h.mapped (forgetRC d' j') (forgetRC_or d' j') ?_
  cases av with
  | pel d'' j i o => simp only [forgetRA]; cases (Nat.beq d' d'' && Nat.beq j' j) <;> simp
  | _ => exact .inr rfl
theorem avoid_forgetRC (d j : Nat) (c : Cell) : AvoidC (fun d' j' => d' = d ∧ j' = j) (forgetRC d j c) := by
  cases c with
  | ref d' j' =>
    simp only [forgetRC]
    cases h : (Nat.beq d d' && Nat.beq j j') with
    | true => trivial
    | false => rintro ⟨rfl, rfl⟩; simp at h
  | _ => trivial
theorem avoid_cellsR (d j : Nat) (cs : List Cell) : AvoidCs (fun d' j' => d' = d ∧ j' = j) (cs.map (forgetRC d j)) := by
  intro c hc
  obtain ⟨c0, _, rfl⟩ := List.mem_map.1 hc
  exact avoid_forgetRC d j c0
theorem avoid_forgetR (d j : Nat) (av : AV) : Avoid (fun d' j' => d' = d ∧ j' = j) (fun _ => False) (forgetRA d j av) := by
  cases av with
  | p a cs => exact avoid_cellsR d j cs
  | tup ps => intro p hp; obtain ⟨p0, _, rfl⟩ := List.mem_map.1 hp; exact avoid_cellsR d j _
  | box o cs => exact avoid_cellsR d j cs
  | ro cs o => exact avoid_cellsR d j cs
  | pat d' o => exact id
  | pel d' j' i o =>
    simp only [forgetRA]
    cases h : (Nat.beq d d' && Nat.beq j j') with
    | true => trivial
    | false => rintro ⟨rfl, rfl⟩; simp at h
  | _ => trivial
theorem CellsRep.setC {d off : Nat} {cs : List Cell} {vs : List Value} (h : CellsRep cx d off cs vs) (j : Nat) {c : Cell} (hc : ∀ v, vs[j]? = some v → CellRep cx d (off + j) c v) : CellsRep cx d off (cs.set j c) vs := by
  refine ⟨by simp [h.1], h.2.1, fun i c' v' h1 h2 => ?_⟩
  rw [List.getElem?_set] at h1
  by_cases e : j = i
  · subst e
    rw [if_pos rfl] at h1
    split at h1
    · obtain rfl := Option.some.inj h1; exact hc v' h2
    · cases h1
  · rw [if_neg e] at h1; exact h.2.2 i c' v' h1 h2
theorem PartsRep.setC {d : Nat} : ∀ {ps : List (Bool × List Cell)} {off : Nat} {vs : List Value} (j : Nat) {c : Cell}, PartsRep cx d off ps vs → (∀ v, v.oneCell' = true → (∀ c0, (ps.flatMap (·.2))[j]? = some c0 → CellRep cx d (off + j) c0 v) → CellRep cx d (off + j) c v) → PartsRep cx d off (setT ps j c) vs
  | [], off, [], j, c, _, _ => trivial
  | [], off, _ :: _, _, _, h, _ => by simp [PartsRep] at h
  | p :: ps, off, [], _, _, h, _ => by obtain ⟨a, cs⟩ := p; cases a <;> simp [PartsRep] at h
  | (ag, cs) :: ps, off, v :: vs, j, c, h, hc => by
    show PartsRep cx d off (bif Nat.blt j cs.length then (ag, cs.set j c) :: ps else (ag, cs) :: setT ps (j - cs.length) c) (v :: vs)
    have key : ∀ {ws : List Value}, CellsRep cx d off cs ws → j < cs.length → CellsRep cx d off (cs.set j c) ws := by
      intro ws hw hj
      refine hw.setC j fun u hu => hc u (hw.2.1 u (List.mem_of_getElem? hu)) fun c0 h0 => ?_
      rw [List.flatMap_cons, List.getElem?_append_left hj] at h0
      exact hw.2.2 j c0 u h0 hu
    cases hb : Nat.blt j cs.length with
    | true =>
      have hj : j < cs.length := Nat.le_of_ble_eq_true hb
      rw [cond_true]
      cases ag with
      | true =>
        obtain ⟨⟨ws, rfl, hw⟩, hr⟩ := h
        exact ⟨⟨ws, rfl, key hw hj⟩, by simpa using hr⟩
      | false =>
        obtain ⟨hw, hr⟩ := h
        exact ⟨key hw hj, by simpa using hr⟩
    | false =>
      have hj : ¬ j < cs.length := fun hh => by have := Nat.ble_eq_true_of_le hh; unfold Nat.blt at hb; rw [this] at hb; cases hb
      rw [cond_false]
      have hc' : ∀ v, v.oneCell' = true → (∀ c0, (ps.flatMap (·.2))[j - cs.length]? = some c0 → CellRep cx d (off + cs.length + (j - cs.length)) c0 v) → CellRep cx d (off + cs.length + (j - cs.length)) c v := by
        intro u hu h0
        have e : off + cs.length + (j - cs.length) = off + j := by omega
        rw [e] at h0 ⊢
        refine hc u hu fun c0 hc0 => h0 c0 ?_
        rwa [List.flatMap_cons, List.getElem?_append_right (Nat.le_of_not_lt hj)] at hc0
      cases ag with
      | true => obtain ⟨hw, hr⟩ := h; exact ⟨hw, hr.setC (j - cs.length) hc'⟩
      | false => obtain ⟨hw, hr⟩ := h; exact ⟨hw, hr.setC (j - cs.length) hc'⟩
theorem AVRep.setC {d : Nat} {v : Value} (h : AVRep cx d av v) (j : Nat) {c : Cell} (hc : ∀ v, v.oneCell' = true → (∀ c0, (cellsIn av)[j]? = some c0 → CellRep cx d j c0 v) → CellRep cx d j c v) : AVRep cx d (setAt av j c) v := by
  have key : ∀ {cs : List Cell} {ws : List Value}, cellsIn av = cs → CellsRep cx d 0 cs ws → CellsRep cx d 0 (cs.set j c) ws := by
    intro cs ws e hw
    refine hw.setC j fun u hu => ?_
    rw [Nat.zero_add]
    refine hc u (hw.2.1 u (List.mem_of_getElem? hu)) fun c0 h0 => ?_
    rw [e] at h0
    have := hw.2.2 j c0 u h0 hu
    rwa [Nat.zero_add] at this
  cases av with
  | p ag cs => cases ag with
    | true => obtain ⟨vs, rfl, hr⟩ := h; exact ⟨vs, rfl, key rfl hr⟩
    | false => exact key rfl (show CellsRep cx d 0 cs [v] from h)
  | tup ps =>
    obtain ⟨vs, rfl, hr⟩ := h
    refine ⟨vs, rfl, hr.setC j fun u hu h0 => ?_⟩
    rw [Nat.zero_add] at h0 ⊢
    exact hc u hu h0
  | box w cs => obtain ⟨b, vs, t, rfl, h1, h2, h3, hr⟩ := h; exact ⟨b, vs, t, rfl, h1, h2, h3, key rfl hr⟩
  | _ => exact h
theorem clearA_eq (av : AV) (j : Nat) : clearA av j = setAt av j .u := by cases av <;> rfl
theorem Rel.takeOut (h : Rel E w0 X st a cx) (d j : Nat) : Rel E w0 X (takeOut st d j) a cx := by
  refine ⟨h.P, h.defers, h.kept, h.own, h.non, h.glob, h.nt, fun t => ?_⟩
  show AVRep cx t (get ((d, clearA (forgetRA d j (get st d)) j) :: forgetR d j st) t) _
  rw [get_cons, get_forgetR]
  split
  · rename_i e; subst e
    rw [clearA_eq]
    exact ((h.slots d).forgetR d j).setC j fun _ _ _ => trivial
  · exact (h.slots t).forgetR d j
theorem cellAt_eq (av : AV) (j : Nat) : cellAt av j = (cellsIn av).getD j .u := by cases av <;> simp [cellAt, cellsIn]
/-- Nobody claims the place (d, i): i is 0 for the variable itself, j + 1 for its cell j. -/
def Free (st : St) (d i : Nat) : Prop := (i = 0 → ∀ w cs, get st d ≠ .box w cs) ∧ ∀ j, i = j + 1 → isOwn (cellAt (get st d) j) = false
theorem own_at {j : Nat} {c : Cell} (h : (cellsIn av)[j]? = some c) : cellAt av j = c := by rw [cellAt_eq, List.getD_eq_getElem?_getD, h]; rfl
/-- Memory changes that one place owns; the slot of this place is told anew. -/
theorem Rel.touch (h : Rel E w0 X st a cx) (d i : Nat) {w' : World} (ho : w'.os = cx.w.os) (ht : w'.tape = cx.w.tape) (hu : w'.output = cx.w.output) (hs : cx.w.heap.size ≤ w'.heap.size) (hb : ∀ b, b < cx.w.heap.size → cx.O b ≠ some (d, i) → w'.heap[b]? = cx.w.heap[b]?)
    {av' : AV} (hav : AVRep { cx with w := w' } d av' (a.tmps.getD d undef)) : Rel E w0 X ((d, av') :: st) a { cx with w := w' } := by
  have hch : Ch cx { cx with w := w' } (fun b => cx.O b = some (d, i)) (fun _ _ => False) (fun _ => False) :=
    ⟨rfl, rfl, fun b hb' hS => hb b hb' hS, fun b _ hf => ⟨fun hS => hf (.inr ⟨_, hS⟩), hf⟩, fun _ _ _ => rfl, fun _ _ => rfl⟩
  refine ⟨h.P, h.defers, ⟨ho.trans h.kept.os, ht.trans h.kept.tape, hu.trans h.kept.output, Nat.le_trans h.kept.size hs, fun k hk hx => ?_⟩, fun b p hp => ⟨Nat.lt_of_lt_of_le (h.own b p hp).1 hs, (h.own b p hp).2⟩, h.non, h.glob, h.nt, fun t => ?_⟩
  · rw [hb k (Nat.lt_of_lt_of_le hk h.kept.size) (fun hp => by rcases (h.own k _ hp).2 with h1 | h1; omega; exact hx h1)]
    exact h.kept.block k hk hx
  · show AVRep _ t (get ((d, av') :: st) t) _
    rw [get_cons]
    split
    · rename_i e; subst e; exact hav
    · rename_i e
      refine (h.slots t).change hch (by cases get st t <;> first | trivial | (intro; simp) | exact id | (intro c hc; cases c <;> first | trivial | exact id) | (intro p hp c hc; cases c <;> first | trivial | exact id)) (fun j c _ _ => ⟨id, fun b hb' => ⟨(h.own b _ hb').1, fun hS => e ?_, hb'⟩⟩) (fun w cs _ => ⟨id, fun b hb' => ⟨(h.own b _ hb').1, fun hS => e ?_, hb'⟩⟩)
      · rw [hb'] at hS; exact (Prod.mk.inj (Option.some.inj hS)).1.symm
      · rw [hb'] at hS; exact (Prod.mk.inj (Option.some.inj hS)).1.symm
/-- The same where nobody claims the place: no slot is told anew. -/
theorem Rel.touchFree (h : Rel E w0 X st a cx) {d i : Nat} (hfree : Free st d i) {w' : World} (ho : w'.os = cx.w.os) (ht : w'.tape = cx.w.tape) (hu : w'.output = cx.w.output) (hs : cx.w.heap.size ≤ w'.heap.size) (hb : ∀ b, b < cx.w.heap.size → cx.O b ≠ some (d, i) → w'.heap[b]? = cx.w.heap[b]?) : Rel E w0 X st a { cx with w := w' } := by
  have hch : Ch cx { cx with w := w' } (fun b => cx.O b = some (d, i)) (fun _ _ => False) (fun _ => False) :=
    ⟨rfl, rfl, fun b hb' hS => hb b hb' hS, fun b _ hf => ⟨fun hS => hf (.inr ⟨_, hS⟩), hf⟩, fun _ _ _ => rfl, fun _ _ => rfl⟩
  refine ⟨h.P, h.defers, ⟨ho.trans h.kept.os, ht.trans h.kept.tape, hu.trans h.kept.output, Nat.le_trans h.kept.size hs, fun k hk hx => ?_⟩, fun b p hp => ⟨Nat.lt_of_lt_of_le (h.own b p hp).1 hs, (h.own b p hp).2⟩, h.non, h.glob, h.nt, fun t => ?_⟩
  · rw [hb k (Nat.lt_of_lt_of_le hk h.kept.size) (fun hp => by rcases (h.own k _ hp).2 with h1 | h1; omega; exact hx h1)]
    exact h.kept.block k hk hx
  · refine (h.slots t).change hch (by cases get st t <;> first | trivial | (intro; simp) | exact id | (intro c hc; cases c <;> first | trivial | exact id) | (intro p hp c hc; cases c <;> first | trivial | exact id)) (fun j c hj hoc => ⟨id, fun b hb' => ⟨(h.own b _ hb').1, fun hS => ?_, hb'⟩⟩) (fun w cs hbx => ⟨id, fun b hb' => ⟨(h.own b _ hb').1, fun hS => ?_, hb'⟩⟩)
    · rw [hb'] at hS
      obtain ⟨rfl, rfl⟩ := Prod.mk.inj (Option.some.inj hS)
      have := hfree.2 j rfl
      rw [own_at hj, hoc] at this; cases this
    · rw [hb'] at hS
      obtain ⟨rfl, rfl⟩ := Prod.mk.inj (Option.some.inj hS)
      exact hfree.1 rfl w cs hbx
/-- A slice whose block nobody claims is put into a slot. -/
theorem Rel.putOwn (h : Rel E w0 X st a cx) {d : Nat} (hd : d < E.nt) {e : TypeId} {xs : List (List D)} {v : Value} (hv : Owns cx.P cx.w (Forb cx) e xs v)
    (hf : ∀ b, v.ownBlock = some b → b < cx.w.heap.size ∧ (w0.heap.size ≤ b ∨ X b) ∧ ∃ p, cx.O b = some p ∧ Free st p.1 p.2) :
    ∃ cx', Rel E w0 X (Ev.put st d (.p false [.sl 1 e xs])) (a.put (some d) v) cx' ∧ cx'.w = cx.w ∧ cx'.N = cx.N ∧ cx'.A = cx.A := by
  have hd' : d < a.tmps.size := h.nt ▸ hd
  let cx' : Cx := { cx with O := fun b => if v.ownBlock = some b then some (d, 1) else cx.O b, pl := fun d' j => if d' = d then (if j = 0 then some (e, v) else none) else cx.pl d' j, bx := fun d' => if d' = d then none else cx.bx d' }
  have hFb : ∀ b, Forb cx' b → Forb cx b := by
    rintro b (hN | ⟨p, hp⟩)
    · exact .inl hN
    · by_cases hb : v.ownBlock = some b
      · obtain ⟨_, _, p', hp', _⟩ := hf b hb; exact .inr ⟨p', hp'⟩
      · simp only [cx', if_neg hb] at hp; exact .inr ⟨p, hp⟩
  have hch : Ch cx cx' (fun _ => False) (fun d' _ => d' = d) (fun d' => d' = d) :=
    ⟨rfl, rfl, fun _ _ _ => rfl, fun b _ hb => ⟨id, fun hb' => hb (hFb b hb')⟩, fun d' j hh => if_neg hh, fun d' hh => if_neg hh⟩
  refine ⟨cx', ⟨h.P, h.defers, h.kept, fun b p hp => ?_, h.non, h.glob, by simp [Act.put, h.nt], fun t => ?_⟩, rfl, rfl, rfl⟩
  · by_cases hb : v.ownBlock = some b
    · exact ⟨(hf b hb).1, (hf b hb).2.1⟩
    · simp only [cx', if_neg hb] at hp; exact h.own b p hp
  · rw [getD_put hd']
    show AVRep cx' t (get (Ev.put st d (.p false [.sl 1 e xs])) t) _
    unfold Ev.put
    rw [show (owner (AV.p false [Cell.sl 1 e xs]) || owner (get st d)) = true from rfl, cond_true, get_cons, get_forget]
    by_cases ee : d = t
    · subst ee
      rw [if_pos rfl, if_pos rfl]
      show CellsRep cx' d 0 [.sl 1 e xs] [v]
      refine ⟨rfl, by simpa using hv.one, fun j c u h1 h2 => ?_⟩
      cases j with
      | succ j => simp at h1
      | zero =>
        obtain rfl := Option.some.inj h1
        obtain rfl := Option.some.inj h2
        exact ⟨hv.change (fun b _ hb => ⟨rfl, fun hb' => hb (hFb b hb')⟩) (fun _ _ => rfl), by simp [cx'], fun b hb => by simp [cx', hb], fun hh => absurd rfl hh⟩
    · rw [if_neg ee, if_neg ee]
      refine ((h.slots t).forget d).change hch (avoid_forget d _) (fun j c hj hoc => ⟨fun e' => ee e'.symm, fun b hb => ⟨(h.own b _ hb).1, id, ?_⟩⟩) (fun w cs hbx => ⟨fun e' => ee e'.symm, fun b hb => ⟨(h.own b _ hb).1, id, ?_⟩⟩)
      · have hnb : v.ownBlock ≠ some b := fun hvb => by
          obtain ⟨_, _, p, hp, hfree⟩ := hf b hvb
          rw [hb] at hp
          obtain rfl := Option.some.inj hp
          have h1 := hfree.2 j rfl
          have h2 := own_at hj
          rw [cellAt_eq] at h1 h2
          have h3 : isOwn ((cellsIn (forgetA d (get st t))).getD j .u) = isOwn ((cellsIn (get st t)).getD j .u) := by
            have : ∀ av, ((cellsIn (forgetA d av)).getD j .u) = forgetC d ((cellsIn av).getD j .u) ∨ cellsIn (forgetA d av) = cellsIn av := by
              intro av
              have hm : ∀ cs : List Cell, (cs.map (forgetC d)).getD j .u = forgetC d (cs.getD j .u) := by
                intro cs
                rw [List.getD_eq_getElem?_getD, List.getD_eq_getElem?_getD, List.getElem?_map]
                cases cs[j]? <;> rfl
              cases av with
              | p ag cs => exact .inl (hm cs)
              | box w cs => exact .inl (hm cs)
              | tup ps =>
                refine .inl ?_
                have : cellsIn (forgetA d (.tup ps)) = (cellsIn (.tup ps)).map (forgetC d) := by
                  simp only [forgetA, cellsIn, List.flatMap_map, List.map_flatMap]
                rw [this]; exact hm _
              | pat d' o => right; simp only [forgetA]; cases Nat.beq d d' <;> rfl
              | pel d' j i o => right; simp only [forgetA]; cases Nat.beq d d' <;> rfl
              | _ => exact .inr rfl
            rcases this (get st t) with e1 | e1
            · rw [e1, forgetC_own]
            · rw [e1]
          rw [h2] at h3
          rw [← h3, hoc] at h1; cases h1
        simp only [cx', if_neg hnb]; exact hb
      · have hnb : v.ownBlock ≠ some b := fun hvb => by
          obtain ⟨_, _, p, hp, hfree⟩ := hf b hvb
          rw [hb] at hp
          obtain rfl := Option.some.inj hp
          cases hg : get st t with
          | box w' cs' => exact hfree.1 rfl w' cs' hg
          | pat d' o => rw [hg] at hbx; simp only [forgetA] at hbx; cases hq : Nat.beq d d' <;> simp [hq] at hbx
          | pel d' j i o => rw [hg] at hbx; simp only [forgetA] at hbx; cases hq : Nat.beq d d' <;> simp [hq] at hbx
          | _ => rw [hg] at hbx; simp [forgetA] at hbx
        simp only [cx', if_neg hnb]; exact hb
end
end Go.Proofs.YtpggnjmmpkdkjaaGreat.Ev
