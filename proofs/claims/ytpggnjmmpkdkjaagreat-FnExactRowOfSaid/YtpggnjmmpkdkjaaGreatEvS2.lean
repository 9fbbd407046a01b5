/- The evaluator's states: operands, and a value put into a slot. No condition. -/
import Derived.Test.YtpggnjmmpkdkjaaGreatEvS1
namespace Go.Proofs.YtpggnjmmpkdkjaaGreat.Ev
open Go Go.RowKit
set_option linter.unusedVariables false
set_option linter.unusedSimpArgs false
structure KeptX (X : Nat → Prop) (w0 w : World) : Prop where
  os : w.os = w0.os
  tape : w.tape = w0.tape
  output : w.output = w0.output
  size : w0.heap.size ≤ w.heap.size
  block : ∀ k, k < w0.heap.size → ¬ X k → w.heap[k]? = w0.heap[k]?
theorem KeptX.below {X : Nat → Prop} {w0 w w' : World} (h : KeptX X w0 w) (hb : Below w.heap.size w w') : KeptX X w0 w' :=
  ⟨hb.os.trans h.os, hb.tape.trans h.tape, hb.output.trans h.output, Nat.le_trans h.size hb.size, fun k hk hx => (hb.block k (Nat.lt_of_lt_of_le hk h.size)).trans (h.block k hk hx)⟩
/-- A variable of the package: its block, unwritten. -/
def GlobAt (w : World) (F : Nat → Prop) (n : Nat) (vs : List Value) : Prop :=
  0 < vs.length ∧ (∀ v ∈ vs, v.oneCell' = true) ∧ ¬ F n ∧ ∃ t i, w.heap[n]? = some (.cells vs.toArray t i)
def GlobsAt (glob : Nat → Option (List Value)) (w : World) (F : Nat → Prop) : Prop := ∀ n vs, glob n = some vs → GlobAt w F n vs
theorem GlobAt.lt {w : World} {F : Nat → Prop} {n : Nat} {vs : List Value} (h : GlobAt w F n vs) : n < w.heap.size := by
  obtain ⟨_, _, _, t, i, h⟩ := h
  exact (Array.getElem?_eq_some_iff.1 h).1
theorem GlobsAt.weaken {gl : Nat → Option (List Value)} {w : World} {F F' : Nat → Prop} (h : GlobsAt gl w F) (hF : ∀ b, F' b → F b) : GlobsAt gl w F' := fun n vs hg => by
  obtain ⟨h0, h1, h2, h3⟩ := h n vs hg
  exact ⟨h0, h1, fun hf => h2 (hF _ hf), h3⟩
theorem GlobsAt.none {w : World} {F : Nat → Prop} : GlobsAt (look []) w F := fun n vs h => by cases h
structure Rel (E : Env) (w0 : World) (X : Nat → Prop) (st : St) (a : Act) (cx : Cx) : Prop where
  P : cx.P = E.P
  defers : a.defers = []
  kept : KeptX X w0 cx.w
  own : ∀ b p, cx.O b = some p → b < cx.w.heap.size ∧ (w0.heap.size ≤ b ∨ X b)
  non : ∀ b, cx.N b → b < w0.heap.size
  glob : GlobsAt E.glob w0 fun b => X b ∨ cx.N b
  nt : a.tmps.size = E.nt
  slots : ∀ t, AVRep cx t (get st t) (a.tmps.getD t undef)
theorem get_cons (t i : Nat) (av : AV) (st : St) : get ((i, av) :: st) t = if i = t then av else get st t := by
  show (bif Nat.beq i t then av else get st t) = _
  by_cases h : i = t
  · subst h; simp
  · rw [if_neg h, show Nat.beq i t = false from by rw [Bool.eq_false_iff]; exact fun hh => h (Nat.eq_of_beq_eq_true hh)]; rfl
theorem get_forget (d t : Nat) : ∀ st : St, get (forget d st) t = forgetA d (get st t)
  | [] => rfl
  | (i, a) :: r => by
    have ih := get_forget d t r
    show get ((i, forgetA d a) :: forget d r) t = _
    rw [get_cons, get_cons, ih]; split <;> rfl
theorem CellRep.moved {cx : Cx} {d j d' j' : Nat} {c : Cell} {v : Value} (ho : isOwn c = false) (h : CellRep cx d j c v) : CellRep cx d' j' c v := by
  cases c with
  | u => trivial
  | v x => exact h
  | sl o e xs => cases o with
    | zero => exact h
    | succ n => simp [isOwn] at ho
  | ref _ _ => exact h
theorem CellsRep.moved {cx : Cx} {d off d' off' : Nat} {cs : List Cell} {vs : List Value} (ho : ∀ c ∈ cs, isOwn c = false) (h : CellsRep cx d off cs vs) : CellsRep cx d' off' cs vs :=
  ⟨h.1, h.2.1, fun j c v h1 h2 => (h.2.2 j c v h1 h2).moved (ho c (List.mem_of_getElem? h1))⟩
theorem refsOf_get (t : Nat) : ∀ (cs : List Cell) (off j : Nat) (c : Cell), (refsOf t cs off)[j]? = some c → ∃ c0, cs[j]? = some c0 ∧ c = (bif isOwn c0 then .ref t (off + j) else c0)
  | [], _, j, c, h => by simp [refsOf] at h
  | c0 :: cs, off, 0, c, h => ⟨c0, rfl, by simpa [refsOf, eq_comm] using h⟩
  | c0 :: cs, off, j + 1, c, h => by
    obtain ⟨c1, h1, h2⟩ := refsOf_get t cs (off + 1) j c (by simpa [refsOf] using h)
    exact ⟨c1, by simpa using h1, by rw [h2]; congr 2; omega⟩
theorem refsOf_length (t : Nat) : ∀ (cs : List Cell) (off : Nat), (refsOf t cs off).length = cs.length
  | [], _ => rfl
  | c :: cs, off => by simp [refsOf, refsOf_length t cs]
theorem refsOf_noOwn (t : Nat) (cs : List Cell) (off : Nat) : ∀ c ∈ refsOf t cs off, isOwn c = false := by
  intro c hc
  obtain ⟨j, hj⟩ := List.mem_iff_getElem?.1 hc
  obtain ⟨c0, _, rfl⟩ := refsOf_get t cs off j c hj
  cases h : isOwn c0 with
  | false => exact h
  | true => rfl
theorem CellsRep.refs {cx : Cx} {t off d' off' : Nat} {cs : List Cell} {vs : List Value} (h : CellsRep cx t off cs vs) : CellsRep cx d' off' (refsOf t cs off) vs := by
  refine ⟨(refsOf_length t cs off).trans h.1, h.2.1, fun j c v h1 h2 => ?_⟩
  obtain ⟨c0, h3, rfl⟩ := refsOf_get t cs off j c h1
  have h4 := h.2.2 j c0 v h3 h2
  cases ho : isOwn c0 with
  | false => exact h4.moved ho
  | true =>
    cases c0 with
    | sl o e xs => cases o with
      | zero => simp [isOwn] at ho
      | succ n => exact ⟨e, h4.2.1⟩
    | _ => simp [isOwn] at ho
theorem PartsRep.refs {cx : Cx} {t d' : Nat} : ∀ {ps : List (Bool × List Cell)} {off off' : Nat} {vs : List Value}, PartsRep cx t off ps vs → PartsRep cx d' off' (refsTup t ps off) vs
  | [], _, _, [], _ => trivial
  | [], _, _, _ :: _, h => by simp [PartsRep] at h
  | p :: ps, _, _, [], h => by obtain ⟨a, cs⟩ := p; cases a <;> simp [PartsRep] at h
  | (true, cs) :: ps, off, off', v :: vs, h => by
    obtain ⟨⟨ws, rfl, hc⟩, hr⟩ := h
    exact ⟨⟨ws, rfl, hc.refs⟩, hr.refs⟩
  | (false, cs) :: ps, off, off', v :: vs, h => by
    obtain ⟨hc, hr⟩ := h
    exact ⟨hc.refs, hr.refs⟩
theorem copy_rep {cx : Cx} {t d : Nat} {av : AV} {v : Value} (h : AVRep cx t av v) : AVRep cx d (copyOf t av) v := by
  cases av with
  | u => trivial
  | p a cs => cases a with
    | true => obtain ⟨vs, rfl, hc⟩ := h; exact ⟨vs, rfl, hc.refs⟩
    | false => have hc : CellsRep cx t 0 cs [v] := h; exact hc.refs
  | tup ps => obtain ⟨vs, rfl, hc⟩ := h; exact ⟨vs, rfl, hc.refs⟩
  | box o cs => obtain ⟨b, vs, t', rfl, h1, h2, h3, hc⟩ := h; exact ⟨b, h1, rfl⟩
  | pat d' o => exact h
  | pel d' j i o => exact h
  | ro cs o =>
    obtain ⟨b, off, vs, rfl, h0, hw, hf, hm, hc⟩ := h
    exact ⟨b, off, vs, rfl, h0, hw, hf, hm, hc.moved fun c hc' => by have := List.all_eq_true.1 hw c hc'; simpa using this⟩
  | fn f => exact h
theorem refsTup_noOwn (t : Nat) : ∀ (ps : List (Bool × List Cell)) (off : Nat), ∀ p ∈ refsTup t ps off, ∀ c ∈ p.2, isOwn c = false
  | [], _, _, h => by simp [refsTup] at h
  | (a, cs) :: ps, off, p, h => by
    rcases List.mem_cons.1 h with rfl | h
    · exact refsOf_noOwn t cs off
    · exact refsTup_noOwn t ps _ p h
theorem copy_noOwner (t : Nat) (av : AV) : owner (copyOf t av) = false := by
  cases av with
  | p a cs => simp only [copyOf, owner, List.any_eq_false]; intro c hc; simp [refsOf_noOwn t cs 0 c hc]
  | tup ps => simp only [copyOf, owner, List.any_eq_false]; intro p hp; simp only [List.any_eq_true, not_exists, not_and]; intro c hc; simp [refsTup_noOwn t ps 0 p hp c hc]
  | _ => rfl
theorem ofV_rep (cx : Cx) (d : Nat) (v : Value) : AVRep cx d (ofV v) v := by
  have one : ∀ x : Value, x.oneCell' = true → AVRep cx d (.p false [.v x]) x := fun x hx =>
    show CellsRep cx d 0 [.v x] [x] from ⟨rfl, by simpa using hx, fun j c v' h1 h2 => by
      cases j with
      | zero => obtain rfl := Option.some.inj h1; obtain rfl := Option.some.inj h2; rfl
      | succ j => simp at h1⟩
  cases v with
  | agg cs =>
    show AVRep cx d (bif cs.toList.all Value.oneCell' then .p true (cs.toList.map .v) else .u) _
    cases h : cs.toList.all Value.oneCell' with
    | false => trivial
    | true =>
      refine ⟨cs.toList, by simp, by simp, fun x hx => List.all_eq_true.1 h x hx, fun j c v' h1 h2 => ?_⟩
      rw [List.getElem?_map, h2] at h1
      obtain rfl := Option.some.inj h1; rfl
  | tuple vs => trivial
  | _ => exact one _ rfl
theorem ofV_noOwner (v : Value) : owner (ofV v) = false := by
  cases v with
  | agg cs =>
    show owner (bif cs.toList.all Value.oneCell' then .p true (cs.toList.map .v) else .u) = false
    cases cs.toList.all Value.oneCell' with
    | false => rfl
    | true => simp only [cond_true, owner, List.any_eq_false]; intro c hc; obtain ⟨x, _, rfl⟩ := List.mem_map.1 hc; simp [isOwn]
  | _ => rfl
section
variable {E : Env} {w0 : World} {X : Nat → Prop} {st : St} {a : Act} {cx : Cx}
theorem Rel.globAt (h : Rel E w0 X st a cx) {F : Nat → Prop} (hF : ∀ b, F b → Forb cx b) : GlobsAt E.glob cx.w F := fun n vs hg => by
  have hlt := (h.glob n vs hg).lt
  obtain ⟨h0, h1, h2, t, i, h3⟩ := h.glob n vs hg
  refine ⟨h0, h1, fun hf => ?_, t, i, (h.kept.block n hlt fun hx => h2 (.inl hx)).trans h3⟩
  rcases hF n hf with hN | ⟨p, hO⟩
  · exact h2 (.inr hN)
  · rcases (h.own n p hO).2 with h4 | h4
    · omega
    · exact h2 (.inl h4)
theorem Rel.globRep (h : Rel E w0 X st a cx) (d n : Nat) {vs : List Value} (hg : E.glob n = some vs) : AVRep cx d (.ro (vs.map .v) 0) (.pointer (some ⟨n, 0, none⟩)) := by
  obtain ⟨h0, h1, h2, t, i, h3⟩ := h.globAt (fun b hb => hb) n vs hg
  refine ⟨n, 0, vs, rfl, by simpa using h0, ?_, h2, fun j u hu => ?_, by simp, h1, fun j c v hc hv => ?_⟩
  · rw [List.all_eq_true]; intro c hc; obtain ⟨v, _, rfl⟩ := List.mem_map.1 hc; rfl
  · rw [Nat.zero_add, cell_of_row _ n j _ t i h3]; simpa using hu
  · rw [List.getElem?_map, hv] at hc
    obtain rfl := Option.some.inj hc; rfl
theorem Rel.opnd (h : Rel E w0 X st a cx) (d : Nat) (x : Operand) : AVRep cx d (opnd E (get st) x) (a.eval x) := by
  cases x with
  | tmp t => exact copy_rep (h.slots t)
  | const v => exact ofV_rep cx d v
  | global n =>
    cases hg : E.glob n with
    | none => simp only [Ev.opnd, hg]; trivial
    | some vs =>
      simp only [Ev.opnd, hg]
      exact h.globRep d n hg
  | func f => exact rfl
theorem opnd_noOwner (E : Env) (g : Nat → AV) {p : Prop} (hg : p) (x : Operand) : owner (opnd E g x) = false := by
  cases x with
  | tmp t => exact copy_noOwner t _
  | const v => exact ofV_noOwner v
  | global n => simp only [Ev.opnd]; cases E.glob n <;> rfl
  | func f => rfl
theorem allV_spec : ∀ {cs : List Cell} {l : List Value}, allV cs = some l → cs = l.map .v
  | [], l, h => by simp [allV] at h; subst h; rfl
  | .v x :: cs, l, h => by
    simp only [allV, Option.map_eq_some_iff] at h
    obtain ⟨l', h1, rfl⟩ := h
    rw [allV_spec h1]; rfl
  | .u :: cs, l, h => by simp [allV] at h
  | .sl .. :: cs, l, h => by simp [allV] at h
  | .ref .. :: cs, l, h => by simp [allV] at h
theorem CellsRep.vs {cx : Cx} {d off : Nat} {l vs : List Value} (h : CellsRep cx d off (l.map .v) vs) : vs = l := by
  apply List.ext_getElem?
  intro j
  have hl : l.length = vs.length := by simpa using h.1
  by_cases hj : j < vs.length
  · have h1 := h.2.2 j (.v (l[j]'(by omega))) vs[j] (by simp [List.getElem?_eq_getElem (show j < l.length by omega)]) (List.getElem?_eq_getElem hj)
    rw [List.getElem?_eq_getElem hj, List.getElem?_eq_getElem (show j < l.length by omega)]
    exact congrArg some h1
  · rw [List.getElem?_eq_none (by omega), List.getElem?_eq_none (by omega)]
theorem plain_rep {cx : Cx} {d : Nat} {av : AV} {v x : Value} (h : AVRep cx d av v) (hx : plainV av = some x) : v = x := by
  unfold plainV at hx
  split at hx
  · obtain rfl := Option.some.inj hx
    exact h.2.2 0 _ _ rfl rfl
  · rename_i cs
    obtain ⟨l, h1, rfl⟩ := Option.map_eq_some_iff.1 hx
    obtain ⟨vs, rfl, hc⟩ := h
    rw [allV_spec h1] at hc
    rw [hc.vs]
  · cases hx
theorem Rel.plain (h : Rel E w0 X st a cx) {x : Operand} {v : Value} (hx : plainV (Ev.opnd E (get st) x) = some v) : a.eval x = v := plain_rep (h.opnd 0 x) hx
/-! ### Forgetting -/
theorem CellsRep.map {cx : Cx} {d off : Nat} {cs : List Cell} {vs : List Value} (f : Cell → Cell) (hf : ∀ c, f c = c ∨ f c = .u) (h : CellsRep cx d off cs vs) : CellsRep cx d off (cs.map f) vs := by
  refine ⟨by simpa using h.1, h.2.1, fun j c v h1 h2 => ?_⟩
  rw [List.getElem?_map] at h1
  obtain ⟨c0, h3, rfl⟩ := Option.map_eq_some_iff.1 h1
  rcases hf c0 with e | e
  · rw [e]; exact h.2.2 j c0 v h3 h2
  · rw [e]; trivial
theorem forgetC_or (d : Nat) (c : Cell) : forgetC d c = c ∨ forgetC d c = .u := by
  cases c with
  | ref d' j => simp only [forgetC]; cases Nat.beq d d' <;> simp
  | _ => exact .inl rfl
theorem forgetRC_or (d j : Nat) (c : Cell) : forgetRC d j c = c ∨ forgetRC d j c = .u := by
  cases c with
  | ref d' j' => simp only [forgetRC]; cases (Nat.beq d d' && Nat.beq j j') <;> simp
  | _ => exact .inl rfl
theorem PartsRep.map {cx : Cx} {d : Nat} (f : Cell → Cell) (hf : ∀ c, f c = c ∨ f c = .u) : ∀ {ps : List (Bool × List Cell)} {off : Nat} {vs : List Value}, PartsRep cx d off ps vs → PartsRep cx d off (ps.map fun x => (x.1, x.2.map f)) vs
  | [], _, [], _ => trivial
  | [], _, _ :: _, h => by simp [PartsRep] at h
  | p :: ps, _, [], h => by obtain ⟨a, cs⟩ := p; cases a <;> simp [PartsRep] at h
  | (true, cs) :: ps, off, v :: vs, h => by
    obtain ⟨⟨ws, rfl, hc⟩, hr⟩ := h
    refine ⟨⟨ws, rfl, hc.map f hf⟩, ?_⟩
    have := hr.map f hf
    simpa using this
  | (false, cs) :: ps, off, v :: vs, h => by
    obtain ⟨hc, hr⟩ := h
    refine ⟨hc.map f hf, ?_⟩
    have := hr.map f hf
    simpa using this
theorem all_map_noOwn {f : Cell → Cell} (hf : ∀ c, f c = c ∨ f c = .u) {cs : List Cell} (h : cs.all (fun c => !isOwn c) = true) : (cs.map f).all (fun c => !isOwn c) = true := by
  rw [List.all_eq_true] at h ⊢
  intro c hc
  obtain ⟨c0, h0, rfl⟩ := List.mem_map.1 hc
  rcases hf c0 with e | e
  · rw [e]; exact h c0 h0
  · rw [e]; rfl
theorem AVRep.mapped {cx : Cx} {d : Nat} {av av' : AV} {v : Value} (f : Cell → Cell) (hf : ∀ c, f c = c ∨ f c = .u) (h : AVRep cx d av v)
    (he : av' = .u ∨ av' = (match av with | .p a cs => .p a (cs.map f) | .tup ps => .tup (ps.map fun x => (x.1, x.2.map f)) | .box o cs => .box o (cs.map f) | .ro cs o => .ro (cs.map f) o | av => av)) : AVRep cx d av' v := by
  rcases he with rfl | rfl
  · trivial
  cases av with
  | p a cs => cases a with
    | true => obtain ⟨vs, rfl, hc⟩ := h; exact ⟨vs, rfl, hc.map f hf⟩
    | false => have hc : CellsRep cx d 0 cs [v] := h; exact hc.map f hf
  | tup ps => obtain ⟨vs, rfl, hc⟩ := h; exact ⟨vs, rfl, hc.map f hf⟩
  | box o cs => obtain ⟨b, vs, t', rfl, h1, h2, h3, hc⟩ := h; exact ⟨b, vs, t', rfl, h1, h2, h3, hc.map f hf⟩
  | ro cs o => obtain ⟨b, off, vs, rfl, h0, hw, hF, hm, hc⟩ := h; exact ⟨b, off, vs, rfl, by simpa using h0, all_map_noOwn hf hw, hF, hm, hc.map f hf⟩
  | _ => exact h
theorem AVRep.forget {cx : Cx} {d : Nat} {av : AV} {v : Value} (h : AVRep cx d av v) (d' : Nat) : AVRep cx d (forgetA d' av) v := by
  refine h.mapped (forgetC d') (forgetC_or d') ?_
  cases av with
  | pat d'' o => simp only [forgetA]; cases Nat.beq d' d'' <;> simp
  | pel d'' j i o => simp only [forgetA]; cases Nat.beq d' d'' <;> simp
  | _ => exact .inr rfl
theorem avoid_forgetC (d : Nat) (c : Cell) : AvoidC (fun d' _ => d' = d) (forgetC d c) := by
  cases c with
  | ref d' j =>
    simp only [forgetC]
    cases h : Nat.beq d d' with
    | true => trivial
    | false => exact fun e => by subst e; simp at h
  | _ => trivial
theorem avoid_cells (d : Nat) (cs : List Cell) : AvoidCs (fun d' _ => d' = d) (cs.map (forgetC d)) := by
  intro c hc
  obtain ⟨c0, _, rfl⟩ := List.mem_map.1 hc
  exact avoid_forgetC d c0
theorem avoid_forget (d : Nat) (av : AV) : Avoid (fun d' _ => d' = d) (fun d' => d' = d) (forgetA d av) := by
  cases av with
  | p a cs => exact avoid_cells d cs
  | tup ps => intro p hp; obtain ⟨p0, _, rfl⟩ := List.mem_map.1 hp; exact avoid_cells d _
  | box o cs => exact avoid_cells d cs
  | ro cs o => exact avoid_cells d cs
  | pat d' o =>
    simp only [forgetA]
    cases h : Nat.beq d d' with
    | true => trivial
    | false => exact fun e => by subst e; simp at h
  | pel d' j i o =>
    simp only [forgetA]
    cases h : Nat.beq d d' with
    | true => trivial
    | false => exact fun e => by subst e; simp at h
  | _ => trivial
theorem forgetC_own (d : Nat) (c : Cell) : isOwn (forgetC d c) = isOwn c := by
  cases c with
  | ref d' j => simp only [forgetC]; cases Nat.beq d d' <;> rfl
  | _ => rfl
/-- No own cell, no variable: nothing that a place could be. -/
theorem noOwner_cells {av : AV} (h : owner av = false) : (∀ c ∈ cellsIn av, isOwn c = false) ∧ ∀ o cs, av ≠ .box o cs := by
  cases av with
  | p a cs => exact ⟨fun c hc => by have := List.any_eq_false.1 h c hc; simpa using this, fun _ _ => by simp⟩
  | tup ps =>
    refine ⟨fun c hc => ?_, fun _ _ => by simp⟩
    obtain ⟨p, hp, hc⟩ := List.mem_flatMap.1 hc
    have := List.any_eq_false.1 h p hp
    simp only [List.any_eq_true, not_exists, not_and] at this
    simpa using this c hc
  | box o cs => simp [owner] at h
  | _ => exact ⟨fun c hc => by simp [cellsIn] at hc, fun _ _ => by simp⟩
/-- What an operation hands back, in the world that it leaves: its own rows are new blocks. -/
def cxd (cx : Cx) (w' : World) (own : Nat → Option Nat) (d : Nat) (pl' : Nat → Option (TypeId × Value)) (bx' : Option Nat) : Cx :=
  { cx with w := w', O := fun b => match own b with | some j => some (d, j) | none => cx.O b, pl := fun d' j => if d' = d then pl' j else cx.pl d' j, bx := fun d' => if d' = d then bx' else cx.bx d' }
structure New (cx : Cx) (w' : World) (av : AV) (v : Value) : Prop where
  below : Below cx.w.heap.size cx.w w'
  plain : owner av = false → ∀ d, AVRep { cx with w := w' } d av v
  owns : owner av = true → ∃ own : Nat → Option Nat, (∀ b j, own b = some j → cx.w.heap.size ≤ b ∧ b < w'.heap.size) ∧ ∀ d, ∃ pl' bx', AVRep (cxd cx w' own d pl' bx') d (forgetA d av) v
theorem New.of {cx : Cx} {av : AV} {v : Value} (h : ∀ d, AVRep cx d av v) (ho : owner av = false) : New cx cx.w av v :=
  ⟨Below.refl _ _, fun _ => h, fun h' => by rw [ho] at h'; cases h'⟩
theorem getD_put {a : Act} {d t : Nat} {v : Value} (hd : d < a.tmps.size) : (a.put (some d) v).tmps.getD t undef = if d = t then v else a.tmps.getD t undef := by
  simp only [Act.put, Array.getD_eq_getD_getElem?, Array.getElem?_setIfInBounds]
  by_cases h : d = t
  · subst h; simp [hd]
  · simp [h]
theorem Ch.grow {cx : Cx} {w' : World} (hb : Below cx.w.heap.size cx.w w') : Ch cx { cx with w := w' } (fun _ => False) (fun _ _ => False) (fun _ => False) :=
  ⟨rfl, rfl, fun b hb' _ => hb.block b hb', fun b _ hf => ⟨id, hf⟩, fun _ _ _ => rfl, fun _ _ => rfl⟩
theorem Ch.cxd {cx : Cx} {w' : World} (hb : Below cx.w.heap.size cx.w w') {own : Nat → Option Nat} (hown : ∀ b j, own b = some j → cx.w.heap.size ≤ b ∧ b < w'.heap.size) (d : Nat) (pl' bx') :
    Ch cx (Ev.cxd cx w' own d pl' bx') (fun _ => False) (fun d' _ => d' = d) (fun d' => d' = d) := by
  refine ⟨rfl, rfl, fun b hb' _ => hb.block b hb', fun b hb' hf => ⟨id, fun hf' => hf ?_⟩, fun d' j h => if_neg h, fun d' h => if_neg h⟩
  rcases hf' with h | ⟨p, hp⟩
  · exact .inl h
  · cases ho : own b with
    | none => simp only [Ev.cxd, ho] at hp; exact .inr ⟨p, hp⟩
    | some j => have := (hown b j ho).1; omega
theorem Rel.put (h : Rel E w0 X st a cx) {d : Nat} (hd : d < E.nt) {w' : World} {av : AV} {v : Value} (hn : New cx w' av v) :
    ∃ cx', Rel E w0 X (put st d av) (a.put (some d) v) cx' ∧ cx'.w = w' ∧ cx'.N = cx.N ∧ cx'.A = cx.A := by
  have hd' : d < a.tmps.size := h.nt ▸ hd
  have hsz : (a.put (some d) v).tmps.size = E.nt := by simp [Act.put, h.nt]
  have hslot : ∀ t, (a.put (some d) v).tmps.getD t undef = if d = t then v else a.tmps.getD t undef := fun t => getD_put hd'
  have hown0 : ∀ b p, cx.O b = some p → b < w'.heap.size ∧ (w0.heap.size ≤ b ∨ X b) := fun b p hp => ⟨Nat.lt_of_lt_of_le (h.own b p hp).1 hn.below.size, (h.own b p hp).2⟩
  unfold Ev.put
  cases hO : owner av || owner (get st d) with
  | false =>
    rw [Bool.or_eq_false_iff] at hO
    refine ⟨{ cx with w := w' }, ⟨h.P, h.defers, h.kept.below hn.below, hown0, h.non, h.glob, hsz, fun t => ?_⟩, rfl, rfl, rfl⟩
    rw [hslot]
    show AVRep _ t (get ((d, av) :: st) t) _
    rw [get_cons]
    by_cases e : d = t
    · rw [if_pos e, if_pos e]; exact hn.plain hO.1 t
    · rw [if_neg e, if_neg e]
      exact (h.slots t).change (Ch.grow hn.below) (by cases get st t <;> first | trivial | (intro; simp) | exact id | (intro c hc; cases c <;> first | trivial | exact id) | (intro p hp c hc; cases c <;> first | trivial | exact id))
        (fun j c _ _ => ⟨id, fun b hb => ⟨(h.own b _ hb).1, id, hb⟩⟩) (fun o cs _ => ⟨id, fun b hb => ⟨(h.own b _ hb).1, id, hb⟩⟩)
  | true =>
    obtain ⟨own, hown, pl', bx', hav⟩ : ∃ own : Nat → Option Nat, (∀ b j, own b = some j → cx.w.heap.size ≤ b ∧ b < w'.heap.size) ∧ ∃ pl' bx', AVRep (cxd cx w' own d pl' bx') d (forgetA d av) v := by
      cases ho : owner av with
      | true => obtain ⟨own, h1, h2⟩ := hn.owns ho; obtain ⟨pl', bx', h3⟩ := h2 d; exact ⟨own, h1, pl', bx', h3⟩
      | false =>
        refine ⟨fun _ => none, (fun b j hb => by cases hb), fun _ => none, none, ?_⟩
        have hc := noOwner_cells ho
        have h1 : AVRep { cx with w := w' } d (forgetA d av) v := (hn.plain ho d).forget d
        have hch : Ch { cx with w := w' } (cxd cx w' (fun _ => none) d (fun _ => none) none) (fun _ => False) (fun d' _ => d' = d) (fun d' => d' = d) :=
          ⟨rfl, rfl, fun _ _ _ => rfl, fun b _ hf => ⟨id, hf⟩, fun d' j hh => if_neg hh, fun d' hh => if_neg hh⟩
        refine h1.change hch (avoid_forget d av) (fun j c hj hoc => ?_) (fun o cs hb => ?_)
        · have : c ∈ cellsIn (forgetA d av) := List.mem_of_getElem? hj
          have hno : ∀ c ∈ cellsIn (forgetA d av), isOwn c = false := by
            intro c hc'
            cases av with
            | p a cs => obtain ⟨c0, h0, rfl⟩ := List.mem_map.1 hc'; rw [forgetC_own]; exact hc.1 c0 h0
            | tup ps =>
              obtain ⟨p, hp, hc'⟩ := List.mem_flatMap.1 hc'
              obtain ⟨p0, hp0, rfl⟩ := List.mem_map.1 hp
              obtain ⟨c0, h0, rfl⟩ := List.mem_map.1 hc'
              rw [forgetC_own]; exact hc.1 c0 (List.mem_flatMap.2 ⟨p0, hp0, h0⟩)
            | box o cs => exact absurd rfl (hc.2 o cs)
            | pat d' o => simp only [forgetA] at hc'; cases hb : Nat.beq d d' <;> simp [hb, cellsIn] at hc'
            | pel d' j' i o => simp only [forgetA] at hc'; cases hb : Nat.beq d d' <;> simp [hb, cellsIn] at hc'
            | _ => simp [forgetA, cellsIn] at hc'
          rw [hno c this] at hoc; cases hoc
        · exfalso
          cases av with
          | box o' cs' => exact hc.2 o' cs' rfl
          | pat d' o' => simp only [forgetA] at hb; cases hb' : Nat.beq d d' <;> simp [hb'] at hb
          | pel d' j' i o' => simp only [forgetA] at hb; cases hb' : Nat.beq d d' <;> simp [hb'] at hb
          | _ => simp [forgetA] at hb
    refine ⟨cxd cx w' own d pl' bx', ⟨h.P, h.defers, h.kept.below hn.below, fun b p hp => ?_, h.non, h.glob, hsz, fun t => ?_⟩, rfl, rfl, rfl⟩
    · cases ho : own b with
      | none => simp only [cxd, ho] at hp; exact hown0 b p hp
      | some j => exact ⟨(hown b j ho).2, .inl (Nat.le_trans h.kept.size (hown b j ho).1)⟩
    · rw [hslot]
      show AVRep _ t (get ((d, forgetA d av) :: forget d st) t) _
      rw [get_cons, get_forget]
      by_cases e : d = t
      · subst e; rw [if_pos rfl, if_pos rfl]; exact hav
      · rw [if_neg e, if_neg e]
        have hO' : ∀ b p, cx.O b = some p → (cxd cx w' own d pl' bx').O b = some p := fun b p hp => by
          cases ho : own b with
          | none => simp only [cxd, ho]; exact hp
          | some j => have := (hown b j ho).1; have := (h.own b p hp).1; omega
        exact ((h.slots t).forget d).change (Ch.cxd hn.below hown d pl' bx') (avoid_forget d _) (fun j c _ _ => ⟨fun ee => e ee.symm, fun b hb => ⟨(h.own b _ hb).1, id, hO' b _ hb⟩⟩) (fun o cs _ => ⟨fun ee => e ee.symm, fun b hb => ⟨(h.own b _ hb).1, id, hO' b _ hb⟩⟩)
theorem Rel.putO (h : Rel E w0 X st a cx) {d : Option Nat} (hd : ∀ x, d = some x → x < E.nt) {w' : World} {av : AV} {v : Value} (hn : New cx w' av v) :
    ∃ cx', Rel E w0 X (putO st d av) (a.put d v) cx' ∧ cx'.w = w' ∧ cx'.N = cx.N ∧ cx'.A = cx.A := by
  cases d with
  | some d => exact h.put (hd d rfl) hn
  | none =>
    refine ⟨{ cx with w := w' }, ⟨h.P, h.defers, h.kept.below hn.below, fun b p hp => ⟨Nat.lt_of_lt_of_le (h.own b p hp).1 hn.below.size, (h.own b p hp).2⟩, h.non, h.glob, h.nt, fun t => ?_⟩, rfl, rfl, rfl⟩
    exact (h.slots t).change (Ch.grow hn.below) (by cases get st t <;> first | trivial | (intro; simp) | exact id | (intro c hc; cases c <;> first | trivial | exact id) | (intro p hp c hc; cases c <;> first | trivial | exact id))
        (fun j c _ _ => ⟨id, fun b hb => ⟨(h.own b _ hb).1, id, hb⟩⟩) (fun o cs _ => ⟨id, fun b hb => ⟨(h.own b _ hb).1, id, hb⟩⟩)
end
end Go.Proofs.YtpggnjmmpkdkjaaGreat.Ev
