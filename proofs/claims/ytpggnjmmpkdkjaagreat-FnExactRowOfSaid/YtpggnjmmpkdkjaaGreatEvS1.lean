/- What the evaluator's states say of the model's frames and memory, and how that stays true while memory changes elsewhere. No condition. -/
import Derived.Test.YtpggnjmmpkdkjaaGreatEv
namespace Go.Proofs.YtpggnjmmpkdkjaaGreat.Ev
open Go Go.RowKit
set_option linter.unusedVariables false
set_option linter.unusedSimpArgs false
/-- Data d lies, as a cell of kind k, in value v; no memory that F forbids is used. -/
inductive RepD (P : Program) (w : World) (F : Nat → Prop) : K → D → Value → Prop
  | int (k : IntKind) (d : D) : RepD P w F (.int k) d (.int k d.int)
  | bool (d : D) : RepD P w F .bool d (.bool d.bool)
  | str (d : D) : RepD P w F .str d (.string d.str)
  | fn (e : TypeId) (d : D) (he : isFnT e = true) (hk : (kinds P e).length = 0) : RepD P w F (.sl e) d (.func (.func (fnOfT e)) #[] #[])
  | clo (e : TypeId) (d : D) (b : Nat) (he : isCloT e = true) (hk : (kinds P e).length = 0) (hF : ¬ F b) (hc : w.cell? ⟨b, 0, none⟩ = some (.func (.func (cloG e)) #[] #[])) : RepD P w F (.sl e) d (.func (.func (cloF e)) #[] #[.pointer (some ⟨b, 0, none⟩)])
  | nil (e : TypeId) (d : D) (a : Option Addr) (c : Nat) (h : d.rows = []) (hk : Nat.blt e 1000000000 = true ∨ 0 < (kinds P e).length) : RepD P w F (.sl e) d (.slice a 0 c)
  | sl (e : TypeId) (d : D) (b o c n : Nat) (vs : Nat → Nat → Value) (hn : n = d.rows.length) (h0 : 0 < n) (hm : 0 < (kinds P e).length) (hF : ¬ F b)
      (hc : ∀ i j, i < n → j < (kinds P e).length → w.cell? ⟨b, o + (i * (kinds P e).length + j), none⟩ = some (vs i j))
      (hr : ∀ i j k, i < n → (kinds P e)[j]? = some k → RepD P w F k ((d.rows.getD i []).getD j .j) (vs i j)) (hcp : n ≤ c) : RepD P w F (.sl e) d (.slice (some ⟨b, o, none⟩) n c)
theorem cell_same {w w' : World} {b o : Nat} (h : w'.heap[b]? = w.heap[b]?) : w'.cell? ⟨b, o, none⟩ = w.cell? ⟨b, o, none⟩ := World.cell?_of_block (a := ⟨b, o, none⟩) h
theorem cell_lt {w : World} {b o : Nat} {v : Value} (h : w.cell? ⟨b, o, none⟩ = some v) : b < w.heap.size := World.block_lt_of_cell? w ⟨b, o, none⟩ h
theorem RepD.change {P : Program} {w w' : World} {F F' : Nat → Prop} {k : K} {d : D} {v : Value} (h : RepD P w F k d v) (hs : ∀ b, b < w.heap.size → ¬ F b → w'.heap[b]? = w.heap[b]? ∧ ¬ F' b) : RepD P w' F' k d v := by
  induction h with
  | int k d => exact .int k d
  | bool d => exact .bool d
  | str d => exact .str d
  | fn e d he hk => exact .fn e d he hk
  | clo e d b he hk hF hc =>
    obtain ⟨h1, h2⟩ := hs b (cell_lt hc) hF
    exact .clo e d b he hk h2 ((cell_same h1).trans hc)
  | nil e d a c h hk => exact .nil e d a c h hk
  | sl e d b o c n vs hn h0 hm hF hc hr hcp ih =>
    have hb : b < w.heap.size := cell_lt (hc 0 0 h0 hm)
    obtain ⟨h1, h2⟩ := hs b hb hF
    exact .sl e d b o c n vs hn h0 hm h2 (fun i j hi hj => (cell_same h1).trans (hc i j hi hj)) ih hcp
theorem RepD.one {P : Program} {w : World} {F : Nat → Prop} {k : K} {d : D} {v : Value} (h : RepD P w F k d v) : v.oneCell' = true := by
  cases h <;> rfl
/-- A slice of the call's own. -/
def Owns (P : Program) (w : World) (F : Nat → Prop) (e : TypeId) (xs : List (List D)) (v : Value) : Prop :=
  0 < (kinds P e).length ∧ ∃ flat, w.ownsRow 0 e (kinds P e).length v xs.length flat ∧ ∀ i j k, i < xs.length → (kinds P e)[j]? = some k → ∃ u, flat[i * (kinds P e).length + j]? = some u ∧ RepD P w F k ((xs.getD i []).getD j .j) u
theorem Owns.change {P : Program} {w w' : World} {F F' : Nat → Prop} {e : TypeId} {xs : List (List D)} {v : Value} (h : Owns P w F e xs v) (hs : ∀ b, b < w.heap.size → ¬ F b → w'.heap[b]? = w.heap[b]? ∧ ¬ F' b)
    (ho : ∀ b, v.ownBlock = some b → w'.heap[b]? = w.heap[b]?) : Owns P w' F' e xs v := by
  obtain ⟨hm0, flat, hf, hr⟩ := h
  refine ⟨hm0, flat, ⟨hf.1, ?_⟩, fun i j k hi hk => ?_⟩
  · rcases hf.2 with h | ⟨g, cap, cur, rfl, hg, hh, r⟩
    · exact .inl h
    · exact .inr ⟨g, cap, cur, rfl, hg, (ho g rfl).trans hh, r⟩
  · obtain ⟨u, h1, h2⟩ := hr i j k hi hk
    exact ⟨u, h1, h2.change hs⟩
theorem Owns.one {P : Program} {w : World} {F : Nat → Prop} {e : TypeId} {xs : List (List D)} {v : Value} (h : Owns P w F e xs v) : v.oneCell' = true := by
  obtain ⟨_, flat, hf, _⟩ := h
  rcases hf.2 with h | ⟨g, cap, cur, rfl, _⟩
  · rw [h.1]; rfl
  · rfl
structure Cx where
  P : Program
  w : World
  O : Nat → Option (Nat × Nat)
  N : Nat → Prop
  pl : Nat → Nat → Option (TypeId × Value)
  bx : Nat → Option Nat
  A : Nat → Value
def Forb (cx : Cx) (b : Nat) : Prop := cx.N b ∨ ∃ p, cx.O b = some p
def CellRep (cx : Cx) (d j : Nat) : Cell → Value → Prop
  | .u, _ => True
  | .v x, v => v = x
  | .sl 0 e xs, v => RepD cx.P cx.w (Forb cx) (.sl e) (.l xs) v
  | .sl (n + 1) e xs, v => Owns cx.P cx.w (Forb cx) e xs v ∧ cx.pl d j = some (e, v) ∧ (∀ b, v.ownBlock = some b → cx.O b = some (d, j + 1)) ∧ (n ≠ 0 → v = cx.A d)
  | .ref d' j', v => ∃ e, cx.pl d' j' = some (e, v)
def CellsRep (cx : Cx) (d off : Nat) (cs : List Cell) (vs : List Value) : Prop :=
  cs.length = vs.length ∧ (∀ v ∈ vs, v.oneCell' = true) ∧ ∀ j c v, cs[j]? = some c → vs[j]? = some v → CellRep cx d (off + j) c v
def PartsRep (cx : Cx) (d : Nat) : Nat → List (Bool × List Cell) → List Value → Prop
  | _, [], [] => True
  | off, (true, cs) :: ps, v :: vs => (∃ ws : List Value, v = .agg ws.toArray ∧ CellsRep cx d off cs ws) ∧ PartsRep cx d (off + cs.length) ps vs
  | off, (false, cs) :: ps, v :: vs => CellsRep cx d off cs [v] ∧ PartsRep cx d (off + cs.length) ps vs
  | _, _, _ => False
def AVRep (cx : Cx) (d : Nat) : AV → Value → Prop
  | .u, _ => True
  | .p false cs, v => CellsRep cx d 0 cs [v]
  | .p true cs, v => ∃ vs : List Value, v = .agg vs.toArray ∧ CellsRep cx d 0 cs vs
  | .tup ps, v => ∃ vs : List Value, v = .tuple vs.toArray ∧ PartsRep cx d 0 ps vs
  | .box _ cs, v => ∃ (b : Nat) (vs : List Value) (t : TypeId), v = .pointer (some ⟨b, 0, none⟩) ∧ cx.bx d = some b ∧ cx.O b = some (d, 0) ∧ cx.w.heap[b]? = some (.cells vs.toArray t (0, 0)) ∧ CellsRep cx d 0 cs vs
  | .pat d' o, v => ∃ b, cx.bx d' = some b ∧ v = .pointer (some ⟨b, o, none⟩)
  | .pel d' j i o, v => ∃ e b n c, cx.pl d' j = some (e, .slice (some ⟨b, 0, none⟩) n c) ∧ 0 ≤ i ∧ i < (n : Int) ∧ v = .pointer (some ⟨b, i.toNat * (kinds cx.P e).length + o, none⟩)
  | .ro cs o, v => ∃ (b off : Nat) (vs : List Value), v = .pointer (some ⟨b, off + o, none⟩) ∧ 0 < cs.length ∧ cs.all (fun c => !isOwn c) = true ∧ ¬ Forb cx b ∧ (∀ j u, vs[j]? = some u → cx.w.cell? ⟨b, off + j, none⟩ = some u) ∧ CellsRep cx d 0 cs vs
  | .fn f, v => v = .func (.func f) #[] #[]
/-- Memory changes: outside of S nothing; what is neither forbidden nor owned stays so; places stay, but for those that R tells. -/
structure Ch (cx cx' : Cx) (S : Nat → Prop) (R : Nat → Nat → Prop) (B : Nat → Prop) : Prop where
  P : cx'.P = cx.P
  A : cx'.A = cx.A
  hh : ∀ b, b < cx.w.heap.size → ¬ S b → cx'.w.heap[b]? = cx.w.heap[b]?
  hF : ∀ b, b < cx.w.heap.size → ¬ Forb cx b → ¬ S b ∧ ¬ Forb cx' b
  pl : ∀ d j, ¬ R d j → cx'.pl d j = cx.pl d j
  bx : ∀ d, ¬ B d → cx'.bx d = cx.bx d
def AvoidC (R : Nat → Nat → Prop) : Cell → Prop
  | .ref d j => ¬ R d j
  | _ => True
def AvoidCs (R : Nat → Nat → Prop) (cs : List Cell) : Prop := ∀ c ∈ cs, AvoidC R c
def Avoid (R : Nat → Nat → Prop) (B : Nat → Prop) : AV → Prop
  | .p _ cs => AvoidCs R cs
  | .tup ps => ∀ p ∈ ps, AvoidCs R p.2
  | .box _ cs => AvoidCs R cs
  | .pat d _ => ¬ B d
  | .pel d j _ _ => ¬ R d j
  | .ro cs _ => AvoidCs R cs
  | _ => True
section
variable {cx cx' : Cx} {S : Nat → Prop} {R : Nat → Nat → Prop} {B : Nat → Prop}
theorem CellRep.change (h : Ch cx cx' S R B) {d j : Nat} {c : Cell} {v : Value} (hc : CellRep cx d j c v) (hv : AvoidC R c)
    (hO : isOwn c = true → ¬ R d j ∧ ∀ b, cx.O b = some (d, j + 1) → b < cx.w.heap.size ∧ ¬ S b ∧ cx'.O b = some (d, j + 1)) : CellRep cx' d j c v := by
  have hs : ∀ b, b < cx.w.heap.size → ¬ Forb cx b → cx'.w.heap[b]? = cx.w.heap[b]? ∧ ¬ Forb cx' b := fun b hb hf => ⟨h.hh b hb (h.hF b hb hf).1, (h.hF b hb hf).2⟩
  cases c with
  | u => trivial
  | v x => exact hc
  | sl o e xs =>
    cases o with
    | zero => unfold CellRep at hc ⊢; rw [h.P]; exact hc.change hs
    | succ n =>
      obtain ⟨h1, h2⟩ := hO rfl
      obtain ⟨a, b, c, e'⟩ := hc
      unfold CellRep
      rw [h.P, h.A, h.pl d j h1]
      exact ⟨a.change hs fun b' hb' => h.hh b' (h2 b' (c b' hb')).1 (h2 b' (c b' hb')).2.1, b, fun b' hb' => (h2 b' (c b' hb')).2.2, e'⟩
  | ref d' j' =>
    obtain ⟨e, he⟩ := hc
    exact ⟨e, (h.pl d' j' hv).trans he⟩
theorem CellsRep.change (h : Ch cx cx' S R B) {d off : Nat} {cs : List Cell} {vs : List Value} (hc : CellsRep cx d off cs vs) (hv : AvoidCs R cs)
    (hO : ∀ j c, cs[j]? = some c → isOwn c = true → ¬ R d (off + j) ∧ ∀ b, cx.O b = some (d, off + j + 1) → b < cx.w.heap.size ∧ ¬ S b ∧ cx'.O b = some (d, off + j + 1)) : CellsRep cx' d off cs vs :=
  ⟨hc.1, hc.2.1, fun j c v h1 h2 => (hc.2.2 j c v h1 h2).change h (hv c (List.mem_of_getElem? h1)) (hO j c h1)⟩
theorem PartsRep.change (h : Ch cx cx' S R B) {d : Nat} : ∀ {ps : List (Bool × List Cell)} {off : Nat} {vs : List Value}, PartsRep cx d off ps vs → (∀ p ∈ ps, AvoidCs R p.2) →
    (∀ j c, (ps.flatMap (·.2))[j]? = some c → isOwn c = true → ¬ R d (off + j) ∧ ∀ b, cx.O b = some (d, off + j + 1) → b < cx.w.heap.size ∧ ¬ S b ∧ cx'.O b = some (d, off + j + 1)) → PartsRep cx' d off ps vs
  | [], off, [], _, _, _ => trivial
  | [], off, v :: vs, hp, _, _ => by simp [PartsRep] at hp
  | p :: ps, off, [], hp, _, _ => by obtain ⟨a, cs⟩ := p; cases a <;> simp [PartsRep] at hp
  | (a, cs) :: ps, off, v :: vs, hp, hv, hO => by
    have hO1 : ∀ j c, cs[j]? = some c → isOwn c = true → ¬ R d (off + j) ∧ ∀ b, cx.O b = some (d, off + j + 1) → b < cx.w.heap.size ∧ ¬ S b ∧ cx'.O b = some (d, off + j + 1) := by
      intro j c hj
      refine hO j c ?_
      rw [List.flatMap_cons, List.getElem?_append_left (List.getElem?_eq_some_iff.1 hj).1]; exact hj
    have hO2 : ∀ j c, (ps.flatMap (·.2))[j]? = some c → isOwn c = true → ¬ R d (off + cs.length + j) ∧ ∀ b, cx.O b = some (d, off + cs.length + j + 1) → b < cx.w.heap.size ∧ ¬ S b ∧ cx'.O b = some (d, off + cs.length + j + 1) := by
      intro j c hj
      have := hO (cs.length + j) c (by rw [List.flatMap_cons, List.getElem?_append_right (Nat.le_add_right cs.length j)]; simpa using hj)
      simpa [Nat.add_assoc] using this
    cases a with
    | true =>
      obtain ⟨⟨ws, rfl, hc⟩, hr⟩ := hp
      exact ⟨⟨ws, rfl, hc.change h (hv (true, cs) (List.mem_cons_self ..)) hO1⟩, hr.change h (fun p hp' => hv p (by simp [hp'])) hO2⟩
    | false =>
      obtain ⟨hc, hr⟩ := hp
      exact ⟨hc.change h (hv (false, cs) (List.mem_cons_self ..)) hO1, hr.change h (fun p hp' => hv p (by simp [hp'])) hO2⟩
/-- The cells of a slot, in their places. -/
def cellsIn : AV → List Cell
  | .p _ cs => cs
  | .tup ps => ps.flatMap (·.2)
  | .box _ cs => cs
  | _ => []
theorem AVRep.change (h : Ch cx cx' S R B) {d : Nat} {av : AV} {v : Value} (ha : AVRep cx d av v) (hv : Avoid R B av)
    (hO : ∀ j c, (cellsIn av)[j]? = some c → isOwn c = true → ¬ R d j ∧ ∀ b, cx.O b = some (d, j + 1) → b < cx.w.heap.size ∧ ¬ S b ∧ cx'.O b = some (d, j + 1))
    (hb : ∀ o cs, av = .box o cs → ¬ B d ∧ ∀ b, cx.O b = some (d, 0) → b < cx.w.heap.size ∧ ¬ S b ∧ cx'.O b = some (d, 0)) : AVRep cx' d av v := by
  cases av with
  | u => trivial
  | p a cs =>
    cases a with
    | true =>
      obtain ⟨vs, rfl, hc⟩ := ha
      exact ⟨vs, rfl, hc.change h hv (by simpa [cellsIn] using hO)⟩
    | false =>
      have hc : CellsRep cx d 0 cs [v] := ha
      exact hc.change h hv (by simpa [cellsIn] using hO)
  | tup ps =>
    obtain ⟨vs, rfl, hc⟩ := ha
    exact ⟨vs, rfl, hc.change h hv (by simpa [cellsIn] using hO)⟩
  | box o cs =>
    obtain ⟨b, vs, t, rfl, h1, h2, h3, hc⟩ := ha
    obtain ⟨hB, hb'⟩ := hb o cs rfl
    obtain ⟨hlt, hs, ho⟩ := hb' b h2
    exact ⟨b, vs, t, rfl, (h.bx d hB).trans h1, ho, (h.hh b hlt hs).trans h3, hc.change h hv (by simpa [cellsIn] using hO)⟩
  | pat d' o =>
    obtain ⟨b, h1, rfl⟩ := ha
    exact ⟨b, (h.bx d' hv).trans h1, rfl⟩
  | pel d' j i o =>
    obtain ⟨e, b, n, c, h1, h2, h3, rfl⟩ := ha
    exact ⟨e, b, n, c, (h.pl d' j hv).trans h1, h2, h3, by rw [h.P]⟩
  | ro cs o =>
    obtain ⟨b, off, vs, rfl, h0, hw, hf, hm, hc⟩ := ha
    have h0v : 0 < vs.length := hc.1 ▸ h0
    have hlt : b < cx.w.heap.size := cell_lt (hm 0 _ (List.getElem?_eq_getElem h0v))
    refine ⟨b, off, vs, rfl, h0, hw, (h.hF b hlt hf).2, fun j u hj => (cell_same (h.hh b hlt (h.hF b hlt hf).1)).trans (hm j u hj), hc.change h hv fun j c hj ho => ?_⟩
    have := List.all_eq_true.1 hw c (List.mem_of_getElem? hj)
    rw [ho] at this; simp at this
  | fn f => exact ha
end
end Go.Proofs.YtpggnjmmpkdkjaaGreat.Ev
