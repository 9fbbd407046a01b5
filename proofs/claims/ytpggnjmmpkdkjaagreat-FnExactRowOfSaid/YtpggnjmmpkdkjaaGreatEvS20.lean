/- Code: what the evaluator comes to is what the model runs. No condition. -/
import Derived.Test.YtpggnjmmpkdkjaaGreatEvS19
namespace Go.Proofs.YtpggnjmmpkdkjaaGreat.Ev
open Go Go.RowKit
set_option linter.unusedVariables false
set_option linter.unusedSimpArgs false
section
variable {E : Env} {w0 : World} {X : Nat → Prop} {st st' : St} {a : Act} {cx : Cx} {o : Oper} {av : AV} {R : Type} {r : R}
def exitOf : Ex → Exit
  | .normal => .normal
  | .exit id => .exit id
  | .ret => .ret
/-! ### The state at a loop's head -/
def keepE : List (Nat × Nat × List (K × Nat)) → Nat → Nat → TypeId
  | [], _, _ => 0
  | (t, _, ks) :: r, d, j => if t = d then (match ((ks[j]?).map (·.1) : Option K) with | some (.sl e) => e | _ => 0) else keepE r d j
theorem keepE_mem : ∀ {keep : List (Nat × Nat × List (K × Nat))}, slotsApart keep = true → ∀ {t f : Nat} {ks : List (K × Nat)}, (t, f, ks) ∈ keep → ∀ {j : Nat} {e : TypeId} {n : Nat}, ks[j]? = some (.sl e, n) → keepE keep t j = e
  | [], _, _, _, _, h, _, _, _, _ => by cases h
  | (t0, f0, ks0) :: r, hs, t, f, ks, h, j, e, n, hk => by
    simp only [slotsApart, Bool.and_eq_true, Bool.not_eq_true'] at hs
    simp only [keepE]
    by_cases he : t0 = t
    · rcases List.mem_cons.1 h with e1 | h
      · obtain ⟨rfl, rfl, rfl⟩ : t = t0 ∧ f = f0 ∧ ks = ks0 := by simpa using e1
        rw [if_pos rfl, hk]; rfl
      · have := List.any_eq_false.1 hs.1 _ h
        exact absurd (by simp [he]) this
    · rw [if_neg he]
      rcases List.mem_cons.1 h with e1 | h
      · exact absurd (by simpa using (congrArg (fun x : Nat × Nat × List (K × Nat) => x.1) e1).symm) he
      · exact keepE_mem hs.2 h hk
theorem packKeepCs_get : ∀ {ks : List (K × Nat)} {cs : List Cell} {ds : List D}, packKeepCs ks cs = some ds → cs.length = ks.length ∧ ds.length = ks.length ∧ ∀ (j : Nat) (k : K × Nat) (c : Cell), ks[j]? = some k → cs[j]? = some c → packKeepC k c = some (ds.getD j .j)
  | [], [], ds, h => by obtain rfl := Option.some.inj h; exact ⟨rfl, rfl, fun j k c h1 _ => by simp at h1⟩
  | [], _ :: _, _, h => by cases h
  | _ :: _, [], _, h => by cases h
  | k :: ks, c :: cs, ds, h => by
    simp only [packKeepCs] at h
    split at h
    · rename_i d ds' h1 h2
      obtain rfl := Option.some.inj h
      obtain ⟨h3, h4, h5⟩ := packKeepCs_get h2
      refine ⟨by simp [h3], by simp [h4], fun j k' c' hk hc => ?_⟩
      cases j with
      | zero => obtain rfl := Option.some.inj hk; obtain rfl := Option.some.inj hc; exact h1
      | succ j => exact h5 j k' c' (by simpa using hk) (by simpa using hc)
    · cases h
/-- The context at a loop's head: what was no slice yet is an empty one of the call's own. -/
def headCx (cx : Cx) (st : St) (keep : List (Nat × Nat × List (K × Nat))) : Cx :=
  { cx with pl := fun d j => match cellAt (get st d) j with
      | .v (.slice none 0 0) => some (keepE keep d j, .slice none 0 0)
      | _ => cx.pl d j }
theorem headCx_pl {keep : List (Nat × Nat × List (K × Nat))} {d j : Nat} (h : cellAt (get st d) j ≠ .v (.slice none 0 0)) : (headCx cx st keep).pl d j = cx.pl d j := by
  unfold headCx
  dsimp only
  split
  · rename_i e; exact absurd e h
  · rfl
theorem packKeepC_spec {k : K} {n : Nat} {c : Cell} {dt : D} (hp : packKeepC (k, n) c = some dt) : (∃ e xs, k = .sl e ∧ c = .sl n e xs ∧ dt = .l xs) ∨ (∃ e, k = .sl e ∧ c = .v (.slice none 0 0) ∧ n ≤ 1 ∧ dt = .l []) ∨ ((∀ e, k ≠ .sl e) ∧ packCell k c = some dt) := by
  cases k with
  | sl e =>
    cases c with
    | sl o e' xs =>
      left
      have hp' : (bif Nat.beq e e' && Nat.beq o n then some (D.l xs) else none) = some dt := hp
      cases hb : (Nat.beq e e' && Nat.beq o n) with
      | false => rw [hb] at hp'; cases hp'
      | true =>
        rw [hb] at hp'
        rw [Bool.and_eq_true] at hb
        obtain rfl := Nat.eq_of_beq_eq_true hb.1
        obtain rfl := Nat.eq_of_beq_eq_true hb.2
        exact ⟨e, xs, rfl, rfl, (Option.some.inj hp').symm⟩
    | v x =>
      right; left
      cases x <;> first | (cases hp; done) | skip
      rename_i ad len cp
      cases ad <;> first | (cases hp; done) | skip
      cases len <;> first | (cases hp; done) | skip
      cases cp <;> first | (cases hp; done) | skip
      have hp' : (bif Nat.ble n 1 && Nat.blt e 1000000000 then some (D.l []) else none) = some dt := hp
      cases hb : (Nat.ble n 1 && Nat.blt e 1000000000) with
      | false => rw [hb] at hp'; cases hp'
      | true =>
        rw [hb] at hp'
        rw [Bool.and_eq_true] at hb
        exact ⟨e, rfl, rfl, Nat.le_of_ble_eq_true hb.1, (Option.some.inj hp').symm⟩
    | u => cases hp
    | ref _ _ => cases hp
  | int k => exact .inr (.inr ⟨by simp, hp⟩)
  | bool => exact .inr (.inr ⟨by simp, hp⟩)
  | str => exact .inr (.inr ⟨by simp, hp⟩)
theorem keep_cell {keep : List (Nat × Nat × List (K × Nat))} (hP : cx.P = E.P) {t j : Nat} {k : K × Nat} {c : Cell} {dt : D} {u : Value} (hc : cellAt (get st t) j = c) (hp : packKeepC k c = some dt) (hr : CellRep cx t j c u) (hE : ∀ e, k.1 = .sl e → keepE keep t j = e ∧ 0 < (kinds E.P e).length) : CellRep (headCx cx st keep) t j (cellR k dt) u := by
  obtain ⟨k, n⟩ := k
  have other : ∀ {k : K} {c : Cell}, packCell k c = some dt → (∀ e, k ≠ .sl e) → CellRep cx t j c u → CellRep (headCx cx st keep) t j (cellR (k, n) dt) u := by
    intro k c hp hk hr
    cases k with
    | sl e => exact absurd rfl (hk e)
    | int k =>
      cases c <;> first | (cases hp; done) | skip
      rename_i x
      have := packCell_rep hp rfl hr
      cases this; rfl
    | bool =>
      cases c <;> first | (cases hp; done) | skip
      rename_i x
      have := packCell_rep hp rfl hr
      cases this; rfl
    | str =>
      cases c <;> first | (cases hp; done) | skip
      rename_i x
      have := packCell_rep hp rfl hr
      cases this; rfl
  rcases packKeepC_spec hp with ⟨e, xs, rfl, rfl, rfl⟩ | ⟨e, rfl, rfl, hn, rfl⟩ | ⟨hk, hp2⟩
  · show CellRep _ t j (.sl n e xs) u
    have hpl : (headCx cx st keep).pl t j = cx.pl t j := headCx_pl (by rw [hc]; simp)
    cases n with
    | zero => exact hr
    | succ n => obtain ⟨h1, h2, h3, h4⟩ := hr; exact ⟨h1, hpl.trans h2, h3, h4⟩
  · have hu : u = .slice none 0 0 := hr
    subst hu
    obtain ⟨hke, hkl⟩ := hE e rfl
    show CellRep _ t j (.sl n e []) _
    cases n with
    | zero => exact .nil e _ none 0 rfl (.inr (by show 0 < (kinds cx.P e).length; rw [hP]; exact hkl))
    | succ n =>
      have hn : n = 0 := by omega
      subst hn
      refine ⟨⟨by show 0 < (kinds cx.P e).length; rw [hP]; exact hkl, [], World.ownsRow_nil _ _ _ _, fun i j k hi => by simp at hi⟩, ?_, fun b hb => by simp [Value.ownBlock] at hb, fun hh => absurd rfl hh⟩
      show (match cellAt (get st t) j with
        | .v (.slice none 0 0) => some (keepE keep t j, Value.slice none 0 0)
        | _ => cx.pl t j) = _
      rw [hc, hke]
      rfl
  · exact other hp2 hk hr
theorem keep_cells {keep : List (Nat × Nat × List (K × Nat))} (hP : cx.P = E.P) {t : Nat} {ks : List (K × Nat)} {cs : List Cell} {ds : List D} {i : Nat} {vs : List Value} (hc : ∀ (j : Nat) c, cs[j]? = some c → cellAt (get st t) j = c) (hp : packKeepCs ks cs = some ds) (hr : CellsRep cx t 0 cs vs)
    (hE : ∀ j e n, ks[j]? = some (.sl e, n) → keepE keep t j = e ∧ 0 < (kinds E.P e).length) {all : List D} (hall : ∀ j, j < ds.length → all.getD (i + j) .j = ds.getD j .j) : CellsRep (headCx cx st keep) t 0 (cellsR ks all i) vs := by
  obtain ⟨h1, h2, h3⟩ := packKeepCs_get hp
  refine ⟨by rw [cellsR_length, ← h1]; exact hr.1, hr.2.1, fun j c v hj hv => ?_⟩
  obtain ⟨k, hk, rfl⟩ := cellsR_get ks all i j c hj
  have hjk : j < ks.length := (List.getElem?_eq_some_iff.1 hk).1
  have hjc : j < cs.length := by rw [h1]; exact hjk
  have hcj := List.getElem?_eq_getElem hjc
  rw [hall j (by rw [h2]; exact hjk)]
  have hrj := hr.2.2 j _ v hcj hv
  rw [Nat.zero_add] at hrj ⊢
  exact keep_cell hP (hc j _ hcj) (h3 j k _ hk hcj) hrj fun e he => by
    obtain ⟨k, n⟩ := k
    have he' : k = .sl e := he
    subst he'
    exact hE j e n hk
theorem cond_some {α : Type} {b : Bool} {x : Option α} {y : α} (h : (bif b then x else none) = some y) : b = true ∧ x = some y := by cases b with
  | true => exact ⟨rfl, h⟩
  | false => cases h
theorem Rel.head (h : Rel E w0 X st a cx) {keep : List (Nat × Nat × List (K × Nat))} (hk : keepOk E.P keep = true) {ds : List D} (hp : packKeep st keep = some ds) (pre : List D) : Rel E w0 X (mkKeep keep (pre ++ ds) pre.length) a (headCx cx st keep) := by
  simp only [keepOk, Bool.and_eq_true] at hk
  obtain ⟨hs, hall⟩ := hk
  have hkind : ∀ {t f ks}, (t, f, ks) ∈ keep → ∀ (j : Nat) e n, ks[j]? = some (.sl e, n) → keepE keep t j = e ∧ 0 < (kinds E.P e).length := by
    intro t f ks hm j e n hj
    refine ⟨keepE_mem hs hm hj, ?_⟩
    have h1 := List.all_eq_true.1 hall _ hm
    have h2 := List.all_eq_true.1 h1 _ (List.mem_of_getElem? hj)
    simp only [Bool.and_eq_true] at h2
    exact Nat.le_of_ble_eq_true h2.2
  have hro : ∀ {t ks}, (t, 2, ks) ∈ keep → ∀ k ∈ ks, k.2 = 0 := by
    intro t ks hm k hkm
    have h1 := List.all_eq_true.1 hall _ hm
    have h2 := List.all_eq_true.1 h1 _ hkm
    simp only [Bool.and_eq_true] at h2
    have h3 := h2.1
    simp only [Bool.or_eq_true] at h3
    rcases h3 with h3 | h3
    · simp at h3
    · exact Nat.eq_of_beq_eq_true h3
  refine ⟨h.P, h.defers, h.kept, h.own, h.non, h.glob, h.nt, ?_⟩
  have key : ∀ (sub : List (Nat × Nat × List (K × Nat))) (i : Nat) (dsub : List D), (∀ x ∈ sub, x ∈ keep) → packKeep st sub = some dsub → (∀ j, j < dsub.length → (pre ++ ds).getD (i + j) .j = dsub.getD j .j) → ∀ t, AVRep (headCx cx st keep) t (get (mkKeep sub (pre ++ ds) i) t) (a.tmps.getD t undef) := by
    intro sub
    induction sub with
    | nil => intro i dsub _ _ _ t; exact trivial
    | cons x sub ih =>
      intro i dsub hsub hpk hget t
      obtain ⟨t0, f, ks⟩ := x
      simp only [packKeep] at hpk
      split at hpk
      · rename_i d1 d2 h1 h2
        obtain rfl := Option.some.inj hpk
        have hm := hsub _ (List.mem_cons_self ..)
        have hg1 : ∀ j, j < d1.length → (pre ++ ds).getD (i + j) .j = d1.getD j .j := by
          intro j hj
          rw [hget j (by rw [List.length_append]; omega)]
          rw [List.getD_eq_getElem?_getD, List.getElem?_append_left hj, ← List.getD_eq_getElem?_getD]
        have hlen : d1.length = ks.length := by
          unfold packKeep1 at h1
          split at h1 <;> first | exact (packKeepCs_get h1).2.1 | exact (packKeepCs_get (cond_some h1).2).2.1 | cases h1
        show AVRep _ t (get ((t0, mkForm f (cellsR ks (pre ++ ds) i)) :: mkKeep sub (pre ++ ds) (i + ks.length)) t) _
        rw [get_cons]
        split
        · rename_i e
          subst e
          have hsl := h.slots t0
          unfold packKeep1 at h1
          have hcell : ∀ {cs : List Cell}, cellsIn (get st t0) = cs → ∀ j c, cs[j]? = some c → cellAt (get st t0) j = c := by
            intro cs e j c hj; rw [cellAt_eq, e, List.getD_eq_getElem?_getD, hj]; rfl
          split at h1
          · rename_i cs hg
            rw [hg] at hsl
            exact keep_cells h.P (hcell (by rw [hg]; rfl)) h1 (show CellsRep cx t0 0 cs [_] from hsl) (hkind hm) hg1
          · rename_i cs hg
            rw [hg] at hsl
            obtain ⟨vs, hv, hr⟩ := hsl
            exact ⟨vs, hv, keep_cells h.P (hcell (by rw [hg]; rfl)) h1 hr (hkind hm) hg1⟩
          · rename_i cs hg
            rw [hg] at hsl
            obtain ⟨b, off, vs, hv, h0, hw, hF, hmm, hr⟩ := hsl
            obtain ⟨q1, q2, q3⟩ := packKeepCs_get h1
            have hno : ∀ c ∈ cellsR ks (pre ++ ds) i, isOwn c = false := by
              intro c hc
              obtain ⟨j, hj⟩ := List.mem_iff_getElem?.1 hc
              obtain ⟨⟨k, n⟩, hkj, rfl⟩ := cellsR_get _ _ _ _ _ hj
              have hn0 : n = 0 := hro hm _ (List.mem_of_getElem? hkj)
              subst hn0
              cases k <;> rfl
            refine ⟨b, off, vs, hv, by rw [cellsR_length, ← q1]; exact h0, ?_, hF, hmm, ⟨by rw [cellsR_length, ← q1]; exact hr.1, hr.2.1, fun j c v hj hv' => ?_⟩⟩
            · rw [List.all_eq_true]; intro c hc; rw [hno c hc]; rfl
            · obtain ⟨⟨k, n⟩, hkj, rfl⟩ := cellsR_get _ _ _ _ _ hj
              have hn0 : n = 0 := hro hm _ (List.mem_of_getElem? hkj)
              subst hn0
              have hjk : j < ks.length := (List.getElem?_eq_some_iff.1 hkj).1
              have hcj := List.getElem?_eq_getElem (show j < cs.length by rw [q1]; exact hjk)
              rw [hg1 j (by rw [q2]; exact hjk)]
              have hrj := hr.2.2 j _ v hcj hv'
              have hpc := q3 j _ _ hkj hcj
              have hnoc : isOwn cs[j] = false := by have := List.all_eq_true.1 hw _ (List.getElem_mem (show j < cs.length by rw [q1]; exact hjk)); simpa using this
              have hpc' : packCell k cs[j] = some (d1.getD j .j) := by
                rcases packKeepC_spec hpc with ⟨e, xs, hk1, hc1, hd1⟩ | ⟨e, hk1, hc1, _, hd1⟩ | ⟨_, h5⟩
                · rw [hk1, hc1, hd1]; simp [packCell]
                · obtain rfl : k = .sl e := hk1
                  have h6 := hpc
                  rw [hc1] at h6
                  have h7 : (bif Nat.ble 0 1 && Nat.blt e 1000000000 then some (D.l []) else none) = some (d1.getD j .j) := h6
                  cases hb : Nat.blt e 1000000000 with
                  | false => rw [hb] at h7; cases h7
                  | true =>
                    rw [hc1, hd1]
                    show (bif Nat.blt e 1000000000 then some (D.l []) else none) = _
                    rw [hb]; rfl
                · exact h5
              have := packCell_rep hpc' hnoc hrj
              show CellRep _ t0 (0 + j) (cellR (k, 0) (d1.getD j .j)) v
              cases k with
              | sl e => exact this.rows rfl
              | int k => cases this; rfl
              | bool => cases this; rfl
              | str => cases this; rfl
          · rename_i cs hg
            rw [hg] at hsl
            obtain ⟨b, vs, t', hv, g1, g2, g3, hr⟩ := hsl
            exact ⟨b, vs, t', hv, g1, g2, g3, keep_cells h.P (hcell (by rw [hg]; rfl)) h1 hr (hkind hm) hg1⟩
          · rename_i cs hg
            rw [hg] at hsl
            obtain ⟨b, vs, t', hv, g1, g2, g3, hr⟩ := hsl
            exact ⟨b, vs, t', hv, g1, g2, g3, keep_cells h.P (hcell (by rw [hg]; rfl)) h1 hr (hkind hm) hg1⟩
          · rename_i f' n hg
            rw [hg] at hsl
            obtain rfl := Nat.eq_of_beq_eq_true (cond_some h1).1
            exact hsl
          · cases h1
        · refine ih (i + ks.length) d2 (fun x hx => hsub x (List.mem_cons_of_mem _ hx)) h2 (fun j hj => ?_) t
          have := hget (ks.length + j) (by rw [List.length_append]; omega)
          rw [Nat.add_assoc, this, List.getD_eq_getElem?_getD, List.getElem?_append_right (by omega), ← List.getD_eq_getElem?_getD, hlen, Nat.add_sub_cancel_left]
      · cases hpk
  exact key keep pre.length ds (fun x hx => hx) hp fun j hj => by
    rw [List.getD_eq_getElem?_getD, List.getElem?_append_right (by omega), ← List.getD_eq_getElem?_getD, Nat.add_sub_cancel_left]
end
end Go.Proofs.YtpggnjmmpkdkjaaGreat.Ev
