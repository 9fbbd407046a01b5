/- A function: its contract out of the evaluation of its code. No condition. -/
import Derived.Test.YtpggnjmmpkdkjaaGreatEvS21
namespace Go.Proofs.YtpggnjmmpkdkjaaGreat.Ev
open Go Go.RowKit
set_option linter.unusedVariables false
set_option linter.unusedSimpArgs false
def mutI : List (Nat × List K) → Nat → Option Nat
  | [], _ => none
  | p :: ps, i => if p.1 = 3 then some i else mutI ps (i + 1)
def slCount (rt : List (Bool × List (K × Nat))) : Nat := ((rt.flatMap (·.2)).filter fun k => isSl k.1).length
def mutOk (sp : Spec) : Bool := oneMut sp.pt && (Nat.ble (slCount sp.rt) 1 && (!isMut sp || Nat.beq (slCount sp.rt) 0))
section
variable {E : Env} {w0 : World} {X : Nat → Prop} {st st' : St} {a : Act} {cx : Cx} {o : Oper} {av : AV}
theorem argsRep_length {P : Program} {w : World} {F : Nat → Prop} : ∀ {ps : List (Nat × List K)} {ds : List D} {vs : List Value}, ArgsRep P w F ps ds vs → vs.length = ps.length
  | [], _, [], _ => rfl
  | [], _, _ :: _, h => h.elim
  | _ :: _, _, [], h => h.elim
  | p :: ps, ds, v :: vs, h => by rw [List.length_cons, List.length_cons, argsRep_length h.2]
theorem cellR_zero (k : K) (d : D) : cellR (k, 0) d = cellOf k d := by cases k <;> rfl
theorem mutI_mut : ∀ {ps : List (Nat × List K)} {vs : List Value} {i n : Nat} {b : Nat}, mutI ps i = some n → (vs.getD (n - i) undef).ownBlock = some b → i ≤ n ∧ MutB ps vs b
  | [], _, _, _, _, h, _ => by cases h
  | p :: ps, vs, i, n, b, h, hb => by
    simp only [mutI] at h
    by_cases h3 : p.1 = 3
    · rw [if_pos h3] at h
      obtain rfl := Option.some.inj h
      refine ⟨Nat.le_refl _, ?_⟩
      rw [Nat.sub_self] at hb
      cases vs with
      | nil => simp [undef, Value.ownBlock] at hb
      | cons v vs => exact .inl ⟨h3, by simpa using hb⟩
    · rw [if_neg h3] at h
      have hle : i + 1 ≤ n := by
        have : ∀ {ps : List (Nat × List K)} {i n : Nat}, mutI ps i = some n → i ≤ n := by
          intro ps
          induction ps with
          | nil => intro i n h; cases h
          | cons p ps ih =>
            intro i n h
            simp only [mutI] at h
            split at h
            · obtain rfl := Option.some.inj h; exact Nat.le_refl _
            · exact Nat.le_trans (Nat.le_succ i) (ih h)
        exact this h
      cases vs with
      | nil => simp [undef, Value.ownBlock] at hb
      | cons v vs =>
        have e : n - i = (n - (i + 1)) + 1 := by omega
        rw [e] at hb
        obtain ⟨_, h5⟩ := mutI_mut h (vs := vs) (by simpa using hb)
        exact ⟨by omega, .inr h5⟩
theorem oneMut_none : ∀ {ps : List (Nat × List K)} {i : Nat}, (ps.any fun q => Nat.beq q.1 3) = false → mutI ps i = none
  | [], _, _ => rfl
  | p :: ps, i, h => by
    rw [List.any_cons, Bool.or_eq_false_iff] at h
    simp only [mutI]
    rw [if_neg (fun e => by rw [e] at h; cases h.1), oneMut_none h.2]
theorem oneMut_at : ∀ {ps : List (Nat × List K)} {i j : Nat} {ks : List K}, oneMut ps = true → ps[j]? = some (3, ks) → mutI ps i = some (i + j)
  | [], _, _, _, _, h => by simp at h
  | p :: ps, i, j, ks, ho, h => by
    simp only [mutI]
    cases j with
    | zero =>
      obtain rfl := Option.some.inj h
      rw [if_pos rfl]; rfl
    | succ j =>
      have h' : ps[j]? = some (3, ks) := by simpa using h
      by_cases h3 : p.1 = 3
      · exfalso
        have hb : Nat.beq p.1 3 = true := by rw [h3]; rfl
        simp only [oneMut, hb, cond_true, Bool.not_eq_true'] at ho
        have := List.any_eq_false.1 ho _ (List.mem_of_getElem? h')
        exact this rfl
      · have hb : Nat.beq p.1 3 = false := by
          cases hb : Nat.beq p.1 3 with
          | false => rfl
          | true => exact absurd (Nat.eq_of_beq_eq_true hb) h3
        simp only [oneMut, hb, cond_false] at ho
        rw [if_neg h3, oneMut_at ho h']
        congr 1; omega
def cx0 (P : Program) (w : World) (N : Nat → Prop) (pt : List (Nat × List K)) (args : List Value) : Cx :=
  { P := P, w := w, N := N, bx := fun _ => none, A := fun d => args.getD d undef
    O := fun b => match mutI pt 0 with
      | some i => if (args.getD i undef).ownBlock = some b then some (i, 1) else none
      | none => none
    pl := fun d j => if j = 0 then (match pt[d]? with
      | some (3, [.sl e]) => some (e, args.getD d undef)
      | _ => none) else none }
theorem cx0_O {P : Program} {w : World} {N : Nat → Prop} {pt : List (Nat × List K)} {args : List Value} {b : Nat} {p : Nat × Nat} (h : (cx0 P w N pt args).O b = some p) : MutB pt args b := by
  simp only [cx0] at h
  split at h
  · rename_i i hi
    split at h
    · rename_i hb; exact (mutI_mut hi (by simpa using hb)).2
    · cases h
  · cases h
theorem init_rep {P : Program} {w : World} {N : Nat → Prop} {pt : List (Nat × List K)} {args : List Value} {dsA : List D} (ho : oneMut pt = true) : ∀ (suf : List (Nat × List K)) (vs : List Value) (i t0 : Nat), (∀ j, suf[j]? = pt[t0 + j]?) → (∀ j, vs[j]? = args[t0 + j]?) → ArgsRep P w (fun b => N b ∨ MutB pt args b) suf (dsA.drop i) vs →
    ∀ t, AVRep (cx0 P w N pt args) t (get (initSt suf dsA i t0) t) (args.getD t undef)
  | [], _, _, _, _, _, _, _ => trivial
  | _ :: _, [], _, _, _, _, h, _ => h.elim
  | (f, ks) :: suf, v :: vs, i, t0, hs, hv, h, t => by
    obtain ⟨ha, hr⟩ := h
    have hF : ∀ b, ¬ (N b ∨ MutB pt args b) → ¬ Forb (cx0 P w N pt args) b := by
      rintro b hb (hN | ⟨p, hp⟩)
      · exact hb (.inl hN)
      · exact hb (.inr (cx0_O hp))
    have hv0 : args.getD t0 undef = v := by
      have := hv 0
      rw [Nat.add_zero] at this
      rw [List.getD_eq_getElem?_getD, ← this]; rfl
    have hdrop : ∀ j, (dsA.drop i).getD j .j = dsA.getD (i + j) .j := by
      intro j; rw [List.getD_eq_getElem?_getD, List.getElem?_drop, ← List.getD_eq_getElem?_getD]
    have row : ∀ {ws : List Value}, RowRep P w (fun b => N b ∨ MutB pt args b) ks (dsA.drop i) ws → CellsRep (cx0 P w N pt args) t0 0 (cellsR (ks.map (·, 0)) dsA i) ws := by
      intro ws ⟨hl, hw⟩
      refine ⟨by rw [cellsR_length, List.length_map, hl], fun u hu => ?_, fun j c u h1 h2 => ?_⟩
      · obtain ⟨j, hj⟩ := List.mem_iff_getElem?.1 hu
        have hlt : j < ks.length := by rw [← hl]; exact (List.getElem?_eq_some_iff.1 hj).1
        exact (hw j _ u (List.getElem?_eq_getElem hlt) hj).one
      · obtain ⟨k, hk, rfl⟩ := cellsR_get _ _ _ _ _ h1
        rw [List.getElem?_map] at hk
        obtain ⟨k0, hk0, rfl⟩ := Option.map_eq_some_iff.1 hk
        rw [cellR_zero]
        have := hw j k0 u hk0 h2
        rw [hdrop] at this
        exact cellOf_rep (this.weaken hF) _ _
    have rest : ∀ t, AVRep (cx0 P w N pt args) t (get (initSt suf dsA (i + ks.length) (t0 + 1)) t) (args.getD t undef) :=
      init_rep ho suf vs (i + ks.length) (t0 + 1) (fun j => by have := hs (j + 1); rw [show t0 + 1 + j = t0 + (j + 1) by omega, ← this]; simp) (fun j => by have := hv (j + 1); rw [show t0 + 1 + j = t0 + (j + 1) by omega, ← this]; simp) (by rw [List.drop_drop] at hr; exact hr)
    show AVRep _ t (get ((t0, _) :: initSt suf dsA (i + ks.length) (t0 + 1)) t) _
    rw [get_cons]
    split
    · rename_i e
      subst e
      rw [hv0]
      unfold ArgRep at ha
      match f, ha with
      | 0, ha => exact row ha
      | 1, ha => obtain ⟨ws, rfl, hw⟩ := ha; exact ⟨ws, rfl, row hw⟩
      | 2, ha =>
        obtain ⟨b, off, ws, rfl, h0, hFb, hm, hw⟩ := ha
        refine ⟨b, off, ws, rfl, by rw [cellsR_length, List.length_map]; exact h0, ?_, hF b hFb, hm, row hw⟩
        rw [List.all_eq_true]
        intro c hc
        obtain ⟨j, hj⟩ := List.mem_iff_getElem?.1 hc
        obtain ⟨k, hk, rfl⟩ := cellsR_get _ _ _ _ _ hj
        rw [List.getElem?_map] at hk
        obtain ⟨k0, hk0, rfl⟩ := Option.map_eq_some_iff.1 hk
        rw [cellR_zero, cellOf_noOwn]; rfl
      | f' + 10, ha => exact ha.2
      | 7, ha =>
        obtain ⟨_, hv7⟩ := ha
        subst hv7
        refine ⟨rfl, fun u hu => by obtain rfl := List.mem_singleton.1 hu; rfl, fun j c u h1 h2 => ?_⟩
        cases j with
        | succ j => simp at h1
        | zero =>
          obtain rfl := Option.some.inj h1
          obtain rfl := Option.some.inj h2
          rfl
      | 3, ha =>
        obtain ⟨e, hks, hown⟩ := ha
        have hks' : ks = [.sl e] := hks
        subst hks'
        have hpt : pt[t0]? = some (3, [.sl e]) := by have := hs 0; rw [Nat.add_zero] at this; rw [← this]; rfl
        show CellsRep _ t0 0 [.sl 2 e (dsA.getD i .j).rows] [v]
        refine ⟨rfl, by simpa using hown.one, fun j c u h1 h2 => ?_⟩
        cases j with
        | succ j => simp at h1
        | zero =>
          obtain rfl := Option.some.inj h1
          obtain rfl := Option.some.inj h2
          have hd0 : (dsA.drop i).getD 0 .j = dsA.getD i .j := by rw [hdrop]; rfl
          rw [hd0] at hown
          refine ⟨hown.change (fun b _ hb => ⟨rfl, hF b hb⟩) (fun _ _ => rfl), ?_, fun b hb => ?_, fun _ => hv0.symm⟩
          · simp only [cx0, if_pos, hpt, hv0]
          · have hmi : mutI pt 0 = some (0 + t0) := oneMut_at ho hpt
            simp only [cx0, hmi, Nat.zero_add, hv0, hb, if_true]
    · exact rest t
end
end Go.Proofs.YtpggnjmmpkdkjaaGreat.Ev
