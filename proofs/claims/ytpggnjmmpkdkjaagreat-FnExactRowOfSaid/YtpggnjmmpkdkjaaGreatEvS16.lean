/- Regions in the order of the text. No condition. -/
import Derived.Test.YtpggnjmmpkdkjaaGreatEvS15
namespace Go.Proofs.YtpggnjmmpkdkjaaGreat.Ev
open Go Go.RowKit
set_option linter.unusedVariables false
set_option linter.unusedSimpArgs false
section
variable {E : Env} {w0 : World} {X : Nat → Prop} {st st' : St} {a : Act} {cx : Cx} {o : Oper} {av : AV} {R : Type} {r : R}
theorem After.wp (h : After E w0 X st' o a cx) {next : Act → World → Prop} {Q : Exit → Act → World → Prop} (hn : ∀ a' cx', Rel E w0 X st' a' cx' → cx'.N = cx.N → cx'.A = cx.A → next a' cx'.w) : o.wp E.P a cx.w next Q := by
  rcases h with h | ⟨w', hr, cx', h1, rfl, h3, h4⟩
  · refine h.wp ?_
    rintro v w' ⟨cx', h1, rfl, h3, h4⟩
    exact hn _ _ h1 h3 h4
  · unfold Oper.wp
    rw [hr]
    exact hn _ _ h1 h3 h4
theorem k_run {α β : Type} : ∀ {b : Br α} {f : α → Option β} {y : β}, b.k f = some y → ∃ x, b.run = some x ∧ f x = some y
  | .none, f, y, h => by cases h
  | .ret x, f, y, h => ⟨x, rfl, h⟩
  | .br c t e, f, y, h => by
    cases c with
    | true => exact k_run (b := t) h
    | false => exact k_run (b := e) h
  | .opt x g, f, y, h => by
    cases x with
    | none => cases h
    | some t => exact k_run (b := g t) h
theorem tmps_get {a : Act} {d : Nat} {b : Bool} (h : a.tmps.getD d undef = .bool b) : a.tmps[d]? = some (.bool b) := by
  rw [Array.getD_eq_getD_getElem?] at h
  cases hq : a.tmps[d]? with
  | none => rw [hq] at h; cases h
  | some v => rw [hq] at h; exact congrArg some h
theorem lit_rep (h : Rel E w0 X st a cx) {d : Nat} {b : Bool} (hg : get st d = .p false [.v (.bool b)]) : a.tmps.getD d undef = .bool b := by
  have := h.slots d
  rw [hg] at this
  exact (show CellsRep cx d 0 [.v (.bool b)] [a.tmps.getD d undef] from this).2.2 0 _ _ rfl rfl
theorem skip_new (cx : Cx) : New cx cx.w (.tup []) undef := .of (fun d => ⟨[], rfl, trivial⟩) rfl
/-- One operation of a region, with its guard. -/
theorem step_sound {all : List Oper} (hE : EnvOk E) {os : List Oper} {i : Nat} (hi : all[i]? = some o) (hd : ∀ x, o.dst = some x → x < E.nt) (h : Rel E w0 X st a cx) {k : St → Option R} (hav : evOps E all (o :: os) st k = some r)
    {Q : Exit → Act → World → Prop} {K : Act → World → Prop} (hK : ∀ st' a' cx', Rel E w0 X st' a' cx' → cx'.N = cx.N → cx'.A = cx.A → evOps E all os st' k = some r → K a' cx'.w) : wpOp E.P all.toArray Q i K a cx.w := by
  have hi' : all.toArray[i]? = some o := by simpa using hi
  unfold wpOp
  rw [hi']
  dsimp only
  have doIt : ∀ {st1 : St}, Rel E w0 X st1 a cx → ((evOp E st1 o).k fun st' => evOps E all os st' k) = some r → o.wp E.P a cx.w K Q := by
    intro st1 h1 h2
    obtain ⟨st', h3, h4⟩ := k_run h2
    exact (evOp_sound h1 hE hd h3).wp fun a' cx' g1 g2 g3 => hK st' a' cx' g1 g2 g3 h4
  have skip : ∀ {st1 : St}, Rel E w0 X st1 a cx → evOps E all os (putO st1 o.dst (.tup [])) k = some r → K (a.put o.dst undef) cx.w := by
    intro st1 h1 h2
    obtain ⟨cx', g1, g2, g3, g4⟩ := h1.putO hd (skip_new cx)
    rw [← g2]
    exact hK _ _ cx' g1 g3 g4 h2
  unfold evOps at hav
  cases hg : o.guard with
  | none =>
    rw [hg] at hav
    have hw : Region.wanted o (yielded all.toArray a.tmps) = true := by unfold Region.wanted; rw [hg]
    rw [if_pos hw]
    exact .inl (doIt h hav)
  | some jw =>
    obtain ⟨j, want⟩ := jw
    rw [hg] at hav
    dsimp only at hav
    cases hdj : dstOf all j with
    | none => rw [hdj] at hav; cases hav
    | some d =>
      rw [hdj] at hav
      dsimp only at hav
      have hdst : (all.toArray[j]?).bind (·.dst) = some d := by
        unfold dstOf at hdj
        simp only [List.getElem?_toArray]
        cases hq : all[j]? with
        | none => rw [hq] at hdj; cases hdj
        | some oj => rw [hq] at hdj; exact hdj
      split at hav
      · rename_i b hgb
        have hb := lit_rep h hgb
        have hy : yielded all.toArray a.tmps j = some b := by unfold yielded; rw [hdst, Option.bind_some, tmps_get hb]
        have hlit : Rel E w0 X ((d, .p false [.v (.bool b)]) :: st) a cx := h.weaken (hgb ▸ h.slots d)
        cases b with
        | true =>
          rw [cond_true] at hav
          cases want with
          | true =>
            have hw : Region.wanted o (yielded all.toArray a.tmps) = true := by unfold Region.wanted; rw [hg]; simp only [hy]; rfl
            rw [if_pos hw]; exact .inl (doIt hlit hav)
          | false =>
            have hw : ¬ Region.wanted o (yielded all.toArray a.tmps) = true := by unfold Region.wanted; rw [hg]; simp only [hy]; decide
            rw [if_neg hw]; exact skip hlit hav
        | false =>
          rw [cond_false] at hav
          cases want with
          | true =>
            have hw : ¬ Region.wanted o (yielded all.toArray a.tmps) = true := by unfold Region.wanted; rw [hg]; simp only [hy]; decide
            rw [if_neg hw]; exact skip hlit hav
          | false =>
            have hw : Region.wanted o (yielded all.toArray a.tmps) = true := by unfold Region.wanted; rw [hg]; simp only [hy]; rfl
            rw [if_pos hw]; exact .inl (doIt hlit hav)
      · rename_i hgt
        have hv : a.tmps.getD d undef = undef := by
          have := h.slots d
          rw [hgt] at this
          obtain ⟨vs, hv, hp⟩ := this
          cases vs with
          | nil => exact hv
          | cons v vs => simp [PartsRep] at hp
        have hy : yielded all.toArray a.tmps j = none := by
          unfold yielded
          rw [hdst, Option.bind_some]
          rw [Array.getD_eq_getD_getElem?] at hv
          cases hq : a.tmps[d]? with
          | none => rfl
          | some v => rw [hq] at hv; have : v = undef := hv; rw [this]; rfl
        have hw : ¬ Region.wanted o (yielded all.toArray a.tmps) = true := by unfold Region.wanted; rw [hg]; simp only [hy]; cases want <;> decide
        rw [if_neg hw]
        exact skip h hav
      · cases hav
def Idx (all : List Oper) : List Nat → List Oper → Prop
  | [], [] => True
  | i :: is, o :: os => all[i]? = some o ∧ Idx all is os
  | _, _ => False
theorem evOps_sound {all : List Oper} (hE : EnvOk E) (hd : ∀ o ∈ all, ∀ x, o.dst = some x → x < E.nt) {k : St → Option R} {Q : Exit → Act → World → Prop} : ∀ {is : List Nat} {os : List Oper} {st : St} {a : Act} {cx : Cx}, Idx all is os → Rel E w0 X st a cx → evOps E all os st k = some r →
    (∀ st' a' cx', Rel E w0 X st' a' cx' → cx'.N = cx.N → cx'.A = cx.A → k st' = some r → Q .normal a' cx'.w) → wpOps E.P all.toArray Q is a cx.w
  | [], [], st, a, cx, _, h, hav, hQ => hQ st a cx h rfl rfl hav
  | [], _ :: _, _, _, _, hi, _, _, _ => hi.elim
  | _ :: _, [], _, _, _, hi, _, _, _ => hi.elim
  | i :: is, o :: os, st, a, cx, hi, h, hav, hQ => by
    rw [wpOps_cons]
    refine step_sound hE hi.1 (hd o (List.mem_of_getElem? hi.1)) h hav fun st' a' cx' h1 h2 h3 h4 => ?_
    exact evOps_sound hE hd hi.2 h1 h4 fun st2 a2 cx2 g1 g2 g3 g4 => hQ st2 a2 cx2 g1 (g2.trans h2) (g3.trans h3) g4
theorem idx_range (all : List Oper) : ∀ (m : Nat), Idx all ((List.range' m (all.length - m))) (all.drop m) := by
  have : ∀ (n m : Nat), all.length - m = n → Idx all (List.range' m n) (all.drop m) := by
    intro n
    induction n with
    | zero => intro m hm; rw [List.drop_eq_nil_of_le (by omega)]; trivial
    | succ n ih =>
      intro m hm
      have hlt : m < all.length := by omega
      rw [List.drop_eq_getElem_cons hlt]
      exact ⟨List.getElem?_eq_getElem hlt, ih (m + 1) (by omega)⟩
  exact fun m => this _ m rfl
theorem region_sound {ops : Array Oper} {id : Nat} (hE : EnvOk E) (hd : ∀ o ∈ ops.toList, ∀ x, o.dst = some x → x < E.nt) (h : Rel E w0 X st a cx) {k : St → Option R} (hav : evOps E ops.toList ops.toList st k = some r) {Q : Exit → Act → World → Prop}
    (hQ : ∀ st' a' cx', Rel E w0 X st' a' cx' → cx'.N = cx.N → cx'.A = cx.A → k st' = some r → Q .normal a' cx'.w) : (Code.region id ops false).wp E.P Q a cx.w := by
  refine wp_region ?_
  have h1 := idx_range ops.toList 0
  rw [List.drop_zero, Nat.sub_zero] at h1
  have h2 := evOps_sound (Q := Q) hE hd h1 h hav hQ
  rw [Array.toArray_toList] at h2
  rw [List.range_eq_range', show ops.size = ops.toList.length by simp]
  exact h2
end
end Go.Proofs.YtpggnjmmpkdkjaaGreat.Ev
