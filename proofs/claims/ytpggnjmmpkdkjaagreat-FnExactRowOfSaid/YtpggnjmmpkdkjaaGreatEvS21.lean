/- Code: what the evaluator comes to is what the model runs. No condition. -/
import Derived.Test.YtpggnjmmpkdkjaaGreatEvS20
namespace Go.Proofs.YtpggnjmmpkdkjaaGreat.Ev
open Go Go.RowKit
set_option linter.unusedVariables false
set_option linter.unusedSimpArgs false
section
variable {E : Env} {w0 : World} {X : Nat → Prop} {st st' : St} {a : Act} {cx : Cx} {o : Oper} {av : AV}
theorem endCode_spec {lp : Loop} {c : Nat} {t : List D} (h : endCode lp c st = some t) : c ∈ lp.codes ∧ ∃ ds, packKeep st lp.keep = some ds ∧ t = .i c :: ds := by
  unfold endCode at h
  cases hb : lp.codes.any (Nat.beq c) with
  | false => rw [hb] at h; cases h
  | true =>
    rw [hb, cond_true] at h
    obtain ⟨ds, h1, h2⟩ := Option.map_eq_some_iff.1 h
    obtain ⟨x, hx, hxc⟩ := List.any_eq_true.1 hb
    rw [Nat.eq_of_beq_eq_true hxc]
    refine ⟨hx, ds, h1, ?_⟩
    rw [← h2, Nat.eq_of_beq_eq_true hxc]
theorem dispatch_spec {R : Type} {f : Nat → Option R} {r : R} : ∀ {cs : List Nat} {c : Nat}, c ∈ cs → dispatch cs (c : Int) f = some r → f c = some r
  | [], _, h, _ => by cases h
  | [c0], c, h, hd => by
    rw [List.mem_singleton.1 h] at hd ⊢; exact hd
  | c0 :: c1 :: cs, c, h, hd => by
    have hd' : (bif decide ((c : Int) = (c0 : Int)) then f c0 else dispatch (c1 :: cs) (c : Int) f) = some r := hd
    by_cases e : c = c0
    · subst e; simpa using hd'
    · have hne : decide ((c : Int) = (c0 : Int)) = false := decide_eq_false fun h => e (by exact_mod_cast h)
      rw [hne, cond_false] at hd'
      refine dispatch_spec (c := c) ?_ hd'
      rcases List.mem_cons.1 h with h | h
      · exact absurd h e
      · exact h
theorem kLoop_head (h : Rel E w0 X st' a cx) {lp : Loop} (hk : keepOk E.P lp.keep = true) {c : Nat} {t : List D} (he : endCode lp c st' = some t) : c ∈ lp.codes ∧ (t.getD 0 .j).int = (c : Int) ∧ Rel E w0 X (mkKeep lp.keep t 1) a (headCx cx st' lp.keep) := by
  obtain ⟨h1, ds, h2, rfl⟩ := endCode_spec he
  exact ⟨h1, rfl, h.head hk h2 [.i c]⟩
def SoundC (E : Env) (w0 : World) (X : Nat → Prop) (c : Code) : Prop := ∀ {R : Type} {r : R} {st : St} {a : Act} {cx : Cx} {k : Ex → St → Option R} {Q : Exit → Act → World → Prop}, okC E.nt c = true → (∀ x ∈ loopsOf c, LoopOk E x) → Rel E w0 X st a cx → evC E c st k = some r →
    (∀ e st' a' cx', Rel E w0 X st' a' cx' → cx'.N = cx.N → cx'.A = cx.A → k e st' = some r → Q (exitOf e) a' cx'.w) → c.wp E.P Q a cx.w
theorem evC_both (hmix : E.P.follows .mixedOrders = true) (hE : EnvOk E) : ∀ (c : Code), SoundC E w0 X c ∧ ∀ B, c = .loop B → SoundC E w0 X B := by
  intro c
  induction c with
  | skip => exact ⟨by intro R r st a cx k Q _ _ h hav hQ; exact wp_skip (hQ .normal st a cx h rfl rfl hav), fun B e => by cases e⟩
  | region id ops draw =>
    refine ⟨?_, fun B e => by cases e⟩
    intro R r st a cx k Q hok _ h hav hQ
    have hd : ∀ o ∈ ops.toList, ∀ x, o.dst = some x → x < E.nt := by
      intro o ho x hx
      have := List.all_eq_true.1 hok o ho
      rw [hx] at this
      exact Nat.le_of_ble_eq_true this
    cases draw with
    | false => exact region_sound hE hd h hav fun st' a' cx' g1 g2 g3 g4 => hQ .normal st' a' cx' g1 g2 g3 g4
    | true => exact drawn_sound hmix hE hd h hav fun st' a' cx' g1 g2 g3 g4 => hQ .normal st' a' cx' g1 g2 g3 g4
  | seq x y ihx ihy =>
    refine ⟨?_, fun B e => by cases e⟩
    intro R r st a cx k Q hok hl h hav hQ
    simp only [okC, Bool.and_eq_true] at hok
    refine wp_seq (ihx.1 hok.1 (fun z hz => hl z (List.mem_append_left _ hz)) h hav fun e st' a' cx' g1 g2 g3 g4 => ?_)
    cases e with
    | normal => exact ihy.1 hok.2 (fun z hz => hl z (List.mem_append_right _ hz)) g1 g4 fun e st2 a2 cx2 q1 q2 q3 q4 => hQ e st2 a2 cx2 q1 (q2.trans g2) (q3.trans g3) q4
    | exit id => exact hQ (.exit id) st' a' cx' g1 g2 g3 g4
    | ret => exact hQ .ret st' a' cx' g1 g2 g3 g4
  | cond c x y ihx ihy =>
    refine ⟨?_, fun B e => by cases e⟩
    intro R r st a cx k Q hok hl h hav hQ
    simp only [okC, Bool.and_eq_true] at hok
    unfold evC at hav
    split at hav
    · rename_i t hc
      have hcv : a.eval c = .bool t := h.plain hc
      have hlit : Rel E w0 X (lit st c t) a cx := by
        cases c with
        | tmp d => exact h.weaken (show CellsRep cx d 0 [.v (.bool t)] [a.tmps.getD d undef] from by
            have e : a.tmps.getD d undef = .bool t := hcv
            rw [e]
            exact one_rep (v := .bool t) rfl d)
        | _ => exact h
      refine wp_cond hcv ?_
      cases t with
      | true => exact ihx.1 hok.1 (fun z hz => hl z (List.mem_append_left _ hz)) hlit hav hQ
      | false => exact ihy.1 hok.2 (fun z hz => hl z (List.mem_append_right _ hz)) hlit hav hQ
    · cases hav
  | block id c ih =>
    refine ⟨?_, fun B e => by cases e⟩
    intro R r st a cx k Q hok hl h hav hQ
    refine wp_block ?_
    unfold evC at hav
    cases hlp : isLoop c with
    | false =>
      rw [hlp, cond_false] at hav
      have hl' : ∀ x ∈ loopsOf c, LoopOk E x := by
        intro x hx
        apply hl x
        cases c <;> first | (simp [isLoop] at hlp; done) | exact hx
      refine ih.1 hok hl' h hav fun e st' a' cx' g1 g2 g3 g4 => ?_
      cases e with
      | normal => exact hQ .normal st' a' cx' g1 g2 g3 g4
      | ret => exact hQ .ret st' a' cx' g1 g2 g3 g4
      | exit i =>
        show Exit.inBlock id Q (.exit i) a' cx'.w
        unfold Exit.inBlock
        dsimp only at g4 ⊢
        by_cases e : i = id
        · subst e
          rw [if_pos rfl]
          refine hQ .normal st' a' cx' g1 g2 g3 ?_
          simpa using g4
        · rw [if_neg e]
          refine hQ (.exit i) st' a' cx' g1 g2 g3 ?_
          have : Nat.beq i id = false := by
            cases hb : Nat.beq i id with
            | false => rfl
            | true => exact absurd (Nat.eq_of_beq_eq_true hb) e
          rw [this] at g4; exact g4
    | true =>
      rw [hlp, cond_true] at hav
      cases c <;> simp [isLoop] at hlp
      rename_i B
      split at hav
      · rename_i lp hlpe
        cases hk : keepOk E.P lp.keep with
        | false => rw [hk] at hav; cases hav
        | true =>
          rw [hk] at hav
          simp only [Bool.not_true, cond_false] at hav
          split at hav
          · rename_i ds hds
            obtain ⟨hstep, hzero⟩ := hl (id, B) (List.mem_cons_self ..) lp hlpe
            cases hG : lp.G E.fuel ds with
            | none => rw [hG] at hav; cases hav
            | some t =>
              rw [hG, Option.bind_some] at hav
              have hlB : ∀ x ∈ loopsOf B, LoopOk E x := fun x hx => hl x (List.mem_cons_of_mem _ hx)
              have hend : ∀ {c : Nat} {st' : St} {a' : Act} {cx' : Cx}, Rel E w0 X st' a' cx' → cx'.N = cx.N → cx'.A = cx.A → endCode lp c st' = some t → Q (exitOf (exOf c)) a' cx'.w := by
                intro c st' a' cx' g1 g2 g3 g4
                obtain ⟨q1, q2, q3⟩ := kLoop_head g1 hk g4
                have hd := hav
                rw [q2] at hd
                have := hQ (exOf c) _ a' (headCx cx' st' lp.keep) q3 g2 g3 (dispatch_spec q1 hd)
                exact this
              have rounds : ∀ (n : Nat) (ds : List D) (st : St) (a : Act) (cx1 : Cx), lp.G n ds = some t → Rel E w0 X st a cx1 → packKeep st lp.keep = some ds → cx1.N = cx.N → cx1.A = cx.A → Code.rounds E.P B (Exit.inBlock id Q) n a cx1.w := by
                intro n
                induction n with
                | zero => intro ds st a cx1 hG _ _ _ _; rw [hzero ds] at hG; cases hG
                | succ n ihn =>
                  intro ds st a cx1 hG hr hpk hN hA
                  have hh := hr.head hk hpk []
                  rw [← hstep n ds] at hG
                  show B.wp E.P (Exit.then (Code.rounds E.P B (Exit.inBlock id Q) n) (Exit.inBlock id Q)) a cx1.w
                  have ihB : SoundC E w0 X B := ih.2 B rfl
                  refine ihB (cx := headCx cx1 st lp.keep) hok hlB hh hG fun e st' a' cx' g1 g2 g3 g4 => ?_
                  cases e with
                  | normal =>
                    simp only [kLoop] at g4
                    split at g4
                    · rename_i ds' hds'
                      exact ihn ds' st' a' cx' g4 g1 hds' (g2.trans hN) (g3.trans hA)
                    · cases g4
                  | ret => exact hend g1 (g2.trans hN) (g3.trans hA) g4
                  | exit i =>
                    simp only [kLoop] at g4
                    show Exit.inBlock id Q (.exit i) a' cx'.w
                    unfold Exit.inBlock
                    dsimp only
                    by_cases e : i = id
                    · subst e
                      rw [if_pos rfl]
                      have hb : Nat.beq i i = true := by simp
                      rw [hb] at g4
                      exact hend (c := 0) g1 (g2.trans hN) (g3.trans hA) g4
                    · rw [if_neg e]
                      have hb : Nat.beq i id = false := by
                        cases hb : Nat.beq i id with
                        | false => rfl
                        | true => exact absurd (Nat.eq_of_beq_eq_true hb) e
                      rw [hb] at g4
                      exact hend (c := i + 2) g1 (g2.trans hN) (g3.trans hA) g4
              exact wp_loop_rounds E.fuel (rounds E.fuel ds st a cx hG h hds rfl rfl)
          · cases hav
      · cases hav
  | exit id => exact ⟨by intro R r st a cx k Q _ _ h hav hQ; exact wp_exit (hQ (.exit id) st a cx h rfl rfl hav), fun B e => by cases e⟩
  | ret => exact ⟨by intro R r st a cx k Q _ _ h hav hQ; exact wp_ret (hQ .ret st a cx h rfl rfl hav), fun B e => by cases e⟩
  | loop c ih => exact ⟨(by intro R r st a cx k Q _ _ h hav hQ; cases hav), fun B e => by cases e; exact ih.1⟩
  | rangeFunc f params assign body ih1 ih2 => exact ⟨(by intro R r st a cx k Q _ _ h hav hQ; cases hav), fun B e => by cases e⟩
  | scope c ih => exact ⟨(by intro R r st a cx k Q _ _ h hav hQ; cases hav), fun B e => by cases e⟩
  | label l => exact ⟨(by intro R r st a cx k Q _ _ h hav hQ; cases hav), fun B e => by cases e⟩
  | goto l => exact ⟨(by intro R r st a cx k Q _ _ h hav hQ; cases hav), fun B e => by cases e⟩
  | refuse w => exact ⟨(by intro R r st a cx k Q _ _ h hav hQ; cases hav), fun B e => by cases e⟩
theorem evC_sound (hmix : E.P.follows .mixedOrders = true) (hE : EnvOk E) (c : Code) : SoundC E w0 X c := (evC_both hmix hE c).1
end
end Go.Proofs.YtpggnjmmpkdkjaaGreat.Ev
