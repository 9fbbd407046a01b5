/- A function: its contract out of the evaluation of its code. No condition. -/
import Derived.Test.YtpggnjmmpkdkjaaGreatEvS23
namespace Go.Proofs.YtpggnjmmpkdkjaaGreat.Ev
open Go Go.RowKit
set_option linter.unusedVariables false
set_option linter.unusedSimpArgs false
theorem packResC_spec {st : St} {k : K} {n : Nat} {c : Cell} {dt : D} (hp : packResC st (k, n) c = some dt) : (∃ e o xs, k = .sl e ∧ res (get st) c = .sl o e xs ∧ dt = .l xs ∧ (o = n ∨ (o = 1 ∧ n = 0))) ∨ (∃ e, k = .sl e ∧ c = .v (.slice none 0 0) ∧ dt = .l []) ∨ ((∀ e, k ≠ .sl e) ∧ packCell k (res (get st) c) = some dt) := by
  cases k with
  | sl e =>
    simp only [packResC] at hp
    cases hr : res (get st) c with
    | sl o e' xs =>
      rw [hr] at hp
      have hp' : (bif Nat.beq e e' && (Nat.beq o n || (Nat.beq o 1 && Nat.beq n 0)) then some (D.l xs) else none) = some dt := hp
      cases hb : (Nat.beq e e' && (Nat.beq o n || (Nat.beq o 1 && Nat.beq n 0))) with
      | false => rw [hb] at hp'; cases hp'
      | true =>
        rw [hb] at hp'
        rw [Bool.and_eq_true, Bool.or_eq_true, Bool.and_eq_true] at hb
        obtain rfl := Nat.eq_of_beq_eq_true hb.1
        refine .inl ⟨e, o, xs, rfl, rfl, (Option.some.inj hp').symm, ?_⟩
        rcases hb.2 with h | h
        · exact .inl (Nat.eq_of_beq_eq_true h)
        · exact .inr ⟨Nat.eq_of_beq_eq_true h.1, Nat.eq_of_beq_eq_true h.2⟩
    | v x =>
      rw [hr] at hp
      have hc : c = .v x := by
        cases c with
        | ref d j =>
          exfalso
          simp only [res] at hr
          split at hr <;> cases hr
        | _ => exact hr
      subst hc
      cases x with
      | slice ad len cp =>
        cases ad with
        | none => cases len with
          | zero => cases cp with
            | zero =>
              have hp' : (bif Nat.blt e 1000000000 then some (D.l []) else none) = some dt := hp
              cases hb : Nat.blt e 1000000000 with
              | false => rw [hb] at hp'; cases hp'
              | true => rw [hb] at hp'; exact .inr (.inl ⟨e, rfl, rfl, (Option.some.inj hp').symm⟩)
            | succ cp => cases hp
          | succ len => cases hp
        | some ad => cases hp
      | _ => cases hp
    | u => rw [hr] at hp; cases hp
    | ref d j => rw [hr] at hp; cases hp
  | int ik => exact .inr (.inr ⟨fun e h => (nomatch h), by cases hr : res (get st) c <;> (simp only [packResC, hr] at hp ⊢; exact hp)⟩)
  | bool => exact .inr (.inr ⟨fun e h => (nomatch h), by cases hr : res (get st) c <;> (simp only [packResC, hr] at hp ⊢; exact hp)⟩)
  | str => exact .inr (.inr ⟨fun e h => (nomatch h), by cases hr : res (get st) c <;> (simp only [packResC, hr] at hp ⊢; exact hp)⟩)
theorem Owns.rep' {P : Program} {w : World} {F F' : Nat → Prop} {e : TypeId} {xs : List (List D)} {v : Value} (h : Owns P w F e xs v) (hg : ∀ b, v.ownBlock = some b → ¬ F' b) (hF : ∀ b, ¬ F b → ¬ F' b) : RepD P w F' (.sl e) (.l xs) v := by
  obtain ⟨hm, flat, hf, hr⟩ := h
  rcases hf.2 with ⟨rfl, h0⟩ | ⟨g, cap, cur, rfl, _, hh, hnc, hcm, hsz, htake⟩
  · exact .nil e _ none 0 (List.eq_nil_of_length_eq_zero h0) (.inr hm)
  · by_cases h0 : xs.length = 0
    · rw [h0]; exact .nil e _ _ cap (List.eq_nil_of_length_eq_zero h0) (.inr hm)
    · refine .sl e _ g 0 cap xs.length (fun i j => flat.getD (i * (kinds P e).length + j) undef) rfl (Nat.pos_of_ne_zero h0) hm (hg g rfl) (fun i j hi hj => ?_) (fun i j k hi hk => ?_) hnc
      · obtain ⟨u, h1, _⟩ := hr i j _ hi (List.getElem?_eq_getElem hj)
        rw [cell_of_row w g _ cur e (0, 0) hh, Nat.zero_add, List.getD_eq_getElem?_getD, h1]
        rw [← htake, List.getElem?_take] at h1
        split at h1
        · simpa using h1
        · cases h1
      · obtain ⟨u, h1, h2⟩ := hr i j k hi hk
        have hu : flat.getD (i * (kinds P e).length + j) undef = u := by rw [List.getD_eq_getElem?_getD, h1]; rfl
        rw [hu]
        exact h2.weaken hF
theorem argsRep_mutB {P : Program} {w : World} {F : Nat → Prop} : ∀ {ps : List (Nat × List K)} {ds : List D} {vs : List Value} {b : Nat}, ArgsRep P w F ps ds vs → MutB ps vs b → b < w.heap.size
  | [], _, [], _, _, h => h.elim
  | [], _, _ :: _, _, h, _ => h.elim
  | _ :: _, _, [], _, h, _ => h.elim
  | p :: ps, ds, v :: vs, b, h, hb => by
    rcases hb with ⟨h3, ho⟩ | hb
    · have ha := h.1
      obtain ⟨f, ks⟩ := p
      dsimp only at h3
      subst h3
      obtain ⟨e, _, _, flat, hf, _⟩ := ha
      rcases hf.2 with ⟨rfl, _⟩ | ⟨g, cap, cur, rfl, _, hh, _⟩
      · cases ho
      · obtain rfl := Option.some.inj ho
        exact (Array.getElem?_eq_some_iff.1 hh).1
    · exact argsRep_mutB h.2 hb
section
variable {E : Env} {w0 : World} {X : Nat → Prop} {st st' : St} {a : Act} {cx : Cx}
theorem outs_rep (h : Rel E w0 X st a cx) {args : List Value} (hA : ∀ d, cx.A d = args.getD d undef) {t : List D} : ∀ {pt : List (Nat × List K)} {vs : List Value} {b : List D} (t0 i : Nat), packOuts st pt t0 = some b → (∀ j, vs[j]? = args[t0 + j]?) → (∀ j, j < b.length → t.getD (i + j) .j = b.getD j .j) → OutsRep E.P cx.w cx.N t pt vs i
  | [], _, _, _, _, _, _, _ => trivial
  | _ :: _, [], _, _, _, _, _, _ => trivial
  | (f, ks) :: pt, v :: vs, b, t0, i, hp, hv, hb => by
    have hv0 : args.getD t0 undef = v := by
      have := hv 0
      rw [Nat.add_zero] at this
      rw [List.getD_eq_getElem?_getD, ← this]; rfl
    have hvs : ∀ j, vs[j]? = args[t0 + 1 + j]? := fun j => by have := hv (j + 1); rw [show t0 + 1 + j = t0 + (j + 1) by omega, ← this]; simp
    simp only [packOuts] at hp
    simp only [OutsRep]
    by_cases h3 : f = 3
    · subst h3
      rw [if_pos rfl]
      rw [show Nat.beq 3 3 = true from rfl, cond_true] at hp
      split at hp
      · rename_i e xs e' ds hg hr
        cases hb' : Nat.beq e e' with
        | false => rw [hb'] at hp; cases hp
        | true =>
          rw [hb'] at hp
          obtain rfl := Nat.eq_of_beq_eq_true hb'
          obtain rfl := Option.some.inj hp
          have hs := h.slots t0
          rw [hg] at hs
          have hs' : CellsRep cx t0 0 [.sl 2 e xs] [a.tmps.getD t0 undef] := hs
          obtain ⟨g1, g2, g3, g4⟩ := hs'.2.2 0 _ _ rfl rfl
          have e1 : a.tmps.getD t0 undef = v := (g4 (by simp)).trans ((hA t0).trans hv0)
          refine ⟨⟨e, rfl, ?_⟩, outs_rep h hA (t0 + 1) (i + 1) hr hvs fun j hj => by
            have := hb (j + 1) (by simpa using hj)
            rw [show i + 1 + j = i + (j + 1) by omega, this]; simp⟩
          have := hb 0 (by simp)
          rw [Nat.add_zero] at this
          rw [this]
          show Owns E.P cx.w cx.N e xs v
          rw [← e1, ← h.P]
          obtain ⟨m0, flat, q1, q2⟩ := g1
          exact ⟨m0, flat, q1, fun i j k hi hk => by
            obtain ⟨u, r1, r2⟩ := q2 i j k hi hk
            exact ⟨u, r1, r2.weaken fun b hb hN => hb (.inl hN)⟩⟩
      · cases hp
    · rw [if_neg h3]
      have hb3 : Nat.beq f 3 = false := by
        cases hb : Nat.beq f 3 with
        | false => rfl
        | true => exact absurd (Nat.eq_of_beq_eq_true hb) h3
      rw [hb3, cond_false] at hp
      exact outs_rep h hA (t0 + 1) i hp hvs hb
end
open Classical in
noncomputable def ownB (cx : Cx) (ks : List (K × Nat)) (cs : List Cell) (b : Nat) : Option Nat :=
  if h : ∃ i, (∃ e n, ks[i]? = some (K.sl e, n + 1)) ∧ ∃ d j, cs[i]? = some (Cell.ref d j) ∧ cx.O b = some (d, j + 1) then some (Classical.choose h + 1) else none
theorem ownB_spec {cx : Cx} {ks : List (K × Nat)} {cs : List Cell} {b q : Nat} (h : ownB cx ks cs b = some q) : ∃ i, q = i + 1 ∧ (∃ e n, ks[i]? = some (K.sl e, n + 1)) ∧ ∃ d j, cs[i]? = some (Cell.ref d j) ∧ cx.O b = some (d, j + 1) := by
  unfold ownB at h
  split at h
  · rename_i hx
    exact ⟨_, (Option.some.inj h).symm, Classical.choose_spec hx⟩
  · cases h
theorem ownB_at {cx : Cx} {ks : List (K × Nat)} {cs : List Cell} {b i d j n : Nat} {e : TypeId} (hd : distinctB (refs cs) = true) (h1 : ks[i]? = some (K.sl e, n + 1)) (h2 : cs[i]? = some (Cell.ref d j)) (h3 : cx.O b = some (d, j + 1)) : ownB cx ks cs b = some (i + 1) := by
  have hx : ∃ i, (∃ e n, ks[i]? = some (K.sl e, n + 1)) ∧ ∃ d j, cs[i]? = some (Cell.ref d j) ∧ cx.O b = some (d, j + 1) := ⟨i, ⟨e, n, h1⟩, d, j, h2, h3⟩
  unfold ownB
  rw [dif_pos hx]
  obtain ⟨_, d', j', g1, g2⟩ := Classical.choose_spec hx
  rw [h3] at g2
  obtain ⟨rfl, e2⟩ := Prod.mk.inj (Option.some.inj g2)
  obtain rfl : j = j' := by omega
  rw [distinct_at hd g1 h2]
def noSl (rt : List (Bool × List (K × Nat))) : Bool := rt.all fun p => p.2.all fun k => !isSl k.1
theorem fn_ok {E : Env} {f : FuncId} {fn : Func} {c : Code} {sp : Spec} (hmix : E.P.follows .mixedOrders = true) (hE : EnvOk E)
    (hfn : E.P.funcs[f]? = some fn) (hbody : fn.body = some c) (hname : (fn.name == "runtime.NumGoroutine") = false) (hnt : E.nt = fn.ntmps) (hpt : sp.pt.length ≤ fn.ntmps) (hok : okC fn.ntmps c = true)
    (hl : ∀ x ∈ loopsOf c, LoopOk E x) (hG : ∀ ds, evFn E fn sp ds = sp.G ds) (hfl : flagsOk sp.rt = true) (hko : kindsOk E.P sp.rt = true) (hone : oneMut sp.pt = true) (hmut : isMut sp = false ∨ noSl sp.rt = true) : SpecOk E.P E.glob f sp := by
  refine ⟨hfl, fun w N args ds t hN hglob hargs ht => .inl ⟨⟨fn, hfn, by rw [hbody]; rfl, hname⟩, ?_⟩⟩
  have hlen : args.length = sp.pt.length := argsRep_length hargs
  refine calls_of_wp hfn hbody ?_
  let X := MutB sp.pt args
  let cxS := cx0 E.P w N sp.pt args
  have htm : ∀ i, (args.toArray ++ Array.replicate (fn.ntmps - args.toArray.size) undef).getD i undef = args.getD i undef := by
    intro i
    rw [Array.getD_eq_getD_getElem?, Array.getElem?_append, List.getD_eq_getElem?_getD]
    split
    · simp
    · rename_i hi
      rw [Array.getElem?_replicate]
      have : args[i]? = none := by rw [List.getElem?_eq_none_iff]; simpa using hi
      rw [this]
      split <;> rfl
  have h0 : Rel E w X (initSt sp.pt ds 0 0) { tmps := args.toArray ++ Array.replicate (fn.ntmps - args.toArray.size) undef, defers := [] } cxS := by
    refine ⟨rfl, rfl, ⟨rfl, rfl, rfl, Nat.le_refl _, fun _ _ _ => rfl⟩, fun b p hb => ?_, fun b hb => (hN b hb).1, hglob, ?_, fun i => ?_⟩
    · have := cx0_O hb
      exact ⟨argsRep_mutB hargs this, .inr this⟩
    · rw [hnt]
      simp only [Array.size_append, List.size_toArray, Array.size_replicate]
      omega
    · rw [htm i]
      exact init_rep (dsA := ds) hone sp.pt args 0 0 (fun j => by rw [Nat.zero_add]) (fun j => by rw [Nat.zero_add]) (by rw [List.drop_zero]; exact hargs) i
  have hev : evC E c (initSt sp.pt ds 0 0) (kFn E fn sp) = some t := by
    have := hG ds
    unfold evFn at this
    rw [hbody] at this
    exact this.trans ht
  refine evC_sound hmix hE c (by rw [hnt]; exact hok) hl h0 hev fun e st' a' cx' hr hcN hcA hk => ?_
  have hcN' : cx'.N = N := hcN
  have hcA' : ∀ d, cx'.A d = args.getD d undef := fun d => by rw [hcA]; rfl
  have fin : kFn E fn sp .ret st' = some t → a'.defers = [] ∧ ∃ v, (results fn a'.tmps).run E.P cx'.w = .ok v cx'.w ∧ ∃ v', Ending.returned v = .returned v' ∧ ResOk E.P w cx'.w N sp args t v' := by
    intro hk
    refine ⟨hr.defers, ?_⟩
    simp only [kFn] at hk
    cases hdis : distinctB (allRefs E st' sp.rt fn.results.toList) with
    | false => rw [hdis] at hk; cases hk
    | true =>
      rw [hdis, cond_true] at hk
      rw [allRefs_eq] at hdis
      split at hk
      · rename_i d1 d2 hp1 hp2
        obtain rfl := Option.some.inj hk
        let ks := sp.rt.flatMap (·.2)
        let cs := flatC E st' sp.rt fn.results.toList
        let own := ownB cx' ks cs
        let pl' : Nat → Option (TypeId × Value) := fun j => match cs[j]? with
          | some (.ref d i) => cx'.pl d i
          | _ => match ks[j]? with
            | some (.sl e, _) => some (e, .slice none 0 0)
            | _ => none
        have hflag : ∀ {j : Nat} {e : TypeId} {n : Nat}, ks[j]? = some (.sl e, n) → n ≤ 1 ∧ 0 < (kinds E.P e).length ∧ isMut sp = false := by
          intro j e n hj
          obtain ⟨p, hp, hk⟩ := List.mem_flatMap.1 (List.mem_of_getElem? hj)
          refine ⟨?_, ?_, ?_⟩
          · exact Nat.le_of_ble_eq_true (List.all_eq_true.1 (List.all_eq_true.1 hfl p hp) _ hk)
          · have := List.all_eq_true.1 (List.all_eq_true.1 hko p hp) _ hk
            dsimp only at this
            exact Nat.le_of_ble_eq_true this
          · rcases hmut with h | h
            · exact h
            · have := List.all_eq_true.1 (List.all_eq_true.1 h p hp) _ hk
              cases this
        have hownO : ∀ {b q}, own b = some q → (∃ p, cx'.O b = some p) ∧ isMut sp = false := by
          intro b q hq
          obtain ⟨i, _, ⟨e, n, hi⟩, d, j, _, hO⟩ := ownB_spec hq
          exact ⟨⟨_, hO⟩, (hflag hi).2.2⟩
        have hF : ∀ b, ¬ Forb cx' b → ¬ Forb (cxr E.P cx'.w own N pl') b := by
          rintro b hb (hh | ⟨p, hp⟩)
          · exact hb (.inl (by rw [hcN']; exact hh))
          · simp only [cxr, Option.map_eq_some_iff] at hp
            obtain ⟨q, hq, _⟩ := hp
            exact hb (.inr (hownO hq).1)
        have hbnd : ∀ b j, own b = some j → w.heap.size ≤ b ∧ b < cx'.w.heap.size := by
          intro b j hb
          obtain ⟨⟨p, hp⟩, hm⟩ := hownO hb
          obtain ⟨g1, g2⟩ := hr.own b p hp
          exact ⟨g2.resolve_right (mutB_false (P := E.P) hm), g1⟩
        obtain ⟨l1, _, vs, hreads, hparts⟩ := res_parts hr (cx' := cxr E.P cx'.w own N pl') (ds := d1 ++ d2) 0 hp1 (fun j hj => by
            rw [Nat.zero_add, List.getD_eq_getElem?_getD, List.getElem?_append_left hj, ← List.getD_eq_getElem?_getD]) (fun j k c u hk hc hno hpk hcr => by
          rw [Nat.zero_add] at hpk ⊢
          obtain ⟨k, n⟩ := k
          have hPc : cx'.P = E.P := hr.P
          rcases packResC_spec hpk with ⟨e, o, xs, rfl, hres, hdt, hon⟩ | ⟨e, rfl, rfl, hdt⟩ | ⟨hns, hpc⟩
          · rw [hdt]
            obtain ⟨hn1, hkd, hm⟩ := hflag hk
            cases c with
            | u => cases hres
            | v x => cases hres
            | sl o' e' xs' =>
              have hres' : Cell.sl o' e' xs' = .sl o e xs := hres
              injection hres' with e1 e2 e3
              subst e1 e2 e3
              cases o' with
              | succ o' => cases hno
              | zero =>
                have hn0 : n = 0 := by rcases hon with h | ⟨h, _⟩ <;> omega
                subst hn0
                have hcr' : RepD cx'.P cx'.w (Forb cx') (.sl e') (.l xs') u := hcr
                show RepD E.P cx'.w _ (.sl e') (.l xs') u
                rw [← hPc]
                exact hcr'.weaken hF
            | ref d' j' =>
              simp only [res] at hres
              cases hca : cellAt (get st' d') j' with
              | sl o1 e1 xs1 =>
                cases o1 with
                | zero => rw [hca] at hres; cases hres
                | succ o1 =>
                  rw [hca] at hres
                  have hres' : Cell.sl (o1 + 1) e1 xs1 = .sl o e xs := hres
                  injection hres' with q1 q2 q3
                  subst q1 q2 q3
                  obtain ⟨v, p1, p2, p3, _⟩ := hr.place hca
                  obtain ⟨e', hpl⟩ := hcr
                  obtain ⟨rfl, rfl⟩ := Prod.mk.inj (Option.some.inj (hpl.symm.trans p1))
                  rw [hPc] at p2
                  cases n with
                  | zero =>
                    show RepD E.P cx'.w _ (.sl _) (.l _) _
                    refine p2.rep' (fun b hb hf => ?_) hF
                    have hO := p3 b hb
                    rcases hf with hf | ⟨p, hp⟩
                    · obtain ⟨_, g2⟩ := hr.own b _ hO
                      have := hN b hf
                      rcases g2 with g2 | g2
                      · omega
                      · exact this.2 g2
                    · simp only [cxr, Option.map_eq_some_iff] at hp
                      obtain ⟨q, hq, _⟩ := hp
                      obtain ⟨i, _, ⟨e3, n3, hi⟩, d3, j3, hc3, hO3⟩ := ownB_spec hq
                      rw [hO] at hO3
                      obtain ⟨rfl, e4⟩ := Prod.mk.inj (Option.some.inj hO3)
                      obtain rfl : j' = j3 := by omega
                      obtain rfl := distinct_at hdis hc3 hc
                      have hi' : (sp.rt.flatMap (·.2))[i]? = some (K.sl e3, n3 + 1) := hi
                      rw [hk] at hi'
                      cases hi'
                  | succ n =>
                    obtain rfl : n = 0 := by omega
                    refine ⟨?_, ?_, fun b hb => ?_, fun hh => absurd rfl hh⟩
                    · show Owns E.P cx'.w _ _ _ _
                      obtain ⟨m0, flat, q1, q2⟩ := p2
                      exact ⟨m0, flat, q1, fun i j k hi hk => by
                        obtain ⟨u, r1, r2⟩ := q2 i j k hi hk
                        exact ⟨u, r1, r2.weaken hF⟩⟩
                    · have : pl' j = cx'.pl d' j' := by
                        show (match cs[j]? with | some (.ref d i) => cx'.pl d i | _ => _) = _
                        have hc' : cs[j]? = some (.ref d' j') := hc
                        rw [hc']
                      show (if (0:Nat) = 0 then pl' j else none) = _
                      rw [if_pos rfl, this]
                      exact p1
                    · have := ownB_at (cx := cx') (b := b) hdis hk hc (p3 b hb)
                      simp only [cxr]
                      rw [show own b = some (j + 1) from this]; rfl
              | _ => rw [hca] at hres; cases hres
          · rw [hdt]
            obtain ⟨hn1, hkd, hm⟩ := hflag hk
            obtain rfl : u = .slice none 0 0 := hcr
            cases n with
            | zero => exact .nil _ _ none 0 rfl (.inr hkd)
            | succ n =>
              obtain rfl : n = 0 := by omega
              refine ⟨⟨hkd, [], ⟨by simp [D.rows], .inl ⟨rfl, rfl⟩⟩, fun i j k hi => ?_⟩, ?_, fun b hb => (nomatch hb), fun hh => absurd rfl hh⟩
              · exact absurd hi (Nat.not_lt_zero _)
              · have : pl' j = some (e, .slice none 0 0) := by
                  show (match cs[j]? with | some (.ref d i) => cx'.pl d i | _ => match ks[j]? with | some (.sl e, _) => some (e, Value.slice none 0 0) | _ => none) = _
                  have hc' : cs[j]? = some (.v (.slice none 0 0)) := hc
                  have hk' : ks[j]? = some (.sl e, 0 + 1) := hk
                  rw [hc', hk']
                simpa [cxr] using this
          · have hcn : res (get st') c = c := by
              cases c with
              | ref d' j' =>
                exfalso
                simp only [res] at hpc
                split at hpc
                · cases k <;> first | cases hpc | exact hns _ rfl
                · cases k <;> first | cases hpc
              | _ => rfl
            rw [hcn] at hpc
            have hrd := packCell_rep hpc hno hcr
            have hks : isSl k = false := by
              cases k with
              | sl e => exact absurd rfl (hns e)
              | _ => rfl
            have hcc := cellOf_rep (cx := cxr E.P cx'.w own N pl') (hrd.flat (P := cx'.P) (F' := Forb (cxr E.P cx'.w own N pl')) (w' := cx'.w) hks |> (fun x => by rw [hPc] at x; exact x)) 0 j
            cases k with
            | sl e => exact absurd rfl (hns e)
            | _ => exact hcc)
        obtain ⟨v, hrun, hv⟩ := run_results hreads
        refine ⟨v, hrun, v, rfl, ⟨hr.kept, ⟨own, pl', hbnd, ?_⟩, ?_⟩⟩
        · unfold mkR
          split
          · rename_i ag cs' hpe
            rw [hpe] at hparts
            rcases hv with rfl | ⟨hne, _⟩
            · cases ag with
              | true => exact hparts.1
              | false => exact hparts.1
            · cases vs with
              | nil => cases ag <;> exact hparts.elim
              | cons v' vs => cases vs with
                | nil => exact absurd rfl hne
                | cons v2 vs => cases ag <;> exact hparts.2.elim
          · rename_i hne
            rcases hv with rfl | ⟨_, rfl⟩
            · exfalso
              cases hpr : partsR sp.rt (d1 ++ d2) 0 with
              | nil => rw [hpr] at hparts; exact hparts.elim
              | cons p ps =>
                cases ps with
                | nil => exact hne _ _ hpr
                | cons p2 ps =>
                  rw [hpr] at hparts
                  obtain ⟨ag, cs1⟩ := p
                  obtain ⟨ag2, cs2⟩ := p2
                  cases ag <;> exact (by
                    have := hparts.2
                    cases ag2 <;> exact this.elim)
            · exact ⟨vs, rfl, hparts⟩
        · have := outs_rep hr hcA' (t := d1 ++ d2) (pt := sp.pt) (vs := args) 0 (countR sp.rt) hp2 (fun j => by rw [Nat.zero_add]) (fun j hj => by
            rw [List.getD_eq_getElem?_getD, List.getElem?_append_right (by omega), ← l1, List.getD_eq_getElem?_getD]
            congr 2; omega)
          rw [hcN'] at this
          exact this
      · cases hk
  cases e with
  | normal => exact fin hk
  | ret => exact fin hk
  | exit id => cases hk
theorem env_ok {P : Program} {gl : Nat → Option (List Value)} {l : List (Nat × Spec)} (h : ∀ x ∈ l, SpecOk P gl x.1 x.2) : ∀ f sp, look l f = some sp → SpecOk P gl f sp := by
  induction l with
  | nil => intro f sp hs; cases hs
  | cons x l ih =>
    intro f sp hs
    obtain ⟨m, s⟩ := x
    have hs' : (bif Nat.beq m f then some s else look l f) = some sp := hs
    cases hb : Nat.beq m f with
    | true =>
      rw [hb] at hs'
      obtain rfl := Option.some.inj hs'
      obtain rfl := Nat.eq_of_beq_eq_true hb
      exact h _ (List.mem_cons_self ..)
    | false =>
      rw [hb] at hs'
      exact ih (fun x hx => h x (List.mem_cons_of_mem _ hx)) f sp hs'
end Go.Proofs.YtpggnjmmpkdkjaaGreat.Ev
