/- Regions that draw their order: the drawn operations. No condition. -/
import Derived.Test.YtpggnjmmpkdkjaaGreatEvS18
namespace Go.Proofs.YtpggnjmmpkdkjaaGreat.Ev
open Go Go.RowKit
set_option linter.unusedVariables false
set_option linter.unusedSimpArgs false
section
variable {E : Env} {w0 : World} {X : Nat → Prop} {st st' : St} {a : Act} {cx : Cx} {o : Oper} {av : AV} {R : Type} {r : R}
theorem DrawAt.less {all : List Oper} {c : Nat} {st0 sth : St} {RS : List (Nat × Nat × AV)} (D : DrawAt E all c st0 sth RS) {p p' : Nat → Bool} (hp : ∀ j, p j = true → p' j = true) (hdup : ∀ e ∈ RS, ∀ e' ∈ RS, DupP all c e e' → p e.1 = true → p' e'.1 = true → p e'.1 = true) : Less (get (vis p RS sth)) (get (vis p' RS st0)) := by
  intro t
  rcases vis_top p t (st := sth) D.sorted with ⟨e, he, h1, rfl, h3, h4⟩ | ⟨h1, e1⟩
  · right
    rw [h4, D.vis_eq (p := p') he (hp _ h1) fun e' he' q1 q2 => ?_]
    rcases D.dup e he e' he' q2.symm with h | h | h
    · omega
    · exact h3 e' he' (hdup e he e' he' h h1 q1) q2
    · exact Nat.le_of_lt h.lt
  · by_cases h2 : ∃ e ∈ RS, e.2.1 = t
    · obtain ⟨e, he, rfl⟩ := h2
      left
      rw [e1]
      have hm := D.mem he
      have hlt := D.lt e he
      have hl : e.1 < all.length := Nat.lt_of_lt_of_le hlt D.hc
      rw [List.getElem?_eq_getElem hl, Option.bind_some] at hm
      have hmem : all[e.1] ∈ all.take c := List.mem_of_getElem? (i := e.1) (by rw [List.getElem?_take, if_pos hlt, List.getElem?_eq_getElem hl])
      cases hdst : all[e.1].dst with
      | some d =>
        have hdv : vdst all[e.1] = some d := by unfold vdst; rw [hdst]
        obtain rfl := Option.some.inj (hdv.symm.trans hm)
        rcases D.hih e.2.1 with h3 | h3
        · exact h3
        · rw [h3]; exact D.hid _ hmem _ hdst
      | none => exact D.hiv _ hmem _ hdst hm
    · rw [e1, get_vis_not p' t fun e he _ hd => h2 ⟨e, he, hd⟩]
      exact D.hih t
theorem Rel.forb_lt (h : Rel E w0 X st a cx) : ∀ b, Forb cx b → b < cx.w.heap.size := by
  rintro b (hb | ⟨p, hb⟩)
  · exact Nat.lt_of_lt_of_le (h.non b hb) h.kept.size
  · exact (h.own b p hb).1
theorem fresh_slot {O : Nat → Option (Nat × Nat)} : ∀ n : Nat, ∃ D, ∀ b, b < n → ∀ p, O b = some p → p.1 < D
  | 0 => ⟨0, fun b hb => absurd hb (Nat.not_lt_zero _)⟩
  | n + 1 => by
    obtain ⟨D, hD⟩ := fresh_slot (O := O) n
    cases ho : O n with
    | none => exact ⟨D, fun b hb p hp => by
        by_cases e : b = n
        · subst e; rw [ho] at hp; cases hp
        · exact hD b (by omega) p hp⟩
    | some q => exact ⟨D + q.1 + 1, fun b hb p hp => by
        by_cases e : b = n
        · subst e; rw [ho] at hp; obtain rfl := Option.some.inj hp; omega
        · have := hD b (by omega) p hp; omega⟩
theorem Owns.lent {P : Program} {w : World} {F F' : Nat → Prop} {e : TypeId} {xs : List (List D)} {v : Value} (h : Owns P w F e xs v) (hF : ∀ b, ¬ F b → ¬ F' b) (ho : ∀ b, v.ownBlock = some b → ¬ F' b) : RepD P w F' (.sl e) (.l xs) v := by
  obtain ⟨hm, flat, hf, hr⟩ := h
  rcases hf.2 with ⟨rfl, h0⟩ | ⟨g, cap, cur, rfl, _, hh, hnc, hcm, hsz, htake⟩
  · exact .nil e _ none 0 (List.eq_nil_of_length_eq_zero h0) (.inr hm)
  · by_cases h0 : xs.length = 0
    · rw [h0]; exact .nil e _ _ cap (List.eq_nil_of_length_eq_zero h0) (.inr hm)
    · refine .sl e _ g 0 cap xs.length (fun i j => flat.getD (i * (kinds P e).length + j) undef) rfl (Nat.pos_of_ne_zero h0) hm (ho g rfl) (fun i j hi hj => ?_) (fun i j k hi hk => ?_) hnc
      · obtain ⟨u, h1, _⟩ := hr i j _ hi (List.getElem?_eq_getElem hj)
        rw [cell_of_row w g _ cur e (0, 0) hh, Nat.zero_add, List.getD_eq_getElem?_getD, h1]
        rw [← htake, List.getElem?_take] at h1
        split at h1
        · simpa using h1
        · cases h1
      · obtain ⟨u, h1, h2⟩ := hr i j k hi hk
        have hu : flat.getD (i * (kinds P e).length + j) undef = u := by rw [List.getD_eq_getElem?_getD, h1]; rfl
        rw [hu]
        exact h2.weaken hF
theorem lentC_rep {w' : World} {own : Nat → Option Nat} {d : Nat} {pl' : Nat → Option (TypeId × Value)} {bx' : Option Nat} (hw : cx.w.heap.size ≤ w'.heap.size) (hlt : ∀ b, Forb cx b → b < cx.w.heap.size) (hown : ∀ b j, own b = some j → cx.w.heap.size ≤ b ∧ b < w'.heap.size) (hd : ∀ b p, cx.O b = some p → p.1 ≠ d) {j j' d' : Nat} {c : Cell} {u : Value} (h : CellRep (cxd cx w' own d pl' bx') d j (forgetC d c) u) : CellRep { cx with w := w' } d' j' (lentC c) u := by
  have hF : ∀ b, ¬ Forb (cxd cx w' own d pl' bx') b → ¬ Forb { cx with w := w' } b := by
    rintro b hb (h1 | ⟨p, h1⟩)
    · exact hb (.inl h1)
    · refine hb (.inr ?_)
      cases ho : own b with
      | none => exact ⟨p, by simp only [cxd, ho]; exact h1⟩
      | some q => exact ⟨(d, q), by simp only [cxd, ho]⟩
  cases c with
  | u => trivial
  | v x => exact h
  | ref d' j' => trivial
  | sl o e xs => cases o with
    | zero =>
      have h' : RepD cx.P w' (Forb (cxd cx w' own d pl' bx')) (.sl e) (.l xs) u := h
      exact h'.weaken hF
    | succ n =>
      obtain ⟨h1, _, h3, _⟩ := h
      have h1' : Owns cx.P w' (Forb (cxd cx w' own d pl' bx')) e xs u := h1
      refine h1'.lent hF fun b hb hf => ?_
      have h4 := h3 b hb
      have hlt' : b < cx.w.heap.size := hlt b hf
      cases ho : own b with
      | none =>
        simp only [cxd, ho] at h4
        exact hd b _ h4 rfl
      | some q => have := (hown b q ho).1; omega
theorem New.lent {w' : World} {v : Value} (hlt : ∀ b, Forb cx b → b < cx.w.heap.size) (h : New cx w' av v) : New cx w' (lentA av) v := by
  cases av with
  | p ag cs =>
    show New cx w' (bif cs.any isOwn then .p ag (cs.map lentC) else .p ag cs) v
    cases hb : cs.any isOwn with
    | false => exact h
    | true =>
      rw [cond_true]
      obtain ⟨own, hown, hav⟩ := h.owns (show owner (.p ag cs) = true from hb)
      obtain ⟨d, hd⟩ := fresh_slot (O := cx.O) cx.w.heap.size
      have hd' : ∀ b p, cx.O b = some p → p.1 ≠ d := fun b p hp => by
        have := hd b (hlt b (.inr ⟨p, hp⟩)) p hp
        omega
      obtain ⟨pl', bx', hrep⟩ := hav d
      have cells : ∀ {vs : List Value}, CellsRep (cxd cx w' own d pl' bx') d 0 (cs.map (forgetC d)) vs → ∀ d', CellsRep { cx with w := w' } d' 0 (cs.map lentC) vs := by
        intro vs hc d'
        refine ⟨by simpa using hc.1, hc.2.1, fun j c u h1 h2 => ?_⟩
        rw [List.getElem?_map] at h1
        obtain ⟨c0, hc0, rfl⟩ := Option.map_eq_some_iff.1 h1
        exact lentC_rep (j := 0 + j) h.below.size hlt hown hd' (hc.2.2 j (forgetC d c0) u (by rw [List.getElem?_map, hc0]; rfl) h2)
      refine ⟨h.below, fun _ d' => ?_, fun ho => ?_⟩
      · cases ag with
        | false => exact cells hrep d'
        | true =>
          obtain ⟨vs, hv, hc⟩ := hrep
          exact ⟨vs, hv, cells hc d'⟩
      · exfalso
        have : (cs.map lentC).any isOwn = false := by
          rw [List.any_eq_false]
          intro c hc
          obtain ⟨c0, _, rfl⟩ := List.mem_map.1 hc
          cases c0 <;> simp [lentC, isOwn]
        rw [show owner (.p ag (cs.map lentC)) = (cs.map lentC).any isOwn from rfl, this] at ho
        cases ho
  | _ => exact h
theorem any_draw {all : List Oper} {c : Nat} {st0 sth : St} {RS : List (Nat × Nat × AV)} (D : DrawAt E all c st0 sth RS) (hE : EnvOk E) (hd : ∀ o ∈ all, ∀ x, o.dst = some x → x < E.nt) {k : St → Option R} (hav : evOps E all (all.drop c) (allRs RS st0) k = some r) {Q : Exit → Act → World → Prop} :
    ∀ (fuel : Nat) (listed : Array Bool) (a : Act) (cx : Cx), listed.size = all.length → listed.toList.count false = fuel → (∀ i, i < all.length → listed.getD i true = true → ∀ q ∈ (befs all []).getD i [], listed.getD q true = true) → (∀ i, c ≤ i → i < all.length → listed.getD i true = false) →
      Rel E w0 X (vis (fun j => listed.getD j true) RS st0) a cx → (∀ st' a' cx', Rel E w0 X st' a' cx' → cx'.N = cx.N → cx'.A = cx.A → k st' = some r → Q .normal a' cx'.w) → wpAny E.P .any all.toArray Q fuel listed a cx.w := by
  intro fuel
  induction fuel with
  | zero =>
    intro listed a cx hs hcnt hcl htl h hQ
    have hall : ∀ i, i < all.length → listed.getD i true = true := by
      intro i hi
      cases hl : listed.getD i true with
      | true => rfl
      | false =>
        have hi' : i < listed.size := by omega
        have : listed[i] = false := by simpa [Array.getD, hi'] using hl
        have h0 : 0 < listed.toList.count false := List.count_pos_iff.2 (by rw [← this]; simp)
        omega
    have hc : c = all.length := by
      rcases Nat.eq_or_lt_of_le D.hc with e | hlt
      · exact e
      · have := htl c (Nat.le_refl _) hlt; rw [hall c hlt] at this; cases this
    refine any_tail D hE hd 0 c listed (allRs RS st0) a cx hs (fun j hj => by rw [hall j hj]; simp; omega) (by omega) (Nat.le_refl _) ?_ hav hQ
    rw [← vis_all RS st0 (fun j => listed.getD j true) fun e he => hall e.1 (Nat.lt_of_lt_of_le (D.lt e he) D.hc)]
    exact h
  | succ fuel ih =>
    intro listed a cx hs hcnt hcl htl h hQ
    by_cases hpre : ∀ i, i < c → listed.getD i true = true
    · have hl : ∀ j, j < all.length → listed.getD j true = decide (j < c) := by
        intro j hj
        by_cases hjc : j < c
        · rw [hpre j hjc]; simp [hjc]
        · rw [htl j (Nat.le_of_not_lt hjc) hj]; simp [hjc]
      have hcf : c + (fuel + 1) = all.length := by
        rw [← hcnt]
        have key : ∀ (l : List Bool) (c : Nat), c ≤ l.length → (∀ j, j < l.length → l.getD j true = decide (j < c)) → c + l.count false = l.length := by
          intro l
          induction l with
          | nil => intro c hc _; simp at hc ⊢; omega
          | cons b l ihl =>
            intro c hc hb
            cases c with
            | zero =>
              have hb0 : b = false := by have := hb 0 (by simp); simpa using this
              have := ihl 0 (by omega) fun j hj => by have := hb (j + 1) (by simpa using hj); simpa using this
              rw [hb0, List.count_cons, List.length_cons]; simp; omega
            | succ c =>
              have hb0 : b = true := by have := hb 0 (by simp); simpa using this
              have := ihl c (by simpa using hc) fun j hj => by
                have := hb (j + 1) (by simpa using hj)
                simpa using this
              rw [hb0, List.count_cons, List.length_cons]; simp; omega
        have := key listed.toList c (by simp [hs]; exact D.hc) fun j hj => by
          have hj' : j < listed.size := by simpa using hj
          have := hl j (by omega)
          rw [← this]
          simp [Array.getD, hj', List.getD_eq_getElem?_getD]
        simpa [hs] using this
      refine any_tail D hE hd (fuel + 1) c listed (allRs RS st0) a cx hs hl hcf (Nat.le_refl _) ?_ hav hQ
      rw [← vis_all RS st0 (fun j => listed.getD j true) fun e he => hpre e.1 (D.lt e he)]
      exact h
    · obtain ⟨m, hm⟩ := Classical.not_forall.1 hpre
      obtain ⟨hmc, hml⟩ := Classical.not_imp.1 hm
      have hmlt : m < all.length := Nat.lt_of_lt_of_le hmc D.hc
      refine ⟨fun hr => absurd (all_listed (fun i o ho e he => D.edge ho he) hs hr m hmlt) hml, fun i hi => ?_⟩
      obtain ⟨h1, h2, h3⟩ := ready_spec.1 hi
      have hio := List.getElem?_eq_getElem h1
      have hlb : ∀ q ∈ (befs all []).getD i [], listed.getD q true = true := by
        rw [D.bef i _ hio]
        intro q hq
        obtain ⟨e, he, hq⟩ := List.mem_flatMap.1 hq
        have hel := h3 _ hio e he
        have hei := D.edge hio he
        have hesz : e.on < listed.size := by omega
        have hel' : listed.getD e.on true = true := by simpa [Array.getD, hesz] using hel
        rcases List.mem_cons.1 hq with rfl | hq
        · exact hel'
        · rw [if_pos hei] at hq; exact hcl e.on (by omega) hel' q hq
      have hic : i < c := by
        apply Nat.lt_of_not_le
        intro hci
        exact hml (hlb m (D.cov i hci h1 m (Nat.lt_of_lt_of_le hmc hci)))
      obtain ⟨d, av, rsn, l, hRS, hopv, hl1, hl2⟩ := D.at_ i _ hic hio
      have hent : (i, d, av) ∈ RS := by rw [hRS]; exact List.mem_append_right _ (List.mem_cons_self ..)
      have hsub : ∀ e ∈ rsn, e ∈ RS := fun e he => by rw [hRS]; exact List.mem_append_right _ (List.mem_cons_of_mem _ he)
      -- the state in which the operation was reckoned
      have hvis : vis (isIn ((befs all []).getD i [])) rsn sth = vis (isIn ((befs all []).getD i [])) RS sth := by
        have hlow : ∀ j, i ≤ j → isIn ((befs all []).getD i []) j = false := by
          intro j hj
          cases hb : isIn ((befs all []).getD i []) j with
          | false => rfl
          | true => have := D.low i h1 j (isIn_iff.1 hb); omega
        rw [hRS, show l ++ (i, d, av) :: rsn = (l ++ [(i, d, av)]) ++ rsn by simp]
        rw [vis_drop _ _ _ _ fun e he => ?_]
        rcases List.mem_append.1 he with he | he
        · exact hlow _ (Nat.le_of_lt (hl1 e he))
        · rw [List.mem_singleton.1 he]; exact hlow i (Nat.le_refl _)
      have hless : Less (get (vis (isIn ((befs all []).getD i [])) rsn sth)) (get (vis (fun j => listed.getD j true) RS st0)) := by
        rw [hvis]
        refine D.less (fun j hj => hlb j (isIn_iff.1 hj)) fun e he e' he' hdp q1 q2 => ?_
        have hne : i ≠ e'.1 := fun hh => by rw [← hh] at q2; rw [q2] at h2; cases h2
        rcases hdp.oth i hic hne (isIn_iff.1 q1) with h | h
        · exact isIn_iff.2 h
        · exfalso
          have hj : e'.1 < all.length := Nat.lt_of_lt_of_le (D.lt _ he') D.hc
          have := hcl e'.1 hj q2 i h
          rw [h2] at this; cases this
      -- behind it
      have hnl : ∀ e ∈ RS, listed.getD e.1 true = true → e.2.1 = d → DupP all c e (i, d, av) := fun e he hpe hde => by
        rcases D.dup e he _ hent hde with h | h | h
        · rw [show e.1 = i from h] at hpe; rw [h2] at hpe; cases hpe
        · exact h
        · exfalso
          have hj : e.1 < all.length := Nat.lt_of_lt_of_le (D.lt _ he) D.hc
          have := hcl e.1 hj hpe i h.bef
          rw [h2] at this; cases this
      have hit : all[i] ∈ all.take c := List.mem_of_getElem? (i := i) (by rw [List.getElem?_take, if_pos hic, hio])
      have next0 : ∀ {st1 : St} {a' : Act} {cx' : Cx}, Rel E w0 X st1 a' cx' → cx'.N = cx.N → cx'.A = cx.A → (∀ t, get st1 t = if d = t then av else get (vis (fun j => listed.getD j true) RS st0) t) → wpAny E.P .any all.toArray Q fuel (listed.setIfInBounds i true) a' cx'.w := by
        intro st1 a' cx' g1 g3 g4 hst1
        have hsz : i < listed.size := by omega
        have hset : ∀ j, (listed.setIfInBounds i true).getD j true = if i = j then true else listed.getD j true := by
          intro j
          by_cases e : i = j
          · subst e; simp [Array.getD, hsz]
          · rw [if_neg e]
            by_cases hj : j < listed.size
            · simp [Array.getD, hj, Array.getElem_setIfInBounds_ne, e]
            · simp [Array.getD, hj]
        refine ih _ _ cx' (by simpa using hs) (by have := count_set hsz h2; omega) (fun i' hi' hl' q hq => ?_) (fun i' hc' hi' => ?_) (g1.congr fun t => ?_) fun st2 a2 cx2 q1 q2 q3 q4 => hQ st2 a2 cx2 q1 (q2.trans g3) (q3.trans g4) q4
        · rw [hset]
          split
          · rfl
          · rw [hset] at hl'
            split at hl'
            · rename_i e; subst e; exact hlb q hq
            · exact hcl i' hi' hl' q hq
        · rw [hset, if_neg (by omega)]; exact htl i' hc' hi'
        · rw [hst1]
          have hor : ∀ e ∈ RS, (listed.setIfInBounds i true).getD e.1 true = true → e = (i, d, av) ∨ listed.getD e.1 true = true := fun e he hpe => by
            rw [hset] at hpe
            split at hpe
            · rename_i e1; exact .inl (D.same he hent e1.symm)
            · exact .inr hpe
          by_cases ed : d = t
          · subst ed
            rw [if_pos rfl]
            refine D.vis_eq (p := fun j => (listed.setIfInBounds i true).getD j true) hent (by rw [hset, if_pos rfl]) fun e' he' q1 q2 => ?_
            rcases hor e' he' q1 with rfl | q1
            · exact Nat.le_refl _
            · exact Nat.le_of_lt (hnl e' he' q1 q2).lt
          · rw [if_neg ed]
            rcases vis_top (fun j => listed.getD j true) t (st := st0) D.sorted with ⟨e, he, hpe, rfl, h5, h6⟩ | ⟨h5, h6⟩
            · rw [h6]
              refine D.vis_eq (p := fun j => (listed.setIfInBounds i true).getD j true) he (by rw [hset]; split; rfl; exact hpe) fun e' he' q1 q2 => ?_
              rcases hor e' he' q1 with rfl | q1
              · exact absurd q2 ed
              · exact h5 e' he' q1 q2
            · rw [h6]
              refine get_vis_not (fun j => (listed.setIfInBounds i true).getD j true) t fun e he hpe hde => ?_
              rcases hor e he hpe with rfl | q1
              · exact ed hde
              · exact h5 e he q1 hde
      unfold wpOp
      have hio' : all.toArray[i]? = some all[i] := by simp [h1]
      rw [hio']
      dsimp only
      rcases hopv with ⟨hdst, hown, hval⟩ | ⟨hdst, hsto⟩
      rotate_left
      · unfold drawStore at hsto
        split at hsto
        · rename_i t d' x hg ho
          split at hsto
          · rename_i w bs cs hgt hcs
            dsimp only at hsto
            cases hk : (Nat.beq cs.length (sizeP E.P t) && decide (0 + sizeP E.P t ≤ bs.length) && (!(takeAt bs 0 (sizeP E.P t)).any isOwn && Nat.blt 0 (sizeP E.P t)) && !cs.any lendsC) with
            | false => rw [hk] at hsto; cases hsto
            | true =>
              rw [hk, cond_true] at hsto
              obtain ⟨rfl, hav'⟩ := Prod.mk.inj (Option.some.inj hsto)
              rw [Bool.and_eq_true, Bool.not_eq_true'] at hk
              have hw : Region.wanted all[i] (yielded all.toArray a.tmps) = true := by unfold Region.wanted; rw [hg]
              rw [if_pos hw]
              have hbox : get (vis (fun j => listed.getD j true) RS st0) d' = .box w bs := by
                unfold boxAt at hgt
                split at hgt
                · rename_i w' bs' h0
                  rw [← hgt, ← h0]
                  refine get_vis_not _ d' fun e he hpe hde => ?_
                  have hdp := hnl e he hpe hde
                  have hel : e.1 < all.length := Nat.lt_of_lt_of_le (D.lt _ he) D.hc
                  have hh := hdp.has
                  unfold hasDst at hh
                  rw [List.getElem?_eq_getElem hel] at hh
                  obtain ⟨d2, hd2⟩ := Option.isSome_iff_exists.1 (show all[e.1].dst.isSome = true from hh)
                  have hm := D.mem he
                  rw [List.getElem?_eq_getElem hel, Option.bind_some] at hm
                  have hdv : vdst all[e.1] = some d2 := by unfold vdst; rw [hd2]
                  have e2 : d2 = d' := (Option.some.inj (hdv.symm.trans hm)).trans hde
                  have := D.hid all[e.1] (List.mem_of_getElem? (i := e.1) (by rw [List.getElem?_take, if_pos (D.lt _ he), List.getElem?_eq_getElem hel])) d' (by rw [hd2, e2])
                  rw [h0] at this; cases this
                · rcases hless d' with h | h
                  · rw [h] at hgt; cases hgt
                  · rw [← h]; exact hgt
              have hsop : (storeOp E (vis (fun j => listed.getD j true) RS st0) t (.tmp d') x).run = some ((d', .box w (setAll bs 0 cs)) :: vis (fun j => listed.getD j true) RS st0) := by
                unfold storeOp
                have e1 : Ev.opnd E (get (vis (fun j => listed.getD j true) RS st0)) (.tmp d') = .pat d' 0 := by
                  simp only [Ev.opnd, hbox, copyOf]
                rw [e1, cells_up hless hcs]
                dsimp only
                rw [hbox]
                dsimp only
                rw [hk.1, cond_true, hk.2, cond_false]
                rfl
              refine .inl ((h.q_store hdst t (.tmp d') x ho hsop).wp fun a' cx' g1 g3 g4 => next0 g1 g3 g4 fun t => ?_)
              rw [get_cons, ← hav']
          · cases hsto
        · cases hsto
      have hdnt : d < E.nt := hd _ (List.getElem_mem h1) d hdst
      have hgu : get st0 d = .u := D.hid _ hit d hdst
      have hhd0 : hasDst all i = true := by unfold hasDst; rw [hio]; show all[i].dst.isSome = true; rw [hdst]; rfl
      have hgd : get (vis (fun j => listed.getD j true) RS st0) d = get st0 d := get_vis_not _ d fun e he hpe hde => by
        have := (hnl e he hpe hde).no
        rw [show hasDst all (i, d, av).1 = hasDst all i from rfl, hhd0] at this; cases this
      have next : ∀ {v : Value} {w' : World}, New cx w' av v → wpAny E.P .any all.toArray Q fuel (listed.setIfInBounds i true) (a.put (some d) v) w' := by
        intro v w' hn
        obtain ⟨cx', g1, g2, g3, g4⟩ := h.put hdnt hn
        rw [← g2]
        refine next0 g1 g3 g4 fun t => ?_
        unfold Ev.put
        rw [hgd, hgu, show owner AV.u = false from rfl, Bool.or_false]
        cases hob : owner av with
        | false => rw [cond_false, get_cons]
        | true =>
          rw [cond_true, get_cons, get_forget]
          have hown' := D.own
          unfold ownersOk at hown'
          have h7 := List.all_eq_true.1 hown' (i, d, av) hent
          have hhd : hasDst all i = true := by unfold hasDst; rw [hio]; show all[i].dst.isSome = true; rw [hdst]; rfl
          simp only [hob, hhd, Bool.and_self, Bool.not_true, Bool.false_or, Bool.and_eq_true] at h7
          obtain ⟨h8, h9⟩ := h7
          by_cases ed : d = t
          · rw [if_pos ed, if_pos ed]; exact noRef_forget h8
          · rw [if_neg ed, if_neg ed]
            refine noRef_forget ?_
            rcases vis_top (fun j => listed.getD j true) t (st := st0) D.sorted with ⟨⟨j, d', v'⟩, he, hpj, rfl, _, h6⟩ | ⟨_, h6⟩
            · rw [h6]
              have h10 := List.all_eq_true.1 h9 (j, d', v') he
              simp only [Bool.or_eq_true] at h10
              rcases h10 with e1 | e1 | e1
              · have e2 := Nat.eq_of_beq_eq_true e1
                subst e2
                rw [h2] at hpj; cases hpj
              · exfalso
                have hj : j < all.length := Nat.lt_of_lt_of_le (D.lt _ he) D.hc
                have := hcl j hj hpj i (isIn_iff.1 e1)
                rw [h2] at this; cases this
              · exact e1
            · rw [h6]
              exact D.nor _ hit d hdst t
      have doIt : (∃ av0, av = lentA av0 ∧ (evQ E (get (vis (isIn ((befs all []).getD i [])) rsn sth)) all[i]).run = some av0) → all[i].wp E.P a cx.w (wpAny E.P .any all.toArray Q fuel (listed.setIfInBounds i true)) Q := by
        rintro ⟨av0, rfl, hq⟩
        have hq' := evQ_up hless hq
        refine (evQ_sound h hE (evQ_noMut hq') hq').wp fun v w' hn => ?_
        rw [hdst]; exact next (hn.lent h.forb_lt)
      have skip : av = .tup [] → wpAny E.P .any all.toArray Q fuel (listed.setIfInBounds i true) (a.put all[i].dst undef) cx.w := by
        intro e
        rw [hdst]
        exact next (e ▸ skip_new cx)
      rcases hval with ⟨hg, hq⟩ | ⟨j, want, hg, hin, hv⟩
      · have hw : Region.wanted all[i] (yielded all.toArray a.tmps) = true := by unfold Region.wanted; rw [hg]
        rw [if_pos hw]; exact .inl (doIt hq)
      · have hjl := hlb j (isIn_iff.1 hin)
        have look : ∀ {v : AV}, findR rsn j = some v → (∀ w cs, v ≠ .box w cs) → ∃ dj, (all.toArray[j]?).bind (·.dst) = some dj ∧ get (vis (fun j => listed.getD j true) RS st0) dj = v := by
          intro v hf hnb
          obtain ⟨dj, hm⟩ := find_mem hf
          have hm' := hsub _ hm
          have hjl' : j < all.length := Nat.lt_of_lt_of_le (D.lt _ hm') D.hc
          have h6 : (all.toArray[j]?).bind (·.dst) = some dj := by
            obtain ⟨d1, av1, rs1, l1, q1, q2, q3, q4⟩ := D.at_ j all[j] (D.lt _ hm') (List.getElem?_eq_getElem hjl')
            have hent1 : (j, d1, av1) ∈ RS := by rw [q1]; exact List.mem_append_right _ (List.mem_cons_self ..)
            have hee : (j, dj, v) = (j, d1, av1) := D.same hm' hent1 rfl
            obtain ⟨_, rfl, rfl⟩ : j = j ∧ dj = d1 ∧ v = av1 := by simpa using hee
            rcases q2 with ⟨q5, _⟩ | ⟨_, q5⟩
            · simp [hjl', q5]
            · exfalso
              unfold drawStore at q5
              split at q5
              · split at q5
                · dsimp only at q5
                  generalize (Nat.beq _ _ && _ && _ && _) = q at q5
                  cases q with
                  | false => cases q5
                  | true => exact hnb _ _ (Prod.mk.inj (Option.some.inj q5)).2.symm
                · cases q5
              · cases q5
          have hnb' : isBoxB v = false := by cases v <;> first | rfl | exact absurd rfl (hnb _ _)
          refine ⟨dj, h6, D.vis_eq (p := fun j => listed.getD j true) hm' hjl fun e' he' _ hde => ?_⟩
          rcases D.dup e' he' _ hm' hde with h | h | h
          · exact Nat.le_of_eq h
          · have := h.box'; rw [show isBoxB (j, dj, v).2.2 = isBoxB v from rfl, hnb'] at this; cases this
          · have := h.box; rw [show isBoxB (j, dj, v).2.2 = isBoxB v from rfl, hnb'] at this; cases this
        rcases hv with ⟨b, hf, hv⟩ | ⟨hf, hv⟩
        · obtain ⟨dj, hdj, hgj⟩ := look hf (fun w cs e => by cases e)
          have hb := lit_rep h hgj
          have hy : yielded all.toArray a.tmps j = some b := by unfold yielded; rw [hdj, Option.bind_some, tmps_get hb]
          rcases hv with ⟨rfl, hq⟩ | ⟨hne, hv⟩
          · have hw : Region.wanted all[i] (yielded all.toArray a.tmps) = true := by unfold Region.wanted; rw [hg]; simp only [hy]; cases b <;> rfl
            rw [if_pos hw]; exact .inl (doIt hq)
          · have hw : ¬ Region.wanted all[i] (yielded all.toArray a.tmps) = true := by
              unfold Region.wanted; rw [hg]; simp only [hy]
              cases b <;> cases want <;> first | exact absurd rfl hne | decide
            rw [if_neg hw]; exact skip hv
        · obtain ⟨dj, hdj, hgj⟩ := look hf (fun w cs e => by cases e)
          have hv0 : a.tmps.getD dj undef = undef := by
            have := h.slots dj
            rw [hgj] at this
            obtain ⟨vs, hv1, hp⟩ := this
            cases vs with
            | nil => exact hv1
            | cons v vs => simp [PartsRep] at hp
          have hy : yielded all.toArray a.tmps j = none := by
            unfold yielded
            rw [hdj, Option.bind_some]
            rw [Array.getD_eq_getD_getElem?] at hv0
            cases hq : a.tmps[dj]? with
            | none => rfl
            | some v => rw [hq] at hv0; have : v = undef := hv0; rw [this]; rfl
          have hw : ¬ Region.wanted all[i] (yielded all.toArray a.tmps) = true := by unfold Region.wanted; rw [hg]; simp only [hy]; cases want <;> decide
          rw [if_neg hw]; exact skip hv
theorem Rel.grow (h : Rel E w0 X st a cx) {w' : World} (hw : Below cx.w.heap.size cx.w w') : Rel E w0 X st a { cx with w := w' } := by
  refine ⟨h.P, h.defers, h.kept.below hw, fun b p hp => ⟨Nat.lt_of_lt_of_le (h.own b p hp).1 hw.size, (h.own b p hp).2⟩, h.non, h.glob, h.nt, fun t => ?_⟩
  exact (h.slots t).change (Ch.grow hw) (by cases get st t <;> first | trivial | (intro; simp) | exact id | (intro c hc; cases c <;> first | trivial | exact id) | (intro p hp c hc; cases c <;> first | trivial | exact id))
    (fun j c _ _ => ⟨id, fun b hb => ⟨(h.own b _ hb).1, id, hb⟩⟩) (fun o cs _ => ⟨id, fun b hb => ⟨(h.own b _ hb).1, id, hb⟩⟩)
theorem drawn_sound {ops : Array Oper} {rid : Nat} (hmix : E.P.follows .mixedOrders = true) (hE : EnvOk E) (hd : ∀ o ∈ ops.toList, ∀ x, o.dst = some x → x < E.nt) (h : Rel E w0 X st a cx) {k : St → Option R} (hav : evRegion E ops.toList st k = some r) {Q : Exit → Act → World → Prop}
    (hQ : ∀ st' a' cx', Rel E w0 X st' a' cx' → cx'.N = cx.N → cx'.A = cx.A → k st' = some r → Q .normal a' cx'.w) : (Code.region rid ops true).wp E.P Q a cx.w := by
  unfold evRegion at hav
  dsimp only at hav
  obtain ⟨hlow, hav⟩ : drawOk ops.toList (befs ops.toList []) = true ∧ _ := by
    cases hb : drawOk ops.toList (befs ops.toList []) with
    | false => rw [hb] at hav; cases hav
    | true => rw [hb] at hav; exact ⟨rfl, hav⟩
  obtain ⟨RS, hch, hk0⟩ := evDraw_chain hav
  obtain ⟨howns, hk⟩ : (ownersOk (befs ops.toList []) ops.toList RS && distOk (befs ops.toList []) ops.toList (tailFrom (befs ops.toList []) ops.toList.length) RS) = true ∧ _ := by
    cases hb : (ownersOk (befs ops.toList []) ops.toList RS && distOk (befs ops.toList []) ops.toList (tailFrom (befs ops.toList []) ops.toList.length) RS) with
    | false => rw [hb] at hk0; cases hk0
    | true => rw [hb] at hk0; exact ⟨rfl, hk0⟩
  rw [Bool.and_eq_true] at howns
  obtain ⟨_, hat⟩ := chain_at hch (fun e he => by cases he)
  unfold drawOk at hlow
  have hc := tail_le (bs := befs ops.toList []) ops.toList.length
  have hlt : ∀ e ∈ RS, e.1 < tailFrom (befs ops.toList []) ops.toList.length := by
    have key : ∀ {os : List Oper} {i : Nat} {rs RS : List (Nat × Nat × AV)} {bs} {st0 st}, Chain E bs st0 st os i rs RS → (∀ e ∈ rs, e.1 < i) → ∀ e ∈ RS, e.1 < i + os.length := by
      intro os
      induction os with
      | nil => intro i rs RS bs st0 st h hrs e he; rw [h] at he; simpa using hrs e he
      | cons o os ih =>
        intro i rs RS bs st0 st h hrs e he
        obtain ⟨d, av, _, hc⟩ := h
        have := ih hc (fun e he => by
          rcases List.mem_cons.1 he with rfl | he
          · exact Nat.lt_succ_self _
          · exact Nat.lt_succ_of_lt (hrs e he)) e he
        simp; omega
    intro e he
    have := key hch (fun e he => by cases he) e he
    rw [List.length_take] at this; omega
  have hsorted : RS.Pairwise fun a b => b.1 < a.1 := by
    have key : ∀ {os : List Oper} {i : Nat} {rs RS : List (Nat × Nat × AV)} {bs} {st0 st}, Chain E bs st0 st os i rs RS → (∀ e ∈ rs, e.1 < i) → rs.Pairwise (fun a b => b.1 < a.1) → RS.Pairwise fun a b => b.1 < a.1 := by
      intro os
      induction os with
      | nil => intro i rs RS bs st0 st h hrs hp; rw [h]; exact hp
      | cons o os ih =>
        intro i rs RS bs st0 st h hrs hp
        obtain ⟨d, av, _, hc⟩ := h
        exact ih hc (fun e he => by
          rcases List.mem_cons.1 he with rfl | he
          · exact Nat.lt_succ_self _
          · exact Nat.lt_succ_of_lt (hrs e he)) (List.pairwise_cons.2 ⟨hrs, hp⟩)
    exact key hch (fun e he => by cases he) .nil
  have hbl : ∀ i, i < ops.toList.length → ∀ q ∈ (befs ops.toList []).getD i [], q < i := by
    intro i hi q hq
    have h1 := List.all_eq_true.1 hlow i (List.mem_range.2 hi)
    have h2 := List.all_eq_true.1 h1 q hq
    exact Nat.le_of_ble_eq_true h2
  have D : DrawAt E ops.toList (tailFrom (befs ops.toList []) ops.toList.length) (Ev.hide st (ops.toList.take (tailFrom (befs ops.toList []) ops.toList.length))) (Ev.hideT (Ev.hide st (ops.toList.take (tailFrom (befs ops.toList []) ops.toList.length))) (ops.toList.take (tailFrom (befs ops.toList []) ops.toList.length))) RS := by
    refine ⟨hc, fun i o hi ho => ?_, hlt, fun o ho d hdd => hide_dst ho hdd, fun o ho d hdd t => hide_noRef ho hdd t, fun t => hideT_or t _ _, fun o ho d hdn hdv => hideT_vdst ho hdn hdv, howns.1, distOk_spec howns.2, hsorted, fun i o ho => ?_, hbl, fun i h1 h2 j hj => ?_⟩
    · have := hat i o (by rw [List.getElem?_take, if_pos hi]; exact ho)
      simpa using this
    · have := (befs_spec ops.toList []).2 i o ho
      simpa using this
    · have h3 := tail_covers h1 h2
      unfold covers at h3
      exact isIn_iff.1 (List.all_eq_true.1 h3 j (List.mem_range.2 hj))
  refine wp_region_any hmix ?_
  have hw : Below cx.w.heap.size cx.w { cx.w with drawn := cx.w.drawn + 1 } := ⟨rfl, rfl, rfl, Nat.le_refl _, fun _ _ => rfl⟩
  have h0 := h.hide (ops.toList.take (tailFrom (befs ops.toList []) ops.toList.length))
  have h1 := h0.grow hw
  have hrep : ∀ j, j < ops.toList.length → (Array.replicate ops.size false).getD j true = false := by
    intro j hj
    have : j < ops.size := by simpa using hj
    simp [Array.getD, this]
  have := any_draw (Q := Q) D hE hd hk ops.size (Array.replicate ops.size false) a { cx with w := { cx.w with drawn := cx.w.drawn + 1 } } (by simp) (by simp) (fun i hi hl => by rw [hrep i hi] at hl; cases hl) (fun i _ hi => hrep i hi)
    (h1.congr fun t => get_vis_not _ t fun e he hp => by rw [hrep e.1 (Nat.lt_of_lt_of_le (hlt e he) hc)] at hp; cases hp) hQ
  rw [Array.toArray_toList] at this
  exact this
end
end Go.Proofs.YtpggnjmmpkdkjaaGreat.Ev
