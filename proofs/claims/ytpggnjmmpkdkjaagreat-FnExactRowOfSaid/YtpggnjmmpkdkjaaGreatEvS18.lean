/- Regions that draw their order: every order comes to the same. No condition. -/
import Derived.Test.YtpggnjmmpkdkjaaGreatEvS17
namespace Go.Proofs.YtpggnjmmpkdkjaaGreat.Ev
open Go Go.RowKit
set_option linter.unusedVariables false
set_option linter.unusedSimpArgs false
section
variable {E : Env} {w0 : World} {X : Nat → Prop} {st st' : St} {a : Act} {cx : Cx} {o : Oper} {av : AV} {R : Type} {r : R}
theorem isIn_iff {l : List Nat} {j : Nat} : isIn l j = true ↔ j ∈ l := by
  unfold isIn
  rw [List.any_eq_true]
  constructor
  · rintro ⟨x, hx, hb⟩; rw [Nat.eq_of_beq_eq_true hb]; exact hx
  · intro h; exact ⟨j, h, by simp⟩
theorem befs_spec : ∀ (os : List Oper) (acc : List (List Nat)), (∃ l, befs os acc = acc ++ l ∧ l.length = os.length) ∧ ∀ n o, os[n]? = some o → (befs os acc).getD (acc.length + n) [] = (o.after.toList.filter (Region.binds .any)).flatMap fun e => e.on :: (if e.on < acc.length + n then (befs os acc).getD e.on [] else [])
  | [], acc => ⟨⟨[], by simp [befs], rfl⟩, fun n o h => by simp at h⟩
  | o :: os, acc => by
    obtain ⟨⟨l, hl, hll⟩, hrest⟩ := befs_spec os (acc ++ [(o.after.toList.filter (Region.binds .any)).flatMap fun e => e.on :: acc.getD e.on []])
    have hb : befs (o :: os) acc = befs os (acc ++ [(o.after.toList.filter (Region.binds .any)).flatMap fun e => e.on :: acc.getD e.on []]) := rfl
    refine ⟨⟨_ :: l, by rw [hb, hl, List.append_assoc]; rfl, by simp [hll]⟩, fun n o' hn => ?_⟩
    cases n with
    | zero =>
      obtain rfl := Option.some.inj hn
      have e1 : (befs (o :: os) acc).getD (acc.length + 0) [] = (o.after.toList.filter (Region.binds .any)).flatMap fun e => e.on :: acc.getD e.on [] := by
        rw [hb, hl, List.append_assoc, List.getD_eq_getElem?_getD, List.getElem?_append_right (by omega)]
        simp
      rw [e1]
      congr 1
      funext e
      congr 1
      by_cases he : e.on < acc.length + 0
      · rw [if_pos he, hb, hl, List.append_assoc, List.getD_eq_getElem?_getD, List.getD_eq_getElem?_getD, List.getElem?_append_left (by omega)]
      · rw [if_neg he, List.getD_eq_getElem?_getD, List.getElem?_eq_none (by omega)]; rfl
    | succ n =>
      have := hrest n o' (by simpa using hn)
      rw [List.length_append, List.length_singleton] at this
      rw [hb, show acc.length + (n + 1) = acc.length + 1 + n by omega]
      exact this
theorem tail_covers {bs : List (List Nat)} : ∀ {n i : Nat}, tailFrom bs n ≤ i → i < n → covers bs i = true
  | 0, i, _, h => by omega
  | n + 1, i, h1, h2 => by
    simp only [tailFrom] at h1
    cases hc : covers bs n with
    | false => rw [hc] at h1; simp at h1; omega
    | true =>
      rw [hc, cond_true] at h1
      by_cases e : i = n
      · rw [e]; exact hc
      · exact tail_covers h1 (by omega)
theorem tail_le {bs : List (List Nat)} : ∀ n, tailFrom bs n ≤ n
  | 0 => Nat.le_refl _
  | n + 1 => by
    simp only [tailFrom]
    cases covers bs n with
    | false => exact Nat.le_refl _
    | true => exact Nat.le_trans (tail_le n) (Nat.le_succ n)
theorem evQ_noMut {g : Nat → AV} (hq : (evQ E g o).run = some av) : ∀ c, o.op = .call c → ∀ f n sp, c.callee = .value f → Ev.opnd E g f = .fn n → E.spec n = some sp → isMut sp = false := by
  intro c hc f n sp hcal hf hs
  obtain ⟨cal, args, ts⟩ := c
  have : cal = .value f := hcal
  subst this
  simp only [evQ, hc, hf, hs] at hq
  obtain ⟨_, hq⟩ := bif_run' hq
  split at hq
  · rename_i ds hp; exact packArgs_noMut hp
  · cases hq
theorem count_set {l : Array Bool} {i : Nat} (hi : i < l.size) (hf : l.getD i true = false) : (l.setIfInBounds i true).toList.count false + 1 = l.toList.count false := by
  have hg : l.toList[i]'(by simpa using hi) = false := by
    have : l.getD i true = l[i] := by simp [Array.getD, hi]
    simpa [this] using hf
  rw [Array.toList_setIfInBounds, List.count_set (by simpa using hi)]
  have hpos : 0 < l.toList.count false := List.count_pos_iff.2 (List.mem_of_getElem hg)
  rw [hg, if_pos (show (false == false) = true from rfl), if_neg (show ¬ (true == false) = true by decide)]
  omega
theorem ready_spec {ops : List Oper} {listed : Array Bool} {i : Nat} : i ∈ Region.ready .any ops.toArray listed ↔ i < ops.length ∧ listed.getD i true = false ∧ ∀ o, ops[i]? = some o → ∀ e ∈ o.after.toList.filter (Region.binds .any), listed.getD e.on false = true := by
  unfold Region.ready
  rw [List.mem_filter, List.mem_range]
  constructor
  · rintro ⟨h1, h2⟩
    rw [Bool.and_eq_true] at h2
    refine ⟨by simpa using h1, by simpa using h2.1, fun o ho e he => ?_⟩
    have h3 := h2.2
    have ho' : ops.toArray[i]? = some o := by simpa using ho
    rw [ho'] at h3
    simp only [Option.map_some, Option.getD_some] at h3
    rw [Array.all_eq_true_iff_forall_mem] at h3
    obtain ⟨hm, hb⟩ := List.mem_filter.1 he
    have := h3 e (by simpa using hm)
    rw [hb] at this
    simpa using this
  · rintro ⟨h1, h2, h3⟩
    refine ⟨by simpa using h1, ?_⟩
    rw [Bool.and_eq_true]
    refine ⟨by rw [h2]; rfl, ?_⟩
    have ho : ops.toArray[i]? = some ops[i] := by simp [h1]
    rw [ho]
    simp only [Option.map_some, Option.getD_some]
    rw [Array.all_eq_true_iff_forall_mem]
    intro e he
    cases hb : Region.binds .any e with
    | false => rfl
    | true =>
      have := h3 ops[i] (List.getElem?_eq_getElem h1) e (List.mem_filter.2 ⟨by simpa using he, hb⟩)
      simpa using this
/-- A variable made, and what is stored there. -/
structure DupP (all : List Oper) (c : Nat) (e e' : Nat × Nat × AV) : Prop where
  lt : e.1 < e'.1
  has : hasDst all e.1 = true
  no : hasDst all e'.1 = false
  box : isBoxB e.2.2 = true
  box' : isBoxB e'.2.2 = true
  bef : e.1 ∈ (befs all []).getD e'.1 []
  oth : ∀ m, m < c → m ≠ e'.1 → e.1 ∈ (befs all []).getD m [] → e'.1 ∈ (befs all []).getD m [] ∨ m ∈ (befs all []).getD e'.1 []
theorem isIn_cases {l : List Nat} {j : Nat} (h : isIn l j = false) : ¬ j ∈ l := fun hm => by rw [isIn_iff.2 hm] at h; cases h
theorem dupOk_spec {all : List Oper} {c : Nat} {e e' : Nat × Nat × AV} (h : dupOk (befs all []) all c e e' = true) : DupP all c e e' := by
  unfold dupOk at h
  simp only [Bool.and_eq_true, Bool.not_eq_true'] at h
  obtain ⟨⟨⟨⟨h1, h2, h3⟩, h4, h5⟩, h6⟩, h7⟩ := h
  refine ⟨Nat.le_of_ble_eq_true h1, h2, h3, h4, h5, isIn_iff.1 h6, fun m hm hne hin => ?_⟩
  have := List.all_eq_true.1 h7 m (List.mem_range.2 hm)
  simp only [Bool.or_eq_true, Bool.not_eq_true'] at this
  rcases this with h | h | h | h
  · exact absurd (Nat.eq_of_beq_eq_true h) hne
  · exact absurd hin (isIn_cases h)
  · exact .inl (isIn_iff.1 h)
  · exact .inr (isIn_iff.1 h)
theorem distOk_spec {all : List Oper} {c : Nat} {RS : List (Nat × Nat × AV)} (h : distOk (befs all []) all c RS = true) : ∀ e ∈ RS, ∀ e' ∈ RS, e.2.1 = e'.2.1 → e.1 = e'.1 ∨ DupP all c e e' ∨ DupP all c e' e := by
  intro e he e' he' hd
  unfold distOk at h
  have h1 := List.all_eq_true.1 (List.all_eq_true.1 h e he) e' he'
  simp only [Bool.or_eq_true, Bool.not_eq_true'] at h1
  rcases h1 with h1 | h1 | h1 | h1
  · exact .inl (Nat.eq_of_beq_eq_true h1)
  · exfalso
    have : Nat.beq e.2.1 e'.2.1 = true := by rw [hd]; exact Nat.beq_refl _
    rw [this] at h1; cases h1
  · exact .inr (.inl (dupOk_spec h1))
  · exact .inr (.inr (dupOk_spec h1))
/-- What a region that draws rests on. -/
structure DrawAt (E : Env) (all : List Oper) (c : Nat) (st0 sth : St) (RS : List (Nat × Nat × AV)) : Prop where
  hc : c ≤ all.length
  at_ : ∀ i o, i < c → all[i]? = some o → ∃ d av rsn l, RS = l ++ (i, d, av) :: rsn ∧ OpVal E (befs all []) st0 sth i rsn o d av ∧ (∀ e ∈ l, i < e.1) ∧ ∀ e ∈ rsn, e.1 < i
  lt : ∀ e ∈ RS, e.1 < c
  hid : ∀ o ∈ all.take c, ∀ d, o.dst = some d → get st0 d = .u
  nor : ∀ o ∈ all.take c, ∀ d, o.dst = some d → ∀ t, noRefA d (get st0 t) = true
  hih : ∀ t, get sth t = .u ∨ get sth t = get st0 t
  hiv : ∀ o ∈ all.take c, ∀ d, o.dst = none → vdst o = some d → get sth d = .u
  own : ownersOk (befs all []) all RS = true
  dup : ∀ e ∈ RS, ∀ e' ∈ RS, e.2.1 = e'.2.1 → e.1 = e'.1 ∨ DupP all c e e' ∨ DupP all c e' e
  sorted : RS.Pairwise fun a b => b.1 < a.1
  bef : ∀ i o, all[i]? = some o → (befs all []).getD i [] = (o.after.toList.filter (Region.binds .any)).flatMap fun e => e.on :: (if e.on < i then (befs all []).getD e.on [] else [])
  low : ∀ i, i < all.length → ∀ q ∈ (befs all []).getD i [], q < i
  cov : ∀ i, c ≤ i → i < all.length → ∀ j, j < i → j ∈ (befs all []).getD i []
theorem DrawAt.mem {all : List Oper} {c : Nat} {st0 sth : St} {RS : List (Nat × Nat × AV)} (D : DrawAt E all c st0 sth RS) {e : Nat × Nat × AV} (he : e ∈ RS) : (all[e.1]?).bind vdst = some e.2.1 := by
  have hlt := D.lt e he
  have hl : e.1 < all.length := Nat.lt_of_lt_of_le hlt D.hc
  obtain ⟨d, av, rsn, l, h1, h2, h3, h4⟩ := D.at_ e.1 all[e.1] hlt (List.getElem?_eq_getElem hl)
  have : e = (e.1, d, av) := by
    rw [h1] at he
    rcases List.mem_append.1 he with he | he
    · exact absurd (h3 e he) (Nat.lt_irrefl _)
    · rcases List.mem_cons.1 he with he | he
      · exact he
      · exact absurd (h4 e he) (Nat.lt_irrefl _)
  rw [List.getElem?_eq_getElem hl, Option.bind_some, h2.vdst, this]
theorem DrawAt.same {all : List Oper} {c : Nat} {st0 sth : St} {RS : List (Nat × Nat × AV)} (D : DrawAt E all c st0 sth RS) {e e' : Nat × Nat × AV} (he : e ∈ RS) (he' : e' ∈ RS) (hi : e.1 = e'.1) : e = e' := by
  have hl : e.1 < all.length := Nat.lt_of_lt_of_le (D.lt e he) D.hc
  obtain ⟨d, av, rsn, l, h1, h2, h3, h4⟩ := D.at_ e.1 all[e.1] (D.lt e he) (List.getElem?_eq_getElem hl)
  have key : ∀ x ∈ RS, x.1 = e.1 → x = (e.1, d, av) := by
    intro x hx hxe
    rw [h1] at hx
    rcases List.mem_append.1 hx with hx | hx
    · have := h3 x hx; omega
    · rcases List.mem_cons.1 hx with hx | hx
      · exact hx
      · have := h4 x hx; omega
  rw [key e he rfl, key e' he' hi.symm]
/-- The last of those that tell a slot tells it. -/
theorem vis_top (p : Nat → Bool) (t : Nat) : ∀ {RS : List (Nat × Nat × AV)} {st : St}, RS.Pairwise (fun a b => b.1 < a.1) →
    (∃ e ∈ RS, p e.1 = true ∧ e.2.1 = t ∧ (∀ e' ∈ RS, p e'.1 = true → e'.2.1 = t → e'.1 ≤ e.1) ∧ get (vis p RS st) t = e.2.2) ∨ ((∀ e ∈ RS, p e.1 = true → e.2.1 ≠ t) ∧ get (vis p RS st) t = get st t)
  | [], st, _ => .inr ⟨fun e he => (by cases he), rfl⟩
  | (i, d, a) :: RS, st, hs => by
    obtain ⟨h1, h2⟩ := List.pairwise_cons.1 hs
    by_cases hp : p i = true ∧ d = t
    · obtain ⟨hp, rfl⟩ := hp
      refine .inl ⟨(i, d, a), List.mem_cons_self .., hp, rfl, fun e' he' _ _ => ?_, ?_⟩
      · rcases List.mem_cons.1 he' with rfl | he'
        · exact Nat.le_refl _
        · exact Nat.le_of_lt (h1 e' he')
      · simp only [vis]; rw [hp, cond_true, get_cons, if_pos rfl]
    · have hg : get (vis p ((i, d, a) :: RS) st) t = get (vis p RS st) t := by
        simp only [vis]
        cases hpi : p i with
        | false => rfl
        | true => rw [cond_true, get_cons, if_neg fun e => hp ⟨hpi, e⟩]
      rcases vis_top p t (st := st) h2 with ⟨e, he, q1, q2, q3, q4⟩ | ⟨q1, q2⟩
      · refine .inl ⟨e, List.mem_cons_of_mem _ he, q1, q2, fun e' he' r1 r2 => ?_, hg.trans q4⟩
        rcases List.mem_cons.1 he' with rfl | he'
        · exact absurd ⟨r1, r2⟩ hp
        · exact q3 e' he' r1 r2
      · refine .inr ⟨fun e he r1 r2 => ?_, hg.trans q2⟩
        rcases List.mem_cons.1 he with rfl | he
        · exact hp ⟨r1, r2⟩
        · exact q1 e he r1 r2
theorem DrawAt.vis_eq {all : List Oper} {c : Nat} {st0 sth : St} {RS : List (Nat × Nat × AV)} (D : DrawAt E all c st0 sth RS) {p : Nat → Bool} {st : St} {e : Nat × Nat × AV} (he : e ∈ RS) (hp : p e.1 = true) (hm : ∀ e' ∈ RS, p e'.1 = true → e'.2.1 = e.2.1 → e'.1 ≤ e.1) : get (vis p RS st) e.2.1 = e.2.2 := by
  rcases vis_top p e.2.1 (st := st) D.sorted with ⟨e1, h1, h2, h3, h4, h5⟩ | ⟨h1, _⟩
  · have := D.same h1 he (Nat.le_antisymm (hm e1 h1 h2 h3) (h4 e he hp rfl))
    rw [h5, this]
  · exact absurd rfl (h1 e he hp)
theorem all_listed {ops : List Oper} {listed : Array Bool} (D : ∀ (i : Nat) (o : Oper), ops[i]? = some o → ∀ e ∈ o.after.toList.filter (Region.binds .any), e.on < i) (hs : listed.size = ops.length) (hr : Region.ready .any ops.toArray listed = []) : ∀ i, i < ops.length → listed.getD i true = true := by
  intro i
  induction i using Nat.strongRecOn with
  | ind i ih =>
    intro hi
    cases hl : listed.getD i true with
    | true => rfl
    | false =>
      have : i ∈ Region.ready .any ops.toArray listed := ready_spec.2 ⟨hi, hl, fun o ho e he => by
        have hlt := D i o ho e he
        have := ih e.on hlt (by omega)
        have hsz : e.on < listed.size := by omega
        simpa [Array.getD, hsz] using this⟩
      rw [hr] at this; cases this
theorem DrawAt.edge {all : List Oper} {c : Nat} {st0 sth : St} {RS : List (Nat × Nat × AV)} (D : DrawAt E all c st0 sth RS) {i : Nat} {o : Oper} (ho : all[i]? = some o) {e : Edge} (he : e ∈ o.after.toList.filter (Region.binds .any)) : e.on < i := by
  have hi : i < all.length := (List.getElem?_eq_some_iff.1 ho).1
  refine D.low i hi e.on ?_
  rw [D.bef i o ho]
  exact List.mem_flatMap.2 ⟨e, he, List.mem_cons_self ..⟩
/-- Behind the drawn operations the rest comes in the order of the text. -/
theorem any_tail {all : List Oper} {c : Nat} {st0 sth : St} {RS : List (Nat × Nat × AV)} (D : DrawAt E all c st0 sth RS) (hE : EnvOk E) (hd : ∀ o ∈ all, ∀ x, o.dst = some x → x < E.nt) {k : St → Option R} {Q : Exit → Act → World → Prop} :
    ∀ (fuel m : Nat) (listed : Array Bool) (st : St) (a : Act) (cx : Cx), listed.size = all.length → (∀ j, j < all.length → listed.getD j true = decide (j < m)) → m + fuel = all.length → c ≤ m → Rel E w0 X st a cx → evOps E all (all.drop m) st k = some r →
      (∀ st' a' cx', Rel E w0 X st' a' cx' → cx'.N = cx.N → cx'.A = cx.A → k st' = some r → Q .normal a' cx'.w) → wpAny E.P .any all.toArray Q fuel listed a cx.w := by
  intro fuel
  induction fuel with
  | zero =>
    intro m listed st a cx hs hl hm hc h hav hQ
    obtain rfl : m = all.length := by omega
    rw [List.drop_length] at hav
    refine ⟨?_, hQ st a cx h rfl rfl hav⟩
    cases hr : Region.ready .any all.toArray listed with
    | nil => rfl
    | cons x xs =>
      have hx : x ∈ Region.ready .any all.toArray listed := by rw [hr]; exact List.mem_cons_self ..
      obtain ⟨h1, h2, _⟩ := ready_spec.1 hx
      rw [hl x h1] at h2
      simp at h2; omega
  | succ fuel ih =>
    intro m listed st a cx hs hl hm hc h hav hQ
    have hmlt : m < all.length := by omega
    refine ⟨fun hr => ?_, fun i hi => ?_⟩
    · have := all_listed (fun i o ho e he => D.edge ho he) hs hr m hmlt
      rw [hl m hmlt] at this
      simp at this
    · obtain ⟨h1, h2, h3⟩ := ready_spec.1 hi
      have him : i = m := by
        rw [hl i h1] at h2
        have hge : m ≤ i := by simpa using h2
        rcases Nat.eq_or_lt_of_le hge with e | hlt
        · exact e.symm
        · exfalso
          have hmi := D.cov i (by omega) h1 m hlt
          have hlm : ∀ q ∈ (befs all []).getD i [], listed.getD q true = true := by
            rw [D.bef i _ (List.getElem?_eq_getElem h1)]
            intro q hq
            obtain ⟨e, he, hq⟩ := List.mem_flatMap.1 hq
            have hel := h3 _ (List.getElem?_eq_getElem h1) e he
            have hei := D.edge (List.getElem?_eq_getElem h1) he
            have hesz : e.on < listed.size := by omega
            have hel' : listed.getD e.on true = true := by simpa [Array.getD, hesz] using hel
            rcases List.mem_cons.1 hq with rfl | hq
            · exact hel'
            · rw [if_pos hei] at hq
              rw [hl e.on (by omega)] at hel'
              have hq1 := D.low e.on (by omega) q hq
              rw [hl q (by omega)]
              simp at hel' ⊢; omega
          have := hlm m hmi
          rw [hl m hmlt] at this
          simp at this
      subst him
      rw [List.drop_eq_getElem_cons hmlt] at hav
      refine step_sound hE (List.getElem?_eq_getElem hmlt) (hd _ (List.getElem_mem hmlt)) h hav fun st' a' cx' g1 g2 g3 g4 => ?_
      refine ih (i + 1) _ st' a' cx' (by simpa using hs) (fun j hj => ?_) (by omega) (by omega) g1 g4 fun st2 a2 cx2 q1 q2 q3 q4 => hQ st2 a2 cx2 q1 (q2.trans g2) (q3.trans g3) q4
      by_cases e : i = j
      · subst e
        have : i < listed.size := by omega
        simp [Array.getD, this]
      · have h5 := hl j hj
        have hjs : j < listed.size := by omega
        have : (listed.setIfInBounds i true).getD j true = listed.getD j true := by
          simp [Array.getD, hjs, Array.getElem_setIfInBounds_ne, e]
        rw [this, h5]
        congr 1
        apply propext
        constructor <;> intro <;> omega
end
end Go.Proofs.YtpggnjmmpkdkjaaGreat.Ev
