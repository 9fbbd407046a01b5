/- Points and rings are read, by both: the plain law. No condition. -/
import Derived.Test.YthabgkbpghpokaaDoorPDeg
import Derived.Test.YthabgkbpghpokaaDoorPRgv
namespace Go.Proofs.YthabgkbpghpokaaDoor.Ev
open Go Go.RowKit
set_option linter.unusedSimpArgs false
set_option linter.unusedVariables false
def R8 (p : List UInt8) : List D := [.s (bs p)]
theorem rs_map (ps : List (List UInt8)) (i : Nat) (h : i < ps.length) : rs (ps.map R8) (i : Int) 0 = bs ps[i] := by
  unfold rs
  rw [Int.toNat_natCast, List.getD_eq_getElem?_getD, List.getElem?_map, List.getElem?_eq_getElem h]; rfl
/-! ### Pieces, by the reference -/
theorem split_l0 (k : Nat) (l : List UInt8) (c : UInt8) (hl : l.length ≤ 1073741824) : ∀ (d f i st : Nat) (done : List (List UInt8)), i + d = l.length → st ≤ i → done.length ≤ i →
    ∃ (done' : List (List UInt8)) (st' : Nat), spec_l01Split_l0 k (d + 1 + f) (bs l) (c.toNat : Int) [] (done.map R8) st i = some [.i 0, .s (bs l), .i (c.toNat : Int), .l [], .l (done'.map R8), .i st', .i l.length] ∧ st' ≤ l.length ∧ done'.length ≤ l.length ∧ done' ++ [l.drop st'] = done ++ glue ((l.take i).drop st) (spl c (l.drop i))
  | 0, f, i, st, done, h, hs, hd => by
    obtain rfl : i = l.length := by omega
    refine ⟨done, st, ?_, hs, hd, ?_⟩
    · rw [show 0 + 1 + f = f + 1 by omega, spec_l01Split_l0]
      dsimp only
      rw [bs_size, bif_f (ltI_f (by omega))]
    · rw [List.take_length, List.drop_length]
      show _ = done ++ [l.drop st ++ []]
      rw [List.append_nil]
  | d + 1, f, i, st, done, h, hs, hd => by
    have hi : i < l.length := by omega
    have hb := bt_at l i l[i] (List.getElem?_eq_getElem hi)
    rw [show d + 1 + 1 + f = (d + 1 + f) + 1 by omega, spec_l01Split_l0]
    dsimp only
    rw [bs_size, hb, bif_t (ltI_t (by omega)), bif_t (inR_t (by omega) (by omega)), wsucc i (by omega), List.drop_eq_getElem_cons hi, spl]
    by_cases hc : l[i] = c
    · have hext := ext_mid l st i
      rw [bif_t (beq_t (by rw [hc])), bif_t (inS_t (by omega) (by omega) (by omega)), hext, if_pos hc]
      have hone : (List.map R8 done ++ [[D.s (bs (List.drop st (List.take i l)))]]) = (done ++ [(l.take i).drop st]).map R8 := by rw [List.map_append]; rfl
      rw [bif_t (apOk_t (by rw [List.length_map]; simp; omega) (by rw [List.length_map]; simp; omega)), hone]
      obtain ⟨done', st', e1, e2, e3, e4⟩ := split_l0 k l c hl d f (i + 1) (i + 1) (done ++ [(l.take i).drop st]) (by omega) (by omega) (by rw [List.length_append, List.length_singleton]; omega)
      refine ⟨done', st', e1, e2, e3, ?_⟩
      rw [e4]
      have h0 : (l.take (i + 1)).drop (i + 1) = [] := List.drop_eq_nil_of_le (by rw [List.length_take]; omega)
      rw [h0, glue_nil (spl_ne c _), List.append_assoc]
      show _ = done ++ (((l.take i).drop st ++ []) :: _)
      rw [List.append_nil]; rfl
    · rw [bif_f (beq_f fun e => hc (UInt8.toNat_inj.1 (by omega))), if_neg hc]
      obtain ⟨done', st', e1, e2, e3, e4⟩ := split_l0 k l c hl d f (i + 1) st done (by omega) (by omega) (by omega)
      refine ⟨done', st', e1, e2, e3, ?_⟩
      rw [e4, glue_glue]
      congr 2
      rw [List.take_add_one, List.getElem?_eq_getElem hi, List.drop_append_of_le_length (by rw [List.length_take]; omega)]
      rfl
theorem split_some (k : Nat) (l : List UInt8) (c : UInt8) (hl : l.length ≤ 1073741824) (hk : l.length < k) : spec_l01Split k (bs l) (c.toNat : Int) = some [.l ((spl c l).map R8)] := by
  obtain ⟨done', st', e1, e2, e3, e4⟩ := split_l0 k l c hl l.length (k - l.length - 1) 0 0 [] (by omega) (by omega) (by simp)
  rw [show l.length + 1 + (k - l.length - 1) = k by omega] at e1
  have e1' : spec_l01Split_l0 k k (bs l) (c.toNat : Int) [] [] 0 0 = _ := e1
  rw [List.nil_append, List.take_zero, List.drop_nil, List.drop_zero, glue_nil (spl_ne c l)] at e4
  unfold spec_l01Split
  rw [e1', Option.bind_some]
  simp only [giS, gi0, gsS, gs0, glS, gl0, bs_size]
  have hext := ext_mid l st' l.length
  rw [List.take_length] at hext
  rw [bif_t (inS_t (by omega) (by omega) (by omega)), hext, bif_t (apOk_t (by rw [List.length_map]; simp; omega) (by rw [List.length_map]; simp; omega)), ← e4, List.map_append]
  rfl
theorem spl_length (c : UInt8) : ∀ l : List UInt8, (spl c l).length ≤ l.length + 1
  | [] => Nat.le_refl _
  | b :: l => by
    have ih := spl_length c l
    rw [spl]
    split
    · simp only [List.length_cons]; omega
    · have hg : ∀ ps : List (List UInt8), ps ≠ [] → (glue [b] ps).length = ps.length := fun ps h => by cases ps with | nil => exact absurd rfl h | cons p ps => rfl
      rw [hg _ (spl_ne c l), List.length_cons]; omega
theorem spl_mem (c : UInt8) : ∀ l : List UInt8, ∀ p ∈ spl c l, p.length ≤ l.length
  | [], p, h => by obtain rfl := List.mem_singleton.1 h; exact Nat.le_refl _
  | b :: l, p, h => by
    have ih := spl_mem c l
    rw [spl] at h
    split at h
    · rcases List.mem_cons.1 h with rfl | h
      · simp
      · have := ih p h; simp only [List.length_cons]; omega
    · generalize hs : spl c l = ps at h ih
      cases ps with
      | nil => exact absurd hs (spl_ne c l)
      | cons q ps =>
        rcases List.mem_cons.1 h with rfl | h
        · have := ih q (List.mem_cons_self ..); simp only [List.length_append, List.length_cons, List.length_nil]; omega
        · have := ih p (List.mem_cons_of_mem _ h); simp only [List.length_cons]; omega
theorem spl2_mem : ∀ l : List UInt8, 2 * (spl2 l).length ≤ l.length + 2 ∧ ∀ p ∈ spl2 l, p.length ≤ l.length
  | [] => ⟨Nat.le_refl _, fun p h => by obtain rfl := List.mem_singleton.1 h; exact Nat.le_refl _⟩
  | [b] => ⟨by show 2 * 1 ≤ 1 + 2; omega, fun p h => by obtain rfl := List.mem_singleton.1 h; exact Nat.le_refl _⟩
  | b :: c :: l => by
    rw [spl2]
    split
    · obtain ⟨h1, h2⟩ := spl2_mem l
      refine ⟨by simp only [List.length_cons]; omega, fun p h => ?_⟩
      rcases List.mem_cons.1 h with rfl | h
      · simp
      · have := h2 p h; simp only [List.length_cons]; omega
    · obtain ⟨h1, h2⟩ := spl2_mem (c :: l)
      have hn := spl2_ne (c :: l)
      generalize spl2 (c :: l) = ps at h1 h2 hn
      cases ps with
      | nil => exact absurd rfl hn
      | cons q ps =>
        refine ⟨by show 2 * (_ :: ps).length ≤ _; simp only [List.length_cons] at h1 ⊢; omega, fun p h => ?_⟩
        rcases List.mem_cons.1 h with rfl | h
        · have := h2 q (List.mem_cons_self ..); simp only [List.length_append, List.length_cons, List.length_nil] at this ⊢; omega
        · have := h2 p (List.mem_cons_of_mem _ h); simp only [List.length_cons] at this ⊢; omega
/-! ### A point -/
def encP : Option (Int × Int) → List D
  | none => [.i 0, .i 0, .b false]
  | some p => [.i p.1, .i p.2, .b true]
def fitP (b1 b2 : Bool) (v1 v2 : Int) : Option (Int × Int) := bif b1 && b2 && PtB v1 v2 then some (v1, v2) else none
theorem fit_some {b1 b2 : Bool} {v1 v2 : Int} {p : Int × Int} (h : fitP b1 b2 v1 v2 = some p) : b1 = true ∧ b2 = true ∧ PtB v1 v2 = true ∧ p = (v1, v2) := by
  unfold fitP at h
  cases hb : (b1 && b2 && PtB v1 v2) with
  | false => rw [hb] at h; cases h
  | true =>
    rw [hb] at h
    simp only [Bool.and_eq_true] at hb
    exact ⟨hb.1.1, hb.1.2, hb.2, (Option.some.inj h).symm⟩
theorem PtB_rng {a b : Int} (h : PtB a b = true) : (-2000000000 ≤ a ∧ a ≤ 2000000000) ∧ -2000000000 ≤ b ∧ b ≤ 2000000000 := by
  have := PtB_iff.1 h
  omega
theorem fit_same {p q : List UInt8} {v1 v2 w1 w2 : Int} {b1 b2 c1 c2 : Bool} (r1 : b1 = true → p = uT v1 7) (r2 : b2 = true → q = uT v2 7)
    (s1 : ∀ m : Int, -2000000000 ≤ m ∧ m ≤ 2000000000 → p = uT m 7 → c1 = true ∧ w1 = m) (s2 : ∀ m : Int, -2000000000 ≤ m ∧ m ≤ 2000000000 → q = uT m 7 → c2 = true ∧ w2 = m) (x : Int × Int) (h : fitP b1 b2 v1 v2 = some x) : fitP c1 c2 w1 w2 = some x := by
  obtain ⟨h1, h2, h3, rfl⟩ := fit_some h
  obtain ⟨g1, g2⟩ := PtB_rng h3
  obtain ⟨rfl, rfl⟩ := s1 _ g1 (r1 h1)
  obtain ⟨rfl, rfl⟩ := s2 _ g2 (r2 h2)
  unfold fitP
  rw [h3]; rfl
theorem opt_eq {α : Type} {a b : Option α} (h1 : ∀ x, a = some x → b = some x) (h2 : ∀ x, b = some x → a = some x) : a = b := by
  cases a with
  | some x => rw [h1 x rfl]
  | none => cases b with
    | none => rfl
    | some x => rw [h2 x rfl]
theorem point_fit (k : Nat) (b1 b2 : Bool) (v1 v2 : Int) (f : Option (List D)) (hf : f = some [.b (PtB v1 v2)]) : (bif (!b1) then some [.i 0, .i 0, .b false] else (bif (!b2) then some [.i 0, .i 0, .b false] else f.bind fun t4 => (bif (!(gb t4 0)) then some [.i 0, .i 0, .b false] else some [.i v1, .i v2, .b true]))) = some (encP (fitP b1 b2 v1 v2)) := by
  unfold fitP
  rw [hf]
  cases b1 <;> cases b2 <;> cases PtB v1 v2 <;> rfl
theorem point_same (k : Nat) (l : List UInt8) (hl : l.length ≤ 1073741824) (hk : l.length + 50 ≤ k) : ∃ r, spec_ReadPoint k (bs l) = some (encP r) ∧ impl_ReadPoint k (bs l) = some (encP r) ∧ (59 ∈ l → r = none) := by
  have hs := split_some k l 32 hl (by omega)
  have hs' : spec_l01Split k (bs l) 32 = some [.l ((spl 32 l).map R8)] := hs
  unfold spec_ReadPoint impl_ReadPoint
  rw [hs', c32, Option.bind_some]
  simp only [gl0, List.length_map]
  rcases cut_cases 32 l with ⟨h0, hc⟩ | ⟨p, q, rfl, hp, hc⟩
  · rw [cutA_some l 32 hl l [] false hc, Option.bind_some, spl_none 32 l h0]
    simp only [gs0, gsS]
    obtain ⟨v1, b1, e1, _⟩ := idegrees k (by omega) l hl
    obtain ⟨v2, b2, e2, h2, _⟩ := idegrees k (by omega) [] (by simp)
    have hb2 : b2 = false := by
      cases b2 with
      | false => rfl
      | true => have := congrArg List.length (h2 rfl); unfold uT at this; simp at this
    subst hb2
    rw [e1, e2]
    simp only [Option.bind_some, gb0, gbS, gi0]
    refine ⟨none, rfl, ?_, fun _ => rfl⟩
    cases b1 <;> rfl
  · rw [List.length_append, List.length_cons] at hl hk
    rw [cutA_some _ 32 (by rw [List.length_append, List.length_cons]; omega) p q true hc, Option.bind_some, spl_cut 32 p q hp]
    simp only [gs0, gsS]
    obtain ⟨w1, c1, f1, s1, s2⟩ := idegrees k (by omega) p (by omega)
    obtain ⟨w2, c2, f2, s3, s4⟩ := idegrees k (by omega) q (by omega)
    rw [f1, f2]
    simp only [Option.bind_some, gb0, gbS, gi0]
    rw [point_fit k c1 c2 w1 w2 _ (point_some k w1 w2)]
    have h59 : (59 : UInt8) ∈ p ++ 32 :: q → fitP c1 c2 w1 w2 = none := by
      intro hm
      cases hf : fitP c1 c2 w1 w2 with
      | none => rfl
      | some x =>
        obtain ⟨h1, h2, h3, rfl⟩ := fit_some hf
        obtain ⟨g1, g2⟩ := PtB_rng h3
        rcases List.mem_append.1 hm with hm | hm
        · rw [s1 h1] at hm; exact absurd rfl (uT_mem w1 g1 59 hm).2
        · rcases List.mem_cons.1 hm with hm | hm
          · cases hm
          · rw [s3 h2] at hm; exact absurd rfl (uT_mem w2 g2 59 hm).2
    by_cases hq : (32 : UInt8) ∈ q
    · have h2 : ((p :: spl 32 q).length : Int) ≠ 2 := by
        obtain ⟨q1, q2, rfl, hq1⟩ := List.eq_append_cons_of_mem hq
        rw [spl_cut 32 q1 q2 hq1]
        have := spl_ne 32 q2
        cases hx : spl 32 q2 with
        | nil => exact absurd hx this
        | cons a b => simp only [List.length_cons]; omega
      rw [bif_t (bne_t h2)]
      refine ⟨none, rfl, ?_, fun _ => rfl⟩
      cases hf : fitP c1 c2 w1 w2 with
      | none => rfl
      | some x =>
        obtain ⟨h1, h2, h3, rfl⟩ := fit_some hf
        rw [s3 h2] at hq
        exact absurd rfl (uT_mem w2 (PtB_rng h3).2 32 hq).1
    · rw [spl_none 32 q hq, bif_f (bne_f (show (([p, q] : List (List UInt8)).length : Int) = 2 from rfl)), bif_t (inR_t (by decide) (by simp only [List.length_cons, List.length_nil]; omega))]
      have r0 : rs (List.map R8 [p, q]) 0 0 = bs p := rfl
      have r1 : rs (List.map R8 [p, q]) 1 0 = bs q := rfl
      have i1 : inR 1 (([p, q] : List (List UInt8)).length : Int) = true := inR_t (by decide) (by simp only [List.length_cons, List.length_nil]; omega)
      simp only [r0, r1, i1, cond_true]
      obtain ⟨v1, b1, e1, t1, t2⟩ := lread k (by omega) p (by omega)
      obtain ⟨v2, b2, e2, t3, t4⟩ := lread k (by omega) q (by omega)
      rw [e1, e2]
      simp only [Option.bind_some, gb0, gbS, gi0]
      rw [point_fit k b1 b2 v1 v2 _ (pt_some k v1 v2)]
      have e : fitP b1 b2 v1 v2 = fitP c1 c2 w1 w2 := opt_eq (fit_same t1 t3 s2 s4) (fit_same s1 s3 t2 t4)
      rw [e]
      exact ⟨_, rfl, rfl, h59⟩
/-- What both read. -/
noncomputable def rp (k M : Nat) (l : List UInt8) : Option (Int × Int) := by
  classical exact if h : l.length ≤ M ∧ M ≤ 1073741824 ∧ M + 50 ≤ k then (point_same k l (by omega) (by omega)).choose else none
theorem rp_is (k M : Nat) (l : List UInt8) (h : l.length ≤ M ∧ M ≤ 1073741824 ∧ M + 50 ≤ k) : spec_ReadPoint k (bs l) = some (encP (rp k M l)) ∧ impl_ReadPoint k (bs l) = some (encP (rp k M l)) := by
  unfold rp
  rw [dif_pos h]
  have := (point_same k l (by omega) (by omega)).choose_spec
  exact ⟨this.1, this.2.1⟩
theorem rp_none (k M : Nat) (l : List UInt8) (h59 : 59 ∈ l) : rp k M l = none := by
  unfold rp
  split
  · rename_i h
    exact (point_same k l (by omega) (by omega)).choose_spec.2.2 h59
  · rfl
/-! ### Rings -/
def rowP (p : Int × Int) : List D := [.i p.1, .i p.2]
def rdAll (f : List UInt8 → Option (Int × Int)) : List (List UInt8) → Option (List (List D))
  | [] => some []
  | p :: ps => (f p).bind fun r => (rdAll f ps).bind fun rs => some (rowP r :: rs)
def st1 (f : List UInt8 → Option (Int × Int)) : List UInt8 → Option (Int × Int)
  | [] => none
  | b :: q => if b = 32 then f q else none
def rdS (f : List UInt8 → Option (Int × Int)) : List (List UInt8) → Option (List (List D))
  | [] => some []
  | p :: ps => (f p).bind fun r => (rdAll (st1 f) ps).bind fun rs => some (rowP r :: rs)
theorem rdAll_length (f : List UInt8 → Option (Int × Int)) : ∀ (ps : List (List UInt8)) rs, rdAll f ps = some rs → rs.length = ps.length
  | [], rs, h => by obtain rfl := Option.some.inj h; rfl
  | p :: ps, rs, h => by
    rw [rdAll] at h
    obtain ⟨r, h1, h2⟩ := Option.bind_eq_some_iff.1 h
    obtain ⟨rs', h3, h4⟩ := Option.bind_eq_some_iff.1 h2
    obtain rfl := Option.some.inj h4
    rw [List.length_cons, List.length_cons, rdAll_length f ps rs' h3]
theorem rdS_length (f : List UInt8 → Option (Int × Int)) (ps : List (List UInt8)) (rs) (h : rdS f ps = some rs) : rs.length = ps.length := by
  cases ps with
  | nil => obtain rfl := Option.some.inj h; rfl
  | cons p ps =>
    rw [rdS] at h
    obtain ⟨r, h1, h2⟩ := Option.bind_eq_some_iff.1 h
    obtain ⟨rs', h3, h4⟩ := Option.bind_eq_some_iff.1 h2
    obtain rfl := Option.some.inj h4
    rw [List.length_cons, List.length_cons, rdAll_length _ ps rs' h3]
theorem strip_glue (f : List UInt8 → Option (Int × Int)) : ∀ ps : List (List UInt8), ps ≠ [] → rdAll (st1 f) (glue [32] ps) = rdS f ps
  | [], h => absurd rfl h
  | p :: ps, _ => by
    show ((st1 f (32 :: p)).bind _) = _
    rw [st1, if_pos rfl]; rfl
theorem none_head (f : List UInt8 → Option (Int × Int)) (hf : ∀ l, 59 ∈ l → f l = none) (cur : List UInt8) (h : 59 ∈ cur) : ∀ ps, rdAll f (glue cur ps) = none
  | [] => by show (f cur).bind _ = none; rw [hf cur h]; rfl
  | p :: ps => by show (f (cur ++ p)).bind _ = none; rw [hf (cur ++ p) (List.mem_append_left _ h)]; rfl
theorem rd_same (f : List UInt8 → Option (Int × Int)) (hf : ∀ l, 59 ∈ l → f l = none) : ∀ (l cur : List UInt8), rdS f (glue cur (spl 59 l)) = rdAll f (glue cur (spl2 l))
  | [], cur => rfl
  | [b], cur => by
    by_cases hb : b = 59
    · subst hb
      have e1 : glue cur (spl2 [59]) = glue (cur ++ [59]) [[]] := by show [cur ++ [59]] = [cur ++ [59] ++ []]; rw [List.append_nil]
      rw [e1, none_head f hf _ (by simp)]
      rw [spl, if_pos rfl]
      show ((f (cur ++ [])).bind fun r => (rdAll (st1 f) [[]]).bind fun rs => some (rowP r :: rs)) = none
      cases f (cur ++ []) <;> rfl
    · rw [spl, if_neg hb]
      show rdS f [cur ++ [b]] = rdAll f [cur ++ [b]]
      rfl
  | b :: c :: l, cur => by
    by_cases hb : b = 59
    · subst hb
      rw [spl, if_pos rfl, spl2]
      by_cases hc : c = 32
      · subst hc
        rw [if_pos ⟨rfl, rfl⟩, spl, if_neg (by decide)]
        show ((f (cur ++ [])).bind fun r => (rdAll (st1 f) (glue [32] (spl 59 l))).bind fun rs => some (rowP r :: rs)) = ((f (cur ++ [])).bind fun r => (rdAll f (spl2 l)).bind fun rs => some (rowP r :: rs))
        have ih := rd_same f hf l []
        rw [glue_nil (spl_ne 59 l), glue_nil (spl2_ne l)] at ih
        rw [strip_glue f _ (spl_ne 59 l), ih]
      · rw [if_neg (fun h => hc h.2), glue_glue, none_head f hf _ (by simp)]
        show ((f (cur ++ [])).bind fun r => (rdAll (st1 f) (spl 59 (c :: l))).bind fun rs => some (rowP r :: rs)) = none
        have e : rdAll (st1 f) (spl 59 (c :: l)) = none := by
          rw [spl]
          split
          · rfl
          · cases hx : spl 59 l with
            | nil => exact absurd hx (spl_ne 59 l)
            | cons p ps =>
              show ((st1 f (c :: p)).bind _) = none
              rw [st1, if_neg hc]; rfl
        rw [e]
        cases f (cur ++ []) <;> rfl
    · rw [spl, if_neg hb, glue_glue, spl2, if_neg (fun h => hb h.1), glue_glue]
      exact rd_same f hf (c :: l) (cur ++ [b])
theorem iring_l0 (k M : Nat) (hM : M ≤ 1073741824) (hk : M + 50 ≤ k) (ps : List (List UInt8)) (hl : ps.length ≤ 1073741824) (hp : ∀ p ∈ ps, p.length ≤ M) : ∀ (d f i : Nat) (acc : List (List D)), i + d = ps.length → acc.length = i →
    (∀ rs, rdAll (rp k M) (ps.drop i) = some rs → impl_ReadRing_l0 k (d + 1 + f) [] false acc (ps.map R8) (ps.length : Int) i = some [.i 0, .l [], .b false, .l (acc ++ rs), .l (ps.map R8), .i (ps.length : Int), .i (ps.length : Int)]) ∧
    (rdAll (rp k M) (ps.drop i) = none → ∃ t, impl_ReadRing_l0 k (d + 1 + f) [] false acc (ps.map R8) (ps.length : Int) i = some (.i 1 :: .l [] :: .b false :: t))
  | 0, f, i, acc, h, ha => by
    obtain rfl : i = ps.length := by omega
    rw [List.drop_length]
    refine ⟨fun rs e => ?_, fun e => by cases e⟩
    obtain rfl := Option.some.inj e
    rw [show 0 + 1 + f = f + 1 by omega, impl_ReadRing_l0, bif_f (ltI_f (by omega)), List.append_nil]
  | d + 1, f, i, acc, h, ha => by
    have hi : i < ps.length := by omega
    have e1 := (rp_is k M ps[i] ⟨hp _ (List.getElem_mem hi), hM, hk⟩).2
    rw [show d + 1 + 1 + f = (d + 1 + f) + 1 by omega, impl_ReadRing_l0, bif_t (ltI_t (by omega)), bif_t (inR_t (by omega) (by rw [List.length_map]; omega)), rs_map ps i hi, e1, Option.bind_some, List.drop_eq_getElem_cons hi, wsucc i (by omega)]
    rw [rdAll]
    cases hr : rp k M ps[i] with
    | none => exact ⟨fun rs e => (by cases e), fun _ => ⟨_, rfl⟩⟩
    | some r =>
      simp only [encP, gb0, gbS, giS, gi0, Bool.not_true, cond_false, Option.bind_some]
      rw [bif_t (apOk_t (by simp; omega) (by simp; omega))]
      obtain ⟨h1, h2⟩ := iring_l0 k M hM hk ps hl hp d f (i + 1) (acc ++ [rowP r]) (by omega) (by rw [List.length_append, List.length_singleton]; omega)
      refine ⟨fun rs e => ?_, fun e => ?_⟩
      · obtain ⟨rs', h3, h4⟩ := Option.bind_eq_some_iff.1 e
        obtain rfl := Option.some.inj h4
        have := h1 rs' h3
        rw [List.append_assoc] at this
        exact this
      · cases hx : rdAll (rp k M) (ps.drop (i + 1)) with
        | none => exact h2 hx
        | some rs' => rw [hx] at e; cases e
theorem lring_l0 (k M : Nat) (hM : M ≤ 1073741824) (hk : M + 50 ≤ k) (ps : List (List UInt8)) (hl : ps.length ≤ 1073741824) (hp : ∀ p ∈ ps, p.length ≤ M) : ∀ (d f i : Nat) (acc : List (List D)), 0 < i → i + d = ps.length → acc.length = i →
    (∀ rs, rdAll (st1 (rp k M)) (ps.drop i) = some rs → spec_ReadRing_l0 k (d + 1 + f) [] false (ps.map R8) acc i = some [.i 0, .l [], .b false, .l (ps.map R8), .l (acc ++ rs), .i (ps.length : Int)]) ∧
    (rdAll (st1 (rp k M)) (ps.drop i) = none → ∃ t, spec_ReadRing_l0 k (d + 1 + f) [] false (ps.map R8) acc i = some (.i 1 :: .l [] :: .b false :: t))
  | 0, f, i, acc, h0, h, ha => by
    obtain rfl : i = ps.length := by omega
    rw [List.drop_length]
    refine ⟨fun rs e => ?_, fun e => by cases e⟩
    obtain rfl := Option.some.inj e
    rw [show 0 + 1 + f = f + 1 by omega, spec_ReadRing_l0, List.length_map, bif_f (ltI_f (by omega)), List.append_nil]
  | d + 1, f, i, acc, h0, h, ha => by
    have hi : i < ps.length := by omega
    have hpi := hp _ (List.getElem_mem hi)
    rw [show d + 1 + 1 + f = (d + 1 + f) + 1 by omega, spec_ReadRing_l0, List.length_map, bif_t (ltI_t (by omega)), bif_t (inR_t (by omega) (by omega)), bif_t (ltI_t (by omega)), rs_map ps i hi, List.drop_eq_getElem_cons hi, wsucc i (by omega), rdAll]
    dsimp only
    rw [c0, bs_beq]
    generalize ps[i] = p at hpi
    cases p with
    | nil =>
      rw [decide_eq_true rfl]
      exact ⟨fun rs e => (by cases e), fun _ => ⟨_, rfl⟩⟩
    | cons b q =>
      have hb : bt (bs (b :: q)) 0 = (b.toNat : Int) := bt_at (b :: q) 0 b rfl
      rw [decide_eq_false (List.cons_ne_nil _ _), cond_false, bs_size, bif_t (inR_t (by decide) (by rw [List.length_cons]; omega)), hb, st1]
      by_cases h32 : b = 32
      · subst h32
        have hext : ByteArray.extract (bs (32 :: q)) (Int.toNat 1) (Int.toNat ((32 :: q).length : Int)) = bs q := by
          have := ext_mid (32 :: q) 1 (32 :: q).length
          rw [List.take_length] at this
          exact this
        rw [List.length_cons] at hpi
        have e1 := (rp_is k M q ⟨by omega, hM, hk⟩).1
        rw [bif_f (bne_f (by decide)), bif_t (inS_t (by decide) (by rw [List.length_cons]; omega) (Int.le_refl _)), hext, e1, if_pos rfl, Option.bind_some]
        cases hr : rp k M q with
        | none => exact ⟨fun rs e => (by cases e), fun _ => ⟨_, rfl⟩⟩
        | some r =>
          simp only [encP, gb0, gbS, giS, gi0, Bool.not_true, cond_false, Option.bind_some]
          rw [bif_t (apOk_t (by simp; omega) (by simp; omega))]
          obtain ⟨h1, h2⟩ := lring_l0 k M hM hk ps hl hp d f (i + 1) (acc ++ [rowP r]) (by omega) (by omega) (by rw [List.length_append, List.length_singleton]; omega)
          refine ⟨fun rs e => ?_, fun e => ?_⟩
          · obtain ⟨rs', h3, h4⟩ := Option.bind_eq_some_iff.1 e
            obtain rfl := Option.some.inj h4
            have := h1 rs' h3
            rw [List.append_assoc] at this
            exact this
          · cases hx : rdAll (st1 (rp k M)) (ps.drop (i + 1)) with
            | none => exact h2 hx
            | some rs' => rw [hx] at e; cases e
      · have hne : ((b.toNat : Int)) ≠ 32 := fun h => h32 (UInt8.toNat_inj.1 (by show b.toNat = 32; omega))
        rw [bif_t (bne_t hne), if_neg h32]
        exact ⟨fun rs e => (by cases e), fun _ => ⟨_, rfl⟩⟩
theorem lring_first (k M : Nat) (hM : M ≤ 1073741824) (hk : M + 50 ≤ k) (ps : List (List UInt8)) (hn : ps ≠ []) (hl : ps.length ≤ 1073741824) (hp : ∀ p ∈ ps, p.length ≤ M) (hk2 : ps.length < k) :
    (∀ rs, rdS (rp k M) ps = some rs → spec_ReadRing_l0 k k [] false (ps.map R8) [] 0 = some [.i 0, .l [], .b false, .l (ps.map R8), .l rs, .i (ps.length : Int)]) ∧
    (rdS (rp k M) ps = none → ∃ t, spec_ReadRing_l0 k k [] false (ps.map R8) [] 0 = some (.i 1 :: .l [] :: .b false :: t)) := by
  cases ps with
  | nil => exact absurd rfl hn
  | cons p ps =>
    have e1 := (rp_is k M p ⟨hp _ (List.mem_cons_self ..), hM, hk⟩).1
    obtain ⟨f, hf⟩ : ∃ f, k = (ps.length + 1 + f) + 1 := ⟨k - ps.length - 2, by rw [List.length_cons] at hk2; omega⟩
    have hrs : rs (List.map R8 (p :: ps)) 0 0 = bs p := rfl
    have st : spec_ReadRing_l0 k k [] false ((p :: ps).map R8) [] 0 = (spec_ReadPoint k (bs p)).bind fun t6 => (bif (!(gb t6 2)) then some [.i 1, .l [], .b false, .l ((p :: ps).map R8), .l [], .i 0] else spec_ReadRing_l0 k (ps.length + 1 + f) [] false ((p :: ps).map R8) ([] ++ [[.i (gi t6 0), .i (gi t6 1)]]) ((1 : Nat) : Int)) := by
      conv => lhs; rw [show spec_ReadRing_l0 k k = spec_ReadRing_l0 k ((ps.length + 1 + f) + 1) by rw [← hf]]
      rw [spec_ReadRing_l0, List.length_map, bif_t (ltI_t (by rw [List.length_cons]; omega)), bif_t (inR_t (by decide) (by rw [List.length_cons]; omega)), bif_f (ltI_f (by decide)), hrs]
      rfl
    rw [st, e1, Option.bind_some, rdS]
    cases hr : rp k M p with
    | none => exact ⟨fun rs e => (by cases e), fun _ => ⟨_, rfl⟩⟩
    | some r =>
      simp only [encP, gb0, gbS, giS, gi0, Bool.not_true, cond_false, Option.bind_some]
      obtain ⟨h1, h2⟩ := lring_l0 k M hM hk (p :: ps) hl hp ps.length f 1 ([] ++ [rowP r]) (by decide) (by rw [List.length_cons]; omega) rfl
      rw [show List.drop 1 (p :: ps) = ps from rfl] at h1 h2
      refine ⟨fun rs e => ?_, fun e => ?_⟩
      · obtain ⟨rs', h3, h4⟩ := Option.bind_eq_some_iff.1 e
        obtain rfl := Option.some.inj h4
        exact h1 rs' h3
      · cases hx : rdAll (st1 (rp k M)) ps with
        | none => exact h2 hx
        | some rs' => rw [hx] at e; cases e
theorem RingB_big {xs : List (List D)} (h : 24 < xs.length) : RingB xs = false := by
  unfold RingB
  rw [leI_f (show (24 : Int) < _ by omega), Bool.and_false, Bool.false_and]
theorem ring_same (k : Nat) (hk : 1048700 ≤ k) (l : List UInt8) (hl : l.length ≤ 1048576) : ∃ (rs : List (List D)) (b : Bool), rs.length ≤ 1048577 ∧ spec_ReadRing k (bs l) = some [.l rs, .b b] ∧ impl_ReadRing k (bs l) = some [.l rs, .b b] := by
  have hsp := split_some k l 59 (by omega) (by omega)
  have hsp' : spec_l01Split k (bs l) 59 = some [.l ((spl 59 l).map R8)] := hsp
  have l1 := spl_length 59 l
  have m1 := spl_mem 59 l
  obtain ⟨l2, m2⟩ := spl2_mem l
  have hsame := rd_same (rp k 1048576) (rp_none k 1048576) l []
  rw [glue_nil (spl_ne 59 l), glue_nil (spl2_ne l)] at hsame
  -- the program
  have hA : splitA (bs l) (⟨#[59, 32]⟩ : ByteArray) = some [.l ((spl2 l).map R8)] := by
    unfold splitA
    rw [bif_t (by rw [bs_size, decide_eq_true (by omega)]; rfl)]
    have e : splitL (bs l) (⟨#[59, 32]⟩ : ByteArray) = (spl2 l).map bs := by
      unfold splitL
      have h1 := Lib.splitB_data (⟨#[59, 32]⟩ : ByteArray) 0 (Lib.countB (bs l) ⟨#[59, 32]⟩) (bs l)
      rw [bs_data, show (⟨#[59, 32]⟩ : ByteArray).data.toList = [59, 32] from rfl] at h1
      have h2 : Lib.countB (bs l) ⟨#[59, 32]⟩ = Lib.count l [59, 32] := by
        show Lib.count (bs l).data.toList _ = _
        rw [bs_data]
      rw [h2] at h1 ⊢
      rw [split_spl2] at h1
      rw [← h1, List.map_map]
      refine ((List.map_congr_left (g := id) fun s _ => ?_).trans (List.map_id _)).symm
      exact (bs_eta s).symm
    rw [e, List.map_map]
    rfl
  have hi := iring_l0 k 1048576 (by omega) (by omega) (spl2 l) (by omega) (fun p hp => by have := m2 p hp; omega) (spl2 l).length (k - (spl2 l).length - 1) 0 [] (by omega) rfl
  rw [show (spl2 l).length + 1 + (k - (spl2 l).length - 1) = k by omega, List.drop_zero] at hi
  have hs := lring_first k 1048576 (by omega) (by omega) (spl 59 l) (spl_ne 59 l) (by omega) (fun p hp => by have := m1 p hp; omega) (by omega)
  unfold spec_ReadRing impl_ReadRing
  rw [hsp', hA, Option.bind_some, Option.bind_some]
  simp only [gl0, List.length_map]
  cases hr : rdAll (rp k 1048576) (spl2 l) with
  | none =>
    obtain ⟨t, e1⟩ := hi.2 hr
    have e1' : impl_ReadRing_l0 k k [] false [] ((spl2 l).map R8) ((spl2 l).length : Int) 0 = _ := e1
    obtain ⟨t', e2⟩ := hs.2 (hsame.trans hr)
    rw [e1', e2]
    refine ⟨[], false, by simp, ?_, rfl⟩
    cases ltI 24 ((spl 59 l).length : Int) <;> rfl
  | some rs =>
    have e1 := hi.1 rs hr
    have e1' : impl_ReadRing_l0 k k [] false [] ((spl2 l).map R8) ((spl2 l).length : Int) 0 = _ := e1
    have e2 := hs.1 rs (hsame.trans hr)
    have n1 := rdAll_length _ _ _ hr
    have n2 := rdS_length _ _ _ (hsame.trans hr)
    obtain ⟨v1, v2⟩ := ringr k rs (by omega) (by omega)
    rw [e1', e2, Option.bind_some, Option.bind_some]
    simp only [giS, gi0, glS, gl0, gbS, gb0, List.nil_append]
    rw [v1, v2]
    simp only [Option.bind_some, gb0]
    by_cases h24 : 24 < (spl 59 l).length
    · rw [bif_t (ltI_t (by omega)), RingB_big (by omega)]
      exact ⟨[], false, by simp, rfl, rfl⟩
    · rw [bif_f (ltI_f (by omega))]
      cases RingB rs with
      | false => exact ⟨[], false, by simp, rfl, rfl⟩
      | true => exact ⟨rs, true, by omega, rfl, rfl⟩
/-! ### Marks -/
def mk2 (n : Nat) : List (List D) := (List.range n).map fun (j : Nat) => [.i (2 * (j : Int) + 1), .i (2 * (j : Int) + 2)]
theorem mk2_length (n : Nat) : (mk2 n).length = n := by unfold mk2; simp
theorem mk2_succ (n : Nat) : mk2 (n + 1) = mk2 n ++ [[.i (2 * (n : Int) + 1), .i (2 * (n : Int) + 2)]] := by unfold mk2; rw [List.range_succ, List.map_append]; rfl
theorem mark_l0 (k : Nat) (xs : List (List D)) (x2 : Int) (hn : xs.length ≤ 1073741824) : ∀ (d n i : Nat), i + d = xs.length → laws_markPointS_l0 k (d + 1 + n) (mk2 i ++ xs.drop i) (2 * (i : Int) + 1) x2 i = some [.i 0, .l (mk2 xs.length), .i (2 * (xs.length : Int) + 1), .i x2, .i xs.length]
  | 0, n, i, h => by
    obtain rfl : i = xs.length := by omega
    rw [show 0 + 1 + n = n + 1 by omega, laws_markPointS_l0, List.drop_length, List.append_nil, mk2_length, bif_f (ltI_f (by omega))]
  | d + 1, n, i, h => by
    have hi : i < xs.length := by omega
    have hlen : (mk2 i ++ xs.drop i).length = xs.length := by rw [List.length_append, mk2_length, List.length_drop]; omega
    have hset : ∀ r : List D, (mk2 i ++ xs.drop i).set i r = (mk2 i ++ [r]) ++ xs.drop (i + 1) := fun r => by
      rw [List.drop_eq_getElem_cons hi, List.set_append_right _ _ (by rw [mk2_length]; omega), mk2_length, Nat.sub_self, List.set_cons_zero, List.append_assoc]; rfl
    have w1 : IntKind.wrap .i64 (2 * (i : Int) + 1 + 1) = 2 * (i : Int) + 2 := by rw [wr _ (by omega) (by omega)]; omega
    have w2 : IntKind.wrap .i64 (2 * (i : Int) + 2 + 1) = 2 * ((i + 1 : Nat) : Int) + 1 := by rw [wr _ (by omega) (by omega)]; omega
    have hl2 : (setc (mk2 i ++ xs.drop i) (i : Int) 2 0 1 [.i (2 * (i : Int) + 1)]).length = xs.length := by rw [setc_eq, List.length_set, hlen]
    rw [show d + 1 + 1 + n = (d + 1 + n) + 1 by omega, laws_markPointS_l0, bif_t (ltI_t (by omega)), bif_t (inR_t (by omega) (by omega)), bif_t (inR_t (by omega) (by omega))]
    dsimp only
    rw [w1, w2, wsucc i (by omega)]
    have e : setc (setc (mk2 i ++ xs.drop i) (i : Int) 2 0 1 [.i (2 * (i : Int) + 1)]) (i : Int) 2 1 1 [.i (2 * (i : Int) + 2)] = mk2 (i + 1) ++ xs.drop (i + 1) := by
      rw [setc_eq, setc_eq, Int.toNat_natCast, List.set_set, hset, mk2_succ, List.getD_eq_getElem?_getD, List.getElem?_set_self (by omega)]
      rfl
    rw [e]
    exact mark_l0 k xs x2 hn d n (i + 1) (by omega)
theorem mark_some (k : Nat) (xs : List (List D)) (hn : xs.length ≤ 1073741824) (hk : xs.length < k) : laws_markPointS k xs 1 = some [.i (2 * (xs.length : Int) + 1), .l (mk2 xs.length)] := by
  have h0 := mark_l0 k xs 0 hn xs.length (k - xs.length - 1) 0 (by omega)
  rw [show xs.length + 1 + (k - xs.length - 1) = k by omega] at h0
  have h1 : laws_markPointS_l0 k k xs 1 0 0 = _ := h0
  unfold laws_markPointS
  rw [h1]; rfl
theorem mk2_ri (n i : Nat) (h : i < n) : ri (mk2 n) (i : Int) 0 = 2 * (i : Int) + 1 ∧ ri (mk2 n) (i : Int) 1 = 2 * (i : Int) + 2 := by
  unfold ri mk2
  rw [Int.toNat_natCast, List.getD_eq_getElem?_getD, List.getElem?_map, List.getElem?_range h]
  exact ⟨rfl, rfl⟩
theorem held_l0 (k m : Nat) (x2 : Int) (hm : m ≤ 1073741824) : ∀ (d n i : Nat), i + d = m → laws_heldPointS_l0 k (d + 1 + n) (mk2 m) (2 * (i : Int) + 1) x2 i = some [.i 0, .l (mk2 m), .i (2 * (m : Int) + 1), .i x2, .i m]
  | 0, n, i, h => by
    obtain rfl : i = m := by omega
    rw [show 0 + 1 + n = n + 1 by omega, laws_heldPointS_l0, mk2_length, bif_f (ltI_f (by omega))]
  | d + 1, n, i, h => by
    have hi : i < m := by omega
    obtain ⟨r0, r1⟩ := mk2_ri m i hi
    have w1 : IntKind.wrap .i64 (2 * (i : Int) + 1 + 1) = 2 * (i : Int) + 2 := by rw [wr _ (by omega) (by omega)]; omega
    have w2 : IntKind.wrap .i64 (2 * (i : Int) + 2 + 1) = 2 * ((i + 1 : Nat) : Int) + 1 := by rw [wr _ (by omega) (by omega)]; omega
    rw [show d + 1 + 1 + n = (d + 1 + n) + 1 by omega, laws_heldPointS_l0, mk2_length, bif_t (ltI_t (by omega)), bif_t (inR_t (by omega) (by omega)), r0, r1]
    dsimp only
    rw [bif_f (bne_f rfl), bif_t (inR_t (by omega) (by omega)), w1, bif_f (bne_f rfl), w2, wsucc i (by omega)]
    exact held_l0 k m x2 hm d n (i + 1) (by omega)
theorem held_some (k m : Nat) (hm : m ≤ 1073741824) (hk : m < k) : laws_heldPointS k (mk2 m) 1 = some [.i (2 * (m : Int) + 1)] := by
  have h0 := held_l0 k m 0 hm m (k - m - 1) 0 (by omega)
  rw [show m + 1 + (k - m - 1) = k by omega] at h0
  have h1 : laws_heldPointS_l0 k k (mk2 m) 1 0 0 = _ := h0
  unfold laws_heldPointS
  rw [h1]; rfl
theorem FnExactReadRing_pure (a : ByteArray) (h : a.size ≤ 140737488351232) : ∃ k, laws_FnExactReadRing k a = some [.b true] := by
  refine ⟨2000000, ?_⟩
  unfold laws_FnExactReadRing
  dsimp only
  by_cases hs : 1048576 < a.size
  · rw [bif_t (ltI_t (by omega))]
  · rw [bif_f (ltI_f (by omega)), bs_eta a]
    have hl : a.data.toList.length = a.size := Array.length_toList
    obtain ⟨rs, b, hn, e1, e2⟩ := ring_same 2000000 (by decide) a.data.toList (by omega)
    rw [e1, e2]
    simp only [Option.bind_some, gl0, gbS, gb0]
    rw [eqPts_refl _ rs (by omega) (by omega), Option.bind_some, mark_some _ rs (by omega) (by omega), Option.bind_some]
    simp only [gb0, Bool.not_true, cond_false, beq_self_eq_true, glS, gl0, gi0]
    rw [held_some _ rs.length (by omega) (by omega), Option.bind_some]
    simp only [gi0]
    rw [bif_f (ltI_f (by omega)), bif_f (bne_f rfl)]
    simp only [Option.bind_some, gb0, gi0, Bool.not_true, cond_false]
    rw [bif_f (ltI_f (by omega)), bif_f (bne_f rfl)]
end Go.Proofs.YthabgkbpghpokaaDoor.Ev
