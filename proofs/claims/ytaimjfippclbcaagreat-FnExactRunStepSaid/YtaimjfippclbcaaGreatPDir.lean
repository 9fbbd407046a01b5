/- Tangents and directions, by both. No condition. -/
import Derived.Test.YtaimjfippclbcaaGreatPAtan
namespace Go.Proofs.YtaimjfippclbcaaGreat.Ev
open Go Go.RowKit
set_option linter.unusedSimpArgs false
set_option linter.unusedVariables false
theorem absS {k : Nat} (s : Int) (h : -4611686018427387904 ≤ s ∧ s ≤ 4611686018427387904) : impl_abs k s = some [.i (if s < 0 then -s else s)] := by
 unfold impl_abs
 rw [wr (0 - s) (by omega) (by omega)]
 unfold mxI
 congr 3
 split <;> split <;> omega
theorem sinAtr {k : Nat} (hk : 700 ≤ k) (n : Int) : spec_SinAt k n = some (pv (vAt k n 0)) ∧ impl_SinAt k n = some (pv (vAt k n 0)) := by
 unfold spec_SinAt impl_SinAt
 simp only [ivr hk, Option.bind_some, pv0, pv1, gi0, giS, gb0, gbS, cond_true, cond_false, Bool.not_true, Bool.not_false, pair_eta]
 exact ⟨rfl, rfl⟩
theorem cosAtr {k : Nat} (hk : 700 ≤ k) (n : Int) : spec_CosAt k n = some (pv (vAt k n 1)) ∧ impl_CosAt k n = some (pv (vAt k n 1)) := by
 unfold spec_CosAt impl_CosAt
 simp only [ivr hk, Option.bind_some, pv0, pv1, gi0, giS, gb0, gbS, cond_true, cond_false, Bool.not_true, Bool.not_false, pair_eta]
 exact ⟨rfl, rfl⟩
def oddq (l : List Int) : Bool := l.any fun j => band .i64 j 1 == 1
theorem tanS_l0 (k : Nat) (hk : 66 ≤ k) (a0 a1 : Int) : ∀ (d n : Nat) (i : Int), -200 ≤ i → i + d = qt a1 + 2 → ∃ z, spec_TanI_l0 k (d + 1 + n) a0 a1 0 0 i = bif oddq (ovl k a0 a1 d i) then some [.i 1, .i a0, .i a1, .i wv.1, .i wv.2, .i z] else some [.i 0, .i a0, .i a1, .i 0, .i 0, .i z]
 | 0, n, i, h0, h => by
  have hq := qt_bd a1
  refine ⟨i, ?_⟩
  rw [show 0 + 1 + n = n + 1 by omega, spec_TanI_l0, (quarter_some k a1).1, Option.bind_some]
  simp only [gi0]
  rw [wr (qt a1 + 1) (by omega) (by omega), bif_f (leI_f (by omega))]
  rfl
 | d + 1, n, i, h0, h => by
  have hq := qt_bd a1
  obtain ⟨u, v, t1, _, o1, _⟩ := ov_some k hk a0 a1 i
  obtain ⟨z, ih⟩ := tanS_l0 k hk a0 a1 d n (i + 1) (by omega) (by omega)
  rw [show d + 1 + 1 + n = (d + 1 + n) + 1 by omega, spec_TanI_l0, (quarter_some k a1).1, Option.bind_some]
  simp only [gi0]
  rw [wr (qt a1 + 1) (by omega) (by omega), bif_t (leI_t (by omega)), t1]
  simp only [Option.bind_some, gi0, giS]
  rw [o1]
  simp only [Option.bind_some, gb0]
  have ho : ovl k a0 a1 (d + 1) i = (bif ovb k a0 a1 i then i :: ovl k a0 a1 d (i + 1) else ovl k a0 a1 d (i + 1)) := rfl
  rw [wr (i + 1) (by omega) (by omega), ih, ho]
  generalize ovl k a0 a1 d (i + 1) = js
  cases ovb k a0 a1 i with
  | false =>
   refine ⟨z, ?_⟩
   cases (band .i64 i 1 == 1) <;> rfl
  | true =>
   cases hb : (band .i64 i 1 == 1) with
   | false =>
    refine ⟨z, ?_⟩
    rw [show (bif true then i :: js else js) = i :: js from rfl, show oddq (i :: js) = oddq js by unfold oddq; rw [List.any_cons, hb, Bool.false_or]]
    rfl
   | true =>
    refine ⟨i, ?_⟩
    rw [show (bif true then i :: js else js) = i :: js from rfl, bif_t (show oddq (i :: js) = true by unfold oddq; rw [List.any_cons, hb, Bool.true_or])]
    rfl
theorem tanI_l0 (k : Nat) (a0 a1 : Int) (l : List (List D)) (hl : l.length ≤ 1000) : ∀ (js : List Int) (n m : Nat), m + js.length = l.length → (∀ (r : Nat) (j : Int), js[r]? = some j → ri l ((m + r : Nat) : Int) 0 = j) → ∃ z, impl_TanI_l0 k (js.length + 1 + n) a0 a1 0 0 l (l.length : Int) (m : Int) = bif oddq js then some [.i 1, .i a0, .i a1, .i wv.1, .i wv.2, .l l, .i l.length, .i z] else some [.i 0, .i a0, .i a1, .i 0, .i 0, .l l, .i l.length, .i z]
 | [], n, m, h, _ => by
  refine ⟨m, ?_⟩
  rw [List.length_nil, show 0 + 1 + n = n + 1 by omega, impl_TanI_l0, bif_f (ltI_f (by rw [List.length_nil] at h; omega))]
  rfl
 | j :: js, n, m, h, hr => by
  rw [List.length_cons] at h
  have hj : ri l (m : Int) 0 = j := hr 0 j rfl
  have hr' : ∀ (r : Nat) (j : Int), js[r]? = some j → ri l ((m + 1 + r : Nat) : Int) 0 = j := fun r j' hj' => by
   have := hr (r + 1) j' (by simpa using hj')
   rw [show m + 1 + r = m + (r + 1) by omega]; exact this
  obtain ⟨z, ih⟩ := tanI_l0 k a0 a1 l hl js n (m + 1) (by omega) hr'
  rw [List.length_cons, show js.length + 1 + 1 + n = (js.length + 1 + n) + 1 by omega, impl_TanI_l0, bif_t (ltI_t (by omega)), bif_t (inR_t (by omega) (by omega)), hj, show IntKind.wrap .i64 ((m : Int) + 1) = ((m + 1 : Nat) : Int) by rw [wr _ (by omega) (by omega)]; omega, ih]
  cases hb : (band .i64 j 1 == 1) with
  | false =>
   refine ⟨z, ?_⟩
   rw [show oddq (j :: js) = oddq js by unfold oddq; rw [List.any_cons, hb, Bool.false_or]]
   rfl
  | true =>
   refine ⟨m, ?_⟩
   rw [bif_t (show oddq (j :: js) = true by unfold oddq; rw [List.any_cons, hb, Bool.true_or])]
   rfl
theorem turnsIn_some {k : Nat} (hk : 700 ≤ k) (a b : Int) : impl_turnsIn k a b = some [.l ((ovl k a b ((qt b + 2 - (qt a - 1)).toNat) (qt a - 1)).map fun j => [.i j])] := by
 have qa := qt_bd a
 have qb := qt_bd b
 unfold impl_turnsIn
 rw [(quarter_some k a).2]
 simp only [Option.bind_some, gi0, giS]
 rw [wr (qt a - 1) (by omega) (by omega)]
 by_cases hz : (qt b + 2 - (qt a - 1)).toNat = 0
 ·rw [hz]
  obtain ⟨n, hn⟩ : ∃ n, k = n + 1 := ⟨k - 1, by omega⟩
  rw [show impl_turnsIn_l0 k k a b = impl_turnsIn_l0 k (n + 1) a b from by rw [← hn], impl_turnsIn_l0, (quarter_some k b).2, Option.bind_some]
  simp only [gi0]
  rw [wr (qt b + 1) (by omega) (by omega), bif_f (leI_f (by omega))]
  rfl
 ·obtain ⟨n, hn⟩ : ∃ n, k = (qt b + 2 - (qt a - 1)).toNat + 1 + n := ⟨k - ((qt b + 2 - (qt a - 1)).toNat + 1), by omega⟩
  obtain ⟨z', e'⟩ := turnsIn_l0 k (by omega) a b ((qt b + 2 - (qt a - 1)).toNat) n [] (qt a - 1) (by omega) (by omega) (by rw [List.length_nil]; omega)
  rw [← hn] at e'
  rw [e']
  rfl
theorem tan_same {k : Nat} (hk : 700 ≤ k) (a b : Int) : Same (spec_TanI k a b) (impl_TanI k a b) := by
 obtain ⟨o, e1, e2⟩ := fits_some k a b
 have qa := qt_bd a
 have qb := qt_bd b
 unfold spec_TanI impl_TanI
 rw [e1, e2, turnsIn_some hk a b, (quarter_some k a).1]
 simp only [ivb, ivr hk, Option.bind_some, pv0, pv1, gi0, giS, gb0, gbS, cond_true, cond_false, Bool.not_true, Bool.not_false, pair_eta, gl0]
 cases o with
 | false => exact same_refl _
 | true =>
  simp only [ivr hk, Option.bind_some, pv0, pv1, gi0, giS, gb0, gbS, cond_true, cond_false, Bool.not_true, Bool.not_false, pair_eta]
  rw [wr (qt a - 1) (by omega) (by omega)]
  have hs : ∃ z, spec_TanI_l0 k k a b 0 0 (qt a - 1) = bif oddq (ovl k a b ((qt b + 2 - (qt a - 1)).toNat) (qt a - 1)) then some [.i 1, .i a, .i b, .i wv.1, .i wv.2, .i z] else some [.i 0, .i a, .i b, .i 0, .i 0, .i z] := by
   by_cases hz : (qt b + 2 - (qt a - 1)).toNat = 0
   ·rw [hz]
    obtain ⟨n, hn⟩ : ∃ n, k = n + 1 := ⟨k - 1, by omega⟩
    refine ⟨qt a - 1, ?_⟩
    rw [show spec_TanI_l0 k k a b = spec_TanI_l0 k (n + 1) a b from by rw [← hn], spec_TanI_l0, (quarter_some k b).1, Option.bind_some]
    simp only [gi0]
    rw [wr (qt b + 1) (by omega) (by omega), bif_f (leI_f (by omega))]
    rfl
   ·obtain ⟨n, hn⟩ : ∃ n, k = (qt b + 2 - (qt a - 1)).toNat + 1 + n := ⟨k - ((qt b + 2 - (qt a - 1)).toNat + 1), by omega⟩
    obtain ⟨z, e⟩ := tanS_l0 k (by omega) a b ((qt b + 2 - (qt a - 1)).toNat) n (qt a - 1) (by omega) (by omega)
    rw [← hn] at e
    exact ⟨z, e⟩
  obtain ⟨z, hs⟩ := hs
  have hlen := ovl_len k a b ((qt b + 2 - (qt a - 1)).toNat) (qt a - 1)
  generalize ovl k a b ((qt b + 2 - (qt a - 1)).toNat) (qt a - 1) = js at *
  have hjl : js.length ≤ 400 := Nat.le_trans hlen (by omega)
  obtain ⟨n, hn⟩ : ∃ n, k = js.length + 1 + n := ⟨k - (js.length + 1), by omega⟩
  have hml : (js.map fun j => [D.i j]).length = js.length := List.length_map ..
  obtain ⟨w, e3⟩ := tanI_l0 k a b (js.map fun j => [D.i j]) (by omega) js n 0 (by omega) fun r j hj => by
   have : (js.map fun j => [D.i j]).getD ((0 + r : Nat) : Int).toNat [] = [.i j] := by
    rw [Int.toNat_natCast, Nat.zero_add, List.getD_eq_getElem?_getD, List.getElem?_map, hj]; rfl
   unfold ri
   rw [this]; rfl
  rw [← hn, show ((0 : Nat) : Int) = 0 from rfl] at e3
  rw [hs, e3]
  cases oddq js
  ·simp only [sinAtr hk, cosAtr hk, ivr hk, Option.bind_some, pv0, pv1, gi0, giS, gb0, gbS, cond_true, cond_false, Bool.not_true, Bool.not_false, pair_eta]
   exact same_refl _
  ·exact same_refl wv
noncomputable def vTan (k : Nat) (a : Int × Int) : Int × Int := iv (spec_TanI k a.1 a.2)
theorem tanr {k : Nat} (hk : 700 ≤ k) (a b : Int) : spec_TanI k a b = some (pv (vTan k (a, b))) ∧ impl_TanI k a b = some (pv (vTan k (a, b))) := same_rule (tan_same hk a b)
theorem dirAt_same {k : Nat} (hk : 700 ≤ k) (y x : Int) : Same (spec_DirectionAt k y x) (impl_DirectionAt k y x) := by
 unfold spec_DirectionAt impl_DirectionAt
 rw [(open_eq k y).1, (open_eq k y).2, (open_eq k x).1, (open_eq k x).2]
 simp only [Option.bind_some, gb0]
 cases hy : (ltI (-1152921504606846976) y && ltI y 1152921504606846976)
 ·exact same_refl wv
 cases hx : (ltI (-1152921504606846976) x && ltI x 1152921504606846976)
 ·exact same_refl wv
 simp only [Bool.and_eq_true, ltI_iff] at hy hx
 simp only [Bool.not_true, cond_false]
 rw [absS y (by omega), absS x (by omega), wr (0 - y) (by omega) (by omega), wr (0 - x) (by omega) (by omega)]
 by_cases hz : x = 0 ∧ y = 0
 ·obtain ⟨rfl, rfl⟩ := hz
  exact same_refl wv
 have e1 : ∀ {s t u : Option (List D)}, (bif x == 0 then (bif y == 0 then s else t) else t) = t := by
  intro s t u
  by_cases h : x = 0
  ·rw [bif_t (beq_t h), bif_f (beq_f (by omega))]
  ·rw [bif_f (beq_f h)]
 have e2 : ∀ {s t u : Option (List D)}, (bif y == 0 then (bif x == 0 then s else t) else t) = t := by
  intro s t u
  by_cases h : y = 0
  ·rw [bif_t (beq_t h), bif_f (beq_f (by omega))]
  ·rw [bif_f (beq_f h)]
 rw [e1 (u := none), e2 (u := none)]
 simp only [Option.bind_some, gi0, ivb, atanr hk, ivr hk, Option.bind_some, pv0, pv1, gi0, giS, gb0, gbS, cond_true, cond_false, Bool.not_true, Bool.not_false, pair_eta]
 by_cases h1 : y < 0
 ·rw [if_pos h1]
  simp only [ltI_t h1, cond_true]
  by_cases h2 : (if x < 0 then -x else x) < -y
  ·rw [ltI_t h2, ltI_t (show x < 0 - y by split at h2 <;> omega), ltI_t (show 0 - x < 0 - y by split at h2 <;> omega)]
   simp only [cond_true]
   exact same_refl _
  ·rw [ltI_f (show -y ≤ (if x < 0 then -x else x) by omega)]
   by_cases h3 : x < 0 - y
   ·rw [ltI_t h3, ltI_f (show 0 - y ≤ 0 - x by split at h2 <;> omega)]
    simp only [cond_true, cond_false]
    exact same_bif _ (same_refl _) (same_refl _)
   ·rw [ltI_f (show 0 - y ≤ x by omega)]
    simp only [cond_true, cond_false]
    exact same_bif _ (same_refl _) (same_refl _)
 ·rw [if_neg h1]
  simp only [ltI_f (show 0 ≤ y by omega), cond_false]
  by_cases h2 : (if x < 0 then -x else x) < y
  ·rw [ltI_t h2, ltI_t (show x < y by split at h2 <;> omega), ltI_t (show 0 - x < y by split at h2 <;> omega)]
   simp only [cond_true]
   exact same_refl _
  ·rw [ltI_f (show y ≤ (if x < 0 then -x else x) by omega)]
   by_cases h3 : x < y
   ·rw [ltI_t h3, ltI_f (show y ≤ 0 - x by split at h2 <;> omega)]
    simp only [cond_true, cond_false]
    exact same_bif _ (same_refl _) (same_refl _)
   ·rw [ltI_f (show y ≤ x by omega)]
    simp only [cond_true, cond_false]
    exact same_bif _ (same_refl _) (same_refl _)
noncomputable def vDirAt (k : Nat) (y x : Int) : Int × Int := iv (spec_DirectionAt k y x)
theorem dirAtr {k : Nat} (hk : 700 ≤ k) (y x : Int) : spec_DirectionAt k y x = some (pv (vDirAt k y x)) ∧ impl_DirectionAt k y x = some (pv (vDirAt k y x)) := same_rule (dirAt_same hk y x)
theorem sHas_some (k : Nat) (a b n : Int) : spec_HasI k a b n = some [.b (!ivB a b || (leI a n && leI n b))] := by
 unfold spec_HasI
 rw [l04Ok_some, has_some]
 cases ivB a b <;> rfl
theorem dir_same {k : Nat} (hk : 700 ≤ k) (a b c d : Int) : Same (spec_DirectionI k a b c d) (impl_DirectionI k a b c d) := by
 unfold spec_DirectionI impl_DirectionI
 simp only [ivb, sHas_some, hasI_some, dirAtr hk, ivr hk, Option.bind_some, pv0, pv1, gi0, giS, gb0, gbS, cond_true, cond_false, Bool.not_true, Bool.not_false, pair_eta]
 cases ivB a b
 ·exact same_refl _
 ·cases ivB c d
  ·exact same_refl _
  ·simp only [Bool.not_true, cond_false, Bool.and_self, Bool.false_or]
   exact same_bif _ (same_bif _ (same_refl _) (same_bif _ (same_bif _ (same_bif _ (same_refl _) (same_refl _)) (same_refl _)) (same_refl _))) (same_bif _ (same_bif _ (same_bif _ (same_refl _) (same_refl _)) (same_refl _)) (same_refl _))
noncomputable def vDir (k : Nat) (a b : Int × Int) : Int × Int := iv (spec_DirectionI k a.1 a.2 b.1 b.2)
theorem dirr {k : Nat} (hk : 700 ≤ k) (a b c d : Int) : spec_DirectionI k a b c d = some (pv (vDir k (a, b) (c, d))) ∧ impl_DirectionI k a b c d = some (pv (vDir k (a, b) (c, d))) := same_rule (dir_same hk a b c d)
end Go.Proofs.YtaimjfippclbcaaGreat.Ev
