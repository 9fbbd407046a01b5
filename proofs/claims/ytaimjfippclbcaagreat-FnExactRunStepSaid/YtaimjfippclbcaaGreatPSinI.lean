/- The sine of an interval, and radians, by both. No condition. -/
import Derived.Test.YtaimjfippclbcaaGreatPSin
namespace Go.Proofs.YtaimjfippclbcaaGreat.Ev
open Go Go.RowKit
set_option linter.unusedSimpArgs false
set_option linter.unusedVariables false
theorem circle_same (k : Nat) (hk : 66 ≤ k) (a t : Int) : ∃ x y, spec_l06At k a t = some [.i x, .i y] ∧ impl_circleValue k a t = some [.i x, .i y] := by
 unfold spec_l06At impl_circleValue
 rw [angle_some, isAngle_some]
 simp only [Option.bind_some, gb0]
 cases (leI (-1099511627776) a && leI a 1099511627776) with
 | false => exact ⟨_, _, rfl, rfl⟩
 | true =>
  simp only [Bool.not_true, cond_false]
  obtain ⟨q1, q2⟩ := quarter_some k a
  generalize qt a = c at q1 q2
  rw [q1, q2, Option.bind_some, Option.bind_some, gi0]
  rw [show spec_l05At k a = some [.i a, .i a] from rfl, show impl_at k a = some [.i a, .i a] from rfl, Option.bind_some, Option.bind_some]
  obtain ⟨u, v, t1, t2⟩ := turn_same k (by omega) c
  rw [t1, t2, Option.bind_some, Option.bind_some]
  rw [show gi [D.i a, .i a] 0 = a from rfl, show gi [D.i a, .i a] 1 = a from rfl, show gi [D.i u, .i v] 0 = u from rfl, show gi [D.i u, .i v] 1 = v from rfl]
  obtain ⟨p, q, s1, s2, _⟩ := subI_full k a a u v
  rw [s1, s2, Option.bind_some, Option.bind_some]
  rw [show gi [D.i p, .i q] 0 = p from rfl, show gi [D.i p, .i q] 1 = q from rfl]
  obtain ⟨c0, c1, f1, f2, hf⟩ := sinSeries_same k hk p q
  obtain ⟨d0, d1, g1, g2, hg⟩ := cosSeries_same k hk p q
  rw [f1, f2, g1, g2]
  generalize band .i64 (IntKind.wrap .i64 (c + t)) 3 = e
  cases e == 0 with
  | true =>
   obtain ⟨x, y, m1, m2⟩ := meet_same k c0 c1 hf
   simp only [cond_true, Option.bind_some, gi0, giS, m1, m2]
   exact ⟨_, _, rfl, rfl⟩
  | false =>
   cases e == 1 with
   | true =>
    obtain ⟨x, y, m1, m2⟩ := meet_same k d0 d1 hg
    simp only [cond_true, cond_false, Option.bind_some, gi0, giS, m1, m2]
    exact ⟨_, _, rfl, rfl⟩
   | false =>
    cases e == 2 with
    | true =>
     obtain ⟨n0, n1, h1, h2, hn⟩ := neg_rg (k := k) hf
     obtain ⟨x, y, m1, m2⟩ := meet_same k n0 n1 hn
     simp only [cond_true, cond_false, h1, h2, Option.bind_some, gi0, giS, m1, m2]
     exact ⟨_, _, rfl, rfl⟩
    | false =>
     obtain ⟨n0, n1, h1, h2, hn⟩ := neg_rg (k := k) hg
     obtain ⟨x, y, m1, m2⟩ := meet_same k n0 n1 hn
     simp only [cond_true, cond_false, h1, h2, Option.bind_some, gi0, giS, m1, m2]
     exact ⟨_, _, rfl, rfl⟩
def ovb (k : Nat) (a0 a1 i : Int) : Bool := gb (((spec_TurnI k i).bind fun t => spec_OverlapI k (gi t 0) (gi t 1) a0 a1).getD []) 0
theorem ov_some (k : Nat) (hk : 66 ≤ k) (a0 a1 i : Int) : ∃ u v, spec_TurnI k i = some [.i u, .i v] ∧ impl_TurnI k k i = some [.i u, .i v] ∧ spec_OverlapI k u v a0 a1 = some [.b (ovb k a0 a1 i)] ∧ impl_OverlapI k u v a0 a1 = some [.b (ovb k a0 a1 i)] := by
 obtain ⟨u, v, t1, t2⟩ := turn_same k (by omega) i
 obtain ⟨o, o1, o2⟩ := overlap_same k u v a0 a1
 have e : ovb k a0 a1 i = o := by
  unfold ovb
  rw [t1, Option.bind_some]
  simp only [gi0, giS]
  rw [o1]; rfl
 exact ⟨u, v, t1, t2, by rw [e]; exact o1, by rw [e]; exact o2⟩
def hst (k : Nat) (t : Int) (s : Int × Int) (j : Int) : Int × Int :=
 bif band .i64 (IntKind.wrap .i64 (j + t)) 3 == 1 then (gi ((spec_HullI k s.1 s.2 4294967296 4294967296).getD []) 0, gi ((spec_HullI k s.1 s.2 4294967296 4294967296).getD []) 1)
 else bif band .i64 (IntKind.wrap .i64 (j + t)) 3 == 3 then (gi ((spec_HullI k s.1 s.2 (-4294967296) (-4294967296)).getD []) 0, gi ((spec_HullI k s.1 s.2 (-4294967296) (-4294967296)).getD []) 1)
 else s
theorem hull_get (k : Nat) (a b c d : Int) : spec_HullI k a b c d = some [.i (gi ((spec_HullI k a b c d).getD []) 0), .i (gi ((spec_HullI k a b c d).getD []) 1)] ∧ impl_HullI k a b c d = some [.i (gi ((spec_HullI k a b c d).getD []) 0), .i (gi ((spec_HullI k a b c d).getD []) 1)] := by
 obtain ⟨x, y, e1, e2⟩ := hullI_same k a b c d
 rw [e1, e2]
 exact ⟨rfl, rfl⟩
def ovl (k : Nat) (a0 a1 : Int) : Nat → Int → List Int
 | 0, _ => []
 | d + 1, i => bif ovb k a0 a1 i then i :: ovl k a0 a1 d (i + 1) else ovl k a0 a1 d (i + 1)
theorem ovl_len (k : Nat) (a0 a1 : Int) : ∀ (d : Nat) (i : Int), (ovl k a0 a1 d i).length ≤ d
 | 0, _ => Nat.le_refl _
 | d + 1, i => by
  unfold ovl
  have := ovl_len k a0 a1 d (i + 1)
  cases ovb k a0 a1 i with
  | true => rw [cond_true, List.length_cons]; omega
  | false => rw [cond_false]; omega
theorem mone_some (k : Nat) : spec_Integer k (-1) = some [.i (-4294967296), .i (-4294967296)] ∧ impl_Integer k (-1) = some [.i (-4294967296), .i (-4294967296)] := by
 obtain ⟨x, y, e1, e2, h⟩ := integer_same k (-1)
 obtain ⟨rfl, rfl⟩ := h (by decide)
 exact ⟨e1, e2⟩
theorem over_l0 (k : Nat) (hk : 66 ≤ k) (t a0 a1 : Int) : ∀ (d n : Nat) (p q i : Int), -200 ≤ i → i + d = qt a1 + 2 → ∃ z, spec_l06Over_l0 k (d + 1 + n) t a0 a1 0 0 p q i = some [.i 0, .i t, .i a0, .i a1, .i 0, .i 0, .i ((ovl k a0 a1 d i).foldl (hst k t) (p, q)).1, .i ((ovl k a0 a1 d i).foldl (hst k t) (p, q)).2, .i z]
 | 0, n, p, q, i, h0, h => by
  have hq := qt_bd a1
  refine ⟨i, ?_⟩
  rw [show 0 + 1 + n = n + 1 by omega, spec_l06Over_l0, (quarter_some k a1).1, Option.bind_some]
  simp only [gi0]
  rw [wr (qt a1 + 1) (by omega) (by omega), bif_f (leI_f (by omega))]
  rfl
 | d + 1, n, p, q, i, h0, h => by
  have hq := qt_bd a1
  obtain ⟨u, v, t1, _, o1, _⟩ := ov_some k hk a0 a1 i
  rw [show d + 1 + 1 + n = (d + 1 + n) + 1 by omega, spec_l06Over_l0, (quarter_some k a1).1, Option.bind_some]
  simp only [gi0]
  rw [wr (qt a1 + 1) (by omega) (by omega), bif_t (leI_t (by omega)), t1]
  simp only [Option.bind_some, gi0, giS]
  rw [o1]
  simp only [Option.bind_some, gb0]
  rw [wr (i + 1) (by omega) (by omega)]
  unfold ovl
  cases ovb k a0 a1 i with
  | false =>
   simp only [Bool.not_false, cond_true, cond_false]
   exact over_l0 k hk t a0 a1 d n p q (i + 1) (by omega) (by omega)
  | true =>
   simp only [Bool.not_true, cond_true, cond_false, List.foldl_cons]
   rw [(one_some k).1, (mone_some k).1]
   simp only [Option.bind_some, gi0, giS]
   rw [(hull_get k p q 4294967296 4294967296).1, (hull_get k p q (-4294967296) (-4294967296)).1]
   simp only [Option.bind_some, gi0, giS]
   unfold hst
   cases band .i64 (IntKind.wrap .i64 (i + t)) 3 == 1 with
   | true => exact over_l0 k hk t a0 a1 d n _ _ (i + 1) (by omega) (by omega)
   | false =>
    cases band .i64 (IntKind.wrap .i64 (i + t)) 3 == 3 with
    | true => exact over_l0 k hk t a0 a1 d n _ _ (i + 1) (by omega) (by omega)
    | false => exact over_l0 k hk t a0 a1 d n p q (i + 1) (by omega) (by omega)
theorem apOk8 {n : Nat} (h : n ≤ 1000) : apOk n 8 = true := apOk_t (by omega) (by omega)
theorem turnsIn_l0 (k : Nat) (hk : 66 ≤ k) (a0 a1 : Int) : ∀ (d n : Nat) (acc : List (List D)) (i : Int), -200 ≤ i → i + d = qt a1 + 2 → acc.length + d ≤ 600 → ∃ z, impl_turnsIn_l0 k (d + 1 + n) a0 a1 [] acc i = some [.i 0, .i a0, .i a1, .l [], .l (acc ++ (ovl k a0 a1 d i).map fun j => [.i j]), .i z]
 | 0, n, acc, i, h0, h, hl => by
  have hq := qt_bd a1
  refine ⟨i, ?_⟩
  rw [show 0 + 1 + n = n + 1 by omega, impl_turnsIn_l0, (quarter_some k a1).2, Option.bind_some]
  simp only [gi0]
  rw [wr (qt a1 + 1) (by omega) (by omega), bif_f (leI_f (by omega))]
  unfold ovl
  rw [List.map_nil, List.append_nil]
 | d + 1, n, acc, i, h0, h, hl => by
  have hq := qt_bd a1
  obtain ⟨u, v, _, t2, _, o2⟩ := ov_some k hk a0 a1 i
  rw [show d + 1 + 1 + n = (d + 1 + n) + 1 by omega, impl_turnsIn_l0, (quarter_some k a1).2, Option.bind_some]
  simp only [gi0]
  rw [wr (qt a1 + 1) (by omega) (by omega), bif_t (leI_t (by omega)), t2]
  simp only [Option.bind_some, gi0, giS]
  rw [o2]
  simp only [Option.bind_some, gb0]
  rw [wr (i + 1) (by omega) (by omega), bif_t (b := apOk _ 8) (apOk8 (by rw [List.length_singleton]; omega))]
  unfold ovl
  cases ovb k a0 a1 i with
  | false =>
   simp only [cond_false]
   exact turnsIn_l0 k hk a0 a1 d n acc (i + 1) (by omega) (by omega) (by omega)
  | true =>
   simp only [cond_true]
   obtain ⟨z, e⟩ := turnsIn_l0 k hk a0 a1 d n (acc ++ [[.i i]]) (i + 1) (by omega) (by omega) (by rw [List.length_append, List.length_singleton]; omega)
   refine ⟨z, e.trans ?_⟩
   rw [List.append_assoc, List.map_cons]
   rfl
theorem hull_l0 (k : Nat) (hk : 66 ≤ k) (t : Int) (l : List (List D)) (hl : l.length ≤ 1000) : ∀ (js : List Int) (n m : Nat) (p q : Int), m + js.length = l.length → (∀ (r : Nat) (j : Int), js[r]? = some j → ri l ((m + r : Nat) : Int) 0 = j) → ∃ z, impl_circleHull_l0 k (js.length + 1 + n) t 0 0 p q l (l.length : Int) (m : Int) = some [.i 0, .i t, .i 0, .i 0, .i (js.foldl (hst k t) (p, q)).1, .i (js.foldl (hst k t) (p, q)).2, .l l, .i l.length, .i z]
 | [], n, m, p, q, h, _ => by
  refine ⟨m, ?_⟩
  rw [List.length_nil, show 0 + 1 + n = n + 1 by omega, impl_circleHull_l0, bif_f (ltI_f (by rw [List.length_nil] at h; omega))]
  rfl
 | j :: js, n, m, p, q, h, hr => by
  rw [List.length_cons] at h
  have hj : ri l (m : Int) 0 = j := hr 0 j rfl
  rw [List.length_cons, show js.length + 1 + 1 + n = (js.length + 1 + n) + 1 by omega, impl_circleHull_l0, bif_t (ltI_t (by omega)), bif_t (inR_t (by omega) (by omega)), hj]
  dsimp only
  rw [show IntKind.wrap .i64 ((m : Int) + 1) = ((m + 1 : Nat) : Int) by rw [wr _ (by omega) (by omega)]; omega]
  rw [(one_some k).2, (mone_some k).2]
  simp only [Option.bind_some, gi0, giS]
  rw [(hull_get k p q 4294967296 4294967296).2, (hull_get k p q (-4294967296) (-4294967296)).2]
  simp only [Option.bind_some, gi0, giS, List.foldl_cons]
  have hr' : ∀ (r : Nat) (j : Int), js[r]? = some j → ri l ((m + 1 + r : Nat) : Int) 0 = j := fun r j' hj' => by
   have := hr (r + 1) j' (by simpa using hj')
   rw [show m + 1 + r = m + (r + 1) by omega]; exact this
  unfold hst
  cases band .i64 (IntKind.wrap .i64 (j + t)) 3 == 1 with
  | true => exact hull_l0 k hk t l hl js n (m + 1) _ _ (by omega) hr'
  | false =>
   cases band .i64 (IntKind.wrap .i64 (j + t)) 3 == 3 with
   | true => exact hull_l0 k hk t l hl js n (m + 1) _ _ (by omega) hr'
   | false => exact hull_l0 k hk t l hl js n (m + 1) p q (by omega) hr'
theorem fits_some (k : Nat) (a b : Int) : ∃ o, spec_l06Fits k a b = some [.b o] ∧ impl_areAngles k a b = some [.b o] := by
 unfold spec_l06Fits impl_areAngles
 rw [sValid_some, validIv_some, angle_some, angle_some, isAngle_some, isAngle_some]
 simp only [Option.bind_some, gb0]
 cases ivB a b with
 | false => exact ⟨_, rfl, rfl⟩
 | true =>
  simp only [cond_true]
  cases (leI (-1099511627776) a && leI a 1099511627776) with
  | false => exact ⟨_, rfl, rfl⟩
  | true => exact ⟨_, rfl, rfl⟩
theorem over_same (k : Nat) (hk : 700 ≤ k) (a b t : Int) : ∃ x y, spec_l06Over k a b t = some [.i x, .i y] ∧ impl_circleHull k a b t = some [.i x, .i y] := by
 obtain ⟨o, e1, e2⟩ := fits_some k a b
 unfold spec_l06Over impl_circleHull
 rw [e1, e2]
 simp only [Option.bind_some, gb0]
 cases o with
 | false => exact ⟨_, _, rfl, rfl⟩
 | true =>
  simp only [Bool.not_true, cond_false]
  obtain ⟨p, q, c1, c2⟩ := circle_same k (by omega) a t
  obtain ⟨u, v, d1, d2⟩ := circle_same k (by omega) b t
  rw [c1, c2, d1, d2]
  simp only [Option.bind_some, gi0, giS]
  obtain ⟨g, h, h1, h2⟩ := hullI_same k p q u v
  rw [h1, h2]
  simp only [Option.bind_some, gi0, giS]
  unfold impl_turnsIn
  rw [(quarter_some k a).1, (quarter_some k a).2]
  simp only [Option.bind_some, gi0, giS]
  have qa := qt_bd a
  have qb := qt_bd b
  rw [wr (qt a - 1) (by omega) (by omega)]
  have key : ∀ d : Nat, d ≤ 400 → (d = 0 → qt b + 2 ≤ qt a - 1) → (d ≠ 0 → qt a - 1 + d = qt b + 2) → ∃ z z', (spec_l06Over_l0 k k t a b 0 0 g h (qt a - 1) = some [.i 0, .i t, .i a, .i b, .i 0, .i 0, .i ((ovl k a b d (qt a - 1)).foldl (hst k t) (g, h)).1, .i ((ovl k a b d (qt a - 1)).foldl (hst k t) (g, h)).2, .i z]) ∧ impl_turnsIn_l0 k k a b [] [] (qt a - 1) = some [.i 0, .i a, .i b, .l [], .l ((ovl k a b d (qt a - 1)).map fun j => [.i j]), .i z'] := by
   intro d hd h0 h1
   by_cases hz : d = 0
   ·subst hz
    obtain ⟨n, hn⟩ : ∃ n, k = n + 1 := ⟨k - 1, by omega⟩
    refine ⟨qt a - 1, qt a - 1, ?_, ?_⟩
    ·rw [show spec_l06Over_l0 k k = spec_l06Over_l0 k (n + 1) from by rw [← hn], spec_l06Over_l0, (quarter_some k b).1, Option.bind_some]
     simp only [gi0]
     rw [wr (qt b + 1) (by omega) (by omega), bif_f (leI_f (by have := h0 rfl; omega))]
     rfl
    ·rw [show impl_turnsIn_l0 k k = impl_turnsIn_l0 k (n + 1) from by rw [← hn], impl_turnsIn_l0, (quarter_some k b).2, Option.bind_some]
     simp only [gi0]
     rw [wr (qt b + 1) (by omega) (by omega), bif_f (leI_f (by have := h0 rfl; omega))]
     rfl
   ·obtain ⟨n, hn⟩ : ∃ n, k = d + 1 + n := ⟨k - (d + 1), by omega⟩
    obtain ⟨z, e⟩ := over_l0 k (by omega) t a b d n g h (qt a - 1) (by omega) (h1 hz)
    obtain ⟨z', e'⟩ := turnsIn_l0 k (by omega) a b d n [] (qt a - 1) (by omega) (h1 hz) (by rw [List.length_nil]; omega)
    rw [← hn] at e e'
    exact ⟨z, z', e, e'⟩
  obtain ⟨z, z', s1, s2⟩ := key ((qt b + 2 - (qt a - 1)).toNat) (by omega) (by omega) (by omega)
  have hlen := ovl_len k a b ((qt b + 2 - (qt a - 1)).toNat) (qt a - 1)
  generalize ovl k a b ((qt b + 2 - (qt a - 1)).toNat) (qt a - 1) = js at *
  have hjl : js.length ≤ 400 := Nat.le_trans hlen (by omega)
  obtain ⟨n, hn⟩ : ∃ n, k = js.length + 1 + n := ⟨k - (js.length + 1), by omega⟩
  have hml : (js.map fun j => [D.i j]).length = js.length := List.length_map ..
  obtain ⟨w, e3⟩ := hull_l0 k (by omega) t (js.map fun j => [D.i j]) (by omega) js n 0 g h (by omega) fun r j hj => by
   have : (js.map fun j => [D.i j]).getD ((0 + r : Nat) : Int).toNat [] = [.i j] := by
    rw [Int.toNat_natCast, Nat.zero_add, List.getD_eq_getElem?_getD, List.getElem?_map, hj]; rfl
   unfold ri
   rw [this]; rfl
  rw [← hn] at e3
  rw [s1, s2]
  simp only [Option.bind_some, gi0, giS, gl0, glS]
  rw [show ((0 : Nat) : Int) = 0 from rfl] at e3
  rw [e3]
  exact ⟨_, _, rfl, rfl⟩
theorem sinI_same (k : Nat) (hk : 700 ≤ k) (a b : Int) : ∃ x y, spec_SinI k a b = some [.i x, .i y] ∧ impl_SinI k a b = some [.i x, .i y] := by
 obtain ⟨x, y, e1, e2⟩ := over_same k hk a b 0
 unfold spec_SinI impl_SinI
 rw [e1, e2]
 exact ⟨x, y, rfl, rfl⟩
theorem rad_pos (k : Nat) (hk : 66 ≤ k) (j : Nat) (m : Int) (h : 1 ≤ m ∧ m ≤ 36000000000) : ∃ x y, spec_RadiansOf k (j + 1) m = some [.i x, .i y] ∧ impl_RadiansOf k (j + 1) m = some [.i x, .i y] := by
 have hm : I64 m := ⟨by omega, by omega⟩
 have h1 := mulDivFloor_some k hk m 7244019458077122842 966367641600000000 hm ⟨by decide, by decide⟩ ⟨by decide, by decide⟩
 have h2 := mulDivFloor_some k hk m 7244019458077122843 966367641600000000 hm ⟨by decide, by decide⟩ ⟨by decide, by decide⟩
 have h3 := implMulDivFloor_some k (by omega) m 7244019458077122842 966367641600000000 hm ⟨by decide, by decide⟩ ⟨by decide, by decide⟩
 have h4 := implMulDivFloor_some k (by omega) m 7244019458077122843 966367641600000000 hm ⟨by decide, by decide⟩ ⟨by decide, by decide⟩
 rw [if_neg (by decide)] at h1 h2 h3 h4
 obtain ⟨u, o, e⟩ := intR_form (m * 7244019458077122842 / 966367641600000000)
 obtain ⟨v, o', e'⟩ := intR_form (m * 7244019458077122843 / 966367641600000000)
 rw [e] at h1 h3
 rw [e'] at h2 h4
 refine ⟨u, IntKind.wrap .i64 (v + 1), ?_, ?_⟩
 ·rw [spec_RadiansOf, in_some, leI_t (by omega), leI_t h.2, Option.bind_some]
  simp only [gb0, Bool.and_self, Bool.not_true, cond_false]
  rw [bif_f (beq_f (by omega)), bif_f (ltI_f (by omega)), h1, h2]
  rfl
 ·rw [impl_RadiansOf, within_some, leI_t (by omega), leI_t h.2, Option.bind_some]
  simp only [gb0, Bool.and_self, Bool.not_true, cond_false]
  rw [bif_f (ltI_f (by omega)), bif_f (beq_f (by omega)), h3, h4]
  rfl
theorem rad_same (k : Nat) (hk : 66 ≤ k) (n : Int) : ∃ x y, spec_RadiansOf k k n = some [.i x, .i y] ∧ impl_RadiansOf k k n = some [.i x, .i y] := by
 obtain ⟨j, hj⟩ : ∃ j, k = j + 1 + 1 := ⟨k - 2, by omega⟩
 rw [show spec_RadiansOf k k = spec_RadiansOf k (j + 1 + 1) from by rw [← hj], show impl_RadiansOf k k = impl_RadiansOf k (j + 1 + 1) from by rw [← hj]]
 cases hi : (leI (-36000000000) n && leI n 36000000000) with
 | false =>
  rw [spec_RadiansOf, impl_RadiansOf, in_some, within_some, hi]
  exact ⟨_, _, rfl, rfl⟩
 | true =>
  have hi' := hi
  simp only [Bool.and_eq_true, leI_iff] at hi'
  by_cases h0 : n = 0
  ·rw [spec_RadiansOf, impl_RadiansOf, in_some, within_some, hi, Option.bind_some, Option.bind_some]
   simp only [gb0, Bool.not_true, cond_false]
   rw [bif_t (beq_t h0), bif_f (ltI_f (by omega)), bif_t (beq_t h0)]
   exact ⟨0, 0, rfl, rfl⟩
  ·by_cases h1 : n < 0
   ·obtain ⟨u, v, e1, e2⟩ := rad_pos k hk j (0 - n) ⟨by omega, by omega⟩
    obtain ⟨x, y, n1, n2, _⟩ := negI_full k u v
    rw [spec_RadiansOf, impl_RadiansOf, in_some, within_some, hi, Option.bind_some, Option.bind_some]
    simp only [gb0, Bool.not_true, cond_false]
    rw [bif_f (beq_f h0), bif_t (ltI_t h1), bif_t (ltI_t h1), wr (0 - n) (by omega) (by omega), e1, e2]
    simp only [Option.bind_some, gi0, giS]
    rw [n1, n2]
    exact ⟨_, _, rfl, rfl⟩
   ·exact rad_pos k hk (j + 1) n ⟨by omega, hi'.2⟩
end Go.Proofs.YtaimjfippclbcaaGreat.Ev
