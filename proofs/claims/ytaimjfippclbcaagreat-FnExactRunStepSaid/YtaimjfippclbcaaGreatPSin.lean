/- Sines, by both. No condition. -/
import Derived.Test.YtaimjfippclbcaaGreatPIv
namespace Go.Proofs.YtaimjfippclbcaaGreat.Ev
open Go Go.RowKit
set_option linter.unusedSimpArgs false
set_option linter.unusedVariables false
def Un (x y : Int) : Prop := ivB x y = false ∨ (ivB x y = true ∧ 0 ≤ x ∧ y ≤ 4294967296)
def Rg (x y : Int) : Prop := ivB x y = false ∨ (ivB x y = true ∧ x ≤ 4294967296 ∧ -4294967296 ≤ y)
theorem un_or {x y : Int} (h : ivB x y = false ∨ (0 ≤ x ∧ y ≤ 4294967296)) : Un x y := by
 cases hv : ivB x y with
 | false => exact .inl hv
 | true =>
  rcases h with h | h
  ·rw [hv] at h; cases h
  ·exact .inr ⟨hv, h⟩
theorem rg_or {x y : Int} (h : ivB x y = false ∨ (x ≤ 4294967296 ∧ -4294967296 ≤ y)) : Rg x y := by
 cases hv : ivB x y with
 | false => exact .inl hv
 | true =>
  rcases h with h | h
  ·rw [hv] at h; cases h
  ·exact .inr ⟨hv, h⟩
theorem fix_small {a : Int} (h0 : -4294967296 ≤ a) (h1 : a ≤ 4294967296) : fixB a = true := fixB_iff.2 ⟨by omega, by omega⟩
theorem mul_un {k : Nat} {a b m m' : Int} (P : Prods k a b m true m' true) (ha : 0 ≤ a ∧ a ≤ 4294967296) (hb : 0 ≤ b ∧ b ≤ 4294967296) : (0 ≤ m ∧ m ≤ 4294967296) ∧ 0 ≤ m' ∧ m' ≤ 4294967296 := by
 have h1 := mulDown_val P.sd
 have h2 := mulUp_val (fix_small (by omega) ha.2) P.su
 have h3 := mul_bd ha hb
 rw [Int.neg_mul] at h2
 generalize a * b = p at *
 omega
theorem mulI_un {k : Nat} {a0 a1 b0 b1 x y : Int} (h : MulB k a0 a1 b0 b1 x y) (ha : Un a0 a1) (hb : Un b0 b1) : Un x y := by
 rcases h with h | ⟨hA, hB, m1, m2, m3, m4, m5, m6, m7, m8, P, Q, R, S, rfl, rfl⟩
 ·exact .inl h
 rcases ha with ha | ⟨_, a2, a3⟩
 ·rw [ha] at hA; cases hA
 rcases hb with hb | ⟨_, b2, b3⟩
 ·rw [hb] at hB; cases hB
 have va := ivB_iff.1 hA
 have vb := ivB_iff.1 hB
 have h1 := mul_un P ⟨a2, by omega⟩ ⟨b2, by omega⟩
 have h2 := mul_un Q ⟨a2, by omega⟩ ⟨by omega, b3⟩
 have h3 := mul_un R ⟨by omega, a3⟩ ⟨b2, by omega⟩
 have h4 := mul_un S ⟨by omega, a3⟩ ⟨by omega, b3⟩
 refine un_or (.inr ⟨?_, ?_⟩)
 ·have e : ∀ p q : Int, 0 ≤ p → 0 ≤ q → 0 ≤ mnI p q := fun p q h1 h2 => by unfold mnI; split <;> omega
  exact e _ _ (e _ _ (e _ _ h1.1.1 h2.1.1) h3.1.1) h4.1.1
 ·have e : ∀ p q : Int, p ≤ 4294967296 → q ≤ 4294967296 → mxI p q ≤ 4294967296 := fun p q h1 h2 => by unfold mxI; split <;> omega
  exact e _ _ (e _ _ (e _ _ h1.2.2 h2.2.2) h3.2.2) h4.2.2
theorem mn_le (p q : Int) : mnI p q ≤ p := by unfold mnI; split <;> omega
theorem mx_ge (p q : Int) : p ≤ mxI p q := by unfold mxI; split <;> omega
theorem mulI_rg {k : Nat} {a0 a1 b0 b1 x y : Int} (h : MulB k a0 a1 b0 b1 x y) (ha : -4294967296 ≤ a0 ∧ a1 ≤ 4294967296) (hb : Un b0 b1) : Rg x y := by
 rcases h with h | ⟨hA, hB, m1, m2, m3, m4, m5, m6, m7, m8, P, Q, R, S, rfl, rfl⟩
 ·exact .inl h
 rcases hb with hb | ⟨_, b2, b3⟩
 ·rw [hb] at hB; cases hB
 have va := ivB_iff.1 hA
 have vb := ivB_iff.1 hB
 have h1 := mulDown_val P.sd
 have h2 := mulUp_val (fix_small ha.1 (by omega)) P.su
 have l1 : a0 * b0 ≤ 4294967296 * 4294967296 := Int.le_trans (Int.mul_le_mul_of_nonneg_right (show a0 ≤ 4294967296 by omega) b2) (Int.mul_le_mul_of_nonneg_left (show b0 ≤ 4294967296 by omega) (by decide))
 have l2 : -(4294967296 * 4294967296) ≤ a0 * b0 := by
  have e1 := Int.mul_le_mul_of_nonneg_right (show -4294967296 ≤ a0 by omega) b2
  have e2 := Int.mul_le_mul_of_nonneg_left (show b0 ≤ 4294967296 by omega) (show (0 : Int) ≤ 4294967296 by decide)
  rw [Int.neg_mul] at e1
  omega
 rw [Int.neg_mul] at h2
 refine rg_or (.inr ⟨?_, ?_⟩)
 ·refine Int.le_trans (mn_le _ _) (Int.le_trans (mn_le _ _) (Int.le_trans (mn_le _ _) ?_))
  generalize a0 * b0 = p at *
  omega
 ·refine Int.le_trans ?_ (Int.le_trans (mx_ge _ _) (Int.le_trans (mx_ge _ _) (mx_ge _ _)))
  generalize a0 * b0 = p at *
  omega
theorem divDown_val {k : Nat} (hk : 66 ≤ k) {a b m : Int} (h : spec_l03DivDown k a b = some [.i m, .b true]) (hb : 0 < b) : m = a * 4294967296 / b := by
 obtain ⟨m', o, e, _, _, _, h1⟩ := divDown_same k hk a b
 rw [h] at e
 cases e
 exact h1 rfl hb
theorem divUp_val {k : Nat} (hk : 66 ≤ k) {a b m : Int} (h : spec_l03DivUp k a b = some [.i m, .b true]) (hb : 0 < b) : m = -(-a * 4294967296 / b) := by
 obtain ⟨m', o, e, _, _, h1⟩ := divUp_same k hk a b
 rw [h] at e
 cases e
 exact h1 rfl hb
theorem div_un {k : Nat} (hk : 66 ≤ k) {a c m m' : Int} (P : Divs k a c m true m' true) (ha : 0 ≤ a ∧ a ≤ 4294967296) (hc : 4294967296 ≤ c) : (0 ≤ m ∧ m ≤ 4294967296) ∧ 0 ≤ m' ∧ m' ≤ 4294967296 := by
 have h1 := divDown_val hk P.sd (by omega)
 have h2 := divUp_val hk P.su (by omega)
 have hcp : 0 < c := by omega
 have l1 : a * 4294967296 ≤ 4294967296 * c := Int.le_trans (Int.mul_le_mul_of_nonneg_right ha.2 (by decide)) (Int.mul_le_mul_of_nonneg_left hc (by decide))
 have l0 : 0 ≤ a * 4294967296 := by omega
 have e1 : 0 ≤ a * 4294967296 / c := Int.ediv_nonneg l0 (by omega)
 have e2 : a * 4294967296 / c ≤ 4294967296 := Int.ediv_le_of_le_mul hcp l1
 have e3 : -4294967296 ≤ -a * 4294967296 / c := Int.le_ediv_of_mul_le hcp (by rw [Int.neg_mul, Int.neg_mul]; omega)
 have e4 : -a * 4294967296 / c ≤ 0 := by
  have := Int.ediv_le_of_le_mul (a := -a * 4294967296) (b := 0) hcp (by omega)
  exact this
 omega
theorem divI_un {k : Nat} (hk : 66 ≤ k) {a0 a1 c x y : Int} (h : DivB k a0 a1 c c x y) (ha : Un a0 a1) (hc : 4294967296 ≤ c) : Un x y := by
 rcases h with h | ⟨hA, hB, m1, m2, m3, m4, m5, m6, m7, m8, P, Q, R, S, rfl, rfl⟩
 ·exact .inl h
 rcases ha with ha | ⟨_, a2, a3⟩
 ·rw [ha] at hA; cases hA
 have va := ivB_iff.1 hA
 have h1 := div_un hk P ⟨a2, by omega⟩ hc
 have h2 := div_un hk Q ⟨a2, by omega⟩ hc
 have h3 := div_un hk R ⟨by omega, a3⟩ hc
 have h4 := div_un hk S ⟨by omega, a3⟩ hc
 refine un_or (.inr ⟨?_, ?_⟩)
 ·have e : ∀ p q : Int, 0 ≤ p → 0 ≤ q → 0 ≤ mnI p q := fun p q h1 h2 => by unfold mnI; split <;> omega
  exact e _ _ (e _ _ (e _ _ h1.1.1 h2.1.1) h3.1.1) h4.1.1
 ·have e : ∀ p q : Int, p ≤ 4294967296 → q ≤ 4294967296 → mxI p q ≤ 4294967296 := fun p q h1 h2 => by unfold mxI; split <;> omega
  exact e _ _ (e _ _ (e _ _ h1.2.2 h2.2.2) h3.2.2) h4.2.2
theorem sqrI_un {k : Nat} {a0 a1 x y : Int} (h : SqrB k a0 a1 x y) (ha : -4294967296 ≤ a0 ∧ a1 ≤ 4294967296) : Un x y := by
 rcases h with h | ⟨hA, p, q, h0, h1, h2, h3, e1, e2⟩
 ·exact .inl h
 have hq := h2 4294967296 (by decide) ha.1 ha.2
 have v1 := mulDown_val e1
 have v2 := mulUp_val (fix_small (by omega) hq) e2
 have b1 := mul_bd (show 0 ≤ p ∧ p ≤ 4294967296 by omega) (show 0 ≤ p ∧ p ≤ 4294967296 by omega)
 have b2 := mul_bd (show 0 ≤ q ∧ q ≤ 4294967296 by omega) (show 0 ≤ q ∧ q ≤ 4294967296 by omega)
 rw [Int.neg_mul] at v2
 refine un_or (.inr ?_)
 generalize p * p = s at *
 generalize q * q = t at *
 omega
theorem one_some (k : Nat) : spec_Integer k 1 = some [.i 4294967296, .i 4294967296] ∧ impl_Integer k 1 = some [.i 4294967296, .i 4294967296] := by
 obtain ⟨x, y, e1, e2, h⟩ := integer_same k 1
 obtain ⟨rfl, rfl⟩ := h (by decide)
 exact ⟨e1, e2⟩
theorem series_l0 (k : Nat) (hk : 66 ≤ k) (f y0 y1 : Int) (hf : f = 0 ∨ f = -1) (hy : Un y0 y1) : ∀ (d : Nat) (n n' : Nat) (s0 s1 : Int), d ≤ 8 → Un s0 s1 →
  ∃ x y, spec_l06Series_l0 k (d + 1 + n) f y0 y1 0 0 s0 s1 (d : Int) = some [.i 0, .i f, .i y0, .i y1, .i 0, .i 0, .i x, .i y, .i 0] ∧ impl_series_l0 k (d + 1 + n') (f + 2) y0 y1 0 0 s0 s1 (d : Int) = some [.i 0, .i (f + 2), .i y0, .i y1, .i 0, .i 0, .i x, .i y, .i 0] ∧ Un x y
 | 0, n, n', s0, s1, hd, hs => by
  refine ⟨s0, s1, ?_, ?_, hs⟩
  ·rw [show 0 + 1 + n = n + 1 by omega, spec_l06Series_l0, bif_f (leI_f (by omega))]; rfl
  ·rw [show 0 + 1 + n' = n' + 1 by omega, impl_series_l0, bif_f (leI_f (by omega))]; rfl
 | d + 1, n, n', s0, s1, hd, hs => by
  rw [show d + 1 + 1 + n = (d + 1 + n) + 1 by omega, show d + 1 + 1 + n' = (d + 1 + n') + 1 by omega, spec_l06Series_l0, impl_series_l0, bif_t (leI_t (by omega)), bif_t (leI_t (by omega))]
  dsimp only
  have ha : ∃ a : Int, a = 2 * (((d + 1 : Nat)) : Int) + f := ⟨_, rfl⟩
  obtain ⟨a, ha⟩ := ha
  have hb : 1 ≤ a ∧ a ≤ 16 := by omega
  have hp := mul_bd (show 0 ≤ a ∧ a ≤ 16 by omega) (show 0 ≤ a + 1 ∧ a + 1 ≤ 17 by omega)
  have hq : 1 ≤ a * (a + 1) := by
   have := Int.mul_le_mul hb.1 (show 1 ≤ a + 1 by omega) (by decide) (by omega)
   omega
  have w1 : IntKind.wrap .i64 (IntKind.wrap .i64 (2 * (((d + 1 : Nat)) : Int)) + f) = a := by rw [wr (2 * _) (by omega) (by omega), wr _ (by omega) (by omega), ha]
  have w2 : IntKind.wrap .i64 (f + 2 + IntKind.wrap .i64 (2 * IntKind.wrap .i64 ((((d + 1 : Nat)) : Int) - 1))) = a := by rw [wr (((d + 1 : Nat) : Int) - 1) (by omega) (by omega), wr (2 * _) (by omega) (by omega), wr _ (by omega) (by omega)]; omega
  have w3 : IntKind.wrap .i64 (a + 1) = a + 1 := wr _ (by omega) (by omega)
  have w4 : IntKind.wrap .i64 (a * (a + 1)) = a * (a + 1) := wr _ (by omega) (by omega)
  have w5 : IntKind.wrap .i64 ((((d + 1 : Nat)) : Int) - 1) = (d : Int) := by rw [wr _ (by omega) (by omega)]; omega
  rw [w1, w2, w3, w4, (one_some k).1, (one_some k).2]
  obtain ⟨c, c', i1, i2, hc⟩ := integer_same k (a * (a + 1))
  obtain ⟨rfl, rfl⟩ := hc (by omega)
  rw [i1, i2]
  simp only [Option.bind_some, gi0, giS]
  obtain ⟨u, v, d1, d2, hD⟩ := divI_full k hk y0 y1 (a * (a + 1) * 4294967296) (a * (a + 1) * 4294967296)
  have hu := divI_un hk hD hy (by omega)
  rw [d1, d2]
  simp only [Option.bind_some, gi0, giS]
  obtain ⟨p, q, m1, m2, hM⟩ := mulI_full k (by omega) u v s0 s1
  have hpq := mulI_un hM hu hs
  rw [m1, m2]
  simp only [Option.bind_some, gi0, giS]
  obtain ⟨x, y, t1, t2, hT⟩ := subI_full k 4294967296 4294967296 p q
  rw [t1, t2, w5]
  simp only [Option.bind_some, gi0, giS]
  refine series_l0 k hk f y0 y1 hf hy d n n' x y (by omega) (un_or ?_)
  rcases hT with h | ⟨_, h2, rfl, rfl⟩
  ·exact .inl h
  ·rcases hpq with h | ⟨_, h3, h4⟩
   ·rw [h] at h2; cases h2
   ·have := ivB_iff.1 h2
    exact .inr ⟨by omega, by omega⟩
theorem series_same (k : Nat) (hk : 66 ≤ k) (f y0 y1 : Int) (hf : f = 0 ∨ f = -1) (hy : Un y0 y1) : ∃ x y, spec_l06Series k y0 y1 f = some [.i x, .i y] ∧ impl_series k y0 y1 (f + 2) = some [.i x, .i y] ∧ Un x y := by
 obtain ⟨n, rfl⟩ : ∃ n, k = 8 + 1 + n := ⟨k - 9, by omega⟩
 obtain ⟨x, y, e1, e2, h⟩ := series_l0 (8 + 1 + n) hk f y0 y1 hf hy 8 n n 4294967296 4294967296 (by omega) (.inr ⟨by decide, by decide, by decide⟩)
 refine ⟨x, y, ?_, ?_, h⟩
 ·unfold spec_l06Series
  rw [(one_some _).1, Option.bind_some]
  simp only [gi0, giS]
  rw [show ((8 : Nat) : Int) = 8 from rfl] at e1
  rw [e1]; rfl
 ·unfold impl_series
  rw [(one_some _).2, Option.bind_some]
  simp only [gi0, giS]
  rw [show ((8 : Nat) : Int) = 8 from rfl] at e2
  rw [e2]; rfl
theorem rg_add1 {a0 a1 x y : Int} (h : AddB a0 a1 (-1) 1 x y) (ha : Rg a0 a1) : Rg x y := by
 rcases h with h | ⟨h1, _, rfl, rfl⟩
 ·exact .inl h
 ·rcases ha with ha | ⟨_, h2, h3⟩
  ·rw [ha] at h1; cases h1
  ·exact rg_or (.inr ⟨by omega, by omega⟩)
theorem un_rg {x y : Int} (h : Un x y) : Rg x y := by
 rcases h with h | ⟨h, h1, h2⟩
 ·exact .inl h
 ·have := ivB_iff.1 h
  exact .inr ⟨h, by omega, by omega⟩
theorem sinSeries_same (k : Nat) (hk : 66 ≤ k) (a0 a1 : Int) : ∃ x y, spec_SinSeries k a0 a1 = some [.i x, .i y] ∧ impl_SinSeries k a0 a1 = some [.i x, .i y] ∧ Rg x y := by
 obtain ⟨o, i1, i2, hi⟩ := inside_same k a0 a1 (-4294967296) 4294967296
 unfold spec_SinSeries impl_SinSeries
 rw [show spec_l06Ring k = some [.i (-4294967296), .i 4294967296] from rfl, show impl_ring k = some [.i (-4294967296), .i 4294967296] from rfl]
 simp only [Option.bind_some, gi0, giS]
 rw [i1, i2]
 simp only [Option.bind_some, gb0]
 cases o
 ·exact ⟨_, _, rfl, rfl, .inl rfl⟩
 obtain ⟨hA, h1, h2⟩ := hi (by decide) rfl
 simp only [Bool.not_true, cond_false]
 obtain ⟨y0, y1, q1, q2, hq⟩ := sqrI_full k a0 a1
 have hy := sqrI_un hq ⟨h1, h2⟩
 rw [q1, q2]
 simp only [Option.bind_some, gi0, giS]
 obtain ⟨s0, s1, r1, r2, hs⟩ := series_same k hk 0 y0 y1 (.inl rfl) hy
 rw [show (0 : Int) + 2 = 2 from rfl] at r2
 rw [r1, r2]
 simp only [Option.bind_some, gi0, giS]
 obtain ⟨p, q, m1, m2, hM⟩ := mulI_full k (by omega) a0 a1 s0 s1
 rw [m1, m2]
 simp only [Option.bind_some, gi0, giS]
 rw [show spec_l06Tiny k = some [.i (-1), .i 1] from rfl, show impl_tiny k = some [.i (-1), .i 1] from rfl]
 simp only [Option.bind_some, gi0, giS]
 obtain ⟨x, y, t1, t2, hT⟩ := addI_full k p q (-1) 1
 rw [t1, t2]
 exact ⟨x, y, rfl, rfl, rg_add1 hT (mulI_rg hM ⟨h1, h2⟩ hs)⟩
theorem cosSeries_same (k : Nat) (hk : 66 ≤ k) (a0 a1 : Int) : ∃ x y, spec_CosSeries k a0 a1 = some [.i x, .i y] ∧ impl_CosSeries k a0 a1 = some [.i x, .i y] ∧ Rg x y := by
 obtain ⟨o, i1, i2, hi⟩ := inside_same k a0 a1 (-4294967296) 4294967296
 unfold spec_CosSeries impl_CosSeries
 rw [show spec_l06Ring k = some [.i (-4294967296), .i 4294967296] from rfl, show impl_ring k = some [.i (-4294967296), .i 4294967296] from rfl]
 simp only [Option.bind_some, gi0, giS]
 rw [i1, i2]
 simp only [Option.bind_some, gb0]
 cases o
 ·exact ⟨_, _, rfl, rfl, .inl rfl⟩
 obtain ⟨hA, h1, h2⟩ := hi (by decide) rfl
 simp only [Bool.not_true, cond_false]
 obtain ⟨y0, y1, q1, q2, hq⟩ := sqrI_full k a0 a1
 have hy := sqrI_un hq ⟨h1, h2⟩
 rw [q1, q2]
 simp only [Option.bind_some, gi0, giS]
 obtain ⟨s0, s1, r1, r2, hs⟩ := series_same k hk (-1) y0 y1 (.inr rfl) hy
 rw [show (-1 : Int) + 2 = 1 from rfl] at r2
 rw [r1, r2]
 simp only [Option.bind_some, gi0, giS]
 rw [show spec_l06Tiny k = some [.i (-1), .i 1] from rfl, show impl_tiny k = some [.i (-1), .i 1] from rfl]
 simp only [Option.bind_some, gi0, giS]
 obtain ⟨x, y, t1, t2, hT⟩ := addI_full k s0 s1 (-1) 1
 rw [t1, t2]
 exact ⟨x, y, rfl, rfl, rg_add1 hT (un_rg hs)⟩
theorem meet_same (k : Nat) (a0 a1 : Int) (h : Rg a0 a1) : ∃ x y, spec_l06Meet k a0 a1 = some [.i x, .i y] ∧ impl_inRing k a0 a1 = some [.i x, .i y] := by
 obtain ⟨x, y, o, e1, e2, h1, h2⟩ := meetI_same k a0 a1 (-4294967296) 4294967296
 have ho : o = true := by
  rcases h with h | ⟨_, h3, h4⟩
  ·exact h1 h
  ·exact h2 (by decide) h3 h4
 subst ho
 unfold spec_l06Meet impl_inRing
 rw [show spec_l06Ring k = some [.i (-4294967296), .i 4294967296] from rfl, show impl_ring k = some [.i (-4294967296), .i 4294967296] from rfl]
 simp only [Option.bind_some, gi0, giS]
 rw [e1, e2]
 exact ⟨x, y, rfl, rfl⟩
theorem neg_rg {k : Nat} {a0 a1 : Int} (h : Rg a0 a1) : ∃ x y, spec_NegI k a0 a1 = some [.i x, .i y] ∧ impl_NegI k a0 a1 = some [.i x, .i y] ∧ Rg x y := by
 obtain ⟨x, y, e1, e2, h1, h2⟩ := negI_full k a0 a1
 refine ⟨x, y, e1, e2, ?_⟩
 rcases h with h | ⟨h, h3, h4⟩
 ·exact .inl (h2 h)
 ·obtain ⟨h5, rfl, rfl⟩ := h1 h
  exact .inr ⟨h5, by omega, by omega⟩
theorem angle_some (k : Nat) (a : Int) : spec_l06Angle k a = some [.b (leI (-1099511627776) a && leI a 1099511627776)] := by unfold spec_l06Angle; rw [in_some]; rfl
theorem isAngle_some (k : Nat) (a : Int) : impl_isAngle k a = some [.b (leI (-1099511627776) a && leI a 1099511627776)] := by unfold impl_isAngle; rw [within_some]; rfl
def qt (a : Int) : Int := bif leI (-1099511627776) a && leI a 1099511627776 then (a + 3373259426) / 6746518852 else 0
theorem qt_bd (a : Int) : -170 ≤ qt a ∧ qt a ≤ 170 := by
 unfold qt
 cases h : (leI (-1099511627776) a && leI a 1099511627776) with
 | false => simp only [cond_false]; omega
 | true =>
  simp only [Bool.and_eq_true, leI_iff] at h
  simp only [cond_true]
  omega
theorem tdiv_cases (m : Int) : (0 ≤ m ∧ Int.tdiv m 6746518852 = m / 6746518852 ∧ Int.tmod m 6746518852 = m % 6746518852) ∨ (m < 0 ∧ Int.tdiv m 6746518852 = -(-m / 6746518852) ∧ Int.tmod m 6746518852 = -(-m % 6746518852)) := by
 by_cases h : 0 ≤ m
 ·exact .inl ⟨h, tdiv_nn _ _ h, tmod_nn _ _ h⟩
 ·refine .inr ⟨by omega, ?_, ?_⟩
  ·rw [← tdiv_nn (-m) _ (by omega), Int.neg_tdiv, Int.neg_neg]
  ·rw [← tmod_nn (-m) _ (by omega), Int.neg_tmod, Int.neg_neg]
theorem quarter_some (k : Nat) (a : Int) : spec_QuarterOf k a = some [.i (qt a)] ∧ impl_QuarterOf k a = some [.i (qt a)] := by
 unfold spec_QuarterOf impl_QuarterOf qt
 rw [angle_some, isAngle_some]
 simp only [Option.bind_some, gb0]
 cases h : (leI (-1099511627776) a && leI a 1099511627776) with
 | false => exact ⟨rfl, rfl⟩
 | true =>
  simp only [Bool.and_eq_true, leI_iff] at h
  simp only [Bool.not_true, cond_false, cond_true]
  rw [wr (a + 3373259426) (by omega) (by omega)]
  obtain ⟨m, hm⟩ : ∃ m, m = a + 3373259426 := ⟨_, rfl⟩
  rw [← hm]
  unfold spec_l06Floor
  rw [bif_f (eqI_f (by decide)), bif_f (eqI_f (by decide))]
  have hw : ∀ x : Int, -1000000000000000000 ≤ x → x ≤ 1000000000000000000 → IntKind.wrap .i64 x = x := fun x h1 h2 => wr x (by omega) (by omega)
  rcases tdiv_cases m with ⟨h0, e1, e2⟩ | ⟨h0, e1, e2⟩
  ·rw [e1, e2, hw (m / 6746518852) (by omega) (by omega), bif_f (ltI_f (by omega)), hw (m / 6746518852 * 6746518852) (by omega) (by omega), bif_f (ltI_f (by omega))]
   exact ⟨rfl, rfl⟩
  ·rw [e1, e2, hw (-(-m / 6746518852)) (by omega) (by omega), hw (-(-m / 6746518852) * 6746518852) (by omega) (by omega), hw (-(-m / 6746518852) - 1) (by omega) (by omega)]
   by_cases hz : -m % 6746518852 = 0
   ·rw [bif_f (ltI_f (by omega)), bif_f (ltI_f (by omega)), show -(-m / 6746518852) = m / 6746518852 by omega]
    exact ⟨rfl, rfl⟩
   ·rw [bif_t (ltI_t (by omega)), bif_t (ltI_t (by omega)), show -(-m / 6746518852) - 1 = m / 6746518852 by omega]
    exact ⟨rfl, rfl⟩
theorem intR_in {n : Int} (h0 : -9223372036854775808 ≤ n) (h1 : n ≤ 9223372036854775807) : intR n = [.i n, .b true] := by unfold intR; rw [if_pos ⟨h0, h1⟩]
theorem turn_spec (k j : Nat) (m lo : Int) (e1 : m ≠ 0) (e2 : 0 ≤ m) (hb : 0 ≤ lo ∧ lo ≤ 1000000000000000) (h : spec_MulFloor k m 7244019458077122842 30 = some [.i lo, .b true]) : spec_l05Turn k (j + 1) m = some [.i lo, .i (lo + 1)] := by
 rw [spec_l05Turn, bif_f (beq_f e1), bif_f (ltI_f e2), h, Option.bind_some, gi0, wr _ (by omega) (by omega)]
theorem turn_impl (k j : Nat) (m lo : Int) (e1 : m ≠ 0) (e2 : 0 ≤ m) (e3 : -4096 ≤ m) (e4 : m ≤ 4096) (hb : 0 ≤ lo ∧ lo ≤ 1000000000000000) (h : impl_MulFloor k m 7244019458077122842 30 = some [.i lo, .b true]) : impl_TurnI k (j + 1) m = some [.i lo, .i (lo + 1)] := by
 rw [impl_TurnI, within_some, leI_t e3, leI_t e4]
 simp only [Option.bind_some, gb0, Bool.and_self, Bool.not_true, cond_false]
 rw [bif_f (ltI_f e2), bif_f (beq_f e1), h, Option.bind_some, gi0, wr _ (by omega) (by omega)]
theorem turn_val (m : Int) (h : 1 ≤ m ∧ m ≤ 4096) : 0 ≤ m * 7244019458077122842 / 1073741824 ∧ m * 7244019458077122842 / 1073741824 ≤ 1000000000000000 := by
 have l0 : 0 ≤ m * 7244019458077122842 := Int.mul_nonneg (by omega) (by decide)
 have l1 : m * 7244019458077122842 ≤ 4096 * 7244019458077122842 := Int.mul_le_mul_of_nonneg_right h.2 (by decide)
 exact ⟨Int.ediv_nonneg l0 (by decide), Int.ediv_le_of_le_mul (by decide) (Int.le_trans l1 (by decide))⟩
theorem turn_pos (k j : Nat) (m : Int) (hn : 1 ≤ m ∧ m ≤ 4096) : ∃ lo, (0 ≤ lo ∧ lo ≤ 1000000000000000) ∧ spec_l05Turn k (j + 1) m = some [.i lo, .i (lo + 1)] ∧ impl_TurnI k (j + 1) m = some [.i lo, .i (lo + 1)] := by
 have hb := turn_val m hn
 have h1 := mulFloor30_some k m 7244019458077122842 ⟨by omega, by omega⟩ ⟨by decide, by decide⟩
 have h2 := implMulFloor30_some k m 7244019458077122842 ⟨by omega, by omega⟩ ⟨by decide, by decide⟩
 rw [intR_in (Int.le_trans (by decide) hb.1) (Int.le_trans hb.2 (by decide))] at h1 h2
 exact ⟨_, hb, turn_spec k j m _ (by omega) (by omega) hb h1, turn_impl k j m _ (by omega) (by omega) (by omega) (by omega) hb h2⟩
theorem turn_same (k : Nat) (hk : 2 ≤ k) (n : Int) : ∃ x y, spec_TurnI k n = some [.i x, .i y] ∧ impl_TurnI k k n = some [.i x, .i y] := by
 obtain ⟨j, rfl⟩ : ∃ j, k = j + 2 := ⟨k - 2, by omega⟩
 generalize hK : j + 2 = K
 unfold spec_TurnI
 rw [show impl_TurnI K K = impl_TurnI K (j + 1 + 1) from by rw [← hK], show spec_l05Turn K K = spec_l05Turn K (j + 1 + 1) from by rw [← hK], in_some]
 simp only [Option.bind_some, gb0]
 cases hi : (leI (-4096) n && leI n 4096) with
 | false =>
  rw [impl_TurnI, within_some, hi]
  exact ⟨_, _, rfl, rfl⟩
 | true =>
  have hi' := hi
  simp only [Bool.and_eq_true, leI_iff] at hi'
  simp only [Bool.not_true, cond_false]
  by_cases h0 : n = 0
  ·subst h0
   exact ⟨0, 0, rfl, rfl⟩
  ·by_cases h1 : n < 0
   ·obtain ⟨m, hm⟩ : ∃ m : Int, 0 - n = m := ⟨0 - n, rfl⟩
    obtain ⟨lo, hb, e1, e2⟩ := turn_pos K j m (by omega)
    rw [spec_l05Turn, impl_TurnI, within_some, hi, bif_f (beq_f h0), bif_t (ltI_t h1), wr (0 - n) (by omega) (by omega), hm, e1]
    simp only [Option.bind_some, gb0, Bool.not_true, cond_false, gi0, giS]
    rw [bif_t (ltI_t h1), e2]
    simp only [Option.bind_some, gi0, giS]
    obtain ⟨x, y, _, e4, h5, _⟩ := negI_full K lo (lo + 1)
    obtain ⟨_, rfl, rfl⟩ := h5 (ivB_iff.2 ⟨by omega, by omega, by omega⟩)
    rw [e4, wr _ (by omega) (by omega), wr _ (by omega) (by omega), show 0 - (lo + 1) = -(lo + 1) by omega, show 0 - lo = -lo by omega]
    exact ⟨_, _, rfl, rfl⟩
   ·obtain ⟨lo, hb, e1, e2⟩ := turn_pos K (j + 1) n (by omega)
    rw [e1, e2]
    exact ⟨_, _, rfl, rfl⟩
end Go.Proofs.YtaimjfippclbcaaGreat.Ev
