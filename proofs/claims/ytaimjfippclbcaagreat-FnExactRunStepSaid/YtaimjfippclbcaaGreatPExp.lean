/- Exponentials and hyperbolic tangents, by both. No condition. -/
import Derived.Test.YtaimjfippclbcaaGreatPBd
import Derived.Test.YtaimjfippclbcaaGreatPAth
import Derived.Test.YtaimjfippclbcaaGreatPAtan
namespace Go.Proofs.YtaimjfippclbcaaGreat.Ev
open Go Go.RowKit
set_option linter.unusedSimpArgs false
set_option linter.unusedVariables false
theorem ln2_near {k : Nat} (hk : 700 ≤ k) (e : Int) (h : -40 ≤ e ∧ e ≤ 40) : ivB (vLn2 k e).1 (vLn2 k e).2 = true ∧ e * 2977044472 - 100 ≤ (vLn2 k e).1 ∧ (vLn2 k e).2 ≤ e * 2977044472 + 100 := by
 obtain ⟨j, hj⟩ : ∃ j, k = j + 1 + 1 := ⟨k - 2, by omega⟩
 have r := (ln2r hk e).1
 rw [show spec_LogTwoI k k = spec_LogTwoI k (j + 1 + 1) from by rw [← hj]] at r
 by_cases h0 : e < 0
 ·have hb := ln2_bd (-e) (by omega)
  obtain ⟨e1, _⟩ := logTwo_pos k j (-e) (by omega)
  rw [spec_LogTwoI, in_some, leI_t (by omega), leI_t (by omega)] at r
  simp only [Option.bind_some, gb0, Bool.and_self, Bool.not_true, cond_false] at r
  rw [bif_t (ltI_t h0), wr (0 - e) (by omega) (by omega), show 0 - e = -e by omega, e1] at r
  simp only [Option.bind_some, pv0, pv1] at r
  obtain ⟨x, y, e2, _, e3, _⟩ := negI_full k (ln2 (-e)).1 (ln2 (-e)).2
  obtain ⟨e4, rfl, rfl⟩ := e3 (ivB_iff.2 ⟨by omega, hb.2.1, by omega⟩)
  rw [e2] at r
  have := pv_inj (p := (_, _)) (Option.some.inj r)
  rw [← this]
  refine ⟨e4, ?_, ?_⟩
  ·unfold ln2
   dsimp only
   omega
  ·unfold ln2
   dsimp only
   omega
 ·have hb := ln2_bd e (by omega)
  obtain ⟨e1, _⟩ := logTwo_pos k (j + 1) e (by omega)
  rw [e1] at r
  have := pv_inj (Option.some.inj r)
  rw [← this]
  refine ⟨ivB_iff.2 ⟨by omega, hb.2.1, by omega⟩, ?_, ?_⟩
  ·unfold ln2
   dsimp only
   omega
  ·unfold ln2
   dsimp only
   omega
theorem one_bd {k : Nat} (hk : 700 ≤ k) : Bd (vInt k 1) 4294967296 := by
 rw [int_val hk 1 (by decide), Int.one_mul]
 exact ⟨ivB_iff.2 ⟨by decide, by decide, by decide⟩, by decide, by decide⟩
theorem exp_st {k : Nat} (hk : 700 ≤ k) (r p : Int × Int) (i : Int) (hr : Bd r 1500000000) (hp : Bd p 8589934592) (hi : 1 ≤ i ∧ i ≤ 268435455) : Bd (vAdd k (vInt k 1) (vDiv k (vMul k r p) (vInt k i))) 8589934592 := by
 have h1 : Bd (vMul k r p) 3000000000 := bd_mul hk hr hp (by decide) (by decide) (by decide) (by decide)
 have h2 := bd_div hk h1 (by decide) hi
 exact (bd_add hk (one_bd hk) h2 (by decide)).mono (by decide)
theorem exp_l0 (k : Nat) (hk : 700 ≤ k) (e : Int) (r : Int × Int) (hr : Bd r 1500000000) : ∀ (m n n' : Nat) (p : Int × Int), m ≤ 9 → Bd p 8589934592 →
  ∃ u, Bd u 8589934592 ∧ spec_ExpAt_l0 k (m + 1 + n) 0 0 e r.1 r.2 p.1 p.2 (m : Int) = some [.i 0, .i 0, .i 0, .i e, .i r.1, .i r.2, .i u.1, .i u.2, .i 0] ∧ impl_ExpAt_l1 k (m + 1 + n') 0 0 e r.1 r.2 p.1 p.2 (m : Int) = some [.i 0, .i 0, .i 0, .i e, .i r.1, .i r.2, .i (Prod.fst u), .i u.2, .i 0] := by
 intro m
 induction m with
 | zero =>
  intro n n' p _ hp
  refine ⟨p, hp, ?_, ?_⟩
  ·rw [show 0 + 1 + n = n + 1 by omega, spec_ExpAt_l0, bif_f (leI_f (by omega))]; rfl
  ·rw [show 0 + 1 + n' = n' + 1 by omega, impl_ExpAt_l1, bif_f (leI_f (by omega))]; rfl
 | succ m ih =>
  intro n n' p h hp
  have e1 : ((m + 1 : Nat) : Int) - 1 = (m : Int) := by omega
  rw [show m + 1 + 1 + n = (m + 1 + n) + 1 by omega, show m + 1 + 1 + n' = (m + 1 + n') + 1 by omega, spec_ExpAt_l0, impl_ExpAt_l1, bif_t (leI_t (by omega)), bif_t (leI_t (by omega)), wr (((m + 1 : Nat) : Int) - 1) (by omega) (by omega), e1]
  obtain ⟨u, hu, s1, s2⟩ := ih n n' _ (by omega) (exp_st hk r p ((m + 1 : Nat) : Int) hr hp (by omega))
  refine ⟨u, hu, ?_, ?_⟩
  ·simp only [one8 hk, ivr hk, Option.bind_some, pv0, pv1, gi0, giS, gb0, gbS, cond_true, cond_false, Bool.not_true, Bool.not_false, pair_eta]
   exact s1
  ·simp only [ivr hk, Option.bind_some, pv0, pv1, gi0, giS, gb0, gbS, cond_true, cond_false, Bool.not_true, Bool.not_false, pair_eta]
   exact s2
theorem dbl_val (k : Nat) (a b : Int) : impl_DoubleI k a b = some (pv (bif ivB a b then vMk (2 * a) (2 * b) else wv)) := by
 unfold impl_DoubleI impl_AddI
 simp only [areB_some, Option.bind_some, gb0]
 cases hv : ivB a b
 ·rfl
 ·have := ivB_iff.1 hv
  rw [wr (a + a) (by omega) (by omega), wr (b + b) (by omega) (by omega), show a + a = 2 * a by omega, show b + b = 2 * b by omega]
  simp only [Bool.and_self, Bool.not_true, cond_false, cond_true, bounded_t, mkIv_pv, Option.bind_some, pv0, pv1]
  rfl
theorem ivB_grow {a b c : Int} (h : a ≤ b) (hc : 1 ≤ c) (hv : ivB a b = false) : ivB (a * c) (b * c) = false := by
 have h1 := ivB_f.1 hv
 refine ivB_f.2 fun ⟨h2, h3, h4⟩ => h1 ⟨?_, h, ?_⟩
 ·by_cases h5 : 0 ≤ a
  ·omega
  ·have := Int.mul_le_mul_of_nonneg_left hc (show 0 ≤ -a by omega)
   rw [Int.neg_mul a c] at this
   omega
 ·by_cases h5 : b ≤ 0
  ·omega
  ·have := Int.mul_le_mul_of_nonneg_left hc (show 0 ≤ b by omega)
   omega
theorem scaled_l0 (k : Nat) : ∀ (m f : Nat) (a b : Int), m ≤ 60 → a ≤ b → ∃ p, impl_scaled_l0 k (m + 1 + f) (m : Int) a b 0 0 = some [.i 0, .i 0, .i p.1, .i p.2, .i 0, .i 0] ∧ (ivB (a * ((2 ^ m : Nat) : Int)) (b * ((2 ^ m : Nat) : Int)) = true → p = (a * ((2 ^ m : Nat) : Int), b * ((2 ^ m : Nat) : Int))) ∧ (ivB (a * ((2 ^ m : Nat) : Int)) (b * ((2 ^ m : Nat) : Int)) = false → ivB (Prod.fst p) p.2 = false)
 | 0, f, a, b, _, _ => by
  refine ⟨(a, b), ?_, ?_, ?_⟩
  ·rw [show 0 + 1 + f = f + 1 by omega, impl_scaled_l0, bif_f (ltI_f (by omega))]; rfl
  ·intro _
   rw [show ((2 ^ 0 : Nat) : Int) = 1 from rfl, Int.mul_one, Int.mul_one]
  ·rw [show ((2 ^ 0 : Nat) : Int) = 1 from rfl, Int.mul_one, Int.mul_one]
   exact fun h => h
 | m + 1, f, a, b, hm, hab => by
  have e1 : ((m + 1 : Nat) : Int) - 1 = (m : Int) := by omega
  have hp : 1 ≤ ((2 ^ m : Nat) : Int) := by have := Nat.two_pow_pos m; omega
  have hq : ∀ x : Int, x * ((2 ^ (m + 1) : Nat) : Int) = 2 * x * ((2 ^ m : Nat) : Int) := fun x => by rw [dbl_pow, Int.mul_assoc]
  rw [show m + 1 + 1 + f = (m + 1 + f) + 1 by omega, impl_scaled_l0, bif_t (ltI_t (by omega)), dbl_val, wr (((m + 1 : Nat) : Int) - 1) (by omega) (by omega), e1, hq, hq]
  simp only [Option.bind_some, pv0, pv1]
  cases hv : ivB a b with
  | false =>
   obtain ⟨p, s, _, s2⟩ := scaled_l0 k m f wv.1 wv.2 (by omega) (by decide)
   simp only [cond_false]
   rw [s]
   have h2 : ivB (2 * a) (2 * b) = false := by rw [Int.mul_comm 2 a, Int.mul_comm 2 b]; exact ivB_grow hab (by decide) hv
   have h1 : ivB (2 * a * ((2 ^ m : Nat) : Int)) (2 * b * ((2 ^ m : Nat) : Int)) = false := ivB_grow (by omega) hp h2
   exact ⟨p, rfl, fun h => by rw [h1] at h; (cases h), fun _ => s2 (ivB_grow (by decide) hp (by decide))⟩
  | true =>
   simp only [cond_true]
   cases h2 : ivB (2 * a) (2 * b) with
   | true =>
    unfold vMk
    rw [h2]
    exact scaled_l0 k m f (2 * a) (2 * b) (by omega) (by omega)
   | false =>
    unfold vMk
    rw [h2]
    obtain ⟨p, s, _, s2⟩ := scaled_l0 k m f wv.1 wv.2 (by omega) (by decide)
    simp only [cond_false]
    rw [s]
    have h1 : ivB (2 * a * ((2 ^ m : Nat) : Int)) (2 * b * ((2 ^ m : Nat) : Int)) = false := ivB_grow (by omega) hp h2
    exact ⟨p, rfl, fun h => by rw [h1] at h; (cases h), fun _ => s2 (ivB_grow (by decide) hp (by decide))⟩
theorem floor_ceil {a b S : Int} (h : a ≤ b) (hS : 0 < S) : a / S ≤ -(-b / S) := by
 have h1 := Int.mul_ediv_self_le (x := a) (k := S) (by omega)
 have h2 := Int.mul_ediv_self_le (x := -b) (k := S) (by omega)
 have h3 : S * (a / S + -b / S) ≤ 0 := by rw [Int.mul_add]; omega
 by_cases h4 : a / S + -b / S ≤ 0
 ·omega
 ·have := Int.mul_le_mul_of_nonneg_left (show 1 ≤ a / S + -b / S by omega) (show 0 ≤ S by omega)
  omega
theorem scale_same {k : Nat} (hk : 700 ≤ k) (w : Int × Int) (e : Int) (hw : Bd w 8589934593) (he : -40 ≤ e ∧ e ≤ 29) : Same (spec_l08Scale k w.1 w.2 e) (impl_scaled k w.1 w.2 e) := by
 obtain ⟨hv, w1, w2⟩ := hw
 have hi := ivB_iff.1 hv
 unfold spec_l08Scale impl_scaled
 by_cases h : 0 ≤ e
 ·obtain ⟨m, rfl⟩ := Int.eq_ofNat_of_zero_le h
  have hm : m ≤ 29 := by omega
  have hp : ((2 ^ m : Nat) : Int) ≤ 536870912 := by
   have := Nat.pow_le_pow_right (n := 2) (by decide) hm
   have e : (2 : Nat) ^ 29 = 536870912 := rfl
   omega
  have hp0 : 1 ≤ ((2 ^ m : Nat) : Int) := by have := Nat.two_pow_pos m; omega
  have b1 := abs_mul (a := w.1) (b := ((2 ^ m : Nat) : Int)) (A := 8589934593) (B := 536870912) (by omega) (by omega)
  have b2 := abs_mul (a := w.2) (b := ((2 ^ m : Nat) : Int)) (A := 8589934593) (B := 536870912) (by omega) (by omega)
  rw [bif_t (leI_t h), wu_id _ (by omega), bif_f (ltI_f (by omega)), bif_f (ltI_f (by omega)), shl_some _ m (by omega), shl_some _ m (by omega)]
  dsimp only
  rw [wr (w.1 * _) (by omega) (by omega), wr (w.2 * _) (by omega) (by omega)]
  obtain ⟨f, hf⟩ : ∃ f, k = m + 1 + f := ⟨k - (m + 1), by omega⟩
  obtain ⟨p, s1, s2, s3⟩ := scaled_l0 k m f w.1 w.2 (by omega) hi.2.1
  rw [← hf] at s1
  rw [s1]
  simp only [ivb, ivr hk, Option.bind_some, pv0, pv1, gi0, giS, gb0, gbS, cond_true, cond_false, Bool.not_true, Bool.not_false, pair_eta]
  rw [show IntKind.wrap .i64 (0 - 0) = ((0 : Nat) : Int) from rfl, bif_f (b := ltI ((0 : Nat) : Int) 0) rfl, shr_some _ 0 (by omega), shr_some _ 0 (by omega), show ((2 ^ 0 : Nat) : Int) = 1 from rfl, Int.ediv_one, Int.ediv_one]
  cases hv2 : ivB (w.1 * ((2 ^ m : Nat) : Int)) (w.2 * ((2 ^ m : Nat) : Int)) with
  | true =>
   obtain rfl := s2 hv2
   have := ivB_iff.1 hv2
   rw [wr (0 - w.2 * _) (by omega) (by omega), wr (0 - (0 - w.2 * _)) (by omega) (by omega), hv2]
   unfold vMk
   rw [hv2]
   refine ⟨_, rfl, ?_⟩
   rw [show 0 - (0 - w.2 * ((2 ^ m : Nat) : Int)) = w.2 * ((2 ^ m : Nat) : Int) by omega]; rfl
  | false =>
   rw [s3 hv2]
   unfold vMk
   rw [hv2]
   exact same_refl _
 ·obtain ⟨s, hs⟩ : ∃ s : Nat, e = -(s : Int) := ⟨(-e).toNat, by omega⟩
  subst hs
  obtain ⟨f, hf⟩ : ∃ f, k = f + 1 := ⟨k - 1, by omega⟩
  have hp : 0 < ((2 ^ s : Nat) : Int) := by have := Nat.two_pow_pos s; omega
  rw [bif_f (leI_f (by omega)), show impl_scaled_l0 k k = impl_scaled_l0 k (f + 1) from by rw [← hf], impl_scaled_l0, bif_f (b := ltI 0 (-(s : Int))) (ltI_f (by omega)), wr (0 - -(s : Int)) (by omega) (by omega), show (0 : Int) - -(s : Int) = (s : Int) by omega, wu_id _ (by omega)]
  simp only [ivb, ivr hk, Option.bind_some, pv0, pv1, gi0, giS, gb0, gbS, cond_true, cond_false, Bool.not_true, Bool.not_false, pair_eta, hv]
  rw [wr (0 - -(s : Int)) (by omega) (by omega), show (0 : Int) - -(s : Int) = (s : Int) by omega, bif_f (b := ltI (s : Int) 0) (ltI_f (by omega)), bif_f (b := ltI (s : Int) 0) (ltI_f (by omega)), bif_f (b := ltI (s : Int) 0) (ltI_f (by omega)), wr (0 - w.2) (by omega) (by omega), shr_some _ s (by omega), shr_some _ s (by omega), show 0 - w.2 = -w.2 by omega]
  have l1 : -8589934593 ≤ w.1 / ((2 ^ s : Nat) : Int) := Int.le_ediv_of_mul_le hp (by
   have := Int.mul_le_mul_of_nonneg_left (show 1 ≤ ((2 ^ s : Nat) : Int) by omega) (show (0 : Int) ≤ 8589934593 by decide)
   omega)
  have l2 : -8589934593 ≤ -w.2 / ((2 ^ s : Nat) : Int) := Int.le_ediv_of_mul_le hp (by
   have := Int.mul_le_mul_of_nonneg_left (show 1 ≤ ((2 ^ s : Nat) : Int) by omega) (show (0 : Int) ≤ 8589934593 by decide)
   omega)
  have l3 := floor_ceil (S := ((2 ^ s : Nat) : Int)) hi.2.1 hp
  have l4 : -w.2 / ((2 ^ s : Nat) : Int) ≤ 8589934593 := Int.ediv_le_of_le_mul hp (by
   have := Int.mul_le_mul_of_nonneg_left (show 1 ≤ ((2 ^ s : Nat) : Int) by omega) (show (0 : Int) ≤ 8589934593 by decide)
   omega)
  have l5 : ivB (w.1 / ((2 ^ s : Nat) : Int)) (-(-w.2 / ((2 ^ s : Nat) : Int))) = true := ivB_iff.2 ⟨by omega, l3, by omega⟩
  rw [wr (0 - -w.2 / _) (by omega) (by omega), show 0 - -w.2 / ((2 ^ s : Nat) : Int) = -(-w.2 / ((2 ^ s : Nat) : Int)) by omega]
  unfold vMk
  rw [l5]
  exact ⟨(_, _), rfl, rfl⟩
theorem wid_val {k : Nat} (hk : 700 ≤ k) {p : Int × Int} (hp : Bd p 8589934592) : Bd (vWid k p) 8589934593 := by
 obtain ⟨hv, h1, h2⟩ := hp
 have hi := ivB_iff.1 hv
 have e := (widr hk p.1 p.2).1
 unfold spec_l08Widen at e
 have hv2 : ivB (p.1 - 1) (p.2 + 1) = true := ivB_iff.2 ⟨by omega, by omega, by omega⟩
 rw [l04Ok_some, hv] at e
 simp only [Option.bind_some, gb0, Bool.not_true, cond_false] at e
 rw [make_some, mkIv_pv, wr _ (by omega) (by omega), wr _ (by omega) (by omega)] at e
 have e' := pv_inj (Option.some.inj e)
 unfold vMk at e'
 rw [hv2] at e'
 rw [← e']
 exact ⟨hv2, by dsimp only [cond_true]; omega, by dsimp only [cond_true]; omega⟩
theorem exp_core {k : Nat} (hk : 700 ≤ k) (n e : Int) (hn : -98784247808 ≤ n ∧ n ≤ 85899345920) (he : 5954088944 * e ≤ 2 * n + 2977044472 ∧ 2 * n + 2977044472 < 5954088944 * e + 5954088944) :
  Same ((spec_l08At k n).bind fun t818 => (spec_LogTwoI k k e).bind fun t819 => (spec_SubI k (gi t818 0) (gi t818 1) (gi t819 0) (gi t819 1)).bind fun t820 => (spec_l08One k).bind fun t821 => (spec_ExpAt_l0 k k 0 0 e (gi t820 0) (gi t820 1) (gi t821 0) (gi t821 1) 9).bind fun t827 => (spec_l08Widen k (gi t827 6) (gi t827 7) 1).bind fun t828 => (spec_l08Scale k (gi t828 0) (gi t828 1) (gi t827 3)).bind fun t829 => some [.i (gi t829 0), .i (gi t829 1)])
   ((impl_at k n).bind fun t964 => (impl_LogTwoI k k e).bind fun t965 => (impl_SubI k (gi t964 0) (gi t964 1) (gi t965 0) (gi t965 1)).bind fun t966 => (impl_Integer k 1).bind fun t967 => (impl_ExpAt_l1 k k 0 0 e (gi t966 0) (gi t966 1) (gi t967 0) (gi t967 1) 9).bind fun t973 => (impl_widened k (gi t973 6) (gi t973 7) 1).bind fun t974 => (impl_scaled k (gi t974 0) (gi t974 1) (gi t973 3)).bind fun t975 => some [.i (gi t975 0), .i (gi t975 1)]) := by
 obtain ⟨f, hf⟩ : ∃ f, k = 9 + 1 + f := ⟨k - 10, by omega⟩
 simp only [at8 k n (by omega), one8 hk, ln2r hk, ivb, ivr hk, Option.bind_some, pv0, pv1, gi0, giS, gb0, gbS, cond_true, cond_false, Bool.not_true, Bool.not_false, pair_eta]
 obtain ⟨v1, v2, v3⟩ := ln2_near hk e (by omega)
 have hi := ivB_iff.1 v1
 have hv : ivB (n - (vLn2 k e).2) (n - (vLn2 k e).1) = true := ivB_iff.2 ⟨by omega, by omega, by omega⟩
 have hs := sub_val hk (a := (n, n)) (b := vLn2 k e) (ivB_iff.2 ⟨by dsimp only; omega, by dsimp only; omega, by dsimp only; omega⟩) v1 hv
 have hr : Bd (vSub k (n, n) (vLn2 k e)) 1500000000 := by
  rw [hs]
  exact ⟨hv, by dsimp only; omega, by dsimp only; omega⟩
 have h3 := (one_bd hk).mono (show (4294967296 : Int) ≤ 8589934592 by decide)
 generalize vSub k (n, n) (vLn2 k e) = r at *
 obtain ⟨u, hu, l1, l2⟩ := exp_l0 k hk e r hr 9 f f (vInt k 1) (by omega) h3
 rw [← hf, show ((9 : Nat) : Int) = 9 from rfl] at l1 l2
 rw [l1, l2]
 simp only [widr hk, ivb, ivr hk, Option.bind_some, pv0, pv1, gi0, giS, gb0, gbS, cond_true, cond_false, Bool.not_true, Bool.not_false, pair_eta]
 obtain ⟨q, q1, q2⟩ := scale_same hk (vWid k u) e (wid_val hk hu) (by omega)
 rw [q1, q2]
 exact same_refl _
theorem tdivD_cases (m : Int) : (0 ≤ m ∧ Int.tdiv m 5954088944 = m / 5954088944 ∧ Int.tmod m 5954088944 = m % 5954088944) ∨ (m < 0 ∧ Int.tdiv m 5954088944 = -(-m / 5954088944) ∧ Int.tmod m 5954088944 = -(-m % 5954088944)) := by
 by_cases h : 0 ≤ m
 ·exact .inl ⟨h, tdiv_nn _ _ h, tmod_nn _ _ h⟩
 ·refine .inr ⟨by omega, ?_, ?_⟩
  ·rw [← tdiv_nn (-m) _ (by omega), Int.neg_tdiv, Int.neg_neg]
  ·rw [← tmod_nn (-m) _ (by omega), Int.neg_tmod, Int.neg_neg]
theorem expAt_same {k : Nat} (hk : 700 ≤ k) (n : Int) : Same (spec_ExpAt k n) (impl_ExpAt k n) := by
 unfold spec_ExpAt impl_ExpAt
 rw [l03Ok_some, validFix_some]
 simp only [Option.bind_some, gb0]
 cases hf : fixB n
 ·exact same_refl wv
 simp only [Bool.not_true, cond_false]
 by_cases h1 : 85899345920 < n
 ·rw [bif_t (ltI_t h1), bif_t (ltI_t h1)]
  exact same_refl wv
 rw [bif_f (b := ltI 85899345920 n) (ltI_f (by omega)), bif_f (b := ltI 85899345920 n) (ltI_f (by omega))]
 by_cases h2 : n < -98784247808
 ·rw [bif_t (ltI_t h2), bif_t (ltI_t h2)]
  exact same_refl (0, 1)
 rw [bif_f (b := ltI n (-98784247808)) (ltI_f (by omega)), bif_f (b := ltI n (-98784247808)) (ltI_f (by omega)), wr (2 * n) (by omega) (by omega), wr (2 * n + 2977044472) (by omega) (by omega)]
 have hw : ∀ x : Int, -1000000000000000000 ≤ x → x ≤ 1000000000000000000 → IntKind.wrap .i64 x = x := fun x h1 h2 => wr x (by omega) (by omega)
 obtain ⟨q, hq, hm, m1, m2, hd⟩ : ∃ q : Int, (-1000 ≤ q ∧ q ≤ 1000) ∧ Int.tmod (2 * n + 2977044472) 5954088944 = 2 * n + 2977044472 - 5954088944 * q ∧ -5954088944 < 2 * n + 2977044472 - 5954088944 * q ∧ 2 * n + 2977044472 - 5954088944 * q < 5954088944 ∧ Int.tdiv (2 * n + 2977044472) 5954088944 = q := by
  rcases tdivD_cases (2 * n + 2977044472) with ⟨h0, e1, e2⟩ | ⟨h0, e1, e2⟩
  ·exact ⟨_, by omega, by omega, by omega, by omega, e1⟩
  ·exact ⟨_, by omega, by omega, by omega, by omega, e1⟩
 rw [hd, hm, hw q (by omega) (by omega), hw (q * 2) (by omega) (by omega), hw (q * 2 * 2977044472) (by omega) (by omega), hw (q - 1) (by omega) (by omega)]
 by_cases h3 : 2 * n + 2977044472 - 5954088944 * q < 0
 ·rw [bif_t (ltI_t h3), bif_t (ltI_t (by omega))]
  exact exp_core hk n (q - 1) (by omega) (by omega)
 ·rw [bif_f (b := ltI _ 0) (ltI_f (by omega)), bif_f (b := ltI _ _) (ltI_f (by omega))]
  exact exp_core hk n q (by omega) (by omega)
noncomputable def vExpAt (k : Nat) (n : Int) : Int × Int := iv (spec_ExpAt k n)
theorem expAtr {k : Nat} (hk : 700 ≤ k) (n : Int) : spec_ExpAt k n = some (pv (vExpAt k n)) ∧ impl_ExpAt k n = some (pv (vExpAt k n)) := same_rule (expAt_same hk n)
end Go.Proofs.YtaimjfippclbcaaGreat.Ev
