/- Sines, by both. No condition. -/
import Derived.Test.YtpbmapaafnnoiaaGreatDoorPIv
namespace Go.Proofs.YtpbmapaafnnoiaaGreatDoor.Ev
open Go Go.RowKit
set_option linter.unusedSimpArgs false
set_option linter.unusedVariables false
/-! ### Bounds -/
def Un (x y : Int) : Prop := ivB x y = false ∨ (ivB x y = true ∧ 0 ≤ x ∧ y ≤ 4294967296)
def Rg (x y : Int) : Prop := ivB x y = false ∨ (ivB x y = true ∧ x ≤ 4294967296 ∧ -4294967296 ≤ y)
theorem un_or {x y : Int} (h : ivB x y = false ∨ (0 ≤ x ∧ y ≤ 4294967296)) : Un x y := by
  cases hv : ivB x y with
  | false => exact .inl hv
  | true =>
    rcases h with h | h
    · rw [hv] at h; cases h
    · exact .inr ⟨hv, h⟩
theorem rg_or {x y : Int} (h : ivB x y = false ∨ (x ≤ 4294967296 ∧ -4294967296 ≤ y)) : Rg x y := by
  cases hv : ivB x y with
  | false => exact .inl hv
  | true =>
    rcases h with h | h
    · rw [hv] at h; cases h
    · exact .inr ⟨hv, h⟩
theorem fix_small {a : Int} (h0 : -4294967296 ≤ a) (h1 : a ≤ 4294967296) : fixB a = true := fixB_iff.2 ⟨by omega, by omega⟩
theorem mul_un {k : Nat} {a b m m' : Int} (P : Prods k a b m true m' true) (ha : 0 ≤ a ∧ a ≤ 4294967296) (hb : 0 ≤ b ∧ b ≤ 4294967296) : (0 ≤ m ∧ m ≤ 4294967296) ∧ 0 ≤ m' ∧ m' ≤ 4294967296 := by
  have h1 := mulDown_val P.sd
  have h2 := mulUp_val (fix_small (by omega) ha.2) P.su
  have h3 := mul_bd ha hb
  rw [Int.neg_mul] at h2
  generalize a * b = p at *
  omega
theorem mulI_un {k : Nat} {a0 a1 b0 b1 x y : Int} (h : MulB k a0 a1 b0 b1 x y) (ha : Un a0 a1) (hb : Un b0 b1) : Un x y := by
  rcases h with h | ⟨hA, hB, m1, m2, m3, m4, m5, m6, m7, m8, P, Q, R, S, rfl, rfl⟩
  · exact .inl h
  rcases ha with ha | ⟨_, a2, a3⟩
  · rw [ha] at hA; cases hA
  rcases hb with hb | ⟨_, b2, b3⟩
  · rw [hb] at hB; cases hB
  have va := ivB_iff.1 hA
  have vb := ivB_iff.1 hB
  have h1 := mul_un P ⟨a2, by omega⟩ ⟨b2, by omega⟩
  have h2 := mul_un Q ⟨a2, by omega⟩ ⟨by omega, b3⟩
  have h3 := mul_un R ⟨by omega, a3⟩ ⟨b2, by omega⟩
  have h4 := mul_un S ⟨by omega, a3⟩ ⟨by omega, b3⟩
  refine un_or (.inr ⟨?_, ?_⟩)
  · have e : ∀ p q : Int, 0 ≤ p → 0 ≤ q → 0 ≤ mnI p q := fun p q h1 h2 => by unfold mnI; split <;> omega
    exact e _ _ (e _ _ (e _ _ h1.1.1 h2.1.1) h3.1.1) h4.1.1
  · have e : ∀ p q : Int, p ≤ 4294967296 → q ≤ 4294967296 → mxI p q ≤ 4294967296 := fun p q h1 h2 => by unfold mxI; split <;> omega
    exact e _ _ (e _ _ (e _ _ h1.2.2 h2.2.2) h3.2.2) h4.2.2
theorem mn_le (p q : Int) : mnI p q ≤ p := by unfold mnI; split <;> omega
theorem mx_ge (p q : Int) : p ≤ mxI p q := by unfold mxI; split <;> omega
theorem mulI_rg {k : Nat} {a0 a1 b0 b1 x y : Int} (h : MulB k a0 a1 b0 b1 x y) (ha : -4294967296 ≤ a0 ∧ a1 ≤ 4294967296) (hb : Un b0 b1) : Rg x y := by
  rcases h with h | ⟨hA, hB, m1, m2, m3, m4, m5, m6, m7, m8, P, Q, R, S, rfl, rfl⟩
  · exact .inl h
  rcases hb with hb | ⟨_, b2, b3⟩
  · rw [hb] at hB; cases hB
  have va := ivB_iff.1 hA
  have vb := ivB_iff.1 hB
  have h1 := mulDown_val P.sd
  have h2 := mulUp_val (fix_small ha.1 (by omega)) P.su
  have l1 : a0 * b0 ≤ 4294967296 * 4294967296 := Int.le_trans (Int.mul_le_mul_of_nonneg_right (show a0 ≤ 4294967296 by omega) b2) (Int.mul_le_mul_of_nonneg_left (show b0 ≤ 4294967296 by omega) (by decide))
  have l2 : -(4294967296 * 4294967296) ≤ a0 * b0 := by
    have e1 := Int.mul_le_mul_of_nonneg_right (show -4294967296 ≤ a0 by omega) b2
    have e2 := Int.mul_le_mul_of_nonneg_left (show b0 ≤ 4294967296 by omega) (show (0 : Int) ≤ 4294967296 by decide)
    rw [Int.neg_mul] at e1
    omega
  rw [Int.neg_mul] at h2
  refine rg_or (.inr ⟨?_, ?_⟩)
  · refine Int.le_trans (mn_le _ _) (Int.le_trans (mn_le _ _) (Int.le_trans (mn_le _ _) ?_))
    generalize a0 * b0 = p at *
    omega
  · refine Int.le_trans ?_ (Int.le_trans (mx_ge _ _) (Int.le_trans (mx_ge _ _) (mx_ge _ _)))
    generalize a0 * b0 = p at *
    omega
theorem divDown_val {k : Nat} (hk : 66 ≤ k) {a b m : Int} (h : spec_l03DivDown k a b = some [.i m, .b true]) (hb : 0 < b) : m = a * 4294967296 / b := by
  obtain ⟨m', o, e, _, _, _, h1⟩ := divDown_same k hk a b
  rw [h] at e
  cases e
  exact h1 rfl hb
theorem divUp_val {k : Nat} (hk : 66 ≤ k) {a b m : Int} (h : spec_l03DivUp k a b = some [.i m, .b true]) (hb : 0 < b) : m = -(-a * 4294967296 / b) := by
  obtain ⟨m', o, e, _, _, h1⟩ := divUp_same k hk a b
  rw [h] at e
  cases e
  exact h1 rfl hb
theorem div_un {k : Nat} (hk : 66 ≤ k) {a c m m' : Int} (P : Divs k a c m true m' true) (ha : 0 ≤ a ∧ a ≤ 4294967296) (hc : 4294967296 ≤ c) : (0 ≤ m ∧ m ≤ 4294967296) ∧ 0 ≤ m' ∧ m' ≤ 4294967296 := by
  have h1 := divDown_val hk P.sd (by omega)
  have h2 := divUp_val hk P.su (by omega)
  have hcp : 0 < c := by omega
  have l1 : a * 4294967296 ≤ 4294967296 * c := Int.le_trans (Int.mul_le_mul_of_nonneg_right ha.2 (by decide)) (Int.mul_le_mul_of_nonneg_left hc (by decide))
  have l0 : 0 ≤ a * 4294967296 := by omega
  have e1 : 0 ≤ a * 4294967296 / c := Int.ediv_nonneg l0 (by omega)
  have e2 : a * 4294967296 / c ≤ 4294967296 := Int.ediv_le_of_le_mul hcp l1
  have e3 : -4294967296 ≤ -a * 4294967296 / c := Int.le_ediv_of_mul_le hcp (by rw [Int.neg_mul, Int.neg_mul]; omega)
  have e4 : -a * 4294967296 / c ≤ 0 := by
    have := Int.ediv_le_of_le_mul (a := -a * 4294967296) (b := 0) hcp (by omega)
    exact this
  omega
theorem divI_un {k : Nat} (hk : 66 ≤ k) {a0 a1 c x y : Int} (h : DivB k a0 a1 c c x y) (ha : Un a0 a1) (hc : 4294967296 ≤ c) : Un x y := by
  rcases h with h | ⟨hA, hB, m1, m2, m3, m4, m5, m6, m7, m8, P, Q, R, S, rfl, rfl⟩
  · exact .inl h
  rcases ha with ha | ⟨_, a2, a3⟩
  · rw [ha] at hA; cases hA
  have va := ivB_iff.1 hA
  have h1 := div_un hk P ⟨a2, by omega⟩ hc
  have h2 := div_un hk Q ⟨a2, by omega⟩ hc
  have h3 := div_un hk R ⟨by omega, a3⟩ hc
  have h4 := div_un hk S ⟨by omega, a3⟩ hc
  refine un_or (.inr ⟨?_, ?_⟩)
  · have e : ∀ p q : Int, 0 ≤ p → 0 ≤ q → 0 ≤ mnI p q := fun p q h1 h2 => by unfold mnI; split <;> omega
    exact e _ _ (e _ _ (e _ _ h1.1.1 h2.1.1) h3.1.1) h4.1.1
  · have e : ∀ p q : Int, p ≤ 4294967296 → q ≤ 4294967296 → mxI p q ≤ 4294967296 := fun p q h1 h2 => by unfold mxI; split <;> omega
    exact e _ _ (e _ _ (e _ _ h1.2.2 h2.2.2) h3.2.2) h4.2.2
theorem sqrI_un {k : Nat} {a0 a1 x y : Int} (h : SqrB k a0 a1 x y) (ha : -4294967296 ≤ a0 ∧ a1 ≤ 4294967296) : Un x y := by
  rcases h with h | ⟨hA, p, q, h0, h1, h2, h3, e1, e2⟩
  · exact .inl h
  have hq := h2 4294967296 (by decide) ha.1 ha.2
  have v1 := mulDown_val e1
  have v2 := mulUp_val (fix_small (by omega) hq) e2
  have b1 := mul_bd (show 0 ≤ p ∧ p ≤ 4294967296 by omega) (show 0 ≤ p ∧ p ≤ 4294967296 by omega)
  have b2 := mul_bd (show 0 ≤ q ∧ q ≤ 4294967296 by omega) (show 0 ≤ q ∧ q ≤ 4294967296 by omega)
  rw [Int.neg_mul] at v2
  refine un_or (.inr ?_)
  generalize p * p = s at *
  generalize q * q = t at *
  omega
/-! ### The series -/
theorem one_some (k : Nat) : spec_Integer k 1 = some [.i 4294967296, .i 4294967296] ∧ impl_Integer k 1 = some [.i 4294967296, .i 4294967296] := by
  obtain ⟨x, y, e1, e2, h⟩ := integer_same k 1
  obtain ⟨rfl, rfl⟩ := h (by decide)
  exact ⟨e1, e2⟩
theorem rg_add1 {a0 a1 x y : Int} (h : AddB a0 a1 (-1) 1 x y) (ha : Rg a0 a1) : Rg x y := by
  rcases h with h | ⟨h1, _, rfl, rfl⟩
  · exact .inl h
  · rcases ha with ha | ⟨_, h2, h3⟩
    · rw [ha] at h1; cases h1
    · exact rg_or (.inr ⟨by omega, by omega⟩)
theorem un_rg {x y : Int} (h : Un x y) : Rg x y := by
  rcases h with h | ⟨h, h1, h2⟩
  · exact .inl h
  · have := ivB_iff.1 h
    exact .inr ⟨h, by omega, by omega⟩
/-- The number of the quarter. -/
def qt (a : Int) : Int := bif leI (-1099511627776) a && leI a 1099511627776 then (a + 3373259426) / 6746518852 else 0
theorem qt_bd (a : Int) : -170 ≤ qt a ∧ qt a ≤ 170 := by
  unfold qt
  cases h : (leI (-1099511627776) a && leI a 1099511627776) with
  | false => simp only [cond_false]; omega
  | true =>
    simp only [Bool.and_eq_true, leI_iff] at h
    simp only [cond_true]
    omega
theorem tdiv_cases (m : Int) : (0 ≤ m ∧ Int.tdiv m 6746518852 = m / 6746518852 ∧ Int.tmod m 6746518852 = m % 6746518852) ∨ (m < 0 ∧ Int.tdiv m 6746518852 = -(-m / 6746518852) ∧ Int.tmod m 6746518852 = -(-m % 6746518852)) := by
  by_cases h : 0 ≤ m
  · exact .inl ⟨h, tdiv_nn _ _ h, tmod_nn _ _ h⟩
  · refine .inr ⟨by omega, ?_, ?_⟩
    · rw [← tdiv_nn (-m) _ (by omega), Int.neg_tdiv, Int.neg_neg]
    · rw [← tmod_nn (-m) _ (by omega), Int.neg_tmod, Int.neg_neg]
theorem intR_in {n : Int} (h0 : -9223372036854775808 ≤ n) (h1 : n ≤ 9223372036854775807) : intR n = [.i n, .b true] := by unfold intR; rw [if_pos ⟨h0, h1⟩]
theorem turn_spec (k j : Nat) (m lo : Int) (e1 : m ≠ 0) (e2 : 0 ≤ m) (hb : 0 ≤ lo ∧ lo ≤ 1000000000000000) (h : spec_MulFloor k m 7244019458077122842 30 = some [.i lo, .b true]) : spec_l05Turn k (j + 1) m = some [.i lo, .i (lo + 1)] := by
  rw [spec_l05Turn, bif_f (beq_f e1), bif_f (ltI_f e2), h, Option.bind_some, gi0, wr _ (by omega) (by omega)]
theorem turn_impl (k j : Nat) (m lo : Int) (e1 : m ≠ 0) (e2 : 0 ≤ m) (e3 : -4096 ≤ m) (e4 : m ≤ 4096) (hb : 0 ≤ lo ∧ lo ≤ 1000000000000000) (h : impl_MulFloor k m 7244019458077122842 30 = some [.i lo, .b true]) : impl_TurnI k (j + 1) m = some [.i lo, .i (lo + 1)] := by
  rw [impl_TurnI, within_some, leI_t e3, leI_t e4]
  simp only [Option.bind_some, gb0, Bool.and_self, Bool.not_true, cond_false]
  rw [bif_f (ltI_f e2), bif_f (beq_f e1), h, Option.bind_some, gi0, wr _ (by omega) (by omega)]
theorem turn_val (m : Int) (h : 1 ≤ m ∧ m ≤ 4096) : 0 ≤ m * 7244019458077122842 / 1073741824 ∧ m * 7244019458077122842 / 1073741824 ≤ 1000000000000000 := by
  have l0 : 0 ≤ m * 7244019458077122842 := Int.mul_nonneg (by omega) (by decide)
  have l1 : m * 7244019458077122842 ≤ 4096 * 7244019458077122842 := Int.mul_le_mul_of_nonneg_right h.2 (by decide)
  exact ⟨Int.ediv_nonneg l0 (by decide), Int.ediv_le_of_le_mul (by decide) (Int.le_trans l1 (by decide))⟩
theorem turn_pos (k j : Nat) (m : Int) (hn : 1 ≤ m ∧ m ≤ 4096) : ∃ lo, (0 ≤ lo ∧ lo ≤ 1000000000000000) ∧ spec_l05Turn k (j + 1) m = some [.i lo, .i (lo + 1)] ∧ impl_TurnI k (j + 1) m = some [.i lo, .i (lo + 1)] := by
  have hb := turn_val m hn
  have h1 := mulFloor30_some k m 7244019458077122842 ⟨by omega, by omega⟩ ⟨by decide, by decide⟩
  have h2 := implMulFloor30_some k m 7244019458077122842 ⟨by omega, by omega⟩ ⟨by decide, by decide⟩
  rw [intR_in (Int.le_trans (by decide) hb.1) (Int.le_trans hb.2 (by decide))] at h1 h2
  exact ⟨_, hb, turn_spec k j m _ (by omega) (by omega) hb h1, turn_impl k j m _ (by omega) (by omega) (by omega) (by omega) hb h2⟩
end Go.Proofs.YtpbmapaafnnoiaaGreatDoor.Ev
