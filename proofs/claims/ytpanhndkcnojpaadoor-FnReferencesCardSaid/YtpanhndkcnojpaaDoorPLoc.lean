/- Cells, their boxes and the texts of locators. No condition. -/
import Derived.Test.YtpanhndkcnojpaaDoorPDrw
namespace Go.Proofs.YtpanhndkcnojpaaDoor.Ev
open Go Go.RowKit
set_option linter.unusedSimpArgs false
set_option linter.unusedVariables false
/-! ### Cells -/
def vx (b : Int) : Nat := ((b + 1800000000) % 3600000000).toNat
def vy (a : Int) : Nat := (if a + 900000000 < 1799999999 then a + 900000000 else 1799999999).toNat
def cx_ (n : Nat) (b : Int) : Nat := vx b * n / 3600000000
def cy_ (m : Nat) (a : Int) : Nat := vy a * m / 1800000000
theorem vx_lt (b : Int) : vx b < 3600000000 := by unfold vx; omega
theorem vy_lt {a : Int} (h : -900000000 ≤ a ∧ a ≤ 900000000) : vy a < 1800000000 := by unfold vy; split <;> omega
theorem cx_lt (n : Nat) (hn : 0 < n) (b : Int) : cx_ n b < n := by
  unfold cx_
  have := vx_lt b
  rw [Nat.div_lt_iff_lt_mul (by decide), Nat.mul_comm n]
  exact Nat.mul_lt_mul_of_pos_right this hn
theorem cy_lt (m : Nat) (hm : 0 < m) {a : Int} (h : -900000000 ≤ a ∧ a ≤ 900000000) : cy_ m a < m := by
  unfold cy_
  have := vy_lt h
  rw [Nat.div_lt_iff_lt_mul (by decide), Nat.mul_comm m]
  exact Nat.mul_lt_mul_of_pos_right this hm
theorem divW (A M : Nat) (hA : A ≤ 9000000000000000000) (hM : 0 < M) : IntKind.wrap .i64 (Int.tdiv (IntKind.wrap .i64 (A : Int)) (M : Int)) = ((A / M : Nat) : Int) := by
  have h1 := Nat.div_le_self A M
  have e : (A : Int) / (M : Int) = ((A / M : Nat) : Int) := (Int.natCast_ediv A M).symm
  rw [wr (A : Int) (by omega) (by omega), tdiv_pos _ _ (by omega), e]
  generalize A / M = q at *
  rw [wr _ (by omega) (by omega)]
theorem divV (A M : Nat) (hA : A ≤ 9000000000000000000) : IntKind.wrap .i64 (Int.tdiv (A : Int) (M : Int)) = ((A / M : Nat) : Int) := by
  have h1 := Nat.div_le_self A M
  have e : (A : Int) / (M : Int) = ((A / M : Nat) : Int) := (Int.natCast_ediv A M).symm
  rw [tdiv_pos _ _ (by omega), e]
  generalize A / M = q at *
  rw [wr _ (by omega) (by omega)]
theorem cell_at (k : Nat) {a b : Int} (h : PtQ a b) (n m : Nat) (hn : n ≤ 2000000) (hm : m ≤ 2000000) : impl_cellOf k a b n m = some [.i (cx_ n b : Nat), .i (cy_ m a : Nat), .i n, .i m] := by
  obtain ⟨⟨h1, h2⟩, h3, h4⟩ := h
  have e1 : mnI (IntKind.wrap .i64 (a + 900000000)) 1799999999 = (vy a : Int) := by
    rw [wr _ (by omega) (by omega)]
    unfold mnI vy
    split <;> split <;> omega
  have e2 : Int.tmod (IntKind.wrap .i64 (b + 1800000000)) 3600000000 = (vx b : Int) := by
    rw [wr _ (by omega) (by omega), tmod_pos _ _ (by omega)]
    unfold vx
    omega
  have b1 := vx_lt b
  have b2 := vy_lt (a := a) ⟨h1, h2⟩
  have c1 : vx b * n ≤ 3600000000 * 2000000 := Nat.mul_le_mul (by omega) hn
  have c2 : vy a * m ≤ 1800000000 * 2000000 := Nat.mul_le_mul (by omega) hm
  have d1 : IntKind.wrap .i64 (Int.tdiv (IntKind.wrap .i64 ((vx b : Int) * n)) 3600000000) = (cx_ n b : Nat) := by
    rw [show (vx b : Int) * n = ((vx b * n : Nat) : Int) by simp]
    exact divW _ 3600000000 (by omega) (by decide)
  have d2 : IntKind.wrap .i64 (Int.tdiv (IntKind.wrap .i64 ((vy a : Int) * m)) 1800000000) = (cy_ m a : Nat) := by
    rw [show (vy a : Int) * m = ((vy a * m : Nat) : Int) by simp]
    exact divW _ 1800000000 (by omega) (by decide)
  unfold impl_cellOf
  dsimp only
  rw [e1, e2, d1, d2]
theorem has_at (k : Nat) {a b : Int} (h : PtQ a b) (x y n m : Nat) (hn : n ≤ 2000000) (hm : m ≤ 2000000) : impl_cell_has k x y n m a b = some [.b (decide (cx_ n b = x ∧ cy_ m a = y))] := by
  unfold impl_cell_has
  rw [validF h, Option.bind_some]
  simp only [gb0, cond_true]
  rw [cell_at k h n m hn hm, Option.bind_some]
  simp only [gi0, giS, beq_self_eq_true, Bool.and_true]
  congr 3
  rw [Bool.eq_iff_iff, Bool.and_eq_true, beq_iff_eq, beq_iff_eq, decide_eq_true_iff]
  constructor
  · rintro ⟨h1, h2⟩; exact ⟨by omega, by omega⟩
  · rintro ⟨h1, h2⟩; exact ⟨by omega, by omega⟩
/-! ### Boxes -/
theorem ceil_at (k : Nat) (a n : Nat) (hn : 0 < n) (ha : a ≤ 8000000000000000) (hn2 : n ≤ 2000000) : impl_ceilDiv k a n = some [.i (((a + n - 1) / n : Nat) : Int)] := by
  unfold impl_ceilDiv
  dsimp only
  rw [bif_f (eqI_f (by omega)), wr ((a : Int) + n) (by omega) (by omega), show (a : Int) + n - 1 = ((a + n - 1 : Nat) : Int) by omega, divW _ _ (by omega) hn]
/-- The smallest place whose cell is x. -/
theorem ceil_spec (x n M : Nat) (hn : 0 < n) (hM : n ≤ M) (hx : x < n) : (x * M + n - 1) / n < M ∧ (x * M + n - 1) / n * n / M = x ∧ ∀ v, v * n / M = x → (x * M + n - 1) / n ≤ v := by
  have h1 : (x + 1) * M = x * M + M := Nat.succ_mul x M
  have h2 : (x + 1) * M ≤ n * M := Nat.mul_le_mul_right M hx
  generalize hc : (x * M + n - 1) / n = c
  have h3 : c * n ≤ x * M + n - 1 := by rw [← hc]; exact Nat.div_mul_le_self _ _
  have h4 : x * M + n - 1 < c * n + n := by rw [← hc]; exact Nat.lt_div_mul_add hn
  refine ⟨?_, ?_, fun v hv => ?_⟩
  · have : c * n < n * M := by omega
    rw [Nat.mul_comm] at this
    exact Nat.lt_of_mul_lt_mul_left this
  · apply Nat.div_eq_of_lt_le
    · omega
    · rw [h1]; omega
  · have h5 : x * M ≤ v * n := by rw [← hv]; exact Nat.div_mul_le_self _ _
    have h6 : c * n < (v + 1) * n := by rw [Nat.succ_mul]; omega
    exact Nat.le_of_lt_succ (Nat.lt_of_mul_lt_mul_right h6)
/-- The greatest. -/
theorem top_spec (x n M : Nat) (hn : 0 < n) (hM : n ≤ M) (hx : x < n) : 1 ≤ ((x + 1) * M + n - 1) / n ∧ ((x + 1) * M + n - 1) / n - 1 < M ∧ (((x + 1) * M + n - 1) / n - 1) * n / M = x ∧ ∀ v, v * n / M = x → v ≤ ((x + 1) * M + n - 1) / n - 1 := by
  have h1 : (x + 1) * M = x * M + M := Nat.succ_mul x M
  have h2 : (x + 1) * M ≤ n * M := Nat.mul_le_mul_right M hx
  generalize hc : ((x + 1) * M + n - 1) / n = c
  have h3 : c * n ≤ (x + 1) * M + n - 1 := by rw [← hc]; exact Nat.div_mul_le_self _ _
  have h4 : (x + 1) * M + n - 1 < c * n + n := by rw [← hc]; exact Nat.lt_div_mul_add hn
  have h0 : 1 ≤ c := by
    rcases Nat.eq_zero_or_pos c with h | h
    · rw [h, Nat.zero_mul] at h4; omega
    · exact h
  obtain ⟨d, rfl⟩ : ∃ d, c = d + 1 := ⟨c - 1, by omega⟩
  have hd1 : (d + 1) * n = d * n + n := Nat.succ_mul d n
  refine ⟨h0, ?_, ?_, fun v hv => ?_⟩
  · show d < M
    have : d * n < n * M := by omega
    rw [Nat.mul_comm] at this
    exact Nat.lt_of_mul_lt_mul_left this
  · show d * n / M = x
    apply Nat.div_eq_of_lt_le
    · omega
    · omega
  · show v ≤ d
    have h5 : v * n < (x + 1) * M := by
      have := Nat.lt_div_mul_add (a := v * n) (show 0 < M by omega)
      rw [hv] at this; omega
    have h6 : v * n < (d + 1) * n := by omega
    exact Nat.le_of_lt_succ (Nat.lt_of_mul_lt_mul_right h6)
theorem wrapF (k : Nat) (c : Nat) (h : c < 3600000000) : ∃ r, impl_WrapLon k ((c : Int) - 1800000000) = some [.i r] ∧ (-1800000000 < r ∧ r ≤ 1800000000) ∧ vx r = c := by
  have ht : Int.tmod ((c : Int) - 1800000000) 3600000000 = (c : Int) - 1800000000 := by
    by_cases h0 : 0 ≤ (c : Int) - 1800000000
    · rw [tmod_pos _ _ h0]; omega
    · have e : Int.tmod ((c : Int) - 1800000000) 3600000000 = -(-((c : Int) - 1800000000) % 3600000000) := by rw [← tmod_pos (-((c : Int) - 1800000000)) _ (by omega), Int.neg_tmod, Int.neg_neg]
      rw [e]; omega
  unfold impl_WrapLon
  dsimp only
  rw [ht, bif_f (ltI_f (by omega))]
  by_cases h1 : (c : Int) - 1800000000 ≤ -1800000000
  · rw [bif_t (leI_t h1), wr _ (by omega) (by omega)]
    exact ⟨_, rfl, by omega, by unfold vx; omega⟩
  · rw [bif_f (leI_f (by omega))]
    exact ⟨_, rfl, by omega, by unfold vx; omega⟩
theorem box_at (k : Nat) (x y n m : Nat) (hn : 0 < n) (hn2 : n ≤ 2000000) (hm : 0 < m) (hm2 : m ≤ 2000000) (hx : x < n) (hy : y < m) : ∃ a b c d, impl_cell_box k x y n m = some [.i a, .i b, .i c, .i d] ∧ PtQ a b ∧ PtQ c d ∧ (cx_ n b = x ∧ cy_ m a = y) ∧ (cx_ n d = x ∧ cy_ m c = y) ∧ ∀ p : Int, -900000000 ≤ p ∧ p ≤ 900000000 → cy_ m p = y → a ≤ p ∧ p ≤ c := by
  obtain ⟨s1, s2, s3⟩ := ceil_spec x n 3600000000 hn (by omega) hx
  obtain ⟨t0, t1, t2, t3⟩ := top_spec x n 3600000000 hn (by omega) hx
  obtain ⟨u1, u2, u3⟩ := ceil_spec y m 1800000000 hm (by omega) hy
  obtain ⟨v0, v1, v2, v3⟩ := top_spec y m 1800000000 hm (by omega) hy
  have e1 : IntKind.wrap .i64 ((y : Int) * 1800000000) = ((y * 1800000000 : Nat) : Int) := by rw [wr _ (by omega) (by omega)]; omega
  have e2 : IntKind.wrap .i64 ((x : Int) * 3600000000) = ((x * 3600000000 : Nat) : Int) := by rw [wr _ (by omega) (by omega)]; omega
  have e3 : IntKind.wrap .i64 (IntKind.wrap .i64 ((y : Int) + 1) * 1800000000) = (((y + 1) * 1800000000 : Nat) : Int) := by rw [wr ((y : Int) + 1) (by omega) (by omega), wr _ (by omega) (by omega)]; omega
  have e4 : IntKind.wrap .i64 (IntKind.wrap .i64 ((x : Int) + 1) * 3600000000) = (((x + 1) * 3600000000 : Nat) : Int) := by rw [wr ((x : Int) + 1) (by omega) (by omega), wr _ (by omega) (by omega)]; omega
  have c1 := ceil_at k (y * 1800000000) m hm (by omega) hm2
  have c2 := ceil_at k (x * 3600000000) n hn (by omega) hn2
  have c3 := ceil_at k ((y + 1) * 1800000000) m hm (by omega) hm2
  have c4 := ceil_at k ((x + 1) * 3600000000) n hn (by omega) hn2
  obtain ⟨A, hA⟩ : ∃ A, A = (x * 3600000000 + n - 1) / n := ⟨_, rfl⟩
  obtain ⟨B, hB⟩ : ∃ A, A = ((x + 1) * 3600000000 + n - 1) / n := ⟨_, rfl⟩
  obtain ⟨C, hC⟩ : ∃ A, A = (y * 1800000000 + m - 1) / m := ⟨_, rfl⟩
  obtain ⟨E, hE⟩ : ∃ A, A = ((y + 1) * 1800000000 + m - 1) / m := ⟨_, rfl⟩
  rw [← hA] at s1 s2 s3 c2
  rw [← hB] at t0 t1 t2 t3 c4
  rw [← hC] at u1 u2 u3 c1
  rw [← hE] at v0 v1 v2 v3 c3
  clear hA hB hC hE
  obtain ⟨b, w1, w2, w3⟩ := wrapF k A s1
  obtain ⟨d, w4, w5, w6⟩ := wrapF k (B - 1) t1
  have e5 : IntKind.wrap .i64 ((A : Int) - 1800000000) = (A : Int) - 1800000000 := wr _ (by omega) (by omega)
  have e6 : IntKind.wrap .i64 (IntKind.wrap .i64 ((B : Int) - 1) - 1800000000) = ((B - 1 : Nat) : Int) - 1800000000 := by rw [wr ((B : Int) - 1) (by omega) (by omega), wr _ (by omega) (by omega)]; omega
  have e7 : IntKind.wrap .i64 ((C : Int) - 900000000) = (C : Int) - 900000000 := wr _ (by omega) (by omega)
  have e8 : IntKind.wrap .i64 (IntKind.wrap .i64 ((E : Int) - 1) - 900000000) = ((E - 1 : Nat) : Int) - 900000000 := by rw [wr ((E : Int) - 1) (by omega) (by omega), wr _ (by omega) (by omega)]; omega
  have e9 : IntKind.wrap .i64 ((m : Int) - 1) = (m : Int) - 1 := wr _ (by omega) (by omega)
  have yv : ∀ z : Nat, z < 1800000000 → vy ((z : Int) - 900000000) = z := fun z hz => by unfold vy; split <;> omega
  have lowp : ∀ p : Int, -900000000 ≤ p ∧ p ≤ 900000000 → cy_ m p = y → (C : Int) - 900000000 ≤ p ∧ (p ≤ ((E - 1 : Nat) : Int) - 900000000 ∨ (p = 900000000 ∧ y = m - 1)) := by
    intro p hp hy'
    have h1 := u3 (vy p) hy'
    have h2 := v3 (vy p) hy'
    by_cases hp9 : p = 900000000
    · subst hp9
      refine ⟨by omega, .inr ⟨rfl, ?_⟩⟩
      have h3 : vy 900000000 = 1799999999 := by decide
      rw [← hy']
      unfold cy_
      rw [h3]
      apply Nat.div_eq_of_lt_le
      · have : (m - 1) * 1800000000 = m * 1800000000 - 1800000000 := by omega
        omega
      · rw [show m - 1 + 1 = m by omega]; omega
    · have : (vy p : Int) = p + 900000000 := by unfold vy; split <;> omega
      exact ⟨by omega, .inl (by omega)⟩
  unfold impl_cell_box
  simp only [e1, c1, e2, c2, e3, c3, e4, c4, Option.bind_some, gi0, e5, w1, e6, w4, e7, e8, e9]
  by_cases hl : y = m - 1
  · rw [bif_t (beq_t (by omega))]
    refine ⟨_, _, _, _, rfl, ⟨⟨by omega, by omega⟩, w2⟩, ⟨⟨by omega, by omega⟩, w5⟩, ⟨by unfold cx_; rw [w3, s2], by unfold cy_; rw [yv C u1, u2]⟩, ⟨by unfold cx_; rw [w6, t2], ?_⟩, fun p hp hy' => ⟨(lowp p hp hy').1, hp.2⟩⟩
    unfold cy_
    rw [show vy 900000000 = 1799999999 by decide, hl]
    apply Nat.div_eq_of_lt_le
    · omega
    · rw [show m - 1 + 1 = m by omega]; omega
  · rw [bif_f (beq_f (by omega))]
    refine ⟨_, _, _, _, rfl, ⟨⟨by omega, by omega⟩, w2⟩, ⟨⟨by omega, by omega⟩, w5⟩, ⟨by unfold cx_; rw [w3, s2], by unfold cy_; rw [yv C u1, u2]⟩, ⟨by unfold cx_; rw [w6, t2], by unfold cy_; rw [yv (E - 1) v1, v2]⟩, fun p hp hy' => ⟨(lowp p hp hy').1, ?_⟩⟩
    rcases (lowp p hp hy').2 with h | h
    · exact h
    · exact absurd h.2 hl
/-! ### The texts of locators -/
def pb : Nat → Nat
  | 0 => 18
  | 1 => 10
  | 3 => 10
  | _ => 24
def pc : Nat → Nat
  | 0 => 65
  | 1 => 48
  | 3 => 48
  | _ => 97
theorem pb_pos (j : Nat) : 10 ≤ pb j ∧ pb j ≤ 24 := by unfold pb; split <;> omega
theorem pc_bd (j : Nat) : 48 ≤ pc j ∧ pc j ≤ 97 := by unfold pc; split <;> omega
theorem parts_at (k j : Nat) : impl_locatorParts k (j : Int) = some [.i (pb j), .i (pc j)] := by
  unfold impl_locatorParts
  match j with
  | 0 => rfl
  | 1 => rfl
  | 2 => rfl
  | 3 => rfl
  | j + 4 => rw [bif_f (beq_f (by omega)), bif_f (beq_f (by omega)), bif_f (beq_f (by omega))]; rfl
def side : Nat → Nat
  | 0 => 1
  | P + 1 => side P * pb P
def wd : Nat → Nat → Nat
  | 0, _ => 1
  | P + 1, j => if P + 1 ≤ j then 1 else wd P j * pb P
def ch (c b x : Nat) : UInt8 := UInt8.ofNat (c + x % b)
def lt : Nat → Nat → Nat → List UInt8
  | 0, _, _ => []
  | P + 1, x, y => lt P (x / pb P) (y / pb P) ++ [ch (pc P) (pb P) x, ch (pc P) (pb P) y]
theorem lt_length : ∀ P x y, (lt P x y).length = 2 * P
  | 0, _, _ => rfl
  | P + 1, x, y => by rw [lt, List.length_append, lt_length P]; simp; omega
theorem ch_val (j x : Nat) : ((ch (pc j) (pb j) x).toNat : Int) = (pc j + x % pb j : Nat) := by
  have h1 := pb_pos j
  have h2 := pc_bd j
  have h3 : x % pb j < pb j := Nat.mod_lt _ (by omega)
  unfold ch
  rw [byte_val _ (by omega)]
theorem wd_self : ∀ P j, P ≤ j → wd P j = 1
  | 0, _, _ => rfl
  | P + 1, j, h => by rw [wd, if_pos h]
theorem wd_succ (P j : Nat) (h : j ≤ P) : wd (P + 1) j = wd P j * pb P := by rw [wd, if_neg (by omega)]
theorem wd_step : ∀ P j, j < P → wd P j = pb j * wd P (j + 1)
  | 0, _, h => by omega
  | P + 1, j, h => by
    rw [wd_succ P j (by omega)]
    by_cases e : j = P
    · subst e; rw [wd_self j j (Nat.le_refl _), wd_self (j + 1) (j + 1) (Nat.le_refl _), Nat.mul_comm]
    · rw [wd_succ P (j + 1) (by omega), wd_step P j (by omega), Nat.mul_assoc]
theorem side_wd : ∀ P j, j ≤ P → side P = side j * wd P j
  | 0, j, h => by obtain rfl : j = 0 := by omega
                  rfl
  | P + 1, j, h => by
    by_cases e : j = P + 1
    · subst e; rw [wd_self _ _ (Nat.le_refl _), Nat.mul_one]
    · rw [wd_succ P j (by omega), side, side_wd P j (by omega), Nat.mul_assoc]
theorem wd_pos : ∀ P j, 0 < wd P j
  | 0, _ => Nat.one_pos
  | P + 1, j => by
    rw [wd]
    split
    · exact Nat.one_pos
    · exact Nat.mul_pos (wd_pos P j) (by have := pb_pos P; omega)
theorem lt_take : ∀ P j x y, j ≤ P → (lt P x y).take (2 * j) = lt j (x / wd P j) (y / wd P j)
  | 0, j, x, y, h => by obtain rfl : j = 0 := by omega
                        rfl
  | P + 1, j, x, y, h => by
    by_cases e : j = P + 1
    · subst e; rw [wd_self _ _ (Nat.le_refl _), Nat.div_one, Nat.div_one, List.take_of_length_le (by rw [lt_length]; omega)]
    · rw [lt, List.take_append_of_le_length (by rw [lt_length]; omega), lt_take P j _ _ (by omega), wd_succ P j (by omega), Nat.div_div_eq_div_mul, Nat.div_div_eq_div_mul, Nat.mul_comm (pb P)]
theorem lt_get (P j x y : Nat) (h : j < P) : (lt P x y)[2 * j]? = some (ch (pc j) (pb j) (x / wd P (j + 1))) ∧ (lt P x y)[2 * j + 1]? = some (ch (pc j) (pb j) (y / wd P (j + 1))) := by
  have h1 := lt_take P (j + 1) x y h
  have g : ∀ i, i < 2 * (j + 1) → (lt P x y)[i]? = ((lt P x y).take (2 * (j + 1)))[i]? := fun i hi => by rw [List.getElem?_take, if_pos hi]
  rw [g _ (by omega), g _ (by omega), h1, lt]
  constructor
  · rw [List.getElem?_append_right (by rw [lt_length]; omega), lt_length, Nat.sub_self]; rfl
  · rw [List.getElem?_append_right (by rw [lt_length]; omega), lt_length, show 2 * j + 1 - 2 * j = 1 by omega]; rfl
theorem side_le : ∀ P, P ≤ 5 → 1 ≤ side P ∧ side P ≤ 1036800 := by decide
theorem side_at (k P : Nat) (hk : 10 ≤ k) (h1 : 1 ≤ P) (h : P ≤ 5) : impl_locatorSide k P = some [.i (side P)] := by
  obtain ⟨f, rfl⟩ : ∃ f, k = f + 10 := ⟨k - 10, by omega⟩
  have hc : P = 1 ∨ P = 2 ∨ P = 3 ∨ P = 4 ∨ P = 5 := by omega
  rcases hc with rfl | rfl | rfl | rfl | rfl <;> rfl
theorem text_l0 (k : Nat) (x2 x3 : Int) (x4 : ByteArray) : ∀ (d f x y : Nat) (acc : List UInt8), d ≤ 5 → x ≤ 2000000 → y ≤ 2000000 → acc.length + 2 * d ≤ 20 →
    ∃ x' y' : Int, impl_locatorText_l0 k (d + 1 + f) x y x2 x3 x4 (bs acc) ((d : Int) - 1) = some [.i 0, .i x', .i y', .i x2, .i x3, .s x4, .s (bs (lt d x y ++ acc)), .i (-1)]
  | 0, f, x, y, acc, hd, hx, hy, ha => by
    rw [show 0 + 1 + f = f + 1 by omega, impl_locatorText_l0, bif_f (leI_f (by omega))]
    exact ⟨_, _, rfl⟩
  | d + 1, f, x, y, acc, hd, hx, hy, ha => by
    have hp := pb_pos d
    have hc := pc_bd d
    have m1 : Int.tmod (x : Int) (pb d : Int) = ((x % pb d : Nat) : Int) := by rw [tmod_pos _ _ (by omega), Int.natCast_emod]
    have m2 : Int.tmod (y : Int) (pb d : Int) = ((y % pb d : Nat) : Int) := by rw [tmod_pos _ _ (by omega), Int.natCast_emod]
    have q1 : x / pb d ≤ x := Nat.div_le_self _ _
    have q2 : y / pb d ≤ y := Nat.div_le_self _ _
    have r1 : x % pb d < pb d := Nat.mod_lt _ (by omega)
    have r2 : y % pb d < pb d := Nat.mod_lt _ (by omega)
    have v1 : IntKind.wrap .u8 ((pc d : Int) + IntKind.wrap .u8 ((x % pb d : Nat) : Int)) = ((ch (pc d) (pb d) x).toNat : Int) := by rw [ch_val, wr8 ((x % pb d : Nat) : Int) (by omega) (by omega), wr8 _ (by omega) (by omega)]; omega
    have v2 : IntKind.wrap .u8 ((pc d : Int) + IntKind.wrap .u8 ((y % pb d : Nat) : Int)) = ((ch (pc d) (pb d) y).toNat : Int) := by rw [ch_val, wr8 ((y % pb d : Nat) : Int) (by omega) (by omega), wr8 _ (by omega) (by omega)]; omega
    have bb : bytesD [[.i ((ch (pc d) (pb d) x).toNat : Int)], [.i ((ch (pc d) (pb d) y).toNat : Int)]] = bs [ch (pc d) (pb d) x, ch (pc d) (pb d) y] := bytesD_rw8 [ch (pc d) (pb d) x, ch (pc d) (pb d) y]
    rw [show d + 1 + 1 + f = (d + 1 + f) + 1 by omega, impl_locatorText_l0, bif_t (leI_t (by omega)), show ((d + 1 : Nat) : Int) - 1 = (d : Int) by omega, parts_at, Option.bind_some]
    simp only [gi0, giS]
    rw [bif_f (eqI_f (by omega)), bif_f (eqI_f (by omega)), m1, m2, v1, v2, bb, bif_t (leN_t (by rw [bs_size, bs_size]; simp only [List.length_cons, List.length_nil]; omega)), bif_f (eqI_f (by omega)), bif_f (eqI_f (by omega)), bs_append, divV x _ (by omega), divV y _ (by omega), wr ((d : Int) - 1) (by omega) (by omega)]
    obtain ⟨x', y', e⟩ := text_l0 k x2 x3 x4 d f (x / pb d) (y / pb d) ([ch (pc d) (pb d) x, ch (pc d) (pb d) y] ++ acc) (by omega) (by omega) (by omega) (by simp only [List.length_append, List.length_cons, List.length_nil]; omega)
    refine ⟨x', y', ?_⟩
    rw [e, lt, List.append_assoc]
end Go.Proofs.YtpanhndkcnojpaaDoor.Ev
