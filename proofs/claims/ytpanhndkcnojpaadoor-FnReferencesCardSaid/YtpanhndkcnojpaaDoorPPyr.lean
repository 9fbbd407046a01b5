/- Choices out of bytes: a tile that is drawn is valid. No condition. -/
import Derived.Test.YtpanhndkcnojpaaDoorPDec
namespace Go.Proofs.YtpanhndkcnojpaaDoor.Ev
open Go Go.RowKit
set_option linter.unusedSimpArgs false
set_option linter.unusedVariables false
theorem band_i (x : Int) (m : Nat) (hm : m < 9223372036854775808) : band .i64 x (m : Int) = (((BitVec.ofInt 64 x).toNat &&& m : Nat) : Int) := by
  have h2 : (BitVec.ofInt 64 x).toNat &&& m ≤ m := Nat.and_le_right
  have e : (BitVec.ofInt 64 x &&& BitVec.ofInt 64 (m : Int)).toNat = (BitVec.ofInt 64 x).toNat &&& m := by
    rw [BitVec.toNat_and]
    congr 1
    rw [BitVec.toNat_ofInt]
    omega
  show IntKind.wrap .i64 (((BitVec.ofInt 64 x &&& BitVec.ofInt 64 (m : Int)).toNat : Nat) : Int) = _
  rw [e, wr _ (by omega) (by omega)]
theorem band_i_rng (x : Int) (m : Nat) (hm : m < 9223372036854775808) : ∃ r : Nat, r ≤ m ∧ band .i64 x (m : Int) = (r : Int) := ⟨_, Nat.and_le_right, band_i x m hm⟩
theorem band_u_rng (x : Int) : ∃ r : Nat, r ≤ 255 ∧ band .u64 x 255 = (r : Int) := by
  have h2 : (BitVec.ofInt 64 x).toNat &&& 255 ≤ 255 := Nat.and_le_right
  refine ⟨(BitVec.ofInt 64 x).toNat &&& 255, h2, ?_⟩
  have e : (BitVec.ofInt 64 x &&& BitVec.ofInt 64 255).toNat = (BitVec.ofInt 64 x).toNat &&& 255 := by
    rw [BitVec.toNat_and]; rfl
  show IntKind.wrap .u64 (((BitVec.ofInt 64 x &&& BitVec.ofInt 64 255).toNat : Nat) : Int) = _
  rw [e, IntKind.wrap_u64]; omega
theorem tmod_rng (x n : Int) (hx : 0 ≤ x) (hn : 0 < n) : 0 ≤ Int.tmod x n ∧ Int.tmod x n < n := by
  rw [tmod_pos _ _ hx]
  exact ⟨Int.emod_nonneg _ (by omega), Int.emod_lt_of_pos _ hn⟩
/-- Bytes. -/
def Bytes (l : List (List D)) : Prop := (∀ i : Int, 0 ≤ ri l i 0 ∧ ri l i 0 ≤ 255) ∧ l.length ≤ 1048576
theorem next_ok (k : Nat) {l : List (List D)} (hl : Bytes l) (a s : Int) (h0 : 0 ≤ a) (h1 : a ≤ 2000000) : ∃ v a' s', spec_l00Src_next k l a s = some [.i v, .l l, .i a', .i s'] ∧ 0 ≤ v ∧ v ≤ 255 ∧ 0 ≤ a' ∧ a' ≤ a + 1 := by
  obtain ⟨hb, hn⟩ := hl
  have hb := hb a
  unfold spec_l00Src_next
  have w1 : IntKind.wrap .i64 (a + 1) = a + 1 := wr _ (by omega) (by omega)
  have w2 : IntKind.wrap .i64 (ri l a 0) = ri l a 0 := wr _ (by omega) (by omega)
  dsimp only
  rw [w1, w2]
  by_cases h : a < (l.length : Int)
  · rw [bif_t (ltI_t h), bif_t (inR_t h0 h), bif_t (leI_t (by omega))]
    exact ⟨_, _, _, rfl, by omega, by omega, by omega, by omega⟩
  · rw [bif_f (ltI_f (by omega))]
    by_cases h2 : a + 1 ≤ (l.length : Int)
    · omega
    · rw [bif_f (leI_f (by omega))]
      obtain ⟨r, hr, e⟩ := band_u_rng (Int.fdiv (IntKind.wrap .u64 (IntKind.wrap .u64 (IntKind.wrap .u64 (s * 6364136223846793005) + IntKind.wrap .u64 0) + 1442695040888963407)) (2 ^ min (Int.toNat 40) 64))
      rw [e, wr _ (by omega) (by omega)]
      exact ⟨_, _, _, rfl, by omega, by omega, by omega, by omega⟩
theorem pick_ok (k : Nat) {l : List (List D)} (hl : Bytes l) (a s n : Int) (h0 : 0 ≤ a) (h1 : a ≤ 1000000) : ∃ v a' s', spec_l00Src_pick k l a s n = some [.i v, .l l, .i a', .i s'] ∧ 0 ≤ v ∧ (v < n ∨ v = 0) ∧ 0 ≤ a' ∧ a' ≤ a + 2 := by
  unfold spec_l00Src_pick
  by_cases h : n ≤ 1
  · rw [bif_t (leI_t h)]
    exact ⟨0, a, s, rfl, by omega, .inr rfl, h0, by omega⟩
  · rw [bif_f (leI_f (by omega))]
    obtain ⟨v, b, t, e, v0, v1, b0, b1⟩ := next_ok k hl a s h0 (by omega)
    rw [e, Option.bind_some]
    simp only [giS, gi0, glS, gl0]
    by_cases h2 : 200 < n
    · obtain ⟨v', b', t', e', v0', v1', b0', b1'⟩ := next_ok k hl b t b0 (by omega)
      rw [bif_t (ltI_t h2), e', Option.bind_some]
      simp only [giS, gi0, glS, gl0]
      rw [bif_f (eqI_f (by omega)), wr (v * 256) (by omega) (by omega), wr (v * 256 + v') (by omega) (by omega)]
      obtain ⟨q0, q1⟩ := tmod_rng (v * 256 + v') n (by omega) (by omega)
      exact ⟨_, _, _, rfl, q0, .inl q1, b0', by omega⟩
    · rw [bif_f (ltI_f (by omega)), bif_f (eqI_f (by omega))]
      obtain ⟨q0, q1⟩ := tmod_rng v n (by omega) (by omega)
      exact ⟨_, _, _, rfl, q0, .inl q1, b0, by omega⟩
theorem one_ok (k : Nat) {l : List (List D)} (hl : Bytes l) (a s n : Int) (h0 : 0 ≤ a) (h1 : a ≤ 1000000) : ∃ v a' s', spec_l00Src_one k l a s n = some [.b v, .l l, .i a', .i s'] ∧ 0 ≤ a' ∧ a' ≤ a + 2 := by
  obtain ⟨v, b, t, e, v0, v1, b0, b1⟩ := pick_ok k hl a s n h0 h1
  unfold spec_l00Src_one
  rw [e, Option.bind_some]
  simp only [giS, gi0, glS, gl0]
  exact ⟨_, _, _, rfl, b0, b1⟩
theorem among_ok (k : Nat) {l : List (List D)} (hl : Bytes l) (a s : Int) (xs : List (List D)) (hx : 0 < xs.length) (h0 : 0 ≤ a) (h1 : a ≤ 1000000) : ∃ i a' s', spec_l00Src_among k l a s xs = some [.i (ri xs i 0), .l l, .i a', .i s'] ∧ (0 ≤ i ∧ i < (xs.length : Int)) ∧ 0 ≤ a' ∧ a' ≤ a + 2 := by
  obtain ⟨v, b, t, e, v0, v1, b0, b1⟩ := pick_ok k hl a s (xs.length : Int) h0 h1
  unfold spec_l00Src_among
  rw [e, Option.bind_some]
  simp only [giS, gi0, glS, gl0]
  rw [bif_t (inR_t v0 (by omega))]
  exact ⟨_, _, _, rfl, ⟨v0, by omega⟩, b0, b1⟩
theorem number_l0 (k : Nat) {l : List (List D)} (hl : Bytes l) (m x4 : Int) : ∀ (d n : Nat) (i : Nat) (a s x : Int), i + d = 7 → 0 ≤ a → a ≤ 900000 + i → ∃ a' s' x', spec_l05Number_l0 k (d + 1 + n) l a s m x4 x i = some [.i 0, .l l, .i a', .i s', .i m, .i x4, .i x', .i 7] ∧ 0 ≤ a' ∧ a' ≤ a + d
  | 0, n, i, a, s, x, h, h0, h1 => by
    obtain rfl : i = 7 := by omega
    rw [show 0 + 1 + n = n + 1 by omega, spec_l05Number_l0, bif_f (ltI_f (by omega))]
    exact ⟨a, s, x, rfl, h0, by omega⟩
  | d + 1, n, i, a, s, x, h, h0, h1 => by
    obtain ⟨v, b, t, e, v0, v1, b0, b1⟩ := next_ok k hl a s h0 (by omega)
    rw [show d + 1 + 1 + n = (d + 1 + n) + 1 by omega, spec_l05Number_l0, bif_t (ltI_t (by omega))]
    dsimp only
    rw [e, Option.bind_some]
    simp only [giS, gi0, glS, gl0]
    rw [wr ((i : Int) + 1) (by omega) (by omega), show (i : Int) + 1 = ((i + 1 : Nat) : Int) by omega]
    obtain ⟨a', s', x', e', q0, q1⟩ := number_l0 k hl m x4 d n (i + 1) b t (bxor .i64 (IntKind.wrap .i64 (x * 2 ^ min (Int.toNat 8) 64)) v) (by omega) b0 (by omega)
    exact ⟨a', s', x', e', q0, by omega⟩
theorem number_ok (k : Nat) (hk : 10 ≤ k) {l : List (List D)} (hl : Bytes l) (a s m : Int) (hm : 0 ≤ m ∧ m ≤ 4000000000000) (h0 : 0 ≤ a) (h1 : a ≤ 900000) : ∃ v a' s', spec_l05Number k l a s m = some [.i v, .l l, .i a', .i s'] ∧ 0 ≤ a' ∧ a' ≤ a + 14 := by
  obtain ⟨b, t, x, e, b0, b1⟩ := number_l0 k hl m 0 7 (k - 8) 0 a s 0 (by omega) h0 (by omega)
  rw [show 7 + 1 + (k - 8) = k by omega] at e
  have e : spec_l05Number_l0 k k l a s m 0 0 0 = _ := e
  unfold spec_l05Number
  rw [e, Option.bind_some]
  simp only [giS, gi0, glS, gl0]
  rw [wr (m + 1) (by omega) (by omega), bif_f (eqI_f (by omega))]
  obtain ⟨v, c, u, e2, v0, v1, c0, c1⟩ := pick_ok k hl b t 5 b0 (by omega)
  rw [e2, Option.bind_some]
  simp only [giS, gi0, glS, gl0]
  by_cases hv0 : v = 0
  · rw [bif_t (beq_t hv0)]
    obtain ⟨w, d, z, e3, w0, w1, d0, d1⟩ := pick_ok k hl c u 40 c0 (by omega)
    rw [e3, Option.bind_some]
    simp only [giS, gi0, glS, gl0]
    rw [bif_f (ltI_f (by rw [IntKind.wrap_u64]; omega))]
    obtain ⟨o, f, y, e4, f0, f1⟩ := one_ok k hl d z 2 d0 (by omega)
    rw [e4, Option.bind_some]
    simp only [gb0, giS, gi0, glS, gl0]
    cases o
    · exact ⟨_, _, _, rfl, f0, by omega⟩
    · exact ⟨_, _, _, rfl, f0, by omega⟩
  · rw [bif_f (beq_f hv0)]
    by_cases hv1 : v = 1
    · rw [bif_t (beq_t hv1)]
      obtain ⟨w, d, z, e3, _, d0, d1⟩ := among_ok k hl c u [[.i 0], [.i 1], [.i m], [.i (IntKind.wrap .i64 (Int.tdiv m 2))]] (by simp) c0 (by omega)
      rw [e3, Option.bind_some]
      simp only [giS, gi0, glS, gl0]
      obtain ⟨o, f, y, e4, f0, f1⟩ := one_ok k hl d z 2 d0 (by omega)
      rw [e4, Option.bind_some]
      simp only [gb0, giS, gi0, glS, gl0]
      cases o
      · exact ⟨_, _, _, rfl, f0, by omega⟩
      · exact ⟨_, _, _, rfl, f0, by omega⟩
    · rw [bif_f (beq_f hv1)]
      obtain ⟨o, f, y, e4, f0, f1⟩ := one_ok k hl c u 2 c0 (by omega)
      rw [e4, Option.bind_some]
      simp only [gb0, giS, gi0, glS, gl0]
      cases o
      · exact ⟨_, _, _, rfl, f0, by omega⟩
      · exact ⟨_, _, _, rfl, f0, by omega⟩
theorem pow_le (L : Nat) (h : L ≤ 20) : 1 ≤ 2 ^ L ∧ 2 ^ L ≤ 1048576 := ⟨Nat.one_le_two_pow, Nat.pow_le_pow_right (by decide) h⟩
theorem sh1 (L : Nat) (h : L ≤ 20) : (1 : Int) * 2 ^ min (Int.toNat (L : Int)) 64 = ((2 ^ L : Nat) : Int) := by
  rw [Int.toNat_natCast, Nat.min_eq_left (by omega), Int.one_mul]
  simp
theorem mask_some (L : Nat) (h : L ≤ 20) (v : Int) : ∃ r : Nat, r < 2 ^ L ∧ band .i64 v (IntKind.wrap .i64 (((2 ^ L : Nat) : Int) - 1)) = r := by
  have hp := pow_le L h
  rw [wr _ (by omega) (by omega), show ((2 ^ L : Nat) : Int) - 1 = ((2 ^ L - 1 : Nat) : Int) by omega]
  obtain ⟨r, hr, e⟩ := band_i_rng v (2 ^ L - 1) (by omega)
  exact ⟨r, by omega, e⟩
end Go.Proofs.YtpanhndkcnojpaaDoor.Ev
