/- Points that are drawn are valid. No condition. -/
import Derived.Test.YtpanhndkcnojpaaDoorPPyr
namespace Go.Proofs.YtpanhndkcnojpaaDoor.Ev
open Go Go.RowKit
set_option linter.unusedSimpArgs false
set_option linter.unusedVariables false
def PtQ (a b : Int) : Prop := (-900000000 ≤ a ∧ a ≤ 900000000) ∧ -1800000000 < b ∧ b ≤ 1800000000
theorem withinF (k : Nat) (a b c : Int) : impl_within k a b c = some [.b (leI b a && leI a c)] := by
  unfold impl_within; cases leI b a <;> rfl
theorem within_t {k : Nat} {a b c : Int} (h : b ≤ a) (g : a ≤ c) : impl_within k a b c = some [.b true] := by rw [withinF, leI_t h, leI_t g]; rfl
theorem within_f {k : Nat} {a b c : Int} (h : a < b ∨ c < a) : impl_within k a b c = some [.b false] := by
  rw [withinF]
  rcases h with h | h
  · rw [leI_f h]; rfl
  · rw [leI_f h, Bool.and_false]
theorem validF {k : Nat} {a b : Int} (h : PtQ a b) : impl_ValidPoint k a b = some [.b true] := by
  unfold impl_ValidPoint
  rw [within_t h.1.1 h.1.2, Option.bind_some]
  simp only [gb0]
  rw [cond_true, bif_t (ltI_t h.2.1), leI_t h.2.2]
theorem tmod_bd (x n : Int) (hn : 0 < n) : -n < Int.tmod x n ∧ Int.tmod x n < n := by
  by_cases h : 0 ≤ x
  · have := tmod_rng x n h hn; omega
  · have h2 := tmod_rng (-x) n (by omega) hn
    rw [Int.neg_tmod] at h2; omega
theorem fdiv_bd (x : Int) (w : Nat) (m : Int) (hm : 0 ≤ m) (h : -m ≤ x ∧ x ≤ m) : -m ≤ Int.fdiv x (2 ^ w) ∧ Int.fdiv x (2 ^ w) ≤ m := by
  have hp : (1 : Int) ≤ 2 ^ w := by
    have := Nat.one_le_two_pow (n := w)
    exact_mod_cast this
  rw [Int.fdiv_eq_ediv_of_nonneg _ (by omega)]
  constructor
  · rw [Int.le_ediv_iff_mul_le (by omega)]
    have : m * 1 ≤ m * 2 ^ w := Int.mul_le_mul_of_nonneg_left hp hm
    rw [Int.neg_mul]; omega
  · by_cases hx : 0 ≤ x
    · exact Int.le_trans (Int.ediv_le_self _ hx) h.2
    · have : x / 2 ^ w < 0 := Int.ediv_neg_of_neg_of_pos (by omega) (by omega)
      omega
theorem numberR (k : Nat) (hk : 10 ≤ k) {l : List (List D)} (hl : Bytes l) (a s m : Int) (hm : 1 ≤ m ∧ m ≤ 4000000000000) (h0 : 0 ≤ a) (h1 : a ≤ 900000) : ∃ v a' s', spec_l05Number k l a s m = some [.i v, .l l, .i a', .i s'] ∧ (-m ≤ v ∧ v ≤ m) ∧ 0 ≤ a' ∧ a' ≤ a + 14 := by
  obtain ⟨b, t, x, e, b0, b1⟩ := number_l0 k hl m 0 7 (k - 8) 0 a s 0 (by omega) h0 (by omega)
  rw [show 7 + 1 + (k - 8) = k by omega] at e
  have e : spec_l05Number_l0 k k l a s m 0 0 0 = _ := e
  unfold spec_l05Number
  rw [e, Option.bind_some]
  simp only [giS, gi0, glS, gl0]
  rw [wr (m + 1) (by omega) (by omega), bif_f (eqI_f (by omega))]
  have ht := tmod_bd x (m + 1) (by omega)
  obtain ⟨v, c, u, e2, v0, v1, c0, c1⟩ := pick_ok k hl b t 5 b0 (by omega)
  try dsimp only
  rw [e2, Option.bind_some]
  simp only [giS, gi0, glS, gl0]
  by_cases hv0 : v = 0
  · rw [bif_t (beq_t hv0)]
    obtain ⟨w, d, z, e3, w0, w1, d0, d1⟩ := pick_ok k hl c u 40 c0 (by omega)
    rw [e3, Option.bind_some]
    simp only [giS, gi0, glS, gl0]
    rw [bif_f (ltI_f (by rw [IntKind.wrap_u64]; omega))]
    obtain ⟨o, f, y, e4, f0, f1⟩ := one_ok k hl d z 2 d0 (by omega)
    have hf := fdiv_bd (Int.tmod x (m + 1)) (min (Int.toNat (IntKind.wrap .u64 w)) 64) m (by omega) (by omega)
    try dsimp only
    rw [e4, Option.bind_some]
    simp only [gb0, giS, gi0, glS, gl0]
    rw [wr (0 - _) (by omega) (by omega)]
    cases o
    · exact ⟨_, _, _, rfl, hf, f0, by omega⟩
    · exact ⟨_, _, _, rfl, ⟨by omega, by omega⟩, f0, by omega⟩
  · rw [bif_f (beq_f hv0)]
    by_cases hv1 : v = 1
    · rw [bif_t (beq_t hv1)]
      have hm2 : Int.tdiv m 2 = m / 2 := tdiv_pos _ _ (by omega)
      rw [hm2, wr (m / 2) (by omega) (by omega)]
      obtain ⟨w, d, z, e3, ⟨w0, w1⟩, d0, d1⟩ := among_ok k hl c u [[.i 0], [.i 1], [.i m], [.i (m / 2)]] (by simp) c0 (by omega)
      try dsimp only
      rw [e3, Option.bind_some]
      simp only [giS, gi0, glS, gl0]
      have hr : -m ≤ ri [[.i 0], [.i 1], [.i m], [.i (m / 2)]] w 0 ∧ ri [[.i 0], [.i 1], [.i m], [.i (m / 2)]] w 0 ≤ m := by
        simp only [List.length_cons, List.length_nil] at w1
        have hc : w = 0 ∨ w = 1 ∨ w = 2 ∨ w = 3 := by omega
        rcases hc with rfl | rfl | rfl | rfl
        · show -m ≤ 0 ∧ 0 ≤ m; omega
        · show -m ≤ 1 ∧ 1 ≤ m; omega
        · show -m ≤ m ∧ m ≤ m; omega
        · show -m ≤ m / 2 ∧ m / 2 ≤ m; omega
      obtain ⟨o, f, y, e4, f0, f1⟩ := one_ok k hl d z 2 d0 (by omega)
      rw [e4, Option.bind_some]
      simp only [gb0, giS, gi0, glS, gl0]
      rw [wr (0 - _) (by omega) (by omega)]
      cases o
      · exact ⟨_, _, _, rfl, hr, f0, by omega⟩
      · exact ⟨_, _, _, rfl, ⟨by omega, by omega⟩, f0, by omega⟩
    · rw [bif_f (beq_f hv1)]
      obtain ⟨o, f, y, e4, f0, f1⟩ := one_ok k hl c u 2 c0 (by omega)
      rw [e4, Option.bind_some]
      simp only [gb0, giS, gi0, glS, gl0]
      rw [wr (0 - _) (by omega) (by omega)]
      cases o
      · exact ⟨_, _, _, rfl, ⟨by omega, by omega⟩, f0, by omega⟩
      · exact ⟨_, _, _, rfl, ⟨by omega, by omega⟩, f0, by omega⟩
theorem wrapR (k : Nat) (v : Int) (h : -1800000000 ≤ v ∧ v ≤ 1800000000) : ∃ r, spec_l11Wrap k v = some [.i r] ∧ -1800000000 < r ∧ r ≤ 1800000000 := by
  have ht : Int.tmod v 3600000000 = v := by
    by_cases h0 : 0 ≤ v
    · rw [tmod_pos _ _ h0]; omega
    · have e : Int.tmod v 3600000000 = -(-v % 3600000000) := by rw [← tmod_pos (-v) _ (by omega), Int.neg_tmod, Int.neg_neg]
      rw [e]; omega
  unfold spec_l11Wrap
  try dsimp only
  rw [ht, bif_f (ltI_f (by omega))]
  by_cases h1 : v ≤ -1800000000
  · rw [bif_t (leI_t h1), wr _ (by omega) (by omega)]; exact ⟨_, rfl, by omega, by omega⟩
  · rw [bif_f (leI_f (by omega))]; exact ⟨_, rfl, by omega, by omega⟩
theorem drawP (k : Nat) (hk : 10 ≤ k) {l : List (List D)} (hl : Bytes l) (a s : Int) (h0 : 0 ≤ a) (h1 : a ≤ 800000) : ∃ x y a' s', spec_l11Draw k l a s = some [.i x, .i y, .l l, .i a', .i s'] ∧ PtQ x y ∧ 0 ≤ a' ∧ a' ≤ a + 100 := by
  obtain ⟨v1, b1, t1, e1, r1, p1, q1⟩ := numberR k hk hl a s 900000000 (by omega) h0 (by omega)
  obtain ⟨v2, b2, t2, e2, r2, p2, q2⟩ := numberR k hk hl b1 t1 1800000000 (by omega) p1 (by omega)
  obtain ⟨v3, e3, r3, r3'⟩ := wrapR k v2 r2
  obtain ⟨v4, b4, t4, e4, r4, r4', p4, q4⟩ := pick_ok k hl b2 t2 10 p2 (by omega)
  unfold spec_l11Draw
  rw [e1, Option.bind_some]
  simp only [giS, gi0, glS, gl0]
  rw [e2, Option.bind_some]
  simp only [giS, gi0, glS, gl0]
  rw [e3, Option.bind_some]
  simp only [giS, gi0, glS, gl0]
  rw [e4, Option.bind_some]
  simp only [giS, gi0, glS, gl0]
  by_cases h4 : v4 = 0
  · rw [bif_t (beq_t h4)]
    obtain ⟨w, d, z, e5, ⟨w0, w1⟩, d0, d1⟩ := among_ok k hl b4 t4 [[.i 900000000], [.i (-900000000)], [.i 0], [.i 1]] (by simp) p4 (by omega)
    try dsimp only
    rw [e5, Option.bind_some]
    simp only [giS, gi0, glS, gl0]
    refine ⟨_, _, _, _, rfl, ⟨?_, r3, r3'⟩, d0, by omega⟩
    simp only [List.length_cons, List.length_nil] at w1
    have hc : w = 0 ∨ w = 1 ∨ w = 2 ∨ w = 3 := by omega
    rcases hc with rfl | rfl | rfl | rfl <;> exact ⟨by decide, by decide⟩
  · rw [bif_f (beq_f h4)]
    by_cases h5 : v4 = 1
    · rw [bif_t (beq_t h5)]
      obtain ⟨w, d, z, e5, ⟨w0, w1⟩, d0, d1⟩ := among_ok k hl b4 t4 [[.i 1800000000], [.i (-1799999999)], [.i 0], [.i 900000000], [.i (-900000000)]] (by simp) p4 (by omega)
      try dsimp only
      rw [e5, Option.bind_some]
      simp only [giS, gi0, glS, gl0]
      refine ⟨_, _, _, _, rfl, ⟨r1, ?_⟩, d0, by omega⟩
      simp only [List.length_cons, List.length_nil] at w1
      have hc : w = 0 ∨ w = 1 ∨ w = 2 ∨ w = 3 ∨ w = 4 := by omega
      rcases hc with rfl | rfl | rfl | rfl | rfl <;> exact ⟨by decide, by decide⟩
    · rw [bif_f (beq_f h5)]
      exact ⟨_, _, _, _, rfl, ⟨r1, r3, r3'⟩, p4, by omega⟩
theorem a2Points (k : Nat) (hk : 10 ≤ k) {l : List (List D)} (hl : Bytes l) : ∃ a b c d e f, spec_A2Points k l = some [.i a, .i b, .i c, .i d, .i e, .i f] ∧ PtQ a b ∧ PtQ c d := by
  obtain ⟨a, b, x1, s1, e1, h1, p1, q1⟩ := drawP k hk hl 0 0 (by omega) (by omega)
  obtain ⟨c, d, x2, s2, e2, h2, p2, q2⟩ := drawP k hk hl x1 s1 p1 (by omega)
  obtain ⟨e, f, x3, s3, e3, h3, p3, q3⟩ := drawP k hk hl x2 s2 p2 (by omega)
  unfold spec_A2Points spec_l00From
  rw [Option.bind_some]
  have g1 : spec_l11Draw k (gl [.j, .l l, .i 0, .i 0] 1) (gi [.j, .l l, .i 0, .i 0] 2) (gi [.j, .l l, .i 0, .i 0] 3) = _ := e1
  rw [g1, Option.bind_some]
  simp only [giS, gi0, glS, gl0]
  rw [e2, Option.bind_some]
  simp only [giS, gi0, glS, gl0]
  rw [e3, Option.bind_some]
  simp only [giS, gi0, glS, gl0]
  exact ⟨_, _, _, _, _, _, rfl, h1, h2⟩
theorem a2At_ok (k : Nat) {l : List (List D)} (hl : Bytes l) (i n : Int) (h0 : 0 ≤ i) (hn : 1 ≤ n) : ∃ v : Int, laws_a2At k l i n = some [.i v] ∧ 0 ≤ v ∧ v < n := by
  unfold laws_a2At
  have hb := hl.1 i
  by_cases h : (l.length : Int) ≤ i
  · rw [bif_t (leI_t h)]; exact ⟨0, rfl, by omega, by omega⟩
  · rw [bif_f (leI_f (by omega)), bif_f (ltI_f hn), bif_t (inR_t h0 (by omega)), bif_f (eqI_f (by omega)), wr (ri l i 0) (by omega) (by omega)]
    obtain ⟨q0, q1⟩ := tmod_rng (ri l i 0) n hb.1 (by omega)
    exact ⟨_, rfl, q0, q1⟩
end Go.Proofs.YtpanhndkcnojpaaDoor.Ev
