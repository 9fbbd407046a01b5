/- Rings: which are valid, by both. No condition. -/
import Derived.Test.YthabgkbpghpokaaDoorPPts
namespace Go.Proofs.YthabgkbpghpokaaDoor.Ev
open Go Go.RowKit
set_option linter.unusedSimpArgs false
set_option linter.unusedVariables false
theorem tmod_nn (x n : Int) (h : 0 ≤ x) : Int.tmod x n = x % n := Int.tmod_eq_emod_of_nonneg h
theorem absS {k : Nat} (a : Int) (h : -9223372036854775807 ≤ a ∧ a ≤ 9223372036854775807) : impl_abs k a = some [.i (if a < 0 then -a else a)] := by
  unfold impl_abs mxI
  rw [wr (0 - a) (by omega) (by omega)]
  congr 3
  by_cases h : a < 0
  · rw [if_pos h]; split <;> omega
  · rw [if_neg h]; split <;> omega
/-! ### Longitudes -/
theorem tmodF (x : Int) : -3600000000 < Int.tmod x 3600000000 ∧ Int.tmod x 3600000000 < 3600000000 := by
  by_cases h : 0 ≤ x
  · rw [tmod_nn _ _ h]; omega
  · have e : Int.tmod x 3600000000 = -(-x % 3600000000) := by rw [← tmod_nn (-x) _ (by omega), Int.neg_tmod, Int.neg_neg]
    rw [e]; omega
def vwrap (x : Int) : Int := if 1800000000 < Int.tmod x 3600000000 then Int.tmod x 3600000000 - 3600000000 else if Int.tmod x 3600000000 ≤ -1800000000 then Int.tmod x 3600000000 + 3600000000 else Int.tmod x 3600000000
theorem vwrap_bd (x : Int) : -1800000000 < vwrap x ∧ vwrap x ≤ 1800000000 := by
  have := tmodF x
  unfold vwrap
  split
  · omega
  · split <;> omega
theorem wrapr (k : Nat) (x : Int) : spec_l11Wrap k x = some [.i (vwrap x)] ∧ impl_WrapLon k x = some [.i (vwrap x)] := by
  have := tmodF x
  unfold spec_l11Wrap impl_WrapLon vwrap
  dsimp only
  by_cases h1 : 1800000000 < Int.tmod x 3600000000
  · rw [bif_t (ltI_t h1), bif_t (ltI_t h1), if_pos h1, wr (_ - _) (by omega) (by omega), bif_f (leI_f (by omega))]
    exact ⟨rfl, rfl⟩
  · rw [bif_f (ltI_f (by omega)), bif_f (ltI_f (by omega)), if_neg h1]
    by_cases h2 : Int.tmod x 3600000000 ≤ -1800000000
    · rw [bif_t (leI_t h2), if_pos h2, wr (_ + _) (by omega) (by omega)]
      exact ⟨rfl, rfl⟩
    · rw [bif_f (leI_f (by omega)), if_neg h2]
      exact ⟨rfl, rfl⟩
/-! ### Poles -/
def poleB (a : Int) : Bool := (a == 900000000) || (a == -900000000)
theorem sPole_some (k : Nat) (a b : Int) : spec_l11Pole k a b = some [.b (poleB a)] := by
  unfold spec_l11Pole poleB
  cases (a == 900000000) <;> rfl
theorem iPole_some (k : Nat) (a b : Int) (h : -900000000 ≤ a ∧ a ≤ 900000000) : impl_isPole k a b = some [.b (poleB a)] := by
  unfold impl_isPole poleB
  rw [absS a (by omega), Option.bind_some]
  simp only [gi0]
  by_cases h1 : a < 0
  · rw [if_pos h1, beq_f (show a ≠ 900000000 by omega), Bool.false_or]
    by_cases h2 : a = -900000000
    · rw [beq_t h2, beq_t (by omega)]
    · rw [beq_f h2, beq_f (by omega)]
  · rw [if_neg h1, beq_f (show a ≠ -900000000 by omega), Bool.or_false]
/-! ### Edges -/
def EdgeB (a b c d : Int) : Bool := bif PtB a b then (bif PtB c d then (bif !poleB a then (bif !poleB c then (vwrap (IntKind.wrap .i64 (d - b)) != 1800000000) else false) else false) else false) else false
theorem edger (k : Nat) (a b c d : Int) : spec_l24Edge k a b c d = some [.b (EdgeB a b c d)] ∧ impl_isEdge k a b c d = some [.b (EdgeB a b c d)] := by
  unfold spec_l24Edge impl_isEdge impl_areValid EdgeB
  simp only [pt_some, point_some, Option.bind_some, gb0, gi0, sPole_some, wrapr]
  cases h1 : PtB a b
  · exact ⟨rfl, rfl⟩
  · cases h2 : PtB c d
    · exact ⟨rfl, rfl⟩
    · have q1 := PtB_iff.1 h1
      have q2 := PtB_iff.1 h2
      rw [iPole_some k a b q1.1, iPole_some k c d q2.1]
      cases poleB a <;> cases poleB c <;> exact ⟨rfl, rfl⟩
/-! ### Rings -/
def nx (xs : List (List D)) (i : Int) : Int := Int.tmod (IntKind.wrap .i64 (i + 1)) (xs.length : Int)
theorem nextr (k : Nat) (xs : List (List D)) (i : Nat) (h : i < xs.length) (hl : xs.length ≤ 1048576) : spec_l24Next k xs (i : Int) = some [.i (ri xs (nx xs i) 0), .i (ri xs (nx xs i) 1)] ∧ impl_follower k xs (i : Int) = some [.i (ri xs (nx xs i) 0), .i (ri xs (nx xs i) 1)] := by
  unfold spec_l24Next impl_follower nx
  rw [bif_f (eqI_f (by omega)), wr ((i : Int) + 1) (by omega) (by omega), tmod_nn _ _ (by omega)]
  have h1 := Int.emod_nonneg ((i : Int) + 1) (show (xs.length : Int) ≠ 0 by omega)
  have h2 := Int.emod_lt_of_pos ((i : Int) + 1) (show 0 < (xs.length : Int) by omega)
  dsimp only
  rw [bif_t (inR_t h1 h2)]
  exact ⟨rfl, rfl⟩
def cornerB (xs : List (List D)) (i : Int) : Bool := EdgeB (ri xs i 0) (ri xs i 1) (ri xs (nx xs i) 0) (ri xs (nx xs i) 1) && !((ri xs i 0 == ri xs (nx xs i) 0) && ((ri xs i 1 == ri xs (nx xs i) 1) && true))
def cornersB (xs : List (List D)) : Nat → Nat → Bool
  | 0, _ => true
  | d + 1, i => cornerB xs (i : Int) && cornersB xs d (i + 1)
theorem cornersB_at (xs : List (List D)) : ∀ (d i : Nat), cornersB xs d i = true → ∀ j, i ≤ j → j < i + d → cornerB xs (j : Int) = true
  | 0, i, _, j, h1, h2 => by omega
  | d + 1, i, h, j, h1, h2 => by
    unfold cornersB at h
    rw [Bool.and_eq_true] at h
    by_cases e : j = i
    · rw [e]; exact h.1
    · exact cornersB_at xs d (i + 1) h.2 j (by omega) (by omega)
theorem wr_succ (i : Nat) (h : i ≤ 1048576) : IntKind.wrap .i64 ((i : Int) + 1) = ((i + 1 : Nat) : Int) := by rw [wr _ (by omega) (by omega)]; omega
theorem ok_l0 (k : Nat) (xs : List (List D)) (hl : xs.length ≤ 1048576) : ∀ (d i n : Nat), i + d = xs.length → ∃ z, spec_l24Ok_l0 k (d + 1 + n) xs false (i : Int) = bif cornersB xs d i then some [.i 0, .l xs, .b false, .i z] else some [.i 1, .l xs, .b false, .i z]
  | 0, i, n, h => by
    refine ⟨i, ?_⟩
    rw [show 0 + 1 + n = n + 1 by omega, spec_l24Ok_l0, bif_f (ltI_f (by omega))]; rfl
  | d + 1, i, n, h => by
    obtain ⟨z, ih⟩ := ok_l0 k xs hl d (i + 1) n (by omega)
    rw [show d + 1 + 1 + n = (d + 1 + n) + 1 by omega, spec_l24Ok_l0, bif_t (ltI_t (by omega)), (nextr k xs i (by omega) hl).1, Option.bind_some, bif_t (inR_t (by omega) (by omega)), bif_t (inR_t (by omega) (by omega)), wr_succ i (by omega), ih]
    simp only [edger, Option.bind_some, gb0, gi0, giS]
    rw [show cornersB xs (d + 1) i = (cornerB xs (i : Int) && cornersB xs d (i + 1)) from rfl]
    unfold cornerB
    cases EdgeB (ri xs i 0) (ri xs i 1) (ri xs (nx xs i) 0) (ri xs (nx xs i) 1)
    · exact ⟨i, rfl⟩
    · cases ((ri xs i 0 == ri xs (nx xs i) 0) && ((ri xs i 1 == ri xs (nx xs i) 1) && true))
      · exact ⟨z, rfl⟩
      · exact ⟨i, rfl⟩
theorem valid_l0 (k : Nat) (xs : List (List D)) (hl : xs.length ≤ 1048576) : ∀ (d i n : Nat), i + d = xs.length → ∃ z, impl_ValidRing_l0 k (d + 1 + n) xs false xs (xs.length : Int) (i : Int) = bif cornersB xs d i then some [.i 0, .l xs, .b false, .l xs, .i xs.length, .i z] else some [.i 1, .l xs, .b false, .l xs, .i xs.length, .i z]
  | 0, i, n, h => by
    refine ⟨i, ?_⟩
    rw [show 0 + 1 + n = n + 1 by omega, impl_ValidRing_l0, bif_f (ltI_f (by omega))]; rfl
  | d + 1, i, n, h => by
    obtain ⟨z, ih⟩ := valid_l0 k xs hl d (i + 1) n (by omega)
    rw [show d + 1 + 1 + n = (d + 1 + n) + 1 by omega, impl_ValidRing_l0, bif_t (ltI_t (by omega)), bif_t (inR_t (by omega) (by omega)), (nextr k xs i (by omega) hl).2, Option.bind_some, wr_succ i (by omega), ih]
    simp only [edger, Option.bind_some, gb0, gi0, giS]
    rw [show cornersB xs (d + 1) i = (cornerB xs (i : Int) && cornersB xs d (i + 1)) from rfl]
    unfold cornerB
    cases EdgeB (ri xs i 0) (ri xs i 1) (ri xs (nx xs i) 0) (ri xs (nx xs i) 1)
    · exact ⟨i, rfl⟩
    · cases ((ri xs i 0 == ri xs (nx xs i) 0) && ((ri xs i 1 == ri xs (nx xs i) 1) && true))
      · exact ⟨z, rfl⟩
      · exact ⟨i, rfl⟩
def RingB (xs : List (List D)) : Bool := (leI 3 (xs.length : Int) && leI (xs.length : Int) 24) && cornersB xs xs.length 0
theorem ringr (k : Nat) (xs : List (List D)) (hl : xs.length ≤ 1048576) (hk : xs.length < k) : spec_l24Ok k xs = some [.b (RingB xs)] ∧ impl_ValidRing k xs = some [.b (RingB xs)] := by
  obtain ⟨n, hn⟩ : ∃ n, k = xs.length + 1 + n := ⟨k - (xs.length + 1), by omega⟩
  obtain ⟨z, e1⟩ := ok_l0 k xs hl xs.length 0 n (by omega)
  obtain ⟨z', e2⟩ := valid_l0 k xs hl xs.length 0 n (by omega)
  rw [← hn, show ((0 : Nat) : Int) = 0 from rfl] at e1 e2
  unfold spec_l24Ok impl_ValidRing impl_length RingB
  rw [e1, e2, in_some]
  simp only [Option.bind_some, gb0]
  cases cornersB xs xs.length 0
  · refine ⟨?_, by rw [Bool.and_false]; rfl⟩
    cases (leI 3 (xs.length : Int) && leI (xs.length : Int) 24) <;> rfl
  · refine ⟨?_, ?_⟩
    · cases (leI 3 (xs.length : Int) && leI (xs.length : Int) 24) <;> rfl
    · rw [Bool.and_true]
      show ((impl_within k (xs.length : Int) 3 24).bind fun t => some [D.b (gb t 0)]) = _
      rw [within_some]; rfl
end Go.Proofs.YthabgkbpghpokaaDoor.Ev
