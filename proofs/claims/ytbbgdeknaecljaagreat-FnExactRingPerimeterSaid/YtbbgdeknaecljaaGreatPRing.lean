/- Edges and rings, by both. No condition. -/
import Derived.Test.YtbbgdeknaecljaaGreatPDir
import Derived.Test.YtbbgdeknaecljaaGreatPPts
namespace Go.Proofs.YtbbgdeknaecljaaGreat.Ev
open Go Go.RowKit
set_option linter.unusedSimpArgs false
set_option linter.unusedVariables false
/-! ### Longitudes -/
theorem tmodF (x : Int) : -3600000000 < Int.tmod x 3600000000 ∧ Int.tmod x 3600000000 < 3600000000 := by
  by_cases h : 0 ≤ x
  · rw [tmod_nn _ _ h]; omega
  · have e : Int.tmod x 3600000000 = -(-x % 3600000000) := by rw [← tmod_nn (-x) _ (by omega), Int.neg_tmod, Int.neg_neg]
    rw [e]; omega
def vwrap (x : Int) : Int := if 1800000000 < Int.tmod x 3600000000 then Int.tmod x 3600000000 - 3600000000 else if Int.tmod x 3600000000 ≤ -1800000000 then Int.tmod x 3600000000 + 3600000000 else Int.tmod x 3600000000
theorem vwrap_bd (x : Int) : -1800000000 < vwrap x ∧ vwrap x ≤ 1800000000 := by
  have := tmodF x
  unfold vwrap
  split
  · omega
  · split <;> omega
theorem wrapr (k : Nat) (x : Int) : spec_l11Wrap k x = some [.i (vwrap x)] ∧ impl_WrapLon k x = some [.i (vwrap x)] := by
  have := tmodF x
  unfold spec_l11Wrap impl_WrapLon vwrap
  dsimp only
  by_cases h1 : 1800000000 < Int.tmod x 3600000000
  · rw [bif_t (ltI_t h1), bif_t (ltI_t h1), if_pos h1, wr (_ - _) (by omega) (by omega), bif_f (leI_f (by omega))]
    exact ⟨rfl, rfl⟩
  · rw [bif_f (ltI_f (by omega)), bif_f (ltI_f (by omega)), if_neg h1]
    by_cases h2 : Int.tmod x 3600000000 ≤ -1800000000
    · rw [bif_t (leI_t h2), if_pos h2, wr (_ + _) (by omega) (by omega)]
      exact ⟨rfl, rfl⟩
    · rw [bif_f (leI_f (by omega)), if_neg h2]
      exact ⟨rfl, rfl⟩
/-! ### Edges -/
def poleB (a : Int) : Bool := (a == 900000000) || (a == -900000000)
theorem sPole_some (k : Nat) (a b : Int) : spec_l11Pole k a b = some [.b (poleB a)] := by
  unfold spec_l11Pole poleB
  cases (a == 900000000) <;> rfl
theorem iPole_some (k : Nat) (a b : Int) (h : -900000000 ≤ a ∧ a ≤ 900000000) : impl_isPole k a b = some [.b (poleB a)] := by
  unfold impl_isPole poleB
  rw [absS a (by omega), Option.bind_some]
  simp only [gi0]
  by_cases h1 : a < 0
  · rw [if_pos h1, beq_f (show a ≠ 900000000 by omega), Bool.false_or]
    by_cases h2 : a = -900000000
    · rw [beq_t h2, beq_t (by omega)]
    · rw [beq_f h2, beq_f (by omega)]
  · rw [if_neg h1, beq_f (show a ≠ -900000000 by omega), Bool.or_false]
def EdgeB (a b c d : Int) : Bool := bif PtB a b then (bif PtB c d then (bif !poleB a then (bif !poleB c then (vwrap (IntKind.wrap .i64 (d - b)) != 1800000000) else false) else false) else false) else false
theorem edger (k : Nat) (a b c d : Int) : spec_l24Edge k a b c d = some [.b (EdgeB a b c d)] ∧ impl_isEdge k a b c d = some [.b (EdgeB a b c d)] := by
  unfold spec_l24Edge impl_isEdge impl_areValid EdgeB
  simp only [pt_some, point_some, Option.bind_some, gb0, gi0, sPole_some, wrapr]
  cases h1 : PtB a b
  · exact ⟨rfl, rfl⟩
  · cases h2 : PtB c d
    · exact ⟨rfl, rfl⟩
    · have q1 := PtB_iff.1 h1
      have q2 := PtB_iff.1 h2
      rw [iPole_some k a b q1.1, iPole_some k c d q2.1]
      cases poleB a <;> cases poleB c <;> exact ⟨rfl, rfl⟩
theorem EdgeB_pts {a b c d : Int} (h : EdgeB a b c d = true) : PtB a b = true ∧ PtB c d = true := by
  unfold EdgeB at h
  cases h1 : PtB a b
  · rw [h1] at h; cases h
  · cases h2 : PtB c d
    · rw [h1, h2] at h; cases h
    · exact ⟨rfl, rfl⟩
noncomputable def vLat (k : Nat) (a b : Int) : Int × Int := bif PtB a b then vRad k a else wv
theorem latr {k : Nat} (hk : 700 ≤ k) (a b : Int) : spec_LatOf k a b = some (pv (vLat k a b)) ∧ impl_LatOf k a b = some (pv (vLat k a b)) := by
  unfold spec_LatOf impl_LatOf vLat
  simp only [pt_some, point_some, ivb, ivr hk, Option.bind_some, pv0, pv1, gi0, giS, gb0, gbS, cond_true, cond_false, Bool.not_true, Bool.not_false, pair_eta]
  cases PtB a b <;> exact ⟨rfl, rfl⟩
theorem knownr (k : Nat) (a b : Int) : spec_l19Known k a b = some (bif ivB a b then [.i a, .i b, .i 0] else [.i 0, .i 0, .i 9]) ∧ impl_knownI k a b = some (bif ivB a b then [.i a, .i b, .i 0] else [.i 0, .i 0, .i 9]) := by
  unfold spec_l19Known impl_knownI
  simp only [ivb, Option.bind_some, gb0]
  cases ivB a b <;> exact ⟨rfl, rfl⟩
theorem ea_same {k : Nat} (hk : 700 ≤ k) (a b c d : Int) : Same (spec_l24EdgeArea k a b c d) (impl_edgeArea k a b c d) := by
  unfold spec_l24EdgeArea impl_edgeArea impl_differenceOf impl_times
  simp only [wrapr, latr hk, tanr hk, dirr hk, ivr hk, Option.bind_some, pv0, pv1, gi0, giS, gb0, gbS, cond_true, cond_false, Bool.not_true, Bool.not_false, pair_eta]
  exact same_refl _
noncomputable def vEA (k : Nat) (a b c d : Int) : Int × Int := iv (spec_l24EdgeArea k a b c d)
theorem ear {k : Nat} (hk : 700 ≤ k) (a b c d : Int) : spec_l24EdgeArea k a b c d = some (pv (vEA k a b c d)) ∧ impl_edgeArea k a b c d = some (pv (vEA k a b c d)) := same_rule (ea_same hk a b c d)
theorem edgeArea_same {k : Nat} (hk : 700 ≤ k) (a b c d : Int) : ∃ x y z, spec_EdgeArea k a b c d = some [.i x, .i y, .i z] ∧ impl_EdgeArea k a b c d = some [.i x, .i y, .i z] := by
  unfold spec_EdgeArea impl_EdgeArea
  simp only [edger, ear hk, knownr, ivr hk, Option.bind_some, pv0, pv1, gi0, giS, gb0, gbS, cond_true, cond_false, Bool.not_true, Bool.not_false, pair_eta]
  cases EdgeB a b c d
  · exact ⟨_, _, _, rfl, rfl⟩
  · cases ivB (vEA k a b c d).1 (vEA k a b c d).2 <;> exact ⟨_, _, _, rfl, rfl⟩
/-- The crossing of an edge and a meridian. -/
theorem cross_same {k : Nat} (hk : 700 ≤ k) (a b c d l : Int) (he : EdgeB a b c d = true) (hl : PtB 0 l = true) : ∃ x y o, spec_l24Cross k a b c d l = some [.i x, .i y, .b o] ∧ impl_EdgeLatitude k a b c d l = some (bif o then (bif ivB x y then [.i x, .i y, .i 0] else [.i 0, .i 0, .i 9]) else [.i 0, .i 0, .i 8]) := by
  unfold spec_l24Cross impl_EdgeLatitude
  simp only [edger, he, point_some, hl, wrapr, latr hk, tanr hk, atanr hk, knownr, in_some, within_some, ivr hk, Option.bind_some, pv0, pv1, gi0, giS, gb0, gbS, cond_true, cond_false, Bool.not_true, Bool.not_false, pair_eta]
  cases ltI (vwrap (IntKind.wrap .i64 (d - b))) 0
  · simp only [ivr hk, Option.bind_some, pv0, pv1, gi0, giS, gb0, gbS, cond_true, cond_false, Bool.not_true, Bool.not_false, pair_eta]
    cases (leI 0 (vwrap (IntKind.wrap .i64 (l - b))) && leI (vwrap (IntKind.wrap .i64 (l - b))) (IntKind.wrap .i64 (vwrap (IntKind.wrap .i64 (d - b)) - 1)))
    · exact ⟨_, _, _, rfl, rfl⟩
    · simp only [ivr hk, Option.bind_some, pv0, pv1, gi0, giS, gb0, gbS, cond_true, cond_false, Bool.not_true, Bool.not_false, pair_eta]
      refine ⟨_, _, _, rfl, ?_⟩
      generalize vAtan k _ = w
      cases ivB w.1 w.2 <;> rfl
  · simp only [ivr hk, Option.bind_some, pv0, pv1, gi0, giS, gb0, gbS, cond_true, cond_false, Bool.not_true, Bool.not_false, pair_eta]
    cases (leI 0 (vwrap (IntKind.wrap .i64 (l - d))) && leI (vwrap (IntKind.wrap .i64 (l - d))) (IntKind.wrap .i64 (IntKind.wrap .i64 (0 - vwrap (IntKind.wrap .i64 (d - b))) - 1)))
    · exact ⟨_, _, _, rfl, rfl⟩
    · simp only [ivr hk, Option.bind_some, pv0, pv1, gi0, giS, gb0, gbS, cond_true, cond_false, Bool.not_true, Bool.not_false, pair_eta]
      refine ⟨_, _, _, rfl, ?_⟩
      generalize vAtan k _ = w
      cases ivB w.1 w.2 <;> rfl
theorem edgeLat_same {k : Nat} (hk : 700 ≤ k) (a b c d l : Int) : ∃ x y z, spec_EdgeLatitude k a b c d l = some [.i x, .i y, .i z] ∧ impl_EdgeLatitude k a b c d l = some [.i x, .i y, .i z] := by
  cases he : EdgeB a b c d
  · unfold spec_EdgeLatitude impl_EdgeLatitude
    simp only [edger, he, ivr hk, Option.bind_some, pv0, pv1, gi0, giS, gb0, gbS, cond_true, cond_false, Bool.not_true, Bool.not_false, pair_eta]
    exact ⟨_, _, _, rfl, rfl⟩
  · cases hl : PtB 0 l
    · unfold spec_EdgeLatitude impl_EdgeLatitude
      simp only [edger, he, point_some, pt_some, hl, ivr hk, Option.bind_some, pv0, pv1, gi0, giS, gb0, gbS, cond_true, cond_false, Bool.not_true, Bool.not_false, pair_eta]
      exact ⟨_, _, _, rfl, rfl⟩
    · obtain ⟨x, y, o, e1, e2⟩ := cross_same hk a b c d l he hl
      rw [e2]
      unfold spec_EdgeLatitude
      simp only [edger, he, point_some, pt_some, hl, ivr hk, Option.bind_some, pv0, pv1, gi0, giS, gb0, gbS, cond_true, cond_false, Bool.not_true, Bool.not_false, pair_eta]
      rw [e1]
      simp only [knownr, ivr hk, Option.bind_some, pv0, pv1, gi0, giS, gb0, gbS, cond_true, cond_false, Bool.not_true, Bool.not_false, pair_eta]
      cases o
      · exact ⟨_, _, _, rfl, rfl⟩
      · cases ivB x y <;> exact ⟨_, _, _, rfl, rfl⟩
/-! ### Rings -/
def nx (xs : List (List D)) (i : Int) : Int := Int.tmod (IntKind.wrap .i64 (i + 1)) (xs.length : Int)
theorem nextr (k : Nat) (xs : List (List D)) (i : Nat) (h : i < xs.length) (hl : xs.length ≤ 1048576) : spec_l24Next k xs (i : Int) = some [.i (ri xs (nx xs i) 0), .i (ri xs (nx xs i) 1)] ∧ impl_follower k xs (i : Int) = some [.i (ri xs (nx xs i) 0), .i (ri xs (nx xs i) 1)] := by
  unfold spec_l24Next impl_follower nx
  rw [bif_f (eqI_f (by omega)), wr ((i : Int) + 1) (by omega) (by omega), tmod_nn _ _ (by omega)]
  have h1 := Int.emod_nonneg ((i : Int) + 1) (show (xs.length : Int) ≠ 0 by omega)
  have h2 := Int.emod_lt_of_pos ((i : Int) + 1) (show 0 < (xs.length : Int) by omega)
  dsimp only
  rw [bif_t (inR_t h1 h2)]
  exact ⟨rfl, rfl⟩
def cornerB (xs : List (List D)) (i : Int) : Bool := EdgeB (ri xs i 0) (ri xs i 1) (ri xs (nx xs i) 0) (ri xs (nx xs i) 1) && !((ri xs i 0 == ri xs (nx xs i) 0) && ((ri xs i 1 == ri xs (nx xs i) 1) && true))
def cornersB (xs : List (List D)) : Nat → Nat → Bool
  | 0, _ => true
  | d + 1, i => cornerB xs (i : Int) && cornersB xs d (i + 1)
theorem cornersB_at (xs : List (List D)) : ∀ (d i : Nat), cornersB xs d i = true → ∀ j, i ≤ j → j < i + d → cornerB xs (j : Int) = true
  | 0, i, _, j, h1, h2 => by omega
  | d + 1, i, h, j, h1, h2 => by
    unfold cornersB at h
    rw [Bool.and_eq_true] at h
    by_cases e : j = i
    · rw [e]; exact h.1
    · exact cornersB_at xs d (i + 1) h.2 j (by omega) (by omega)
theorem wr_succ (i : Nat) (h : i ≤ 1048576) : IntKind.wrap .i64 ((i : Int) + 1) = ((i + 1 : Nat) : Int) := by rw [wr _ (by omega) (by omega)]; omega
theorem ok_l0 (k : Nat) (xs : List (List D)) (hl : xs.length ≤ 1048576) : ∀ (d i n : Nat), i + d = xs.length → ∃ z, spec_l24Ok_l0 k (d + 1 + n) xs false (i : Int) = bif cornersB xs d i then some [.i 0, .l xs, .b false, .i z] else some [.i 1, .l xs, .b false, .i z]
  | 0, i, n, h => by
    refine ⟨i, ?_⟩
    rw [show 0 + 1 + n = n + 1 by omega, spec_l24Ok_l0, bif_f (ltI_f (by omega))]; rfl
  | d + 1, i, n, h => by
    obtain ⟨z, ih⟩ := ok_l0 k xs hl d (i + 1) n (by omega)
    rw [show d + 1 + 1 + n = (d + 1 + n) + 1 by omega, spec_l24Ok_l0, bif_t (ltI_t (by omega)), (nextr k xs i (by omega) hl).1, Option.bind_some, bif_t (inR_t (by omega) (by omega)), bif_t (inR_t (by omega) (by omega)), wr_succ i (by omega), ih]
    simp only [edger, Option.bind_some, gb0, gi0, giS]
    rw [show cornersB xs (d + 1) i = (cornerB xs (i : Int) && cornersB xs d (i + 1)) from rfl]
    unfold cornerB
    cases EdgeB (ri xs i 0) (ri xs i 1) (ri xs (nx xs i) 0) (ri xs (nx xs i) 1)
    · exact ⟨i, rfl⟩
    · cases ((ri xs i 0 == ri xs (nx xs i) 0) && ((ri xs i 1 == ri xs (nx xs i) 1) && true))
      · exact ⟨z, rfl⟩
      · exact ⟨i, rfl⟩
theorem valid_l0 (k : Nat) (xs : List (List D)) (hl : xs.length ≤ 1048576) : ∀ (d i n : Nat), i + d = xs.length → ∃ z, impl_ValidRing_l0 k (d + 1 + n) xs false xs (xs.length : Int) (i : Int) = bif cornersB xs d i then some [.i 0, .l xs, .b false, .l xs, .i xs.length, .i z] else some [.i 1, .l xs, .b false, .l xs, .i xs.length, .i z]
  | 0, i, n, h => by
    refine ⟨i, ?_⟩
    rw [show 0 + 1 + n = n + 1 by omega, impl_ValidRing_l0, bif_f (ltI_f (by omega))]; rfl
  | d + 1, i, n, h => by
    obtain ⟨z, ih⟩ := valid_l0 k xs hl d (i + 1) n (by omega)
    rw [show d + 1 + 1 + n = (d + 1 + n) + 1 by omega, impl_ValidRing_l0, bif_t (ltI_t (by omega)), bif_t (inR_t (by omega) (by omega)), (nextr k xs i (by omega) hl).2, Option.bind_some, wr_succ i (by omega), ih]
    simp only [edger, Option.bind_some, gb0, gi0, giS]
    rw [show cornersB xs (d + 1) i = (cornerB xs (i : Int) && cornersB xs d (i + 1)) from rfl]
    unfold cornerB
    cases EdgeB (ri xs i 0) (ri xs i 1) (ri xs (nx xs i) 0) (ri xs (nx xs i) 1)
    · exact ⟨i, rfl⟩
    · cases ((ri xs i 0 == ri xs (nx xs i) 0) && ((ri xs i 1 == ri xs (nx xs i) 1) && true))
      · exact ⟨z, rfl⟩
      · exact ⟨i, rfl⟩
def RingB (xs : List (List D)) : Bool := (leI 3 (xs.length : Int) && leI (xs.length : Int) 24) && cornersB xs xs.length 0
theorem ringr (k : Nat) (xs : List (List D)) (hl : xs.length ≤ 1048576) (hk : xs.length < k) : spec_l24Ok k xs = some [.b (RingB xs)] ∧ impl_ValidRing k xs = some [.b (RingB xs)] := by
  obtain ⟨n, hn⟩ : ∃ n, k = xs.length + 1 + n := ⟨k - (xs.length + 1), by omega⟩
  obtain ⟨z, e1⟩ := ok_l0 k xs hl xs.length 0 n (by omega)
  obtain ⟨z', e2⟩ := valid_l0 k xs hl xs.length 0 n (by omega)
  rw [← hn, show ((0 : Nat) : Int) = 0 from rfl] at e1 e2
  unfold spec_l24Ok impl_ValidRing impl_length RingB
  rw [e1, e2, in_some]
  simp only [Option.bind_some, gb0]
  cases cornersB xs xs.length 0
  · refine ⟨?_, by rw [Bool.and_false]; rfl⟩
    cases (leI 3 (xs.length : Int) && leI (xs.length : Int) 24) <;> rfl
  · refine ⟨?_, ?_⟩
    · cases (leI 3 (xs.length : Int) && leI (xs.length : Int) 24) <;> rfl
    · rw [Bool.and_true]
      show ((impl_within k (xs.length : Int) 3 24).bind fun t => some [D.b (gb t 0)]) = _
      rw [within_some]; rfl
/-! ### Turns -/
theorem turns_l0 (k : Nat) (xs : List (List D)) (hl : xs.length ≤ 1048576) : ∀ (d i n n' : Nat) (s : Int), i + d = xs.length → I64 s → ∃ v z, I64 v ∧ spec_l24Turns_l0 k (d + 1 + n) xs 0 s (i : Int) = some [.i 0, .l xs, .i 0, .i v, .i z] ∧ impl_ringTurns_l0 k (d + 1 + n') xs 0 s xs (xs.length : Int) (i : Int) = some [.i 0, .l xs, .i 0, .i v, .l xs, .i xs.length, .i z]
  | 0, i, n, n', s, h, hs => by
    refine ⟨s, i, hs, ?_, ?_⟩
    · rw [show 0 + 1 + n = n + 1 by omega, spec_l24Turns_l0, bif_f (ltI_f (by omega))]
    · rw [show 0 + 1 + n' = n' + 1 by omega, impl_ringTurns_l0, bif_f (ltI_f (by omega))]
  | d + 1, i, n, n', s, h, hs => by
    rw [show d + 1 + 1 + n = (d + 1 + n) + 1 by omega, show d + 1 + 1 + n' = (d + 1 + n') + 1 by omega, spec_l24Turns_l0, impl_ringTurns_l0, bif_t (ltI_t (by omega)), bif_t (ltI_t (by omega)), (nextr k xs i (by omega) hl).1, Option.bind_some, bif_t (inR_t (by omega) (by omega)), bif_t (inR_t (by omega) (by omega)), (nextr k xs i (by omega) hl).2, Option.bind_some, wr_succ i (by omega)]
    simp only [wrapr, Option.bind_some, gi0, giS]
    exact turns_l0 k xs hl d (i + 1) n n' _ (by omega) (wr_range _)
noncomputable def vTurns (k : Nat) (xs : List (List D)) : Int := gi ((spec_l24Turns k xs).getD []) 0
theorem turnsr (k : Nat) (xs : List (List D)) (hl : xs.length ≤ 1048576) (hk : xs.length < k) : (-4000000000 ≤ vTurns k xs ∧ vTurns k xs ≤ 4000000000) ∧ spec_l24Turns k xs = some [.i (vTurns k xs)] ∧ impl_ringTurns k xs = some [.i (vTurns k xs)] := by
  obtain ⟨n, hn⟩ : ∃ n, k = xs.length + 1 + n := ⟨k - (xs.length + 1), by omega⟩
  obtain ⟨v, z, hv, e1, e2⟩ := turns_l0 k xs hl xs.length 0 n n 0 (by omega) ⟨by decide, by decide⟩
  rw [← hn, show ((0 : Nat) : Int) = 0 from rfl] at e1 e2
  obtain ⟨hv1, hv2⟩ := hv
  have hb : -4000000000 ≤ Int.tdiv v 3600000000 ∧ Int.tdiv v 3600000000 ≤ 4000000000 := by
    by_cases h : 0 ≤ v
    · rw [tdiv_nn _ _ h]; omega
    · have e : Int.tdiv v 3600000000 = -(-v / 3600000000) := by rw [← tdiv_nn (-v) _ (by omega), Int.neg_tdiv, Int.neg_neg]
      rw [e]; omega
  have h1 : spec_l24Turns k xs = some [.i (Int.tdiv v 3600000000)] := by
    unfold spec_l24Turns
    rw [e1, Option.bind_some]
    simp only [gi0, giS]
    rw [wr _ (by omega) (by omega)]
  have h2 : impl_ringTurns k xs = some [.i (Int.tdiv v 3600000000)] := by
    unfold impl_ringTurns
    rw [e2, Option.bind_some]
    simp only [gi0, giS]
    rw [wr _ (by omega) (by omega)]
  have hx : vTurns k xs = Int.tdiv v 3600000000 := by unfold vTurns; rw [h1]; rfl
  rw [hx]
  exact ⟨hb, h1, h2⟩
/-! ### The plain area -/
theorem plain_l0 (k : Nat) (hk : 700 ≤ k) (xs : List (List D)) (hl : xs.length ≤ 1048576) : ∀ (d i n n' : Nat) (s : Int × Int), i + d = xs.length → ∃ v z, spec_l24Plain_l0 k (d + 1 + n) xs 0 0 s.1 s.2 (i : Int) = some [.i 0, .l xs, .i 0, .i 0, .i v.1, .i v.2, .i z] ∧ impl_plainArea_l0 k (d + 1 + n') xs 0 0 0 s.1 s.2 xs (xs.length : Int) (i : Int) = some [.i 0, .l xs, .i 0, .i 0, .i 0, .i (Prod.fst v), .i v.2, .l xs, .i xs.length, .i z]
  | 0, i, n, n', s, h => by
    refine ⟨s, i, ?_, ?_⟩
    · rw [show 0 + 1 + n = n + 1 by omega, spec_l24Plain_l0, bif_f (ltI_f (by omega))]
    · rw [show 0 + 1 + n' = n' + 1 by omega, impl_plainArea_l0, bif_f (ltI_f (by omega))]
  | d + 1, i, n, n', s, h => by
    rw [show d + 1 + 1 + n = (d + 1 + n) + 1 by omega, show d + 1 + 1 + n' = (d + 1 + n') + 1 by omega, spec_l24Plain_l0, impl_plainArea_l0, bif_t (ltI_t (by omega)), bif_t (ltI_t (by omega)), bif_t (inR_t (by omega) (by omega)), bif_t (inR_t (by omega) (by omega)), (nextr k xs i (by omega) hl).1, (nextr k xs i (by omega) hl).2, Option.bind_some, Option.bind_some, wr_succ i (by omega)]
    simp only [ear hk, ivr hk, Option.bind_some, pv0, pv1, gi0, giS, gb0, gbS, cond_true, cond_false, Bool.not_true, Bool.not_false, pair_eta]
    exact plain_l0 k hk xs hl d (i + 1) n n' (vAdd k s (vEA k (ri xs i 0) (ri xs i 1) (ri xs (nx xs i) 0) (ri xs (nx xs i) 1))) (by omega)
theorem abs_max (k : Nat) (n : Int) : impl_abs k n = some [.i (mxI n (IntKind.wrap .i64 (0 - n)))] := rfl
theorem plain_same {k : Nat} (hk : 700 ≤ k) (xs : List (List D)) (hl : xs.length ≤ 1048576) (hx : xs.length < k) : ∃ p, spec_l24Plain k xs = some (pv p) ∧ impl_plainArea k xs = some [.i p.1, .i p.2, .i (vTurns k xs)] := by
  obtain ⟨n, hn⟩ : ∃ n, k = xs.length + 1 + n := ⟨k - (xs.length + 1), by omega⟩
  obtain ⟨v, z, e1, e2⟩ := plain_l0 k hk xs hl xs.length 0 n n (vInt k 0) (by omega)
  rw [← hn, show ((0 : Nat) : Int) = 0 from rfl] at e1 e2
  obtain ⟨_, t1, t2⟩ := turnsr k xs hl hx
  unfold spec_l24Plain impl_plainArea
  simp only [ivr hk, Option.bind_some, pv0, pv1, gi0, giS, gb0, gbS, cond_true, cond_false, Bool.not_true, Bool.not_false, pair_eta]
  rw [e1, e2]
  simp only [ivr hk, Option.bind_some, pv0, pv1, gi0, giS, gb0, gbS, cond_true, cond_false, Bool.not_true, Bool.not_false, pair_eta, glS, gl0]
  rw [t1, t2]
  simp only [ivr hk, Option.bind_some, pv0, pv1, gi0, giS, gb0, gbS, cond_true, cond_false, Bool.not_true, Bool.not_false, pair_eta, l00Max_some, abs_max]
  exact ⟨_, rfl, rfl⟩
noncomputable def vPlain (k : Nat) (xs : List (List D)) : Int × Int := iv (spec_l24Plain k xs)
theorem plainr {k : Nat} (hk : 700 ≤ k) (xs : List (List D)) (hl : xs.length ≤ 1048576) (hx : xs.length < k) : spec_l24Plain k xs = some (pv (vPlain k xs)) ∧ impl_plainArea k xs = some [.i (vPlain k xs).1, .i (vPlain k xs).2, .i (vTurns k xs)] := by
  obtain ⟨p, e1, e2⟩ := plain_same hk xs hl hx
  have e := iv_some e1
  have hp : p = vPlain k xs := pv_inj' (Option.some.inj (e1.symm.trans e))
  rw [e1, e2, hp]
  exact ⟨rfl, rfl⟩
/-! ### The laws -/
def woundB (k : Nat) (n : Int) : Bool := leI (-1) n && leI n 1
theorem mx_wound (k : Nat) (n : Int) (h : -4000000000 ≤ n ∧ n ≤ 4000000000) : ltI 1 (mxI n (IntKind.wrap .i64 (0 - n))) = !woundB k n := by
  rw [wr (0 - n) (by omega) (by omega)]
  unfold woundB mxI
  by_cases h1 : -1 ≤ n
  · by_cases h2 : n ≤ 1
    · rw [leI_t h1, leI_t h2, ltI_f (by split <;> omega)]; rfl
    · rw [leI_t h1, leI_f (by omega), ltI_t (by split <;> omega)]; rfl
  · rw [leI_f (by omega), ltI_t (by split <;> omega)]; rfl
theorem coder (k : Nat) (xs : List (List D)) (hl : xs.length ≤ 1048576) (hx : xs.length < k) : spec_l24Ask k xs = some [.i (bif RingB xs then 0 else 1)] ∧ spec_l24Wound k xs = some [.i (bif woundB k (vTurns k xs) then 0 else 6)] ∧ impl_ringCode k xs = some [.i (bif RingB xs then (bif woundB k (vTurns k xs) then 0 else 6) else 1)] := by
  obtain ⟨hb, t1, t2⟩ := turnsr k xs hl hx
  unfold spec_l24Ask spec_l24Wound impl_ringCode
  simp only [ringr k xs hl hx, t1, t2, Option.bind_some, gb0, gi0, in_some, abs_max, mx_wound k _ hb]
  unfold woundB
  cases RingB xs <;> cases (leI (-1) (vTurns k xs) && leI (vTurns k xs) 1) <;> exact ⟨rfl, rfl, rfl⟩
theorem signr (k : Nat) (a b : Int) : spec_l09Sign k a b = some [.i (bif !ivB a b then 0 else bif ltI 0 a then 1 else bif ltI b 0 then -1 else 0)] := by
  unfold spec_l09Sign
  rw [l04Ok_some]
  cases ivB a b
  · rfl
  · cases ltI 0 a
    · cases ltI b 0 <;> rfl
    · rfl
theorem hasLt (a b : Int) : (leI a 0 && leI 0 b) = (!ltI 0 a && !ltI b 0) := by
  have e1 : leI a 0 = !ltI 0 a := by
    by_cases h : a ≤ 0
    · rw [leI_t h, ltI_f h]; rfl
    · rw [leI_f (by omega), ltI_t (by omega)]; rfl
  have e2 : leI 0 b = !ltI b 0 := by
    by_cases h : 0 ≤ b
    · rw [leI_t h, ltI_f h]; rfl
    · rw [leI_f (by omega), ltI_t (by omega)]; rfl
  rw [e1, e2]
theorem ringArea_same {k : Nat} (hk : 700 ≤ k) (xs : List (List D)) (hl : xs.length ≤ 1048576) (hx : xs.length < k) : ∃ x y z, spec_RingArea k xs = some [.i x, .i y, .i z] ∧ impl_RingArea k xs = some [.i x, .i y, .i z] := by
  obtain ⟨c1, c2, c3⟩ := coder k xs hl hx
  obtain ⟨p1, p2⟩ := plainr hk xs hl hx
  obtain ⟨_, t1, _⟩ := turnsr k xs hl hx
  unfold spec_RingArea impl_RingArea
  rw [c1, c3]
  cases RingB xs
  · exact ⟨_, _, _, rfl, rfl⟩
  · simp only [Option.bind_some, gi0, cond_true]
    rw [c2]
    cases woundB k (vTurns k xs)
    · exact ⟨_, _, _, rfl, rfl⟩
    · simp only [p1, p2, t1, signr, knownr, hasI_some, hasLt, ivr hk, Option.bind_some, pv0, pv1, gi0, giS, gb0, gbS, cond_true, cond_false, Bool.not_true, Bool.not_false, pair_eta, bif_t (beq_t (show (0 : Int) = 0 from rfl)), bif_f (bne_f (show (0 : Int) = 0 from rfl))]
      generalize vPlain k xs = w
      by_cases h0 : vTurns k xs = 0
      · rw [bif_t (beq_t h0), bif_f (bne_f h0)]
        cases hv : ivB w.1 w.2
        · exact ⟨_, _, _, rfl, rfl⟩
        · cases h1 : ltI 0 w.1
          · cases h2 : ltI w.2 0
            · exact ⟨_, _, _, rfl, rfl⟩
            · simp only [Bool.not_true, Bool.not_false, cond_true, cond_false, Bool.false_or, Bool.and_false, Bool.true_and]
              cases ivB (vAdd k (vTurn k 8) w).1 (vAdd k (vTurn k 8) w).2 <;> exact ⟨_, _, _, rfl, rfl⟩
          · have h1' := ltI_iff.1 h1
            have hv' := ivB_iff.1 hv
            rw [ltI_f (show 0 ≤ w.2 by omega)]
            exact ⟨_, _, _, rfl, rfl⟩
      · rw [bif_f (beq_f h0), bif_t (bne_t h0)]
        cases ivB w.1 w.2 <;> exact ⟨_, _, _, rfl, rfl⟩
theorem northr {k : Nat} (hk : 700 ≤ k) (xs : List (List D)) (hl : xs.length ≤ 1048576) (hx : xs.length < k) (hw : woundB k (vTurns k xs) = true) : ∃ v, spec_l24North k xs = some [.i v] ∧ impl_hasNorth k xs = some [.i v] := by
  obtain ⟨p1, p2⟩ := plainr hk xs hl hx
  obtain ⟨_, t1, _⟩ := turnsr k xs hl hx
  unfold woundB at hw
  simp only [Bool.and_eq_true, leI_iff] at hw
  unfold spec_l24North impl_hasNorth impl_answer
  rw [t1, p1, p2]
  simp only [signr, ivb, ivr hk, Option.bind_some, pv0, pv1, gi0, giS, gb0, gbS, cond_true, cond_false, Bool.not_true, Bool.not_false, pair_eta]
  generalize vPlain k xs = w
  by_cases h1 : vTurns k xs = 1
  · rw [h1]; exact ⟨1, rfl, rfl⟩
  · by_cases h2 : vTurns k xs = -1
    · rw [h2]; exact ⟨0, rfl, rfl⟩
    · have h0 : vTurns k xs = 0 := by omega
      rw [h0, bif_f (b := (0 : Int) == 1) rfl, bif_f (b := (0 : Int) == -1) rfl, bif_f (b := (0 : Int) != 0) rfl]
      cases ivB w.1 w.2
      · exact ⟨_, rfl, rfl⟩
      · cases ltI 0 w.1
        · cases ltI w.2 0 <;> exact ⟨_, rfl, rfl⟩
        · exact ⟨_, rfl, rfl⟩
theorem hasNorth_same {k : Nat} (hk : 700 ≤ k) (xs : List (List D)) (hl : xs.length ≤ 1048576) (hx : xs.length < k) : ∃ x y, spec_HasNorth k xs = some [.i x, .i y] ∧ impl_HasNorth k xs = some [.i x, .i y] := by
  obtain ⟨c1, c2, c3⟩ := coder k xs hl hx
  unfold spec_HasNorth impl_HasNorth
  rw [c1, c3]
  cases RingB xs
  · exact ⟨_, _, rfl, rfl⟩
  · simp only [Option.bind_some, gi0, cond_true]
    rw [c2]
    cases hw : woundB k (vTurns k xs)
    · exact ⟨_, _, rfl, rfl⟩
    · obtain ⟨v, e1, e2⟩ := northr hk xs hl hx hw
      rw [e1, e2]
      exact ⟨_, _, rfl, rfl⟩
/-- A loop through the edges, and where it ends. -/
theorem inRing_l0 (k : Nat) (hk : 700 ≤ k) (xs : List (List D)) (hl : xs.length ≤ 1048576) (a b : Int) (hp : PtB a b = true) (hc : ∀ i, i < xs.length → cornerB xs (i : Int) = true) : ∀ (d i n n' : Nat) (s : Int), i + d = xs.length →
    ∃ v w z z', ∃ g : Bool, spec_InRing_l0 k (d + 1 + n) xs a b 0 0 s (i : Int) = some [.i (bif g then 0 else 1), .l xs, .i a, .i b, .i (bif g then 0 else 2), .i 0, .i v, .i z] ∧ impl_isLeft_l0 k (d + 1 + n') xs a b 0 s xs (xs.length : Int) (i : Int) = some [.i (bif g then 0 else 1), .l xs, .i a, .i b, .i (bif g then 0 else 2), .i v, .l xs, .i w, .i z']
  | 0, i, n, n', s, h => by
    refine ⟨s, xs.length, i, i, true, ?_, ?_⟩
    · rw [show 0 + 1 + n = n + 1 by omega, spec_InRing_l0, bif_f (ltI_f (by omega))]; rfl
    · rw [show 0 + 1 + n' = n' + 1 by omega, impl_isLeft_l0, bif_f (ltI_f (by omega))]; rfl
  | d + 1, i, n, n', s, h => by
    have hcb := hc i (by omega)
    unfold cornerB at hcb
    rw [Bool.and_eq_true] at hcb
    have hpl : PtB 0 b = true := by
      have := PtB_iff.1 hp
      exact PtB_iff.2 ⟨by omega, this.2⟩
    obtain ⟨x, y, o, e1, e2⟩ := cross_same hk (ri xs i 0) (ri xs i 1) (ri xs (nx xs i) 0) (ri xs (nx xs i) 1) b hcb.1 hpl
    rw [show d + 1 + 1 + n = (d + 1 + n) + 1 by omega, show d + 1 + 1 + n' = (d + 1 + n') + 1 by omega, spec_InRing_l0, impl_isLeft_l0, bif_t (ltI_t (by omega)), bif_t (ltI_t (by omega)), bif_t (inR_t (by omega) (by omega)), bif_t (inR_t (by omega) (by omega)), (nextr k xs i (by omega) hl).1, (nextr k xs i (by omega) hl).2, Option.bind_some, Option.bind_some, wr_succ i (by omega)]
    simp only [gi0, giS]
    rw [e1, e2]
    cases o
    · exact inRing_l0 k hk xs hl a b hp hc d (i + 1) n n' s (by omega)
    · simp only [latr hk, ivr hk, Option.bind_some, pv0, pv1, gi0, giS, gb0, gbS, cond_true, cond_false, Bool.not_true, Bool.not_false, pair_eta]
      cases hv : ivB x y
      · refine ⟨s, xs.length, i, i, false, ?_, ?_⟩
        · unfold spec_LessI
          simp only [l04Ok_some, hv, ivr hk, Option.bind_some, pv0, pv1, gi0, giS, gb0, gbS, cond_true, cond_false, Bool.not_true, Bool.not_false, pair_eta]
          cases ivB (vLat k a b).1 (vLat k a b).2 <;> rfl
        · rfl
      · obtain ⟨u, l1, l2, hu⟩ := less_sm k (vLat k a b).1 (vLat k a b).2 x y
        simp only [ivr hk, Option.bind_some, pv0, pv1, gi0, giS, gb0, gbS, cond_true, cond_false, Bool.not_true, Bool.not_false, pair_eta]
        rw [l1, l2]
        rcases hu with rfl | rfl | rfl
        · exact inRing_l0 k hk xs hl a b hp hc d (i + 1) n n' s (by omega)
        · have hnot : ∃ t, spec_l01Not k s = some [.i t] ∧ impl_NotAnswer k s = some [.i t] := by
            unfold spec_l01Not impl_NotAnswer
            cases (s == 0)
            · cases (s == 1) <;> exact ⟨_, rfl, rfl⟩
            · exact ⟨_, rfl, rfl⟩
          obtain ⟨t, n1, n2⟩ := hnot
          simp only [Option.bind_some, gi0]
          rw [n1, n2]
          exact inRing_l0 k hk xs hl a b hp hc d (i + 1) n n' t (by omega)
        · exact ⟨s, xs.length, i, i, false, rfl, rfl⟩
theorem inRing_same {k : Nat} (hk : 700 ≤ k) (xs : List (List D)) (a b : Int) (hl : xs.length ≤ 1048576) (hx : xs.length < k) : ∃ x y, spec_InRing k xs a b = some [.i x, .i y] ∧ impl_InRing k xs a b = some [.i x, .i y] := by
  obtain ⟨c1, c2, c3⟩ := coder k xs hl hx
  unfold spec_InRing impl_InRing
  rw [(ringr k xs hl hx).1, (ringr k xs hl hx).2, pt_some, point_some, c2, c3]
  simp only [Option.bind_some, gb0, gi0]
  cases hr : RingB xs
  · exact ⟨_, _, rfl, rfl⟩
  · cases hp : PtB a b
    · exact ⟨_, _, rfl, rfl⟩
    · have hp' := PtB_iff.1 hp
      rw [sPole_some, iPole_some k a b hp'.1]
      simp only [Option.bind_some, gb0, Bool.not_true, cond_false, cond_true]
      cases poleB a
      · cases hw : woundB k (vTurns k xs)
        · exact ⟨_, _, rfl, rfl⟩
        · obtain ⟨v, e1, e2⟩ := northr hk xs hl hx hw
          obtain ⟨n, hn⟩ : ∃ n, k = xs.length + 1 + n := ⟨k - (xs.length + 1), by omega⟩
          have hcs : ∀ i, i < xs.length → cornerB xs (i : Int) = true := fun i hi => by
            unfold RingB at hr
            rw [Bool.and_eq_true] at hr
            exact cornersB_at xs xs.length 0 hr.2 i (by omega) (by omega)
          obtain ⟨u, w, z, z', g, l1, l2⟩ := inRing_l0 k hk xs hl a b hp hcs xs.length 0 n n v (by omega)
          rw [← hn, show ((0 : Nat) : Int) = 0 from rfl] at l1 l2
          unfold impl_isLeft
          rw [e1, e2]
          simp only [Option.bind_some, gi0, cond_false, cond_true]
          rw [l1, l2]
          cases g <;> exact ⟨_, _, rfl, rfl⟩
      · exact ⟨_, _, rfl, rfl⟩
end Go.Proofs.YtbbgdeknaecljaaGreat.Ev
