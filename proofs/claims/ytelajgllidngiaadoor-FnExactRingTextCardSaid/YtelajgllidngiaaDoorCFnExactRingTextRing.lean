/- Rings: edges, validity, by both. No condition. -/
import Derived.Test.YtelajgllidngiaaDoorCFnExactRingTextx2
import Derived.Test.YtelajgllidngiaaDoorCFnExactRingTextx3
import Derived.Test.YtelajgllidngiaaDoorCFnExactRingTextx4
import Derived.Test.YtelajgllidngiaaDoorCFnExactRingTextx5
import Derived.Test.YtelajgllidngiaaDoorCFnExactRingTextPtOk
import Derived.Test.YtelajgllidngiaaDoorCFnExactRingTextWrap
namespace Go.Proofs.YtelajgllidngiaaDoor.Pure
open Go.RowKit Go.Proofs.YtelajgllidngiaaDoor.P Go.Proofs.YtelajgllidngiaaDoorW.PrintWords Go.Proofs.YtelajgllidngiaaDoorW.PrintLast

theorem pole_eq (lat lon : Int) (h : Pt lat lon) : ∃ b, spec_l11Pole.f lat lon = some b ∧ impl_isPole.f lat lon = some b := by
  have e : mx lat (wrap64 (-lat)) = if lat < -lat then -lat else lat := by rw [w64 _ (by have := h.2.1; omega) (by have := h.1; omega)]; rfl
  refine ⟨decide (lat = 900000000 ∨ lat = -900000000), ?_, ?_⟩
  · unfold spec_l11Pole.f
    by_cases h1 : lat = 900000000
    · rw [if_pos h1, decide_eq_true (.inl h1)]
    · rw [if_neg h1]
      congr 1
      rw [Bool.eq_iff_iff, beq_iff_eq, decide_eq_true_iff]
      omega
  · unfold impl_isPole.f impl_abs.f
    simp only [Option.bind_some]
    rw [e]
    congr 1
    rw [Bool.eq_iff_iff, beq_iff_eq, decide_eq_true_iff]
    split <;> omega

theorem edge_eq (a b c d : Int) : ∃ r, spec_l24Edge.f a b c d = some r ∧ impl_isEdge.f a b c d = some r := by
  unfold spec_l24Edge.f impl_isEdge.f impl_areValid.f
  simp only [ok_some, valid_some, Option.bind_some, wrap_some, wrapLon_some]
  by_cases h1 : Pt a b
  · by_cases h2 : Pt c d
    · obtain ⟨p, e1, e2⟩ := pole_eq a b h1
      obtain ⟨q, e3, e4⟩ := pole_eq c d h2
      rw [decide_eq_true h1, decide_eq_true h2, e1, e2, e3, e4]
      cases p <;> cases q <;> exact ⟨_, rfl, rfl⟩
    · rw [decide_eq_true h1, decide_eq_false h2]
      exact ⟨_, rfl, rfl⟩
  · rw [decide_eq_false h1]
    exact ⟨_, rfl, rfl⟩

theorem next_some (xs : List S26) (i : Int) (h0 : 0 ≤ i) (h1 : i < xs.length) (hn : xs.length ≤ 1048576) : ∃ p, spec_l24Next.f xs i = some p ∧ impl_follower.f xs i = some p := by
  have e : spec_l24Next.f xs i = impl_follower.f xs i := rfl
  have hw : wrap64 (i + 1) = i + 1 := w64 _ (by omega) (by omega)
  have ht : Int.tmod (i + 1) xs.length = (i + 1) % xs.length := tmod_pos _ _ (by omega)
  have hb := Int.emod_nonneg (i + 1) (show (xs.length : Int) ≠ 0 by omega)
  have hc := Int.emod_lt_of_pos (i + 1) (show (0 : Int) < xs.length by omega)
  have h : ∃ p, impl_follower.f xs i = some p := by
    unfold impl_follower.f
    rw [if_neg (by omega), hw, ht, if_pos hb, if_pos hc]
    exact ⟨_, rfl⟩
  obtain ⟨p, hp⟩ := h
  exact ⟨p, e.trans hp, hp⟩

theorem ring_l0 (xs : List S26) (hn : xs.length ≤ 1048576) (d : Nat) : ∀ i : Int, 0 ≤ i → i + d = xs.length → ∃ E, spec_l24Ok.l0 (d + 1) xs i = some E ∧ impl_ValidRing.l0 (d + 1) xs xs xs.length i = some (E && decide (3 ≤ (xs.length : Int) ∧ (xs.length : Int) ≤ 24)) := by
  induction d with
  | zero =>
    intro i h0 h
    refine ⟨true, by rw [spec_l24Ok.l0, if_neg (by omega)], ?_⟩
    rw [impl_ValidRing.l0, if_neg (by omega)]
    simp only [impl_Point.f, Option.bind_some, within_some, Bool.true_and]
  | succ d ih =>
    intro i h0 h
    obtain ⟨p, e1, e2⟩ := next_some xs i h0 (by omega) hn
    obtain ⟨r, e3, e4⟩ := edge_eq (rd_T26 xs i).f0 (rd_T26 xs i).f1 p.1 p.2
    rw [spec_l24Ok.l0, impl_ValidRing.l0, if_pos (by omega), if_pos (by omega), e1, e2]
    simp only [Option.bind_some, if_pos h0, if_pos (show i < (xs.length : Int) by omega), e3, e4]
    cases r with
    | false => exact ⟨false, rfl, rfl⟩
    | true =>
      simp only [if_true]
      split
      · exact ⟨false, rfl, rfl⟩
      · rw [w64 _ (by omega) (by omega)]
        exact ih (i + 1) (by omega) (by omega)

theorem ring_eq (xs : List S26) (hn : xs.length ≤ 1048576) : ∃ b : Bool, (b = true → 3 ≤ xs.length ∧ xs.length ≤ 24) ∧ (∀ k, xs.length < k → spec_l24Ok.f k xs = some b) ∧ ∀ k, xs.length < k → impl_ValidRing.f k xs = some b := by
  obtain ⟨E, h1, h2⟩ := ring_l0 xs hn xs.length 0 (by omega) (by omega)
  refine ⟨E && decide (3 ≤ (xs.length : Int) ∧ (xs.length : Int) ≤ 24), ?_, ?_, ?_⟩
  · intro hb
    rw [Bool.and_eq_true, decide_eq_true_iff] at hb
    omega
  · intro k hk
    unfold spec_l24Ok.f
    rw [in_some]
    simp only [Option.bind_some]
    by_cases hl : 3 ≤ (xs.length : Int) ∧ (xs.length : Int) ≤ 24
    · rw [decide_eq_true hl, if_pos rfl, Bool.and_true]
      exact at_rounds (g := fun k => spec_l24Ok.l0 k xs 0) (fun k => spec_l24Ok.mono_l k _ _) hk h1
    · rw [decide_eq_false hl, Bool.and_false]
      rfl
  · intro k hk
    exact at_rounds (g := fun k => impl_ValidRing.f k xs) (fun k => impl_ValidRing.mono xs k) hk h2
end Go.Proofs.YtelajgllidngiaaDoor.Pure
