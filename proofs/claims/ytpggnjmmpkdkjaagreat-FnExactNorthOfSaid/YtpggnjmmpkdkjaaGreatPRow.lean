/- Rows of tiles, by both; RowOf: the plain law. No condition. -/
import Derived.Test.YtpggnjmmpkdkjaaGreatPAth
namespace Go.Proofs.YtpggnjmmpkdkjaaGreat.Ev
open Go Go.RowKit
set_option linter.unusedSimpArgs false
set_option linter.unusedVariables false
theorem pow_side : ∀ l : Nat, l ≤ 20 → (1 ≤ IntKind.wrap .i64 (1 * 2 ^ min (Int.toNat (l : Int)) 64) ∧ IntKind.wrap .i64 (1 * 2 ^ min (Int.toNat (l : Int)) 64) ≤ 1048576) := by decide
theorem level_some (k : Nat) (l : Int) : spec_l25Level k l = some [.b (leI 0 l && leI l 20)] ∧ impl_isLevel k l = some [.b (leI 0 l && leI l 20)] := by
  unfold spec_l25Level impl_isLevel
  rw [in_some, within_some]
  exact ⟨rfl, rfl⟩
theorem side_some (k : Nat) (l : Int) (h : (leI 0 l && leI l 20) = true) : ∃ s, spec_l25Count k l = some [.i s] ∧ impl_side k l = some [.i s] ∧ 1 ≤ s ∧ s ≤ 1048576 := by
  simp only [Bool.and_eq_true, leI_iff] at h
  obtain ⟨n, rfl⟩ := Int.eq_ofNat_of_zero_le h.1
  have hs := pow_side n (by omega)
  refine ⟨IntKind.wrap .i64 (1 * 2 ^ min (Int.toNat (n : Int)) 64), ?_, ?_, hs.1, hs.2⟩
  · unfold spec_l25Count
    rw [wu_id _ (by omega), bif_f (ltI_f (by omega))]
  · unfold impl_side
    rw [bif_f (ltI_f (by omega))]
theorem rowOf_same {k : Nat} (hk : 700 ≤ k) (a l : Int) (h : (leI 0 l && leI l 20) = true) : Same (spec_l25Row k a l) (impl_rowOf k a l) := by
  obtain ⟨s, s1, s2, _⟩ := side_some k l h
  unfold spec_l25Row impl_rowOf impl_times
  simp only [s1, s2, pir hk, athr hk, ivr hk, Option.bind_some, pv0, pv1, gi0, giS, gb0, gbS, cond_true, cond_false, Bool.not_true, Bool.not_false, pair_eta]
  exact same_refl _
noncomputable def vRow (k : Nat) (a l : Int) : Int × Int := iv (spec_l25Row k a l)
theorem rowr {k : Nat} (hk : 700 ≤ k) (a l : Int) (h : (leI 0 l && leI l 20) = true) : spec_l25Row k a l = some (pv (vRow k a l)) ∧ impl_rowOf k a l = some (pv (vRow k a l)) := same_rule (rowOf_same hk a l h)
theorem eqIv_refl (k : Nat) (a b : Int) : laws_eqInterval k a b a b = some [.b true] := by
  unfold laws_eqInterval
  rw [bif_f (bne_f rfl), bif_f (bne_f rfl)]
theorem rowOfFn_same {k : Nat} (hk : 700 ≤ k) (a l : Int) : ∃ x y z, spec_RowOf k a l = some [.i x, .i y, .i z] ∧ impl_RowOf k a l = some [.i x, .i y, .i z] := by
  unfold spec_RowOf impl_RowOf impl_knownI
  rw [in_some, within_some, (level_some k l).1, (level_some k l).2]
  simp only [ivr hk, Option.bind_some, pv0, pv1, gi0, giS, gb0, gbS, cond_true, cond_false, Bool.not_true, Bool.not_false, pair_eta]
  cases (leI (-900000000) a && leI a 900000000)
  · exact ⟨_, _, _, rfl, rfl⟩
  · cases h : (leI 0 l && leI l 20)
    · exact ⟨_, _, _, rfl, rfl⟩
    · simp only [rowr hk a l h, ivb, ivr hk, Option.bind_some, pv0, pv1, gi0, giS, gb0, gbS, cond_true, cond_false, Bool.not_true, Bool.not_false, pair_eta]
      cases ivB (vRow k a l).1 (vRow k a l).2 <;> exact ⟨_, _, _, rfl, rfl⟩
theorem FnExactRowOf_pure (a b : Int) (_ : (Lit.int .i64 a).wf = true) (_ : (Lit.int .i64 b).wf = true) : ∃ k, laws_FnExactRowOf k a b = some [.b true] := by
  refine ⟨700, ?_⟩
  obtain ⟨x, y, z, e1, e2⟩ := rowOfFn_same (k := 700) (by decide) a b
  unfold laws_FnExactRowOf
  rw [e1, e2]
  simp only [Option.bind_some, gi0, giS, eqIv_refl, gb0, Bool.not_true, cond_false]
  rw [bif_f (bne_f rfl)]
end Go.Proofs.YtpggnjmmpkdkjaaGreat.Ev
