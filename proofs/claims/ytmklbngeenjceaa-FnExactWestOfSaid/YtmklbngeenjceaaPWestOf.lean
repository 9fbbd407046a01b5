/- WestOf: the plain law. No condition. -/
import Derived.Test.YtmklbngeenjceaaPMulI
namespace Go.Proofs.Ytmklbngeenjceaa.Ev
open Go Go.RowKit
set_option linter.unusedSimpArgs false
set_option linter.unusedVariables false
theorem pi_same (k : Nat) (hk : 1 ≤ k) : spec_PiI k = some [.i 13493037704, .i 13493037705] ∧ impl_PiI k = some [.i 13493037704, .i 13493037705] := by
  obtain ⟨n, rfl⟩ : ∃ n, k = n + 1 := ⟨k - 1, by omega⟩
  generalize hK : n + 1 = K
  have h1 := mulFloor30_some K 2 7244019458077122842 ⟨by decide, by decide⟩ ⟨by decide, by decide⟩
  have h2 := implMulFloor30_some K 2 7244019458077122842 ⟨by decide, by decide⟩ ⟨by decide, by decide⟩
  have h3 : intR (2 * 7244019458077122842 / 1073741824) = [.i 13493037704, .b true] := by unfold intR; rw [if_pos (by decide)]; rfl
  rw [h3] at h1 h2
  unfold spec_PiI impl_PiI
  rw [show spec_l05Turn K K = spec_l05Turn K (n + 1) from by rw [← hK], show impl_TurnI K K = impl_TurnI K (n + 1) from by rw [← hK]]
  rw [spec_l05Turn, impl_TurnI, h1, h2]
  exact ⟨rfl, rfl⟩
theorem pow_side : ∀ l : Nat, l ≤ 20 → (1 ≤ IntKind.wrap .i64 (1 * 2 ^ min (Int.toNat (l : Int)) 64) ∧ IntKind.wrap .i64 (1 * 2 ^ min (Int.toNat (l : Int)) 64) ≤ 1048576) := by decide
theorem tile_same (k : Nat) (l c r : Int) : ∃ o, spec_l25Ok k l c r = some [.b o] ∧ impl_ValidTile k l c r = some [.b o] ∧ (o = true → ∃ s, spec_l25Count k l = some [.i s] ∧ impl_side k l = some [.i s] ∧ 1 ≤ s ∧ s ≤ 1048576 ∧ 0 ≤ c ∧ c < s ∧ 0 ≤ r ∧ r < s) := by
  unfold spec_l25Ok impl_ValidTile spec_l25Level impl_isLevel
  rw [in_some, within_some]
  simp only [Option.bind_some, gb0]
  cases hl : (leI 0 l && leI l 20)
  · exact ⟨false, rfl, rfl, fun h => by cases h⟩
  · simp only [Bool.and_eq_true, leI_iff] at hl
    obtain ⟨n, rfl⟩ := Int.eq_ofNat_of_zero_le hl.1
    have hs := pow_side n (by omega)
    have e1 : spec_l25Count k (n : Int) = some [.i (IntKind.wrap .i64 (1 * 2 ^ min (Int.toNat (n : Int)) 64))] := by
      unfold spec_l25Count
      rw [show IntKind.wrap .u64 (n : Int) = (n : Int) by rw [IntKind.wrap_u64]; omega, bif_f (ltI_f (by omega))]
    have e2 : impl_side k (n : Int) = some [.i (IntKind.wrap .i64 (1 * 2 ^ min (Int.toNat (n : Int)) 64))] := by
      unfold impl_side
      rw [bif_f (ltI_f (by omega))]
    unfold impl_isCell
    rw [e1, e2]
    generalize IntKind.wrap .i64 (1 * 2 ^ min (Int.toNat (n : Int)) 64) = s at *
    simp only [Option.bind_some, gb0, gi0, Bool.not_true, cond_false, cond_true, in_some, within_some]
    rw [wr (s - 1) (by omega) (by omega)]
    cases hc : (leI 0 c && leI c (s - 1))
    · exact ⟨false, rfl, rfl, fun h => by cases h⟩
    · simp only [Option.bind_some, gb0, cond_true]
      refine ⟨_, rfl, rfl, fun h => ⟨s, rfl, rfl, hs.1, hs.2, ?_⟩⟩
      simp only [Bool.and_eq_true, leI_iff] at hc h
      omega
theorem westOf_same (k : Nat) (hk : 66 ≤ k) (l c r : Int) : ∃ x y z, spec_WestOf k l c r = some [.i x, .i y, .i z] ∧ impl_WestOf k l c r = some [.i x, .i y, .i z] := by
  obtain ⟨o, e1, e2, h⟩ := tile_same k l c r
  obtain ⟨p1, p2⟩ := pi_same k (by omega)
  unfold spec_WestOf impl_WestOf
  rw [e1, e2]
  simp only [Option.bind_some, gb0]
  cases o
  · exact ⟨_, _, _, rfl, rfl⟩
  · obtain ⟨s, s1, s2, s3, s4, c1, c2, _, _⟩ := h rfl
    rw [s1, s2, p1, p2]
    simp only [Option.bind_some, gb0, gi0, giS, Bool.not_true, cond_false]
    rw [wr (2 * c) (by omega) (by omega), wr (2 * c - s) (by omega) (by omega)]
    obtain ⟨x, y, q1, q2⟩ := quotient_same k hk (2 * c - s) s ⟨by omega, by omega⟩ ⟨by omega, by omega⟩
    rw [q1, q2]
    simp only [Option.bind_some, gi0, giS]
    obtain ⟨u, v, m1, m2⟩ := mulI_same k (by omega) 13493037704 13493037705 x y
    rw [m1, m2]
    exact ⟨_, _, _, rfl, rfl⟩
theorem eqIv_refl (k : Nat) (a b : Int) : laws_eqInterval k a b a b = some [.b true] := by
  unfold laws_eqInterval
  rw [bif_f (bne_f rfl), bif_f (bne_f rfl)]
theorem FnExactWestOf_pure (a b c : Int) (_ : (Lit.int .i64 a).wf = true) (_ : (Lit.int .i64 b).wf = true) (_ : (Lit.int .i64 c).wf = true) : ∃ k, laws_FnExactWestOf k a b c = some [.b true] := by
  refine ⟨66, ?_⟩
  obtain ⟨x, y, z, e1, e2⟩ := westOf_same 66 (by decide) a b c
  unfold laws_FnExactWestOf laws_toTile
  simp only [Option.bind_some, gi0, giS]
  rw [e1, e2]
  simp only [Option.bind_some, gi0, giS, eqIv_refl, gb0, Bool.not_true, cond_false]
  rw [bif_f (bne_f rfl)]
end Go.Proofs.Ytmklbngeenjceaa.Ev
