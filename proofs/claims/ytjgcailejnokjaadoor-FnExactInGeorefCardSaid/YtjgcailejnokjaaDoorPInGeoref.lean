/- The law FnExactInGeoref: the program's InGeoref and the reference's answer the same. No condition. -/
import Derived.Test.YtjgcailejnokjaaDoorPRead
namespace Go.Proofs.YtjgcailejnokjaaDoor.Ev
open Go Go.RowKit
set_option linter.unusedSimpArgs false
set_option linter.unusedVariables false
theorem in_same (k : Nat) (hk : 40 ≤ k) (s : ByteArray) (a b : Int) : ∃ r, spec_InGeoref k s a b = some [.b r] ∧ impl_InGeoref k s a b = some [.b r] := by
  unfold spec_InGeoref impl_InGeoref
  rcases read_same s k hk with ⟨e1, e2⟩ | ⟨i, j, lvl, e1, e2, hl, hi, hj⟩
  · rw [e1, e2]; exact ⟨false, rfl, rfl⟩
  · rw [e1, e2]
    simp only [Option.bind_some, gb0, gbS, gi0, giS, Bool.not_true, cond_false, cond_true]
    unfold impl_cell_has
    rw [pt_some, point_some]
    simp only [Option.bind_some, gb0]
    cases hp : PtB a b with
    | false => exact ⟨false, rfl, rfl⟩
    | true =>
      have hm := mOf_in (lvl := lvl)
      obtain ⟨c1, c2⟩ := cell_some k a b (mOf lvl) (mOf lvl / 2) hp ⟨by omega, hm.2⟩ ⟨by omega, by omega⟩
      rw [grid_some k lvl hl, c2]
      simp only [Option.bind_some, gi0, giS, Bool.not_true, cond_false, cond_true, c1, gb0]
      rw [beq_self_eq_true (mOf lvl), beq_self_eq_true (mOf lvl / 2)]
      refine ⟨(xOf b * mOf lvl / 3600000000 == i) && (yOf a * (mOf lvl / 2) / 1800000000 == j), ?_, ?_⟩
      · cases (xOf b * mOf lvl / 3600000000 == i) <;> rfl
      · simp only [Bool.and_self, Bool.and_true]
theorem FnExactInGeoref_pure (s : ByteArray) (a b : Int) (hs : s.size ≤ 140737488351232) (ha : (Lit.int .i64 a).wf = true) (hb : (Lit.int .i64 b).wf = true) : ∃ k, laws_FnExactInGeoref k s a b = some [.b true] := by
  refine ⟨40, ?_⟩
  obtain ⟨r, e1, e2⟩ := in_same 40 (Nat.le_refl _) s a b
  unfold laws_FnExactInGeoref
  have ht : laws_toPoint 40 a b = some [.i a, .i b] := rfl
  simp only [ht, Option.bind_some, gi0, giS, e1, e2, gb0]
  cases ltI 1048576 (s.size : Int) <;> cases r <;> rfl
end Go.Proofs.YtjgcailejnokjaaDoor.Ev
