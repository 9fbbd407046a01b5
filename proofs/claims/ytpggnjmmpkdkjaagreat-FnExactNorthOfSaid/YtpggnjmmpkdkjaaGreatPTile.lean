/- TileOf and InTile: the plain laws. No condition. -/
import Derived.Test.YtpggnjmmpkdkjaaGreatPRow
namespace Go.Proofs.YtpggnjmmpkdkjaaGreat.Ev
open Go Go.RowKit
set_option linter.unusedSimpArgs false
set_option linter.unusedVariables false
theorem floor_u (k : Nat) (a : Int) : ∃ v, spec_l06Floor k a 4294967296 = some [.i v] ∧ (-1152921504606846976 ≤ a ∧ a ≤ 1152921504606846976 → v = Int.fdiv a (2 ^ min (Int.toNat 32) 64)) := by
  unfold spec_l06Floor
  rw [bif_f (eqI_f (by decide)), bif_f (eqI_f (by decide)), p32, fdiv_pos _ 4294967296 (by decide)]
  by_cases h0 : 0 ≤ a
  · rw [tdiv_nn _ _ h0, tmod_nn _ _ h0, bif_f (ltI_f (by omega))]
    exact ⟨_, rfl, fun h => wr _ (by omega) (by omega)⟩
  · have e1 : Int.tdiv a 4294967296 = -(-a / 4294967296) := by rw [← tdiv_nn (-a) _ (by omega), Int.neg_tdiv, Int.neg_neg]
    have e2 : Int.tmod a 4294967296 = -(-a % 4294967296) := by rw [← tmod_nn (-a) _ (by omega), Int.neg_tmod, Int.neg_neg]
    rw [e1, e2]
    by_cases hz : -a % 4294967296 = 0
    · rw [bif_f (ltI_f (by omega))]
      exact ⟨_, rfl, fun h => (wr _ (by omega) (by omega)).trans (by omega)⟩
    · rw [bif_t (ltI_t (by omega))]
      refine ⟨_, rfl, fun h => ?_⟩
      rw [wr (-(-a / 4294967296)) (by omega) (by omega), wr _ (by omega) (by omega)]
      omega
theorem pt_same (k : Nat) (a b : Int) : ∃ o, spec_l11Ok k a b = some [.b o] ∧ impl_ValidPoint k a b = some [.b o] := by
  unfold spec_l11Ok impl_ValidPoint
  rw [in_some, in_some, within_some]
  simp only [Option.bind_some, gb0]
  cases (leI (-900000000) a && leI a 900000000)
  · exact ⟨_, rfl, rfl⟩
  · have e : leI (-1799999999) b = ltI (-1800000000) b := by
      by_cases h : -1800000000 < b
      · rw [leI_t (by omega), ltI_t h]
      · rw [leI_f (by omega), ltI_f (by omega)]
    rw [e]
    cases ltI (-1800000000) b <;> exact ⟨_, rfl, rfl⟩
theorem col_same (k : Nat) (a l : Int) (h : (leI 0 l && leI l 20) = true) : ∃ v, spec_l25Column k a l = some [.i v] ∧ impl_columnOf k a l = some [.i v] := by
  obtain ⟨s, s1, s2, _⟩ := side_some k l h
  unfold spec_l25Column impl_columnOf
  rw [s1, s2]
  simp only [Option.bind_some, gi0]
  cases (a == 1800000000) <;> exact ⟨_, rfl, rfl⟩
theorem cell_some (k : Nat) (v s l : Int) (h2 : impl_side k l = some [.i s]) (h : 1 ≤ s ∧ s ≤ 1048576) : impl_isCell k v l = some [.b (leI 0 v && leI v (IntKind.wrap .i64 (s - 1)))] := by
  unfold impl_isCell
  rw [h2]
  simp only [Option.bind_some, gi0, within_some, gb0]
theorem tileOf_same {k : Nat} (hk : 700 ≤ k) (a b l : Int) : ∃ x y z c, spec_TileOf k a b l = some [.i x, .i y, .i z, .i c] ∧ impl_TileOf k a b l = some [.i x, .i y, .i z, .i c] := by
  obtain ⟨o, p1, p2⟩ := pt_same k a b
  unfold spec_TileOf impl_TileOf
  rw [p1, p2, (level_some k l).1, (level_some k l).2]
  simp only [ivr hk, Option.bind_some, pv0, pv1, gi0, giS, gb0, gbS, cond_true, cond_false, Bool.not_true, Bool.not_false, pair_eta]
  cases o
  · exact ⟨_, _, _, _, rfl, rfl⟩
  · cases h : (leI 0 l && leI l 20)
    · exact ⟨_, _, _, _, rfl, rfl⟩
    · simp only [rowr hk a l h, ivb, ivr hk, Option.bind_some, pv0, pv1, gi0, giS, gb0, gbS, cond_true, cond_false, Bool.not_true, Bool.not_false, pair_eta]
      generalize vRow k a l = r
      obtain ⟨v, f1, f2⟩ := floor_u k r.1
      obtain ⟨w, f3, f4⟩ := floor_u k r.2
      rw [f1, f3]
      simp only [ivr hk, Option.bind_some, pv0, pv1, gi0, giS, gb0, gbS, cond_true, cond_false, Bool.not_true, Bool.not_false, pair_eta]
      cases hv : ivB r.1 r.2
      · exact ⟨_, _, _, _, rfl, rfl⟩
      · have := ivB_iff.1 hv
        rw [f2 (by omega), f4 (by omega)]
        simp only [Bool.not_true, cond_false]
        cases (Int.fdiv r.1 (2 ^ min (Int.toNat 32) 64) != Int.fdiv r.2 (2 ^ min (Int.toNat 32) 64))
        · obtain ⟨s, s1, s2, s3, s4⟩ := side_some k l h
          obtain ⟨c, c1, c2⟩ := col_same k b l h
          rw [s1, cell_some k _ s l s2 ⟨s3, s4⟩]
          simp only [ivr hk, Option.bind_some, pv0, pv1, gi0, giS, gb0, gbS, cond_true, cond_false, Bool.not_true, Bool.not_false, pair_eta, in_some, c1, c2]
          cases (leI 0 (Int.fdiv r.1 (2 ^ min (Int.toNat 32) 64)) && leI (Int.fdiv r.1 (2 ^ min (Int.toNat 32) 64)) (IntKind.wrap .i64 (s - 1))) <;> exact ⟨_, _, _, _, rfl, rfl⟩
        · exact ⟨_, _, _, _, rfl, rfl⟩
theorem less_same (k : Nat) (a b c d : Int) : ∃ v, spec_LessI k a b c d = some [.i v] ∧ impl_LessI k a b c d = some [.i v] ∧ (v = 0 ∨ v = 1 ∨ v = 2) := by
  unfold spec_LessI impl_LessI
  simp only [l04Ok_some, areB_some, Option.bind_some, gb0]
  cases ivB a b
  · exact ⟨_, rfl, rfl, by decide⟩
  · cases ivB c d
    · exact ⟨_, rfl, rfl, by decide⟩
    · simp only [Bool.not_true, cond_false, Bool.and_self]
      cases ltI b c
      · cases leI d a <;> exact ⟨_, rfl, rfl, by decide⟩
      · exact ⟨_, rfl, rfl, by decide⟩
theorem tileOk_same (k : Nat) (l c r : Int) : ∃ o, spec_l25Ok k l c r = some [.b o] ∧ impl_ValidTile k l c r = some [.b o] ∧ (o = true → (leI 0 l && leI l 20) = true ∧ ∃ s, spec_l25Count k l = some [.i s] ∧ impl_side k l = some [.i s] ∧ 1 ≤ s ∧ s ≤ 1048576 ∧ 0 ≤ c ∧ c < s ∧ 0 ≤ r ∧ r < s) := by
  unfold spec_l25Ok impl_ValidTile
  rw [(level_some k l).1, (level_some k l).2]
  simp only [Option.bind_some, gb0]
  cases hl : (leI 0 l && leI l 20)
  · exact ⟨false, rfl, rfl, fun h => by cases h⟩
  · obtain ⟨s, s1, s2, s3, s4⟩ := side_some k l hl
    rw [s1, cell_some k c s l s2 ⟨s3, s4⟩]
    simp only [Option.bind_some, gb0, gi0, Bool.not_true, cond_false, cond_true, in_some]
    rw [wr (s - 1) (by omega) (by omega)]
    cases hc : (leI 0 c && leI c (s - 1))
    · exact ⟨false, rfl, rfl, fun h => by cases h⟩
    · simp only [Option.bind_some, gb0, cond_true]
      rw [cell_some k r s l s2 ⟨s3, s4⟩, wr (s - 1) (by omega) (by omega)]
      refine ⟨_, rfl, rfl, fun h => ⟨trivial, s, rfl, s2, s3, s4, ?_⟩⟩
      simp only [Bool.and_eq_true, leI_iff] at hc h
      omega
theorem inTile_same {k : Nat} (hk : 700 ≤ k) (a b l c r : Int) : ∃ x y, spec_InTile k a b l c r = some [.i x, .i y] ∧ impl_InTile k a b l c r = some [.i x, .i y] := by
  obtain ⟨o, p1, p2⟩ := pt_same k a b
  obtain ⟨o', t1, t2, ht⟩ := tileOk_same k l c r
  unfold spec_InTile impl_InTile
  rw [p1, p2, t1, t2]
  simp only [ivr hk, Option.bind_some, pv0, pv1, gi0, giS, gb0, gbS, cond_true, cond_false, Bool.not_true, Bool.not_false, pair_eta]
  cases o'
  · cases o <;> exact ⟨_, _, rfl, rfl⟩
  · cases o
    · exact ⟨_, _, rfl, rfl⟩
    · obtain ⟨h, _⟩ := ht rfl
      obtain ⟨v, c1, c2⟩ := col_same k b l h
      rw [c1, c2]
      simp only [ivr hk, Option.bind_some, pv0, pv1, gi0, giS, gb0, gbS, cond_true, cond_false, Bool.not_true, Bool.not_false, pair_eta]
      cases (v != c)
      · simp only [rowr hk a l h, ivr hk, Option.bind_some, pv0, pv1, gi0, giS, gb0, gbS, cond_true, cond_false, Bool.not_true, Bool.not_false, pair_eta]
        generalize vRow k a l = w
        obtain ⟨x, l1, l2, hx⟩ := less_same k w.1 w.2 (vInt k r).1 (vInt k r).2
        obtain ⟨y, l3, l4, hy⟩ := less_same k w.1 w.2 (vInt k (IntKind.wrap .i64 (r + 1))).1 (vInt k (IntKind.wrap .i64 (r + 1))).2
        rw [l1, l2, l3, l4]
        rcases hx with rfl | rfl | rfl <;> rcases hy with rfl | rfl | rfl <;> exact ⟨_, _, rfl, rfl⟩
      · exact ⟨_, _, rfl, rfl⟩
theorem FnExactTileOf_pure (a b l : Int) (_ : (Lit.int .i64 a).wf = true) (_ : (Lit.int .i64 b).wf = true) (_ : (Lit.int .i64 l).wf = true) : ∃ k, laws_FnExactTileOf k a b l = some [.b true] := by
  refine ⟨700, ?_⟩
  obtain ⟨x, y, z, c, e1, e2⟩ := tileOf_same (k := 700) (by decide) a b l
  unfold laws_FnExactTileOf laws_toPoint
  simp only [Option.bind_some, gi0, giS]
  rw [e1, e2]
  simp only [Option.bind_some, gi0, giS]
  unfold laws_eqTile
  rw [bif_f (bne_f rfl), bif_f (bne_f rfl), bif_f (bne_f rfl)]
  simp only [Option.bind_some, gb0, Bool.not_true, cond_false]
  rw [bif_f (bne_f rfl)]
theorem FnExactInTile_pure (a b l c r : Int) (_ : (Lit.int .i64 a).wf = true) (_ : (Lit.int .i64 b).wf = true) (_ : (Lit.int .i64 l).wf = true) (_ : (Lit.int .i64 c).wf = true) (_ : (Lit.int .i64 r).wf = true) : ∃ k, laws_FnExactInTile k a b l c r = some [.b true] := by
  refine ⟨700, ?_⟩
  obtain ⟨x, y, e1, e2⟩ := inTile_same (k := 700) (by decide) a b l c r
  unfold laws_FnExactInTile laws_toPoint laws_toTile
  simp only [Option.bind_some, gi0, giS]
  rw [e1, e2]
  simp only [Option.bind_some, gi0, giS]
  rw [bif_f (bne_f rfl), bif_f (bne_f rfl)]
end Go.Proofs.YtpggnjmmpkdkjaaGreat.Ev
