/- The law FnExactLocatorBox: the program's LocatorBox and the reference's return the same points and answer. No condition. -/
import Derived.Test.YtillihiadpgalaaCFnExactLocatorBoxx4
import Derived.Test.YtillihiadpgalaaCFnExactLocatorBoxSpecSide
import Derived.Test.YtillihiadpgalaaCFnExactLocatorBoxWrap
namespace Go.Proofs.Ytillihiadpgalaa.Pure
open Go.RowKit Go.Proofs.Ytillihiadpgalaa.P Go.Proofs.YtillihiadpgalaaW.PrintWords Go.Proofs.YtillihiadpgalaaW.PrintLast

theorem box_eq (x y c : Int) (hc : c ≠ 0) : ∃ r, spec_l26Box.f x y c c = some r ∧ impl_cell_box.f x y c c = some r := by
  unfold spec_l26Box.f impl_cell_box.f spec_l26Ends.f impl_ceilDiv.f
  simp only [if_neg hc, Option.bind_some, wrap_some, wrapLon_some]
  split
  · exact ⟨_, rfl, rfl⟩
  · exact ⟨_, rfl, rfl⟩

theorem locBox_eq (s : ByteArray) (hs : s.size ≤ 140737488351232) : ∃ r, spec_LocatorBox.f 20 s = some r ∧ impl_LocatorBox.f 20 s = some r := by
  unfold spec_LocatorBox.f impl_LocatorBox.f
  rcases readLoc s hs with ⟨e1, e2⟩ | ⟨x, y, n, hn1, hn2, _, _, _, _, _, e1, e2⟩
  · rw [e1 20 (by omega), e2 20 (by omega)]
    exact ⟨_, rfl, rfl⟩
  · rw [e1 20 (by omega), e2 20 (by omega)]
    have hp := Ps_bd n
    obtain ⟨r, g1, g2⟩ := box_eq x y (Ps n) (by omega)
    simp only [Option.bind_some, if_true, specSide n ⟨hn1, hn2⟩ 20 (by omega), g1, g2]
    exact ⟨_, rfl, rfl⟩

theorem FnExactLocatorBox (a0 : ByteArray) (h0 : a0.size ≤ 140737488351232) : ∃ k, laws_FnExactLocatorBox.f k a0 = some true := by
  obtain ⟨⟨r1, r2, r3, r4, r5⟩, e1, e2⟩ := locBox_eq a0 h0
  refine ⟨20, ?_⟩
  unfold laws_FnExactLocatorBox.f
  simp only [laws_eqPoint.f, e1, e2, Option.bind_some, bne_self_eq_false, if_true]
  repeat' split
  all_goals first | rfl | contradiction
end Go.Proofs.Ytillihiadpgalaa.Pure
