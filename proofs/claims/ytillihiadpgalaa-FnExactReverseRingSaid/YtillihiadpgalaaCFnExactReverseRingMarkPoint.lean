/- Lists of points: marks that are written are found again. No condition. -/
import Derived.Test.YtillihiadpgalaaCFnExactReverseRingx5
import Derived.Test.YtillihiadpgalaaCFnExactReverseRingEqPoint
namespace Go.Proofs.Ytillihiadpgalaa.Pure
open Go.RowKit Go.Proofs.Ytillihiadpgalaa.P Go.Proofs.YtillihiadpgalaaW.PrintWords Go.Proofs.YtillihiadpgalaaW.PrintLast

theorem rdPoint_set (xs : List S25) (i : Int) (v : S25) (h0 : 0 ≤ i) (h : i < xs.length) : rd_T25 (xs.set i.toNat v) i = v := by
  unfold rd_T25
  rw [List.getD_eq_getElem?_getD, List.getElem?_set_self (by omega)]; rfl
theorem rdPoint_set_ne (xs : List S25) (i j : Int) (v : S25) (h0 : 0 ≤ j) (h : j < i) : rd_T25 (xs.set i.toNat v) j = rd_T25 xs j := by
  unfold rd_T25
  rw [List.getD_eq_getElem?_getD, List.getD_eq_getElem?_getD, List.getElem?_set_ne (by omega)]

theorem markPointS_l0 (d : Nat) : ∀ (xs : List S25) (m i : Int), xs.length ≤ 1000000000 → 0 ≤ i → i + d = xs.length → 0 ≤ m → m + 2 * d ≤ 1000000000000000 →
    ∃ ys, laws_markPointS.l0 (d + 1) xs m i = some (m + 2 * d, ys) ∧ ys.length = xs.length ∧ (∀ j : Int, 0 ≤ j → j < i → rd_T25 ys j = rd_T25 xs j) ∧ laws_heldPointS.l0 (d + 1) ys m i = some (m + 2 * d) := by
  induction d with
  | zero =>
    intro xs m i hn h0 h hm hb
    refine ⟨xs, ?_, rfl, fun _ _ _ => rfl, ?_⟩
    · rw [laws_markPointS.l0, if_neg (by omega)]; simp
    · rw [laws_heldPointS.l0, if_neg (by omega)]; simp
  | succ d ih =>
    intro xs m i hn h0 h hm hb
    have e1 : wrap64 (m + 1) = m + 1 := w64 _ (by omega) (by omega)
    have e2 : wrap64 (m + 1 + 1) = m + 2 := by rw [w64 _ (by omega) (by omega)]; omega
    have e4 : wrap64 (i + 1) = i + 1 := w64 _ (by omega) (by omega)
    have hl : ∀ v, (xs.set i.toNat v).length = xs.length := fun v => List.length_set
    obtain ⟨ys, h1, h2, h3, h4⟩ := ih (xs.set i.toNat ⟨m, m + 1⟩) (m + 2) (i + 1) (by rw [hl]; exact hn) (by omega) (by rw [hl]; omega) (by omega) (by omega)
    have hr : rd_T25 ys i = ⟨m, m + 1⟩ := by rw [h3 i h0 (by omega), rdPoint_set _ _ _ h0 (by omega)]
    have hy : ys.length = xs.length := by rw [h2, hl]
    refine ⟨ys, ?_, hy, fun j hj0 hj => by rw [h3 j hj0 (by omega), rdPoint_set_ne _ _ _ _ hj0 hj], ?_⟩
    · rw [laws_markPointS.l0, if_pos (by omega), if_pos h0]
      simp only [Option.bind_some, List.set_set]
      rw [rdPoint_set _ _ _ h0 (by omega), e1, e2, e4, h1]
      congr 2
      omega
    · rw [laws_heldPointS.l0, if_pos (by omega), if_pos h0, hr]
      simp only [e1, e2, e4, if_true]
      rw [h4]
      congr 1
      omega
theorem markPointS_held (xs : List S25) (hn : xs.length ≤ 1000000000) : ∃ m ys, 0 ≤ m ∧ ∀ k, xs.length < k → laws_markPointS.f k xs 1 = some (m, ys) ∧ laws_heldPointS.f k ys 1 = some m := by
  obtain ⟨ys, h1, h2, _, h4⟩ := markPointS_l0 xs.length xs 1 0 hn (by omega) (by omega) (by omega) (by omega)
  refine ⟨1 + 2 * xs.length, ys, by omega, fun k hk => ⟨?_, ?_⟩⟩
  · exact at_rounds (g := fun k => laws_markPointS.l0 k xs 1 0) (fun k => laws_markPointS.mono_l k xs 1 0) (k := xs.length + 1) hk h1
  · exact at_rounds (g := fun k => laws_heldPointS.l0 k ys 1 0) (fun k => laws_heldPointS.mono_l k ys 1 0) (k := xs.length + 1) hk h4
end Go.Proofs.Ytillihiadpgalaa.Pure
