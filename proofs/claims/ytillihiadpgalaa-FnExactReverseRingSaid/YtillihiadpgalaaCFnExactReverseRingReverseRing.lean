/- The law FnExactReverseRing: the program's ReverseRing and the reference's return the same corners and code; what they return is their own, and they leave their argument alone. No condition. -/
import Derived.Test.YtillihiadpgalaaCFnExactReverseRingx5
import Derived.Test.YtillihiadpgalaaCFnExactReverseRingRing
import Derived.Test.YtillihiadpgalaaCFnExactReverseRingToPoints
import Derived.Test.YtillihiadpgalaaCFnExactReverseRingEqPoint
import Derived.Test.YtillihiadpgalaaCFnExactReverseRingMarkPoint
namespace Go.Proofs.Ytillihiadpgalaa.Pure
open Go.RowKit Go.Proofs.Ytillihiadpgalaa.P Go.Proofs.YtillihiadpgalaaW.PrintWords Go.Proofs.YtillihiadpgalaaW.PrintLast

theorem specRev_l0 (xs : List S25) (hn : xs.length ≤ 1048576) (d : Nat) : ∀ (acc : List S25) (i : Int), i = (d : Int) - 1 → d ≤ xs.length → acc.length + d ≤ 1048576 → spec_ReverseRing.l0 (d + 1) xs acc i = some (acc ++ (xs.take d).reverse, 0) := by
  induction d with
  | zero =>
    intro acc i hi hd ha
    rw [spec_ReverseRing.l0, if_neg (by omega)]
    simp
  | succ d ih =>
    intro acc i hi hd ha
    have hr : rd_T25 xs i = xs[d] := by
      unfold rd_T25
      rw [show i.toNat = d by omega, List.getD_eq_getElem?_getD, List.getElem?_eq_getElem (by omega)]; rfl
    rw [spec_ReverseRing.l0, if_pos (by omega), if_pos (by omega), if_pos (by omega), if_pos (by omega), w64 _ (by omega) (by omega), hr]
    rw [ih _ (i - 1) (by omega) (by omega) (by rw [List.length_append, List.length_singleton]; omega)]
    rw [List.take_succ_eq_append_getElem (by omega), List.reverse_append, List.append_assoc]
    rfl

theorem implRev_l0 (xs : List S25) (hn : xs.length ≤ 1048576) (d : Nat) : ∀ (ys : List S25) (i j : Int), 0 ≤ i → i + j = (xs.length : Int) - 1 → j - i < d → ys.length = xs.length →
    (∀ k : Nat, k < xs.length → ys.getD k z25 = if (k : Int) < i ∨ j < (k : Int) then xs.getD (xs.length - 1 - k) z25 else xs.getD k z25) →
    impl_Point_77.l0 (d + 1) ys i j = some xs.reverse := by
  induction d with
  | zero =>
    intro ys i j h0 h1 h2 hl hk
    rw [impl_Point_77.l0, if_neg (by omega)]
    congr 1
    apply List.ext_getElem (by rw [List.length_reverse, hl])
    intro k hk1 hk2
    have := hk k (by omega)
    rw [List.getD_eq_getElem?_getD, List.getElem?_eq_getElem hk1, List.getD_eq_getElem?_getD, List.getD_eq_getElem?_getD, List.getElem?_eq_getElem (show xs.length - 1 - k < xs.length by omega), List.getElem?_eq_getElem (show k < xs.length by omega)] at this
    rw [List.getElem_reverse]
    simp only [Option.getD_some] at this
    rw [this]
    split
    · rfl
    · congr 1
      omega
  | succ d ih =>
    intro ys i j h0 h1 h2 hl hk
    rw [impl_Point_77.l0]
    by_cases hij : i < j
    · rw [if_pos hij, if_pos (by omega), if_pos (by omega), if_pos h0, if_pos (by omega), w64 _ (by omega) (by omega), w64 _ (by omega) (by omega)]
      have e1 : rd_T25 ys j = ys.getD j.toNat z25 := rfl
      have e2 : rd_T25 ys i = ys.getD i.toNat z25 := rfl
      have eta : ∀ p : S25, (⟨p.f0, p.f1⟩ : S25) = p := fun _ => rfl
      rw [eta, eta, e1, e2]
      refine ih _ (i + 1) (j - 1) (by omega) (by omega) (by omega) (by rw [List.length_set, List.length_set, hl]) ?_
      intro k hkn
      have hi := hk i.toNat (by omega)
      have hj := hk j.toNat (by omega)
      rw [if_neg (by omega)] at hi hj
      have hset : ((ys.set i.toNat (ys.getD j.toNat z25)).set j.toNat (ys.getD i.toNat z25)).getD k z25 = if k = j.toNat then ys.getD i.toNat z25 else if k = i.toNat then ys.getD j.toNat z25 else ys.getD k z25 := by
        by_cases hkj : k = j.toNat
        · rw [if_pos hkj, hkj, List.getD_eq_getElem?_getD, List.getElem?_set_self (by rw [List.length_set]; omega)]; rfl
        · rw [if_neg hkj, List.getD_eq_getElem?_getD, List.getElem?_set_ne (fun h => hkj h.symm)]
          by_cases hki : k = i.toNat
          · rw [if_pos hki, hki, List.getElem?_set_self (by omega)]; rfl
          · rw [if_neg hki, List.getElem?_set_ne (fun h => hki h.symm), ← List.getD_eq_getElem?_getD]
      rw [hset, hi, hj]
      by_cases hkj : k = j.toNat
      · rw [if_pos hkj, if_pos (by omega)]
        congr 1
        omega
      · rw [if_neg hkj]
        by_cases hki : k = i.toNat
        · rw [if_pos hki, if_pos (by omega)]
          congr 1
          omega
        · rw [if_neg hki, hk k hkn]
          by_cases hc : (k : Int) < i ∨ j < (k : Int)
          · rw [if_pos hc, if_pos (by omega)]
          · rw [if_neg hc, if_neg (by omega)]
    · rw [if_neg hij]
      have hz := ih ys i j h0 h1
      congr 1
      apply List.ext_getElem (by rw [List.length_reverse, hl])
      intro k hk1 hk2
      have := hk k (by omega)
      rw [List.getD_eq_getElem?_getD, List.getElem?_eq_getElem hk1, List.getD_eq_getElem?_getD, List.getD_eq_getElem?_getD, List.getElem?_eq_getElem (show xs.length - 1 - k < xs.length by omega), List.getElem?_eq_getElem (show k < xs.length by omega)] at this
      rw [List.getElem_reverse]
      simp only [Option.getD_some] at this
      rw [this]
      split
      · rfl
      · congr 1
        omega

theorem rev_eq (xs : List S25) (hn : xs.length ≤ 1048576) : ∃ r : List S25 × Int, r.1.length ≤ 1048576 ∧ (r.1.length ≤ xs.length) ∧ (∀ k, xs.length < k → spec_ReverseRing.f k xs = some r) ∧ ∀ k, xs.length < k → impl_ReverseRing.f k xs = some r := by
  obtain ⟨b, _, h1, h2⟩ := ring_eq xs hn
  have h3 := specRev_l0 xs hn xs.length [] (wrap64 ((xs.length : Int) - 1)) (by rw [w64 _ (by omega) (by omega)]) (Nat.le_refl _) (by simpa using hn)
  have h4 : impl_Point_77.l0 (xs.length + 1) xs 0 (wrap64 ((xs.length : Int) - 1)) = some xs.reverse := by
    rw [w64 _ (by omega) (by omega)]
    refine implRev_l0 xs hn xs.length xs 0 _ (by omega) (by omega) (by omega) rfl ?_
    intro k hk
    rw [if_neg (by omega)]
  rw [List.nil_append, List.take_length] at h3
  have h5 : impl_Point_76.f xs = some xs := by
    unfold impl_Point_76.f
    rw [Option.bind_some, if_pos (by rw [List.length_nil]; omega), List.nil_append]
  cases b with
  | true =>
    refine ⟨(xs.reverse, 0), by rw [List.length_reverse]; exact hn, by rw [List.length_reverse]; exact Nat.le_refl _, fun k hk => ?_, fun k hk => ?_⟩
    · unfold spec_ReverseRing.f
      rw [h1 k hk, Option.bind_some, if_pos rfl]
      exact at_rounds (g := fun k => spec_ReverseRing.l0 k xs [] (wrap64 ((xs.length : Int) - 1))) (fun k => spec_ReverseRing.mono_l k _ _ _) hk h3
    · unfold impl_ReverseRing.f
      rw [h2 k hk, Option.bind_some, if_pos rfl, h5, Option.bind_some]
      have h6 : impl_Point_77.f k xs = some xs.reverse := at_rounds (g := fun k => impl_Point_77.l0 k xs 0 (wrap64 ((xs.length : Int) - 1))) (fun k => impl_Point_77.mono_l k _ _ _) hk h4
      rw [h6]
      rfl
  | false =>
    refine ⟨([], 1), Nat.zero_le _, Nat.zero_le _, fun k hk => ?_, fun k hk => ?_⟩
    · unfold spec_ReverseRing.f
      rw [h1 k hk]
      rfl
    · unfold impl_ReverseRing.f
      rw [h2 k hk]
      rfl

theorem FnExactReverseRing (l0 : List S23) (h0 : l0.length ≤ 9223372036854775807) : ∃ k, laws_FnExactReverseRing.f k l0 = some true := by
  unfold laws_FnExactReverseRing.f
  rw [szPointS_some l0 1048576 (by decide) (by decide) h0]
  simp only [Option.bind_some]
  by_cases h : (1048576 : Int) < l0.length
  · exact ⟨0, by rw [if_pos h, if_pos (by decide)]⟩
  · have hn : l0.length ≤ 1048576 := by omega
    have hm : (l0.map cvPt).length = l0.length := List.length_map _
    obtain ⟨⟨r1, r2⟩, hr1, hr2, h1, h2⟩ := rev_eq (l0.map cvPt) (by omega)
    obtain ⟨m1, ys1, hm1, hq1⟩ := markPointS_held (l0.map cvPt) (by omega)
    obtain ⟨m2, ys2, hm2, hq2⟩ := markPointS_held r1 (by simp only at hr1; omega)
    simp only at hr1 hr2
    have eq1 : ∀ k, l0.length < k → laws_eqPointS.f k r1 r1 = some true := fun k hk => eqPointS_refl _ (by omega) _ (by omega)
    have eq2 : ∀ k, l0.length < k → laws_eqPointS.f k (l0.map cvPt) (l0.map cvPt) = some true := fun k hk => eqPointS_refl _ (by omega) _ (by omega)
    refine ⟨l0.length + 5, ?_⟩
    rw [if_neg h, if_neg (by omega), toPointS_some l0 hn _ (by omega)]
    simp only [Option.bind_some, h1 _ (show (l0.map cvPt).length < l0.length + 5 by omega), h2 _ (show (l0.map cvPt).length < l0.length + 5 by omega), eq1 _ (show l0.length < l0.length + 5 by omega), if_true, bne_self_eq_false]
    rw [show l0.length + 5 = (l0.length + 4) + 1 from rfl, laws_FnExactReverseRing.j0, if_neg (by decide), toPointS_some l0 hn _ (by omega)]
    simp only [Option.bind_some, eq2 _ (show l0.length < l0.length + 4 by omega), if_true, (hq1 _ (show (l0.map cvPt).length < l0.length + 4 by omega)).1]
    rw [if_neg (by omega), eq1 _ (by omega)]
    simp only [Option.bind_some, if_true, bne_self_eq_false]
    rw [show l0.length + 4 = (l0.length + 3) + 1 from rfl, laws_FnExactReverseRing.j1, if_neg (by decide), (hq2 _ (show r1.length < l0.length + 3 by omega)).1]
    simp only [Option.bind_some, (hq2 _ (show r1.length < l0.length + 3 by omega)).2]
    rw [if_neg (by omega), if_pos (by trivial), toPointS_some l0 hn _ (by omega)]
    simp only [Option.bind_some, h2 _ (show (l0.map cvPt).length < l0.length + 3 by omega), eq1 _ (show l0.length < l0.length + 3 by omega), if_true, bne_self_eq_false]
    rw [show l0.length + 3 = (l0.length + 2) + 1 from rfl, laws_FnExactReverseRing.j2, if_neg (by decide), (hq2 _ (show r1.length < l0.length + 2 by omega)).2]
    simp only [Option.bind_some]
    rw [if_neg (by omega), if_pos (by trivial)]
end Go.Proofs.Ytillihiadpgalaa.Pure
