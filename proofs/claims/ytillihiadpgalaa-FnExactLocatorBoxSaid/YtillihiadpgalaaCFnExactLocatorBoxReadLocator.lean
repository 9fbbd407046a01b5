/- Locators, read by both. The text has at most 140737488351232 bytes. -/
import Derived.Test.YtillihiadpgalaaCFnExactLocatorBoxx1
import Derived.Test.YtillihiadpgalaaCFnExactLocatorBoxx2
import Derived.Test.YtillihiadpgalaaCFnExactLocatorBoxBase
import Derived.Test.YtillihiadpgalaaCFnExactLocatorBoxIn
namespace Go.Proofs.Ytillihiadpgalaa.Pure
open Go.RowKit Go.Proofs.Ytillihiadpgalaa.P Go.Proofs.YtillihiadpgalaaW.PrintWords Go.Proofs.YtillihiadpgalaaW.PrintLast

/-- The number of columns with so many pairs. -/
def Ps (i : Int) : Int := if i = 0 then 1 else if i = 1 then 18 else if i = 2 then 180 else if i = 3 then 4320 else if i = 4 then 43200 else 1036800
theorem locSide (a : Int) (h : 1 ≤ a ∧ a ≤ 5) : ∀ k, 8 ≤ k → impl_locatorSide.f k a = some (Ps a) := by
  intro k hk
  refine at_rounds (g := fun k => impl_locatorSide.f k a) (fun k => impl_locatorSide.mono a k) (k := 8) hk ?_
  have : a = 1 ∨ a = 2 ∨ a = 3 ∨ a = 4 ∨ a = 5 := by omega
  rcases this with rfl | rfl | rfl | rfl | rfl <;> decide +kernel
theorem Ps_bd (i : Int) : 1 ≤ Ps i ∧ Ps i ≤ 1036800 := by unfold Ps; repeat' split
                                                          all_goals omega
theorem readFactor (i : Int) (h0 : 0 ≤ i) (h : i < 5) : ∃ p f, 1 ≤ p ∧ p ≤ 24 ∧ 48 ≤ f ∧ f ≤ 97 ∧ spec_l26Factor.f i = some (p, f) ∧ impl_locatorParts.f i = some (p, f) ∧ ∀ x d : Int, 0 ≤ x → x < Ps i → 0 ≤ d → d < p → 0 ≤ x * p + d ∧ x * p + d < Ps (i + 1) ∧ x * p ≤ 24883200 ∧ 0 ≤ x * p := by
  have : i = 0 ∨ i = 1 ∨ i = 2 ∨ i = 3 ∨ i = 4 := by omega
  rcases this with rfl | rfl | rfl | rfl | rfl
  · exact ⟨18, 65, by decide, by decide, by decide, by decide, rfl, rfl, fun x d h1 h2 h3 h4 => by simp [Ps] at h2 ⊢; omega⟩
  · exact ⟨10, 48, by decide, by decide, by decide, by decide, rfl, rfl, fun x d h1 h2 h3 h4 => by simp [Ps] at h2 ⊢; omega⟩
  · exact ⟨24, 97, by decide, by decide, by decide, by decide, rfl, rfl, fun x d h1 h2 h3 h4 => by simp [Ps] at h2 ⊢; omega⟩
  · exact ⟨10, 48, by decide, by decide, by decide, by decide, rfl, rfl, fun x d h1 h2 h3 h4 => by simp [Ps] at h2 ⊢; omega⟩
  · exact ⟨24, 97, by decide, by decide, by decide, by decide, rfl, rfl, fun x d h1 h2 h3 h4 => by simp [Ps] at h2 ⊢; omega⟩

theorem readLoc_l0 (s : ByteArray) (n c c' : Int) (hn : n ≤ 5) (hs : (s.size : Int) = 2 * n) (d : Nat) : ∀ (x y i : Int), 0 ≤ i → i + d = n → 0 ≤ x → x < Ps i → 0 ≤ y → y < Ps i →
    (spec_l26Read.l0 (d + 1) s n x y i = some (0, 0, 0, false) ∧ impl_readLocator.l0 (d + 1) s n n i x y c c' = some (0, 0, 0, 0, 0, false)) ∨
    ∃ u v, 0 ≤ u ∧ u < Ps n ∧ 0 ≤ v ∧ v < Ps n ∧ spec_l26Read.l0 (d + 1) s n x y i = some (u, v, n, true) ∧ impl_readLocator.l0 (d + 1) s n n i x y c c' = some (u, v, c, c', n, true) := by
  induction d with
  | zero =>
    intro x y i h0 h hx hx2 hy hy2
    obtain rfl : i = n := by omega
    exact .inr ⟨x, y, hx, hx2, hy, hy2, by rw [spec_l26Read.l0, if_neg (by omega)], by rw [impl_readLocator.l0, if_neg (by omega)]⟩
  | succ d ih =>
    intro x y i h0 h hx hx2 hy hy2
    obtain ⟨p, f, hp1, hp2, hf1, hf2, e1, e2, hb⟩ := readFactor i h0 (by omega)
    have w1 : wrap64 (2 * i) = 2 * i := w64 _ (by omega) (by omega)
    have w2 : wrap64 (2 * i + 1) = 2 * i + 1 := w64 _ (by omega) (by omega)
    have b1 := bt_range s (2 * i)
    have b2 := bt_range s (2 * i + 1)
    have w3 : wrap64 (bt s (2 * i)) = bt s (2 * i) := w64 _ (by omega) (by omega)
    have w4 : wrap64 (bt s (2 * i + 1)) = bt s (2 * i + 1) := w64 _ (by omega) (by omega)
    have w5 : wrap64 f = f := w64 _ (by omega) (by omega)
    have w6 : wrap64 (bt s (2 * i) - f) = bt s (2 * i) - f := w64 _ (by omega) (by omega)
    have w7 : wrap64 (bt s (2 * i + 1) - f) = bt s (2 * i + 1) - f := w64 _ (by omega) (by omega)
    have w8 : wrap64 (p - 1) = p - 1 := w64 _ (by omega) (by omega)
    have w9 : wrap64 (i + 1) = i + 1 := w64 _ (by omega) (by omega)
    rw [spec_l26Read.l0, impl_readLocator.l0, if_pos (by omega), if_pos (by omega), e1, e2]
    simp only [Option.bind_some, w1, w2, w3, w4, w5, w6, w7, w8, w9, in_some, within_some]
    simp only [if_pos (show 0 ≤ 2 * i by omega), if_pos (show 2 * i < (s.size : Int) by omega), if_pos (show 0 ≤ 2 * i + 1 by omega), if_pos (show 2 * i + 1 < (s.size : Int) by omega)]
    by_cases hd1 : 0 ≤ bt s (2 * i) - f ∧ bt s (2 * i) - f ≤ p - 1
    · simp only [decide_eq_true hd1, if_true]
      by_cases hd2 : 0 ≤ bt s (2 * i + 1) - f ∧ bt s (2 * i + 1) - f ≤ p - 1
      · simp only [decide_eq_true hd2, if_true]
        obtain ⟨q1, q2, q3, q4⟩ := hb x _ hx hx2 hd1.1 (by omega)
        obtain ⟨r1, r2, r3, r4⟩ := hb y _ hy hy2 hd2.1 (by omega)
        have hps := Ps_bd (i + 1)
        rw [w64 (x * p) (by omega) (by omega), w64 (y * p) (by omega) (by omega), w64 (x * p + _) (by omega) (by omega), w64 (y * p + _) (by omega) (by omega)]
        exact ih _ _ (i + 1) (by omega) (by omega) q1 q2 r1 r2
      · rw [decide_eq_false hd2]
        exact .inl ⟨rfl, rfl⟩
    · rw [decide_eq_false hd1]
      exact .inl ⟨rfl, rfl⟩

theorem readLoc (s : ByteArray) (hs : s.size ≤ 140737488351232) :
    ((∀ k, 10 ≤ k → spec_l26Read.f k s = some (0, 0, 0, false)) ∧ ∀ k, 10 ≤ k → impl_readLocator.f k s = some (0, 0, 0, 0, 0, false)) ∨
    ∃ x y n, 1 ≤ n ∧ n ≤ 5 ∧ (s.size : Int) = 2 * n ∧ 0 ≤ x ∧ x < Ps n ∧ 0 ≤ y ∧ y < Ps n ∧ (∀ k, 10 ≤ k → spec_l26Read.f k s = some (x, y, n, true)) ∧ ∀ k, 10 ≤ k → impl_readLocator.f k s = some (x, y, Ps n, Ps n, n, true) := by
  have up1 : ∀ r, spec_l26Read.f 10 s = some r → ∀ k, 10 ≤ k → spec_l26Read.f k s = some r := fun r h k hk => at_rounds (g := fun k => spec_l26Read.f k s) (fun k => spec_l26Read.mono s k) hk h
  have up2 : ∀ r, impl_readLocator.f 10 s = some r → ∀ k, 10 ≤ k → impl_readLocator.f k s = some r := fun r h k hk => at_rounds (g := fun k => impl_readLocator.f k s) (fun k => impl_readLocator.mono s k) hk h
  have hw : wrap64 ((s.size : Int) / 2) = (s.size : Int) / 2 := w64 _ (by omega) (by omega)
  by_cases h2 : (s.size : Int) % 2 = 0
  · by_cases hb : 1 ≤ (s.size : Int) / 2 ∧ (s.size : Int) / 2 ≤ 5
    · obtain ⟨d, hd⟩ := Int.eq_ofNat_of_zero_le (a := (s.size : Int) / 2) (by omega)
      have hp0 := Ps_bd 0
      have e0 : Ps 0 = 1 := rfl
      rcases readLoc_l0 s ((s.size : Int) / 2) (Ps ((s.size : Int) / 2)) (Ps ((s.size : Int) / 2)) hb.2 (by omega) d 0 0 0 (by omega) (by omega) (by omega) (by omega) (by omega) (by omega) with ⟨q1, q2⟩ | ⟨u, v, g1, g2, g3, g4, q1, q2⟩
      · refine .inl ⟨up1 _ ?_, up2 _ ?_⟩
        · unfold spec_l26Read.f
          rw [if_pos h2, in_some, hw, decide_eq_true hb]
          simp only [Option.bind_some]
          rw [spec_l26Read.j0, if_neg (by decide)]
          exact at_rounds (g := fun k => spec_l26Read.l0 k s _ 0 0 0) (fun k => (spec_l26Read.mono_l k).2 _ _ _ _ _) (k := d + 1) (by omega) q1
        · unfold impl_readLocator.f
          rw [if_pos h2, within_some, hw, decide_eq_true hb]
          simp only [Option.bind_some]
          rw [impl_readLocator.j0, if_neg (by decide), locSide _ hb 9 (by omega)]
          exact at_rounds (g := fun k => impl_readLocator.l0 k s _ _ 0 0 0 _ _) (fun k => (impl_readLocator.mono_l k).2 _ _ _ _ _ _ _ _) (k := d + 1) (by omega) q2
      · refine .inr ⟨u, v, (s.size : Int) / 2, hb.1, hb.2, by omega, g1, g2, g3, g4, up1 _ ?_, up2 _ ?_⟩
        · unfold spec_l26Read.f
          rw [if_pos h2, in_some, hw, decide_eq_true hb]
          simp only [Option.bind_some]
          rw [spec_l26Read.j0, if_neg (by decide)]
          exact at_rounds (g := fun k => spec_l26Read.l0 k s _ 0 0 0) (fun k => (spec_l26Read.mono_l k).2 _ _ _ _ _) (k := d + 1) (by omega) q1
        · unfold impl_readLocator.f
          rw [if_pos h2, within_some, hw, decide_eq_true hb]
          simp only [Option.bind_some]
          rw [impl_readLocator.j0, if_neg (by decide), locSide _ hb 9 (by omega)]
          exact at_rounds (g := fun k => impl_readLocator.l0 k s _ _ 0 0 0 _ _) (fun k => (impl_readLocator.mono_l k).2 _ _ _ _ _ _ _ _) (k := d + 1) (by omega) q2
    · refine .inl ⟨up1 _ ?_, up2 _ ?_⟩
      · unfold spec_l26Read.f
        rw [if_pos h2, in_some, hw, decide_eq_false hb]
        rfl
      · unfold impl_readLocator.f
        rw [if_pos h2, within_some, hw, decide_eq_false hb]
        rfl
  · refine .inl ⟨up1 _ ?_, up2 _ ?_⟩
    · unfold spec_l26Read.f
      rw [if_neg h2]
      rfl
    · unfold impl_readLocator.f
      rw [if_neg h2]
      rfl
end Go.Proofs.Ytillihiadpgalaa.Pure
