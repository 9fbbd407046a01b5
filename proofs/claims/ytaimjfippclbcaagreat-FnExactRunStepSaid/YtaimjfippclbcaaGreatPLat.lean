/- Latitudes of vectors, by both. No condition. -/
import Derived.Test.YtaimjfippclbcaaGreatPCyl
namespace Go.Proofs.YtaimjfippclbcaaGreat.Ev
open Go Go.RowKit
set_option linter.unusedSimpArgs false
set_option linter.unusedVariables false
theorem q_bd {k : Nat} (hk : 700 ≤ k) : 0 ≤ (vTurn k 1).2 ∧ (vTurn k 1).2 ≤ 1000000000000001 := by
 obtain ⟨j, hj⟩ : ∃ j, k = j + 1 := ⟨k - 1, by omega⟩
 obtain ⟨lo, h0, h1, _⟩ := turn_pos k j 1 (by decide)
 rw [← hj, turnL k (by omega) 1 (by decide)] at h1
 have : vTurn k 1 = (lo, lo + 1) := pv_inj' (Option.some.inj h1)
 rw [this]
 exact ⟨by show 0 ≤ lo + 1; omega, by show lo + 1 ≤ _; omega⟩
theorem lat_same {k : Nat} (hk : 700 ≤ k) (a n d x1 x2 y1 y2 z1 z2 : Int) (hE : ElB a n d = true) : Same (spec_l14Lat k a n d x1 x2 y1 y2 z1 z2) (impl_latitudeOf k a n d x1 x2 y1 y2 z1 z2) := by
 have hq := q_bd hk
 obtain ⟨f, hf⟩ : ∃ f, k = 52 + 1 + f := ⟨k - 53, by omega⟩
 unfold spec_l14Lat impl_latitudeOf
 simp only [flatr2 hk, turnL k (by omega) 1 (by decide), qtrI hk, ivr hk, Option.bind_some, pv0, pv1, gi0, giS, gb0, gbS, cond_true, cond_false, Bool.not_true, Bool.not_false, pair_eta]
 generalize hu : vNorm k (x1, x2) (y1, y2) (0, 0) = u
 generalize hqq : (vTurn k 1).2 = q at hq
 rw [wr (0 - q) (by omega) (by omega)]
 have hb : BisOk (0 - q) q := ⟨⟨by omega, by omega⟩, by omega, by omega⟩
 have hp : ((2 ^ 52 : Nat) : Int) = 4503599627370496 := by decide
 have e1 := latS_l0 k hk a n d x1 x2 y1 y2 z1 z2 0 0 u 52 f (0 - q) q hb (by omega) (by rw [hp]; omega)
 have e3 := latI_l0 k hk a n d x1 x2 y1 y2 z1 z2 hE 0 0 52 f (0 - q) q hb (by omega) (by rw [hp]; omega)
 rw [← hf] at e1 e3
 rw [hu] at e3
 have hr := bis_bd (fun t => ltI (vSide k a n d u (z1, z2) t).2 0) 52 (0 - q) q (by omega)
 rw [e1, e3]
 simp only [Option.bind_some, gi0, giS]
 generalize (bis (fun t => ltI (vSide k a n d u (z1, z2) t).2 0) 52 (0 - q) q) = r at hr
 have hb2 : BisOk r.1 q := ⟨⟨by omega, by omega⟩, by omega, by omega⟩
 have e2 := latS_l2 k hk a n d x1 x2 y1 y2 z1 z2 0 0 r.1 u 52 f r.1 q hb2 (by omega) (by rw [hp]; omega)
 have e4 := latI_l2 k hk a n d x1 x2 y1 y2 z1 z2 hE 0 0 r.1 0 52 f r.1 q hb2 (by omega) (by rw [hp]; omega)
 rw [← hf] at e2 e4
 rw [hu] at e4
 rw [e2, e4]
 simp only [Option.bind_some, gi0, giS]
 exact same_of ⟨_, _, rfl, rfl⟩
def Same7 (s i : Option (List D)) : Prop := ∃ a b c d e f g, s = some [.i a, .i b, .i c, .i d, .i e, .i f, .i g] ∧ i = some [.i a, .i b, .i c, .i d, .i e, .i f, .i g]
theorem fromC_same {k : Nat} (hk : 700 ≤ k) (a n d x1 x2 y1 y2 z1 z2 : Int) : Same7 (spec_FromCartesian k a n d x1 x2 y1 y2 z1 z2) (impl_FromCartesian k a n d x1 x2 y1 y2 z1 z2) := by
 obtain ⟨c, hc, f1, f2⟩ := far_same hk a n d x1 x2 y1 y2 z1 z2
 unfold spec_FromCartesian impl_FromCartesian
 rw [f1, f2]
 simp only [Option.bind_some, gi0]
 by_cases h0 : c = 0
 ·subst h0
  obtain ⟨l, l1, l2⟩ := lat_same hk a n d x1 x2 y1 y2 z1 z2 (hc rfl)
  simp only [Int.reduceBNe, cond_false, l1, l2, flatr2 hk, cosr hk, eccr hk, majorr hk, wgtr hk, sqrtr hk, ivb, dirr hk, ivr hk, Option.bind_some, pv0, pv1, gi0, giS, gb0, gbS, cond_true, cond_false, Bool.not_true, Bool.not_false, pair_eta]
  unfold vW
  generalize vSub k (vAdd k (vMul k (vNorm k (x1, x2) (y1, y2) (0, 0)) (vCos k l)) (vMul k (z1, z2) (vSin k l))) _ = h
  cases ivB h.1 h.2 <;> exact ⟨_, _, _, _, _, _, _, rfl, rfl⟩
 ·rw [bif_t (show (c != 0) = true by rw [bne_iff_ne]; exact h0), bif_t (show (c != 0) = true by rw [bne_iff_ne]; exact h0)]
  exact ⟨_, _, _, _, _, _, _, rfl, rfl⟩
end Go.Proofs.YtaimjfippclbcaaGreat.Ev
