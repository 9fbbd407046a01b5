/- EdgeArea, EdgeLatitude, RingArea, HasNorth, InRing: the plain laws. No condition. -/
import Derived.Test.YtbbgdeknaecljaaGreatPRing
namespace Go.Proofs.YtbbgdeknaecljaaGreat.Ev
open Go Go.RowKit
set_option linter.unusedSimpArgs false
set_option linter.unusedVariables false
theorem eqIv_refl (k : Nat) (a b : Int) : laws_eqInterval k a b a b = some [.b true] := by
  unfold laws_eqInterval
  rw [bif_f (bne_f rfl), bif_f (bne_f rfl)]
theorem FnExactEdgeArea_pure (a b c d : Int) (_ : (Lit.int .i64 a).wf = true) (_ : (Lit.int .i64 b).wf = true) (_ : (Lit.int .i64 c).wf = true) (_ : (Lit.int .i64 d).wf = true) : ∃ k, laws_FnExactEdgeArea k a b c d = some [.b true] := by
  refine ⟨700, ?_⟩
  obtain ⟨x, y, z, e1, e2⟩ := edgeArea_same (k := 700) (by decide) a b c d
  unfold laws_FnExactEdgeArea laws_toPoint
  simp only [Option.bind_some, gi0, giS]
  rw [e1, e2]
  simp only [Option.bind_some, gi0, giS, eqIv_refl, gb0, Bool.not_true, cond_false]
  rw [bif_f (bne_f rfl)]
theorem FnExactEdgeLatitude_pure (a b c d l : Int) (_ : (Lit.int .i64 a).wf = true) (_ : (Lit.int .i64 b).wf = true) (_ : (Lit.int .i64 c).wf = true) (_ : (Lit.int .i64 d).wf = true) (_ : (Lit.int .i64 l).wf = true) : ∃ k, laws_FnExactEdgeLatitude k a b c d l = some [.b true] := by
  refine ⟨700, ?_⟩
  obtain ⟨x, y, z, e1, e2⟩ := edgeLat_same (k := 700) (by decide) a b c d l
  unfold laws_FnExactEdgeLatitude laws_toPoint
  simp only [Option.bind_some, gi0, giS]
  rw [e1, e2]
  simp only [Option.bind_some, gi0, giS, eqIv_refl, gb0, Bool.not_true, cond_false]
  rw [bif_f (bne_f rfl)]
theorem map_len (xs : List (List D)) : (xs.map pt2).length = xs.length := List.length_map ..
theorem FnExactRingArea_pure (zs : List (List Int)) (g1 : ∀ z ∈ zs, z.length = 2) (g2 : ∀ z ∈ zs, ∀ n ∈ z, (Lit.int .i64 n).wf = true) (g3 : zs.length ≤ 9223372036854775807) : ∃ k, laws_FnExactRingArea k (zs.map fun z => z.map D.i) = some [.b true] := by
  generalize hx : (zs.map fun z => z.map D.i) = xs
  have hlen : xs.length = zs.length := by rw [← hx, List.length_map]
  refine ⟨700 + xs.length + 1, ?_⟩
  unfold laws_FnExactRingArea
  rw [szPts_some _ xs 1048576 (by decide) (by decide) (by omega)]
  by_cases h : (1048576 : Int) < (xs.length : Int)
  · rw [if_pos h]; rfl
  · rw [if_neg h, Option.bind_some]
    simp only [gi0]
    rw [bif_f (ltI_f (by omega)), toPts_some _ xs (by omega) (by omega)]
    simp only [Option.bind_some, gl0]
    obtain ⟨x, y, z, e1, e2⟩ := ringArea_same (k := 700 + xs.length + 1) (by omega) (xs.map pt2) (by rw [map_len]; omega) (by rw [map_len]; omega)
    rw [e1, e2]
    simp only [Option.bind_some, gi0, giS, eqIv_refl, gb0, Bool.not_true, cond_false]
    rw [bif_f (bne_f rfl), eqPts_refl _ _ (by rw [map_len]; omega) (by rw [map_len]; omega)]
    rfl
theorem FnExactHasNorth_pure (zs : List (List Int)) (g1 : ∀ z ∈ zs, z.length = 2) (g2 : ∀ z ∈ zs, ∀ n ∈ z, (Lit.int .i64 n).wf = true) (g3 : zs.length ≤ 9223372036854775807) : ∃ k, laws_FnExactHasNorth k (zs.map fun z => z.map D.i) = some [.b true] := by
  generalize hx : (zs.map fun z => z.map D.i) = xs
  have hlen : xs.length = zs.length := by rw [← hx, List.length_map]
  refine ⟨700 + xs.length + 1, ?_⟩
  unfold laws_FnExactHasNorth
  rw [szPts_some _ xs 1048576 (by decide) (by decide) (by omega)]
  by_cases h : (1048576 : Int) < (xs.length : Int)
  · rw [if_pos h]; rfl
  · rw [if_neg h, Option.bind_some]
    simp only [gi0]
    rw [bif_f (ltI_f (by omega)), toPts_some _ xs (by omega) (by omega)]
    simp only [Option.bind_some, gl0]
    obtain ⟨x, y, e1, e2⟩ := hasNorth_same (k := 700 + xs.length + 1) (by omega) (xs.map pt2) (by rw [map_len]; omega) (by rw [map_len]; omega)
    rw [e1, e2]
    simp only [Option.bind_some, gi0, giS, gb0]
    rw [bif_f (bne_f rfl), bif_f (bne_f rfl), eqPts_refl _ _ (by rw [map_len]; omega) (by rw [map_len]; omega)]
    rfl
theorem FnExactInRing_pure (zs : List (List Int)) (a b : Int) (g1 : ∀ z ∈ zs, z.length = 2) (g2 : ∀ z ∈ zs, ∀ n ∈ z, (Lit.int .i64 n).wf = true) (g3 : zs.length ≤ 9223372036854775807) (_ : (Lit.int .i64 a).wf = true) (_ : (Lit.int .i64 b).wf = true) : ∃ k, laws_FnExactInRing k (zs.map fun z => z.map D.i) a b = some [.b true] := by
  generalize hx : (zs.map fun z => z.map D.i) = xs
  have hlen : xs.length = zs.length := by rw [← hx, List.length_map]
  refine ⟨700 + xs.length + 1, ?_⟩
  unfold laws_FnExactInRing laws_toPoint
  rw [szPts_some _ xs 1048576 (by decide) (by decide) (by omega)]
  by_cases h : (1048576 : Int) < (xs.length : Int)
  · rw [if_pos h]; rfl
  · rw [if_neg h, Option.bind_some]
    simp only [gi0]
    rw [bif_f (ltI_f (by omega)), toPts_some _ xs (by omega) (by omega)]
    simp only [Option.bind_some, gl0, gi0, giS]
    obtain ⟨x, y, e1, e2⟩ := inRing_same (k := 700 + xs.length + 1) (by omega) (xs.map pt2) a b (by rw [map_len]; omega) (by rw [map_len]; omega)
    rw [e1, e2]
    simp only [Option.bind_some, gi0, giS, gb0]
    rw [bif_f (bne_f rfl), bif_f (bne_f rfl), eqPts_refl _ _ (by rw [map_len]; omega) (by rw [map_len]; omega)]
    rfl
end Go.Proofs.YtbbgdeknaecljaaGreat.Ev
