/- The law FnExactBoardText: the program's BoardText and the reference's return the same text. No condition. -/
import Derived.Test.YthafgljgccebiaaDoorPText
import Derived.Test.YthafgljgccebiaaDoorPPts
namespace Go.Proofs.YthafgljgccebiaaDoor.Ev
open Go Go.RowKit
set_option linter.unusedSimpArgs false
set_option linter.unusedVariables false
def ptOk (r : List D) : Bool := PtB (gi r 0) (gi r 1)
theorem row_at (l : List (List D)) (i : Nat) (h : i < l.length) : PtB (ri l (i : Int) 0) (ri l (i : Int) 1) = ptOk l[i] := by
  unfold ptOk
  have e2 : l.getD (i : Int).toNat [] = l[i] := by rw [Int.toNat_natCast, List.getD_eq_getElem?_getD, List.getElem?_eq_getElem h]; rfl
  rw [gil, gil, e2]
theorem ok_l0 (k : Nat) (x0 x1 x2 x3 x4 x5 x6 x7 : Int) (l : List (List D)) (b : Bool) (hn : l.length ≤ 2000000) : ∀ (d i n : Nat), i + d = l.length →
    ((l.drop i).all ptOk = true → spec_l28Ok_l0 k (d + 1 + n) x0 x1 x2 x3 x4 x5 x6 x7 l b (i : Int) = some [.i 0, .i x0, .i x1, .i x2, .i x3, .i x4, .i x5, .i x6, .i x7, .l l, .b b, .i l.length]) ∧
    ((l.drop i).all ptOk = false → ∃ z, spec_l28Ok_l0 k (d + 1 + n) x0 x1 x2 x3 x4 x5 x6 x7 l b (i : Int) = some [.i 1, .i x0, .i x1, .i x2, .i x3, .i x4, .i x5, .i x6, .i x7, .l l, .b false, .i z])
  | 0, i, n, h => by
    obtain rfl : i = l.length := by omega
    rw [List.drop_length]
    refine ⟨fun _ => ?_, fun hh => by cases hh⟩
    rw [show 0 + 1 + n = n + 1 by omega, spec_l28Ok_l0, bif_f (ltI_f (by omega))]
  | d + 1, i, n, h => by
    have hi : i < l.length := by omega
    have ih := ok_l0 k x0 x1 x2 x3 x4 x5 x6 x7 l b hn d (i + 1) n (by omega)
    rw [show d + 1 + 1 + n = (d + 1 + n) + 1 by omega, spec_l28Ok_l0, bif_t (ltI_t (by omega)), bif_t (inR_t (by omega) (by omega)), pt_some, Option.bind_some, row_at l i hi, List.drop_eq_getElem_cons hi, List.all_cons]
    simp only [gb0]
    cases ptOk l[i] with
    | false => exact ⟨fun hh => (by simp at hh), fun _ => ⟨_, rfl⟩⟩
    | true =>
      rw [Bool.not_true, cond_false, Bool.true_and, show IntKind.wrap .i64 ((i : Int) + 1) = ((i + 1 : Nat) : Int) by rw [wr _ (by omega) (by omega)]; omega]
      exact ih
theorem all_l0 (k : Nat) (l : List (List D)) (b : Bool) (hn : l.length ≤ 2000000) : ∀ (d i n : Nat), i + d = l.length →
    ((l.drop i).all ptOk = true → impl_areAllValid_l0 k (d + 1 + n) b l (l.length : Int) (i : Int) = some [.i 0, .b b, .l l, .i l.length, .i l.length]) ∧
    ((l.drop i).all ptOk = false → ∃ z, impl_areAllValid_l0 k (d + 1 + n) b l (l.length : Int) (i : Int) = some [.i 1, .b false, .l l, .i l.length, .i z])
  | 0, i, n, h => by
    obtain rfl : i = l.length := by omega
    rw [List.drop_length]
    refine ⟨fun _ => ?_, fun hh => by cases hh⟩
    rw [show 0 + 1 + n = n + 1 by omega, impl_areAllValid_l0, bif_f (ltI_f (by omega))]
  | d + 1, i, n, h => by
    have hi : i < l.length := by omega
    have ih := all_l0 k l b hn d (i + 1) n (by omega)
    rw [show d + 1 + 1 + n = (d + 1 + n) + 1 by omega, impl_areAllValid_l0, bif_t (ltI_t (by omega)), bif_t (inR_t (by omega) (by omega)), point_some, Option.bind_some, row_at l i hi, List.drop_eq_getElem_cons hi, List.all_cons]
    simp only [gb0]
    cases ptOk l[i] with
    | false => exact ⟨fun hh => (by simp at hh), fun _ => ⟨_, rfl⟩⟩
    | true =>
      rw [Bool.not_true, cond_false, Bool.true_and, show IntKind.wrap .i64 ((i : Int) + 1) = ((i + 1 : Nat) : Int) by rw [wr _ (by omega) (by omega)]; omega]
      exact ih
theorem all_some (k : Nat) (l : List (List D)) (hn : l.length ≤ 2000000) (hk : l.length < k) : impl_areAllValid k l = some [.b (l.all ptOk)] := by
  have h0 := all_l0 k l false hn l.length 0 (k - (l.length + 1)) (by omega)
  rw [show l.length + 1 + (k - (l.length + 1)) = k by omega, List.drop_zero] at h0
  unfold impl_areAllValid
  cases hb : l.all ptOk with
  | true =>
    have h1 : impl_areAllValid_l0 k k false l (l.length : Int) 0 = _ := h0.1 hb
    rw [h1]; rfl
  | false =>
    obtain ⟨z, h1⟩ := h0.2 hb
    have h1' : impl_areAllValid_l0 k k false l (l.length : Int) 0 = _ := h1
    rw [h1']; rfl
theorem proj_range (k : Nat) (p a b d e : Int) (h : impl_ValidProjection k p a b d e = some [.b true]) : 1 ≤ p ∧ p ≤ 16 := by
  unfold impl_ValidProjection at h
  rw [within_some, Option.bind_some, gb0] at h
  cases hb : (leI 1 p && leI p 16) with
  | false => rw [hb] at h; cases h
  | true =>
    simp only [Bool.and_eq_true, leI_iff] at hb
    exact hb
theorem board_same (k : Nat) (a b c p0 p1 p2 p3 p4 : Int) (l : List (List D)) (hn : l.length ≤ 2000000) (hk : l.length < k) : ∃ r, spec_l28Ok k a b c p0 p1 p2 p3 p4 l = some [.b r] ∧ impl_ValidBoard k a b c p0 p1 p2 p3 p4 l = some [.b r] ∧ (r = true → (1 ≤ p0 ∧ p0 ≤ 16) ∧ l.length ≤ 24) := by
  have h0 := ok_l0 k a b c p0 p1 p2 p3 p4 l false hn l.length 0 (k - (l.length + 1)) (by omega)
  rw [show l.length + 1 + (k - (l.length + 1)) = k by omega, List.drop_zero] at h0
  obtain ⟨r1, e1, e2⟩ := ellipsoid_eq k a b c
  obtain ⟨r2, f1, f2⟩ := projection_eq k p0 p1 p2 p3 p4
  unfold spec_l28Ok impl_ValidBoard
  rw [e2, f2, all_some k l hn hk]
  simp only [Option.bind_some, gb0]
  cases hb : l.all ptOk with
  | false =>
    obtain ⟨z, h1⟩ := h0.2 hb
    have h1' : spec_l28Ok_l0 k k a b c p0 p1 p2 p3 p4 l false 0 = _ := h1
    rw [h1']
    refine ⟨false, rfl, ?_, fun h => by cases h⟩
    cases r1 <;> cases r2 <;> cases leI (l.length : Int) 24 <;> rfl
  | true =>
    have h1' : spec_l28Ok_l0 k k a b c p0 p1 p2 p3 p4 l false 0 = _ := h0.1 hb
    rw [h1']
    simp only [Option.bind_some, gi0, giS, gl0, glS, e1, f1, gb0]
    rw [bif_t (eqI_t rfl)]
    cases r1 with
    | false => exact ⟨false, rfl, rfl, fun h => by cases h⟩
    | true =>
      cases r2 with
      | false => exact ⟨false, rfl, rfl, fun h => by cases h⟩
      | true =>
        cases hl : leI (l.length : Int) 24 with
        | false => exact ⟨false, rfl, rfl, fun h => by cases h⟩
        | true => exact ⟨true, rfl, rfl, fun _ => ⟨proj_range k p0 p1 p2 p3 p4 f2, by have := leI_iff.1 hl; omega⟩⟩
theorem points7 : (⟨#[112, 111, 105, 110, 116, 115, 32]⟩ : ByteArray) = bs [112, 111, 105, 110, 116, 115, 32] := rfl
theorem boardText_same (k : Nat) (a b c p0 p1 p2 p3 p4 : Int) (l : List (List D)) (hn : l.length ≤ 2000000) (hk : l.length + 30 ≤ k) (h1 : I64 a) (h2 : I64 b) (h3 : I64 c) (h5 : I64 p1) (h6 : I64 p2) (h7 : I64 p3) (h8 : I64 p4) : ∃ t, spec_BoardText k a b c p0 p1 p2 p3 p4 l = some [.s t] ∧ impl_BoardText k a b c p0 p1 p2 p3 p4 l = some [.s t] := by
  obtain ⟨r, e1, e2, hr⟩ := board_same k a b c p0 p1 p2 p3 p4 l hn (by omega)
  unfold spec_BoardText impl_BoardText
  rw [e1, e2]
  simp only [Option.bind_some, gb0]
  cases r with
  | false => exact ⟨_, rfl, rfl⟩
  | true =>
    obtain ⟨hp, hl⟩ := hr rfl
    obtain ⟨t1, l1, s1, i1⟩ := ellText_some k (by omega) a b c h1 h2 h3
    obtain ⟨t2, l2, s2, i2⟩ := projText_some k (by omega) p0 p1 p2 p3 p4 hp h5 h6 h7 h8
    have ll := itoa_length (l.length : Int) (by omega) (by omega)
    have hlen : impl_length k l = some [.i (l.length : Int)] := rfl
    refine ⟨bs ([112, 111, 105, 110, 116, 115, 32] ++ Lib.itoa (l.length : Int) ++ [32] ++ t1 ++ [32] ++ t2), ?_, ?_⟩
    · simp only [Bool.not_true, cond_false, decAll_some _ (show -9223372036854775808 ≤ (l.length : Int) by omega) (by omega) k (by omega), s1, s2, Option.bind_some, gs0, sp32, points7, bs_append]
      repeat rw [bif_t (leN_t (by simp only [bs_size, List.length_append, List.length_singleton, List.length_cons, List.length_nil]; omega))]
    · unfold impl_Board_pointsText
      simp only [Bool.not_true, cond_false, hlen, gi0, decimal_some k _ (show -9223372036854775808 ≤ (l.length : Int) by omega) (by omega), i1, i2, Option.bind_some, gs0, sp32, points7, bs_append]
      rw [bif_t (leN_t (by simp only [bs_size, List.length_append, List.length_singleton, List.length_cons, List.length_nil]; omega))]
      simp only [Option.bind_some, gs0, bs_append]
      repeat rw [bif_t (leN_t (by simp only [bs_size, List.length_append, List.length_singleton, List.length_cons, List.length_nil]; omega))]
theorem eqEll_refl (k : Nat) (a b c : Int) : laws_eqEllipsoid k a b c a b c = some [.b true] := by
  unfold laws_eqEllipsoid
  rw [bif_f (bne_f rfl), bif_f (bne_f rfl), bif_f (bne_f rfl)]
theorem eqProj_refl (k : Nat) (a b c d e : Int) : laws_eqProjection k a b c d e a b c d e = some [.b true] := by
  unfold laws_eqProjection
  rw [bif_f (bne_f rfl), bif_f (bne_f rfl), bif_f (bne_f rfl), bif_f (bne_f rfl), bif_f (bne_f rfl)]
theorem board_law (a b c p0 p1 p2 p3 p4 : Int) (l : List (List D)) (hn : l.length ≤ 9223372036854775807) (h1 : I64 a) (h2 : I64 b) (h3 : I64 c) (h5 : I64 p1) (h6 : I64 p2) (h7 : I64 p3) (h8 : I64 p4) : laws_FnExactBoardText (l.length + 30) a b c p0 p1 p2 p3 p4 l = some [.b true] := by
  unfold laws_FnExactBoardText laws_szBoard
  rw [szPts_some _ l 1048576 (by omega) (by omega) hn, Option.bind_some]
  simp only [gi0]
  by_cases h : (1048576 : Int) < (l.length : Int)
  · rw [if_pos h]; rfl
  · rw [if_neg h, bif_f (ltI_f (by omega)), Option.bind_some, gi0, bif_f (ltI_f (by omega))]
    have ht : laws_toBoard (l.length + 30) a b c p0 p1 p2 p3 p4 l = some [.i a, .i b, .i c, .i p0, .i p1, .i p2, .i p3, .i p4, .l (l.map pt2)] := by
      unfold laws_toBoard
      rw [toPts_some _ l (by omega) (by omega)]
      rfl
    have hml : (l.map pt2).length = l.length := List.length_map ..
    obtain ⟨t, e1, e2⟩ := boardText_same (l.length + 30) a b c p0 p1 p2 p3 p4 (l.map pt2) (by omega) (by omega) h1 h2 h3 h5 h6 h7 h8
    have he : laws_eqBoard (l.length + 30) a b c p0 p1 p2 p3 p4 (l.map pt2) a b c p0 p1 p2 p3 p4 (l.map pt2) = some [.b true] := by
      unfold laws_eqBoard
      rw [eqEll_refl, eqProj_refl, eqPts_refl _ _ (by omega) (by omega)]
      rfl
    simp only [ht, Option.bind_some, gi0, giS, gl0, glS, e1, e2, gs0, he, gb0, beq_self_eq_true, Bool.not_true, cond_false]
theorem I64_of {n : Int} (h : (Lit.int .i64 n).wf = true) : I64 n := by
  have := h
  simp [Lit.wf, IntKind.min, IntKind.max, IntKind.bits, IntKind.signed] at this
  exact this
theorem FnExactBoardText_pure (a b c p0 p1 p2 p3 p4 : Int) (zs : List (List Int)) (h1 : (Lit.int .i64 a).wf = true) (h2 : (Lit.int .i64 b).wf = true) (h3 : (Lit.int .i64 c).wf = true) (h4 : (Lit.int .i64 p0).wf = true) (h5 : (Lit.int .i64 p1).wf = true) (h6 : (Lit.int .i64 p2).wf = true) (h7 : (Lit.int .i64 p3).wf = true) (h8 : (Lit.int .i64 p4).wf = true)
    (g1 : ∀ z ∈ zs, z.length = 2) (g2 : ∀ z ∈ zs, ∀ n ∈ z, (Lit.int .i64 n).wf = true) (g3 : zs.length ≤ 9223372036854775807) : ∃ k, laws_FnExactBoardText k a b c p0 p1 p2 p3 p4 (zs.map fun z => z.map D.i) = some [.b true] :=
  ⟨_, board_law a b c p0 p1 p2 p3 p4 _ (by rw [List.length_map]; exact g3) (I64_of h1) (I64_of h2) (I64_of h3) (I64_of h5) (I64_of h6) (I64_of h7) (I64_of h8)⟩
end Go.Proofs.YthafgljgccebiaaDoor.Ev
