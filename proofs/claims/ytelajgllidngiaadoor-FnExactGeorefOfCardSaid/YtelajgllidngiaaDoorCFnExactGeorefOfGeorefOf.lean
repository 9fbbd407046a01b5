/- The law FnExactGeorefOf: the program's GeorefOf and the reference's return the same text and code. No condition. -/
import Derived.Test.YtelajgllidngiaaDoorCFnExactGeorefOfx4
import Derived.Test.YtelajgllidngiaaDoorCFnExactGeorefOfPtOk
import Derived.Test.YtelajgllidngiaaDoorCFnExactGeorefOfPadText
namespace Go.Proofs.YtelajgllidngiaaDoor.Pure
open Go.RowKit Go.Proofs.YtelajgllidngiaaDoor.P Go.Proofs.YtelajgllidngiaaDoorW.PrintWords Go.Proofs.YtelajgllidngiaaDoorW.PrintLast

theorem cellPart (x m c : Int) (hc : 0 < c) (h0 : 0 ≤ x) (h1 : x < c) (hm : 1 ≤ m) : 0 ≤ x * m / c ∧ x * m / c < m := by
  have hp : 0 ≤ x * m := Int.mul_nonneg h0 (by omega)
  refine ⟨Int.ediv_nonneg hp (by omega), Int.ediv_lt_of_lt_mul hc ?_⟩
  rw [Int.mul_comm m c]
  exact Int.mul_lt_mul_of_pos_right h1 (by omega)

theorem cell_same (lat lon m n : Int) (h : Pt lat lon) (hm : 1 ≤ m ∧ m ≤ 216000) (hn : 1 ≤ n ∧ n ≤ 108000) : ∃ i k : Int, 0 ≤ i ∧ i < m ∧ 0 ≤ k ∧ k < n ∧ spec_l26Cell.f lat lon m n = some (i, k) ∧ impl_cellOf.f lat lon m n = some (i, k, m, n) := by
  obtain ⟨a1, a2, a3, a4⟩ := h
  have ex : ∃ x : Int, 0 ≤ x ∧ x < 3600000000 ∧ spec_l26X.f lat lon = some x ∧ Int.tmod (wrap64 (lon + 1800000000)) 3600000000 = x := by
    unfold spec_l26X.f
    rw [w64 (lon + 1800000000) (by omega) (by omega), tmod_pos _ _ (by omega)]
    by_cases he : lon + 1800000000 = 3600000000
    · rw [if_pos he]; exact ⟨0, by omega, by omega, rfl, by omega⟩
    · rw [if_neg he]; exact ⟨_, by omega, by omega, rfl, by omega⟩
  have ey : ∃ y : Int, 0 ≤ y ∧ y < 1800000000 ∧ spec_l26Y.f lat lon = some y ∧ mn (wrap64 (lat + 900000000)) 1799999999 = y := by
    unfold spec_l26Y.f mn
    rw [w64 (lat + 900000000) (by omega) (by omega)]
    by_cases he : lat + 900000000 = 1800000000
    · rw [if_pos he, w64 _ (by omega) (by omega)]; exact ⟨_, by omega, by omega, rfl, by split <;> omega⟩
    · rw [if_neg he]; exact ⟨_, by omega, by omega, rfl, by split <;> omega⟩
  obtain ⟨x, x0, x1, hx1, hx2⟩ := ex
  obtain ⟨y, y0, y1, hy1, hy2⟩ := ey
  obtain ⟨i0, i1⟩ := cellPart x m 3600000000 (by decide) x0 x1 hm.1
  obtain ⟨k0, k1⟩ := cellPart y n 1800000000 (by decide) y0 y1 hn.1
  have px : 0 ≤ x * m := Int.mul_nonneg x0 (by omega)
  have py : 0 ≤ y * n := Int.mul_nonneg y0 (by omega)
  have qx : x * m ≤ 3600000000 * 216000 := Int.mul_le_mul (by omega) hm.2 (by omega) (by omega)
  have qy : y * n ≤ 1800000000 * 108000 := Int.mul_le_mul (by omega) hn.2 (by omega) (by omega)
  have e1 : wrap64 (Int.tdiv (wrap64 (x * m)) 3600000000) = x * m / 3600000000 := by rw [w64 (x * m) (by omega) (by omega), tdiv_pos _ _ px, w64 _ (by omega) (by omega)]
  have e2 : wrap64 (Int.tdiv (wrap64 (y * n)) 1800000000) = y * n / 1800000000 := by rw [w64 (y * n) (by omega) (by omega), tdiv_pos _ _ py, w64 _ (by omega) (by omega)]
  refine ⟨_, _, i0, i1, k0, k1, ?_, ?_⟩
  · unfold spec_l26Cell.f
    rw [hx1, Option.bind_some, hy1, Option.bind_some, e1, e2]
  · unfold impl_cellOf.f
    rw [hx2, hy2, e1, e2]

def L24 : ByteArray := ⟨#[65, 66, 67, 68, 69, 70, 71, 72, 74, 75, 76, 77, 78, 80, 81, 82, 83, 84, 85, 86, 87, 88, 89, 90]⟩
theorem L24_size : (L24.size : Int) = 24 := rfl
/-- Two letters. -/
def pair (x y : Int) : ByteArray := strOfNums [bt L24 x, bt L24 y]
theorem pair_size (x y : Int) : (pair x y).size = 2 := strOfNums_size _
theorem letters_some (x y : Int) (h : 0 ≤ x ∧ x < 24) (g : 0 ≤ y ∧ y < 24) : impl_georefText_1.f x y = some (pair x y) := by
  unfold impl_georefText_1.f
  rw [if_pos h.1, if_pos h.2, if_pos g.1, if_pos g.2]
  rfl
theorem append_none (a : ByteArray) : a ++ (⟨#[]⟩ : ByteArray) = a := by
  apply ByteArray.ext
  rw [ByteArray.data_append]
  simp

/-- A number's parts. -/
theorem parts (x p : Int) (hp : 1 ≤ p ∧ p ≤ 600) (h0 : 0 ≤ x) (h1 : x < 360 * p) : wrap64 (Int.tdiv x p) = x / p ∧ 0 ≤ x / p ∧ x / p < 360 ∧ Int.tmod (x / p) 15 = x / p % 15 ∧ 0 ≤ x / p % 15 ∧ x / p % 15 < 15 ∧ wrap64 (Int.tdiv (x / p) 15) = x / p / 15 ∧ 0 ≤ x / p / 15 ∧ x / p / 15 < 24 ∧ Int.tmod x p = x % p ∧ 0 ≤ x % p ∧ x % p < p := by
  have a0 : 0 ≤ x / p := Int.ediv_nonneg h0 (by omega)
  have a1 : x / p < 360 := Int.ediv_lt_of_lt_mul (by omega) h1
  have b0 := Int.emod_nonneg x (show p ≠ 0 by omega)
  have b1 := Int.emod_lt_of_pos x (show 0 < p by omega)
  refine ⟨?_, a0, a1, tmod_pos _ _ a0, by omega, by omega, ?_, by omega, by omega, tmod_pos _ _ h0, b0, b1⟩
  · rw [tdiv_pos _ _ h0, w64 _ (by omega) (by omega)]
  · rw [tdiv_pos _ _ a0, w64 _ (by omega) (by omega)]

theorem spec_high (i k lvl p : Int) (d : Nat) (K : Nat) (hK : 20 ≤ K) (h2 : lvl > 2) (e0 : 0 ≤ wrap64 (lvl - 3)) (e1 : wrap64 (lvl - 3) < 2) (er : rd [60, 600] (wrap64 (lvl - 3)) = p) (ed : wrap64 (lvl - 1) = d) (hd : 1 ≤ d ∧ d ≤ 3) (hp : 1 ≤ p ∧ p ≤ 600) (hpd : p.toNat ≤ 10 ^ d)
    (i0 : 0 ≤ i) (i1 : i < 360 * p) (k0 : 0 ≤ k) (k1 : k < 360 * p) :
    spec_l26Georef.f K i k lvl = some (pair (i / p / 15) (k / p / 15) ++ (pair (i / p % 15) (k / p % 15) ++ (bs (dig d (i % p).toNat) ++ bs (dig d (k % p).toNat)))) := by
  obtain ⟨a1, a2, a3, a4, a5, a6, a7, a8, a9, a10, a11, a12⟩ := parts i p hp i0 i1
  obtain ⟨b1, b2, b3, b4, b5, b6, b7, b8, b9, b10, b11, b12⟩ := parts k p hp k0 k1
  have s1 : spec_l26Digits.f K (i % p) d = some (bs (dig d (i % p).toNat)) := by
    have := specPad_some (i % p).toNat d hd.1 (by omega) (by omega) K hK
    rwa [Int.toNat_of_nonneg a11] at this
  have s2 : spec_l26Digits.f K (k % p) d = some (bs (dig d (k % p).toNat)) := by
    have := specPad_some (k % p).toNat d hd.1 (by omega) (by omega) K hK
    rwa [Int.toNat_of_nonneg b11] at this
  have hl := dig_length d
  unfold spec_l26Georef.f
  rw [if_pos h2, Option.bind_some, if_pos e0, if_pos (show wrap64 (lvl - 3) < (([60, 600] : List Int).length : Int) from e1), er, if_neg (by omega), ed, a10, b10, a1, b1, a4, b4, a7, b7, s1, Option.bind_some, s2, Option.bind_some, if_pos (by rw [bs_size, bs_size, hl, hl]; omega),
    show spec_l26Letters.f = some L24 from rfl, Option.bind_some, if_pos (by omega), L24_size, if_pos a5, if_pos (by omega), if_pos b5, if_pos (by omega), Option.bind_some, show strOfNums [bt L24 (i / p % 15), bt L24 (k / p % 15)] = pair (i / p % 15) (k / p % 15) from rfl,
    if_pos (by rw [pair_size, ByteArray.size_append, bs_size, bs_size, hl, hl]; omega), if_pos a8, if_pos a9, if_pos b8, if_pos b9, Option.bind_some, show strOfNums [bt L24 (i / p / 15), bt L24 (k / p / 15)] = pair (i / p / 15) (k / p / 15) from rfl,
    if_pos (by rw [pair_size, ByteArray.size_append, pair_size, ByteArray.size_append, bs_size, bs_size, hl, hl]; omega)]

theorem impl_high (i k lvl p m n : Int) (d : Nat) (eg : impl_georefParts.f lvl = some (p, (d : Int))) (hd : 1 ≤ d ∧ d ≤ 3) (hp : 1 ≤ p ∧ p ≤ 600) (hpd : p.toNat ≤ 10 ^ d)
    (i0 : 0 ≤ i) (i1 : i < 360 * p) (k0 : 0 ≤ k) (k1 : k < 360 * p) :
    impl_georefText.f i k m n lvl = some (pair (i / p / 15) (k / p / 15) ++ (pair (i / p % 15) (k / p % 15) ++ (bs (dig d (i % p).toNat) ++ bs (dig d (k % p).toNat)))) := by
  obtain ⟨a1, a2, a3, a4, a5, a6, a7, a8, a9, a10, a11, a12⟩ := parts i p hp i0 i1
  obtain ⟨b1, b2, b3, b4, b5, b6, b7, b8, b9, b10, b11, b12⟩ := parts k p hp k0 k1
  have s1 : impl_padded.f (i % p) d = some (bs (dig d (i % p).toNat)) := by
    have := implPad_some (i % p).toNat d hd.1 (by omega) (by omega)
    rwa [Int.toNat_of_nonneg a11] at this
  have s2 : impl_padded.f (k % p) d = some (bs (dig d (k % p).toNat)) := by
    have := implPad_some (k % p).toNat d hd.1 (by omega) (by omega)
    rwa [Int.toNat_of_nonneg b11] at this
  have hl := dig_length d
  unfold impl_georefText.f
  rw [eg, Option.bind_some]
  simp only
  rw [if_neg (by omega), a1, b1, a4, b4, a7, b7, a10, b10, letters_some _ _ ⟨a8, a9⟩ ⟨b8, b9⟩, Option.bind_some, letters_some _ _ ⟨a5, by omega⟩ ⟨b5, by omega⟩, Option.bind_some, if_pos (by rw [pair_size, pair_size]; omega), if_neg (by omega), s1, Option.bind_some,
    if_pos (by rw [ByteArray.size_append, pair_size, pair_size, bs_size, hl]; omega), s2, Option.bind_some, if_pos (by rw [ByteArray.size_append, ByteArray.size_append, pair_size, pair_size, bs_size, bs_size, hl, hl]; omega), ByteArray.append_assoc, ByteArray.append_assoc]

theorem georef_same (i k : Int) (lvl : Int) (m n : Int) (hl : 1 ≤ lvl ∧ lvl ≤ 4) (hg : spec_l26Grid.f lvl = some (m, n)) (i0 : 0 ≤ i) (i1 : i < m) (k0 : 0 ≤ k) (k1 : k < n) (K : Nat) (hK : 20 ≤ K) : ∃ t, spec_l26Georef.f K i k lvl = some t ∧ impl_georefText.f i k m n lvl = some t := by
  have hc : lvl = 1 ∨ lvl = 2 ∨ lvl = 3 ∨ lvl = 4 := by omega
  rcases hc with rfl | rfl | rfl | rfl
  · obtain ⟨rfl, rfl⟩ : m = 24 ∧ n = 12 := by
      have e : spec_l26Grid.f 1 = some (24, 12) := by decide +kernel
      rw [e] at hg
      simp only [Option.some.injEq, Prod.mk.injEq] at hg
      exact ⟨hg.1.symm, hg.2.symm⟩
    refine ⟨pair i k, ?_, ?_⟩
    · unfold spec_l26Georef.f
      rw [if_neg (by decide), show spec_l26Letters.f = some L24 from rfl, Option.bind_some, if_neg (by decide), L24_size, if_pos i0, if_pos i1, if_pos k0, if_pos (by omega), Option.bind_some, show strOfNums [bt L24 i, bt L24 k] = pair i k from rfl, if_pos (by rw [pair_size]; omega), append_none]
    · unfold impl_georefText.f
      rw [show impl_georefParts.f 1 = some (0, 0) from rfl, Option.bind_some, if_pos rfl, letters_some i k ⟨i0, i1⟩ ⟨k0, by omega⟩]
      rfl
  · obtain ⟨rfl, rfl⟩ : m = 360 ∧ n = 180 := by
      have e : spec_l26Grid.f 2 = some (360, 180) := by decide +kernel
      rw [e] at hg
      simp only [Option.some.injEq, Prod.mk.injEq] at hg
      exact ⟨hg.1.symm, hg.2.symm⟩
    have p1 : Int.tmod i 15 = i % 15 := tmod_pos _ _ i0
    have p2 : Int.tmod k 15 = k % 15 := tmod_pos _ _ k0
    have p3 : wrap64 (Int.tdiv i 15) = i / 15 := by rw [tdiv_pos _ _ i0, w64 _ (by omega) (by omega)]
    have p4 : wrap64 (Int.tdiv k 15) = k / 15 := by rw [tdiv_pos _ _ k0, w64 _ (by omega) (by omega)]
    have p5 : wrap64 (Int.tdiv i 1) = i := by rw [tdiv_pos _ _ i0, w64 _ (by omega) (by omega)]; omega
    have p6 : wrap64 (Int.tdiv k 1) = k := by rw [tdiv_pos _ _ k0, w64 _ (by omega) (by omega)]; omega
    refine ⟨pair (i / 15) (k / 15) ++ pair (i % 15) (k % 15), ?_, ?_⟩
    · unfold spec_l26Georef.f
      rw [if_neg (by decide), show spec_l26Letters.f = some L24 from rfl, Option.bind_some, if_pos (by decide), L24_size, p1, p2, p3, p4, if_pos (by omega), if_pos (by omega), if_pos (by omega), if_pos (by omega), Option.bind_some, show strOfNums [bt L24 (i % 15), bt L24 (k % 15)] = pair (i % 15) (k % 15) from rfl, if_pos (by rw [pair_size]; omega),
        if_pos (by omega), if_pos (by omega), if_pos (by omega), if_pos (by omega), Option.bind_some, show strOfNums [bt L24 (i / 15), bt L24 (k / 15)] = pair (i / 15) (k / 15) from rfl, append_none, if_pos (by rw [pair_size, pair_size]; omega)]
    · unfold impl_georefText.f
      rw [show impl_georefParts.f 2 = some (1, 0) from rfl, Option.bind_some]
      simp only
      rw [if_neg (by decide), p5, p6, p1, p2, p3, p4, letters_some _ _ ⟨by omega, by omega⟩ ⟨by omega, by omega⟩, Option.bind_some, letters_some _ _ ⟨by omega, by omega⟩ ⟨by omega, by omega⟩, Option.bind_some, if_pos (by rw [pair_size, pair_size]; omega), if_pos (by trivial)]
  · obtain ⟨rfl, rfl⟩ : m = 21600 ∧ n = 10800 := by
      have e : spec_l26Grid.f 3 = some (21600, 10800) := by decide +kernel
      rw [e] at hg
      simp only [Option.some.injEq, Prod.mk.injEq] at hg
      exact ⟨hg.1.symm, hg.2.symm⟩
    exact ⟨_, spec_high i k 3 60 2 K hK (by decide) (by decide +kernel) (by decide +kernel) (by decide +kernel) (by decide +kernel) (by decide) (by decide) (by decide) i0 (by omega) k0 (by omega), impl_high i k 3 60 _ _ 2 rfl (by decide) (by decide) (by decide) i0 (by omega) k0 (by omega)⟩
  · obtain ⟨rfl, rfl⟩ : m = 216000 ∧ n = 108000 := by
      have e : spec_l26Grid.f 4 = some (216000, 108000) := by decide +kernel
      rw [e] at hg
      simp only [Option.some.injEq, Prod.mk.injEq] at hg
      exact ⟨hg.1.symm, hg.2.symm⟩
    exact ⟨_, spec_high i k 4 600 3 K hK (by decide) (by decide +kernel) (by decide +kernel) (by decide +kernel) (by decide +kernel) (by decide) (by decide) (by decide) i0 (by omega) k0 (by omega), impl_high i k 4 600 _ _ 3 rfl (by decide) (by decide) (by decide) i0 (by omega) k0 (by omega)⟩

theorem grid_some (lvl : Int) (hl : 1 ≤ lvl ∧ lvl ≤ 4) : ∃ m n, (1 ≤ m ∧ m ≤ 216000) ∧ (1 ≤ n ∧ n ≤ 108000) ∧ spec_l26Grid.f lvl = some (m, n) ∧ impl_georefCell.f 0 0 lvl = some (0, 0, m, n) := by
  have hc : lvl = 1 ∨ lvl = 2 ∨ lvl = 3 ∨ lvl = 4 := by omega
  rcases hc with rfl | rfl | rfl | rfl
  · exact ⟨24, 12, by decide, by decide, by decide +kernel, by decide +kernel⟩
  · exact ⟨360, 180, by decide, by decide, by decide +kernel, by decide +kernel⟩
  · exact ⟨21600, 10800, by decide, by decide, by decide +kernel, by decide +kernel⟩
  · exact ⟨216000, 108000, by decide, by decide, by decide +kernel, by decide +kernel⟩

theorem georefOf_same (lat lon lvl : Int) : ∃ r, spec_GeorefOf.f 20 lat lon lvl = some r ∧ impl_GeorefOf.f lat lon lvl = some r := by
  unfold spec_GeorefOf.f impl_GeorefOf.f
  rw [ok_some, valid_some, Option.bind_some, Option.bind_some]
  by_cases h : Pt lat lon
  · rw [decide_eq_true h, if_pos rfl, if_pos rfl, in_some, within_some, Option.bind_some, Option.bind_some]
    by_cases hl : 1 ≤ lvl ∧ lvl ≤ 4
    · obtain ⟨m, n, hm, hn, g1, g2⟩ := grid_some lvl hl
      obtain ⟨i, k, i0, i1, k0, k1, c1, c2⟩ := cell_same lat lon m n h hm hn
      obtain ⟨t, t1, t2⟩ := georef_same i k lvl m n hl g1 i0 i1 k0 k1 20 (by decide)
      refine ⟨(t, 0), ?_, ?_⟩
      · rw [decide_eq_true hl, if_pos rfl, g1, Option.bind_some]
        simp only
        rw [c1, Option.bind_some]
        simp only
        rw [t1]
        rfl
      · rw [decide_eq_true hl, if_pos rfl, g2, Option.bind_some]
        simp only
        rw [c2, Option.bind_some]
        simp only
        rw [t2]
        rfl
    · rw [decide_eq_false hl, if_neg (by decide)]
      exact ⟨_, rfl, rfl⟩
  · rw [decide_eq_false h, if_neg (by decide)]
    exact ⟨_, rfl, rfl⟩

theorem FnExactGeorefOf (a0 a1 a2 : Int) (_ : (Lit.int .i64 a0).wf = true) (_ : (Lit.int .i64 a1).wf = true) (_ : (Lit.int .i64 a2).wf = true) : ∃ k, laws_FnExactGeorefOf.f k a0 a1 a2 = some true := by
  obtain ⟨r, h1, h2⟩ := georefOf_same a0 a1 a2
  refine ⟨20, ?_⟩
  unfold laws_FnExactGeorefOf.f
  simp only [laws_toPoint.f, Option.bind_some, h1, h2, if_true]
end Go.Proofs.YtelajgllidngiaaDoor.Pure
