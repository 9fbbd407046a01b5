/- The law FnExactTileKey: the program's TileKey and the reference's return the same text. No condition. -/
import Derived.Test.YtillihiadpgalaaDoorCFnExactTileKeyx1
import Derived.Test.YtillihiadpgalaaDoorCFnExactTileKeyTileOk
import Derived.Laws.Bits128
namespace Go.Proofs.YtillihiadpgalaaDoor.Pure
open Go.RowKit Go.Proofs.YtillihiadpgalaaDoor.P Go.Proofs.YtillihiadpgalaaDoorW.PrintWords Go.Proofs.YtillihiadpgalaaDoorW.PrintLast

theorem i64_and1 (n : Int) : bits .and .i64 n 1 = n % 2 := by
  have h1 : (BitVec.ofInt 64 1).toNat = 2 ^ 1 - 1 := by decide
  have key : (BitVec.ofInt 64 n &&& BitVec.ofInt 64 1).toNat = (n % ((2 ^ 64 : Nat) : Int)).toNat % 2 ^ 1 := by
    rw [BitVec.toNat_and, BitVec.toNat_ofInt, h1, Nat.and_two_pow_sub_one_eq_mod]
  show IntKind.i64.wrap ((BitVec.ofInt 64 n &&& BitVec.ofInt 64 1).toNat : Nat) = n % 2
  rw [key, IntKind.wrap_i64]
  omega

theorem digit_eq (n : Nat) (h : n < 10) : (⟨(Lib.decDigits n).toArray⟩ : ByteArray) = strOfNums [48 + (n : Int)] := by
  match n, h with
  | 0, _ => decide +kernel
  | 1, _ => decide +kernel
  | 2, _ => decide +kernel
  | 3, _ => decide +kernel
  | 4, _ => decide +kernel
  | 5, _ => decide +kernel
  | 6, _ => decide +kernel
  | 7, _ => decide +kernel
  | 8, _ => decide +kernel
  | 9, _ => decide +kernel

theorem decimal_small (n : Int) (h0 : 0 ≤ n) (h1 : n < 10) : impl_Decimal.f n = some (strOfNums [48 + n]) := by
  unfold impl_Decimal.f strconv_FormatInt.f
  rw [if_pos ⟨h0, by omega, rfl⟩, Option.bind_some, digit_eq n.toNat (by omega), Int.toNat_of_nonneg h0]

theorem key_l0 (l x y : Int) (d : Nat) : ∀ (s : ByteArray) (i : Int), i = (d : Int) - 1 → d ≤ 20 → s.size + d ≤ 20 →
    ∃ r, spec_l25Key.l0 (d + 1) s i l x y = some (r, l, x, y) ∧ impl_TileKey.l0 (d + 1) s i l x y = some r := by
  induction d with
  | zero =>
    intro s i hi _ _
    exact ⟨s, by rw [spec_l25Key.l0, if_neg (by omega)], by rw [impl_TileKey.l0, if_neg (by omega)]⟩
  | succ d ih =>
    intro s i hi hd hs
    have hu : IntKind.u64.wrap i = i := u64w i (by omega) (by omega)
    have ha := Int.emod_nonneg (shr .i64 x i) (show (2 : Int) ≠ 0 by decide)
    have ha' := Int.emod_lt_of_pos (shr .i64 x i) (show (0 : Int) < 2 by decide)
    have hb := Int.emod_nonneg (shr .i64 y i) (show (2 : Int) ≠ 0 by decide)
    have hb' := Int.emod_lt_of_pos (shr .i64 y i) (show (0 : Int) < 2 by decide)
    rw [spec_l25Key.l0, impl_TileKey.l0, if_pos (by omega), if_pos (by omega), hu, if_pos (by omega), if_pos (by omega), i64_and1, i64_and1]
    generalize shr .i64 x i % 2 = a at ha ha'
    generalize shr .i64 y i % 2 = b at hb hb'
    rw [w64 (2 * b) (by omega) (by omega), w64 (48 + a) (by omega) (by omega), w64 (48 + a + 2 * b) (by omega) (by omega), w64 (a + 2 * b) (by omega) (by omega), Int.emod_eq_of_lt (by omega) (by omega),
      decimal_small (a + 2 * b) (by omega) (by omega), show 48 + (a + 2 * b) = 48 + a + 2 * b by omega]
    simp only [Option.bind_some]
    have hz : (strOfNums [48 + a + 2 * b]).size = 1 := strOfNums_size _
    rw [if_pos (by rw [hz]; omega), if_pos (by rw [hz]; omega), w64 (i - 1) (by omega) (by omega)]
    exact ih _ (i - 1) (by omega) (by omega) (by rw [ByteArray.size_append, hz]; omega)

theorem FnExactTileKey (a0 a1 a2 : Int) (_ : (Lit.int .i64 a0).wf = true) (_ : (Lit.int .i64 a1).wf = true) (_ : (Lit.int .i64 a2).wf = true) : ∃ k, laws_FnExactTileKey.f k a0 a1 a2 = some true := by
  unfold laws_FnExactTileKey.f spec_TileKey.f impl_TileKey.f
  simp only [laws_toTile.f, Option.bind_some, ok_tile, valid_tile]
  by_cases h : Tl a0 a1 a2
  · rw [decide_eq_true h]
    obtain ⟨d, hd⟩ := Int.eq_ofNat_of_zero_le h.1
    have h20 := h.2.1
    obtain ⟨r, h1, h2⟩ := key_l0 a0 a1 a2 d ⟨#[]⟩ (wrap64 (a0 - 1)) (by rw [w64 _ (by omega) (by omega)]; omega) (by omega) (by show 0 + d ≤ 20; omega)
    refine ⟨d + 1, ?_⟩
    simp only [spec_l25Key.f, h1, h2, Option.bind_some, if_true]
  · rw [decide_eq_false h]
    exact ⟨0, by simp only [Bool.false_eq_true, if_false, Option.bind_some, if_true]⟩
end Go.Proofs.YtillihiadpgalaaDoor.Pure
