/- Numbers with leading zeros, by both. No condition. -/
import Derived.Test.YtelajgllidngiaaDoorCFnExactGeorefOfx1
import Derived.Test.YtelajgllidngiaaDoorCFnExactGeorefOfx3
import Derived.Test.YtelajgllidngiaaDoorCFnExactGeorefOfDecText
namespace Go.Proofs.YtelajgllidngiaaDoor.Pure
open Go.RowKit Go.Proofs.YtelajgllidngiaaDoor.P Go.Proofs.YtelajgllidngiaaDoorW.PrintWords Go.Proofs.YtelajgllidngiaaDoorW.PrintLast

theorem pDecimal_some (x : Int) (h0 : 0 ≤ x) (h1 : x ≤ 9223372036854775807) : impl_Decimal.f x = some (bs (Lib.decDigits x.toNat)) := by
  unfold impl_Decimal.f strconv_FormatInt.f
  rw [if_pos ⟨by omega, h1, rfl⟩, Option.bind_some]
  unfold Lib.itoa
  rw [if_neg (by omega)]
  rfl
theorem lit48 : (⟨#[48]⟩ : ByteArray) = bs [48] := rfl
theorem pRepeat_zeros (n : Int) (h0 : 0 ≤ n) (h1 : n ≤ 1000) : strings_Repeat.f ⟨#[48]⟩ n = some (bs (List.replicate n.toNat 48)) := by
  unfold strings_Repeat.f
  have e : (⟨#[48]⟩ : ByteArray).size = 1 := rfl
  rw [if_pos ⟨h0, by omega, by rw [e]; omega⟩, show (⟨#[48]⟩ : ByteArray).data.toList = [48] from rfl, repeat_one]
  rfl

theorem pad_l0 (d : Nat) (hd : d ≤ 100) (c : Nat) : ∀ l : List UInt8, l.length + c = d → spec_l26Digits.l0 (c + 1) d (bs l) = some (bs (List.replicate c 48 ++ l)) := by
  induction c with
  | zero =>
    intro l h
    rw [spec_l26Digits.l0, if_neg (by rw [bs_size]; omega)]
    rfl
  | succ c ih =>
    intro l h
    rw [spec_l26Digits.l0, if_pos (by rw [bs_size]; omega), if_pos (by rw [bs_size]; omega), lit48, bs_append, ih _ (by rw [List.length_append, List.length_singleton]; omega), List.replicate_succ', List.append_assoc]

theorem specPad_some (x : Nat) (d : Nat) (h1 : 1 ≤ d) (hd : d ≤ 10) (h : x < 10 ^ d) (k : Nat) (hk : 20 ≤ k) : spec_l26Digits.f k x d = some (bs (dig d x)) := by
  obtain ⟨hp1, hp2⟩ := dec_pad d x h1 h
  have hx : x < 10 ^ 10 := Nat.lt_of_lt_of_le h (Nat.pow_le_pow_right (by decide) hd)
  unfold spec_l26Digits.f
  rw [dec_some x (by omega) (by omega) k hk, Option.bind_some, Int.toNat_natCast]
  refine at_rounds (g := fun k => spec_l26Digits.l0 k d (bs (Lib.decDigits x))) (fun k => spec_l26Digits.mono_l k _ _) (k := d - (Lib.decDigits x).length + 1) (by omega) ?_
  rw [pad_l0 d (by omega) (d - (Lib.decDigits x).length) _ (by omega), hp2]
theorem implPad_some (x : Nat) (d : Nat) (h1 : 1 ≤ d) (hd : d ≤ 10) (h : x < 10 ^ d) : impl_padded.f x d = some (bs (dig d x)) := by
  obtain ⟨hp1, hp2⟩ := dec_pad d x h1 h
  have hx : x < 10 ^ 10 := Nat.lt_of_lt_of_le h (Nat.pow_le_pow_right (by decide) hd)
  have e : mx (wrap64 ((d : Int) - ((bs (Lib.decDigits x)).size : Int))) 0 = ((d - (Lib.decDigits x).length : Nat) : Int) := by
    rw [bs_size, w64 _ (by omega) (by omega)]
    unfold mx
    split <;> omega
  unfold impl_padded.f
  rw [pDecimal_some x (by omega) (by omega), Option.bind_some, Int.toNat_natCast, e, pRepeat_zeros _ (by omega) (by omega), Option.bind_some, Int.toNat_natCast, if_pos (by rw [bs_size, bs_size, List.length_replicate]; omega), bs_append, hp2]
end Go.Proofs.YtelajgllidngiaaDoor.Pure
