/- Numbers with leading zeros, by both. No condition. -/
import Derived.Test.YtpanhndkcnojpaaDoorPDec
namespace Go.Proofs.YtpanhndkcnojpaaDoor.Ev
open Go Go.RowKit
set_option linter.unusedSimpArgs false
set_option linter.unusedVariables false
theorem implPad_some (k x : Nat) (d : Nat) (h1 : 1 ≤ d) (hd : d ≤ 10) (h : x < 10 ^ d) : impl_padded k x d = some [.s (bs (dig d x))] := by
  obtain ⟨hp1, hp2⟩ := dec_pad d x h1 h
  have hx : x < 10 ^ 10 := Nat.lt_of_lt_of_le h (Nat.pow_le_pow_right (by decide) hd)
  have e : ∀ (y : Int), y = (d : Int) - (((Lib.decDigits x).length : Nat) : Int) → mxI y 0 = ((d - (Lib.decDigits x).length : Nat) : Int) := by
    intro y hy
    unfold mxI
    split <;> omega
  have e0 : IntKind.wrap .i64 ((d : Int) - ((bs (Lib.decDigits x)).size : Int)) = (d : Int) - (((Lib.decDigits x).length : Nat) : Int) := by rw [bs_size, wr _ (by omega) (by omega)]
  unfold impl_padded impl_Decimal
  rw [fmt_some x (by omega), Option.bind_some, Option.bind_some]
  simp only [gs0]
  rw [e _ e0, rep_zeros _ (by omega), Option.bind_some]
  simp only [gs0]
  rw [bif_t (leN_t (by rw [bs_size, bs_size, List.length_replicate]; omega)), bs_append, hp2]
end Go.Proofs.YtpanhndkcnojpaaDoor.Ev
