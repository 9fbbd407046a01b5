/- Decimal digits: the reference's numerals, the library's numerals, padded numerals. No condition. -/
import Derived.Test.YtpanhndkcnojpaaDoorFnReferencesF
import Derived.Test.YtpanhndkcnojpaaDoorPBase
import Derived.Lib.ItoaNum
import Derived.Lib.Repeat
namespace Go.Proofs.YtpanhndkcnojpaaDoor.Ev
open Go Go.RowKit
set_option linter.unusedSimpArgs false
set_option linter.unusedVariables false
theorem tdiv_pos (a b : Int) (h : 0 ≤ a) : Int.tdiv a b = a / b := Int.tdiv_eq_ediv_of_nonneg h
theorem tmod_pos (a b : Int) (h : 0 ≤ a) : Int.tmod a b = a % b := Int.tmod_eq_emod_of_nonneg h
/-- The d lowest decimal digits. -/
def dig : Nat → Nat → List UInt8
  | 0, _ => []
  | d + 1, x => dig d (x / 10) ++ [UInt8.ofNat (48 + x % 10)]
theorem dig_zero (d : Nat) : dig d 0 = List.replicate d 48 := by
  induction d with
  | zero => rfl
  | succ d ih =>
    rw [dig, ih, List.replicate_succ']
    rfl
theorem decDigits_small (x : Nat) (h : x < 10) : Lib.decDigits x = [UInt8.ofNat (48 + x)] := by rw [Lib.decDigits, dif_pos h]
theorem decDigits_step (x : Nat) (h : ¬ x < 10) : Lib.decDigits x = Lib.decDigits (x / 10) ++ [UInt8.ofNat (48 + x % 10)] := by rw [Lib.decDigits, dif_neg h]
theorem dec_pad (d : Nat) : ∀ x : Nat, 1 ≤ d → x < 10 ^ d → (Lib.decDigits x).length ≤ d ∧ List.replicate (d - (Lib.decDigits x).length) 48 ++ Lib.decDigits x = dig d x := by
  induction d with
  | zero => intro x h; omega
  | succ d ih =>
    intro x _ h
    by_cases hx : x < 10
    · rw [decDigits_small x hx, dig, show x / 10 = 0 by omega, dig_zero, show x % 10 = x by omega]
      exact ⟨by simp, by simp⟩
    · have hd : 1 ≤ d := by
        rcases d with _ | d
        · simp at h; omega
        · omega
      have hl : x / 10 < 10 ^ d := by rw [Nat.pow_succ] at h; omega
      obtain ⟨h1, h2⟩ := ih (x / 10) hd hl
      rw [decDigits_step x hx, dig, List.length_append, List.length_singleton, ← h2]
      refine ⟨by omega, ?_⟩
      rw [show d + 1 - ((Lib.decDigits (x / 10)).length + 1) = d - (Lib.decDigits (x / 10)).length by omega, List.append_assoc]
theorem repeat_one (c : UInt8) (n : Nat) : Lib.repeatL [c] n = List.replicate n c := by
  induction n with
  | zero => rfl
  | succ n ih => rw [Lib.repeatL, ih, List.replicate_succ]; rfl
/-- A text out of its bytes. -/
def bs (l : List UInt8) : ByteArray := ⟨l.toArray⟩
theorem bs_size (l : List UInt8) : (bs l).size = l.length := by show l.toArray.size = _; simp
theorem bs_append (a b : List UInt8) : bs a ++ bs b = bs (a ++ b) := by
  apply ByteArray.ext
  rw [ByteArray.data_append]
  simp [bs]
theorem dig_length (d x : Nat) : (dig d x).length = d := by
  induction d generalizing x with
  | zero => rfl
  | succ d ih => rw [dig, List.length_append, ih, List.length_singleton]
theorem dec_length (x : Nat) (h : x < 10 ^ 19) : (Lib.decDigits x).length ≤ 19 := (dec_pad 19 x (by decide) h).1
/-- Bytes as rows. -/
def rw8 (l : List UInt8) : List (List D) := l.map fun b => [.i (b.toNat : Int)]
theorem rw8_append (a b : List UInt8) : rw8 (a ++ b) = rw8 a ++ rw8 b := List.map_append
theorem rw8_length (l : List UInt8) : (rw8 l).length = l.length := List.length_map ..
theorem bytesD_rw8 (l : List UInt8) : bytesD (rw8 l) = bs l := by
  unfold bytesD rw8 bs
  congr 2
  rw [List.map_map]
  refine (List.map_congr_left (g := id) fun b _ => ?_).trans (List.map_id l)
  show UInt8.ofNat ((b.toNat : Int)).toNat = b
  rw [Int.toNat_natCast, UInt8.ofNat_toNat]
theorem byte_val (n : Nat) (h : n < 256) : ((UInt8.ofNat n).toNat : Int) = n := by
  have : (UInt8.ofNat n).toNat = n % 256 := UInt8.toNat_ofNat'
  omega
theorem wr8 (n : Int) (h0 : 0 ≤ n) (h1 : n ≤ 255) : IntKind.wrap .u8 n = n := by rw [IntKind.wrap_u8]; omega
theorem fmt_some (x : Nat) (h1 : x ≤ 9223372036854775807) : fmtInt x 10 = some [.s (bs (Lib.decDigits x))] := by
  unfold fmtInt
  rw [bif_t (by simp; omega)]
  unfold Lib.itoa
  rw [if_neg (by omega), Int.toNat_natCast]
  rfl
theorem lit48 : (⟨#[48]⟩ : ByteArray) = bs [48] := rfl
theorem rep_zeros (n : Nat) (h1 : n ≤ 1000) : repA ⟨#[48]⟩ n = some [.s (bs (List.replicate n 48))] := by
  unfold repA
  have e : (⟨#[48]⟩ : ByteArray).size = 1 := rfl
  rw [bif_t (by rw [e]; simp; omega), Int.toNat_natCast, show (⟨#[48]⟩ : ByteArray).data.toList = [48] from rfl, repeat_one]
  rfl
end Go.Proofs.YtpanhndkcnojpaaDoor.Ev
