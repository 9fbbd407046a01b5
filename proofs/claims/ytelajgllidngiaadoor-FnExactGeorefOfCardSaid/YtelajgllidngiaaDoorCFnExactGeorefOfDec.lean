/- Decimal digits: the kit's numerals, padded numerals. No condition. -/
import Derived.Test.YtelajgllidngiaaDoorCFnExactGeorefOfBase
import Derived.Lib.ItoaNum
import Derived.Lib.Repeat
namespace Go.Proofs.YtelajgllidngiaaDoor.Pure
open Go.RowKit Go.Proofs.YtelajgllidngiaaDoorW.PrintWords

/-- The d lowest decimal digits. -/
def dig : Nat → Nat → List UInt8
  | 0, _ => []
  | d + 1, x => dig d (x / 10) ++ [UInt8.ofNat (48 + x % 10)]
theorem dig_zero (d : Nat) : dig d 0 = List.replicate d 48 := by
  induction d with
  | zero => rfl
  | succ d ih =>
    rw [dig, ih, List.replicate_succ']
    rfl
theorem decDigits_small (x : Nat) (h : x < 10) : Lib.decDigits x = [UInt8.ofNat (48 + x)] := by rw [Lib.decDigits, dif_pos h]
theorem decDigits_step (x : Nat) (h : ¬ x < 10) : Lib.decDigits x = Lib.decDigits (x / 10) ++ [UInt8.ofNat (48 + x % 10)] := by rw [Lib.decDigits, dif_neg h]
theorem dec_pad (d : Nat) : ∀ x : Nat, 1 ≤ d → x < 10 ^ d → (Lib.decDigits x).length ≤ d ∧ List.replicate (d - (Lib.decDigits x).length) 48 ++ Lib.decDigits x = dig d x := by
  induction d with
  | zero => intro x h; omega
  | succ d ih =>
    intro x _ h
    by_cases hx : x < 10
    · rw [decDigits_small x hx, dig, show x / 10 = 0 by omega, dig_zero, show x % 10 = x by omega]
      exact ⟨by simp, by simp⟩
    · have hd : 1 ≤ d := by
        rcases d with _ | d
        · simp at h; omega
        · omega
      have hl : x / 10 < 10 ^ d := by rw [Nat.pow_succ] at h; omega
      obtain ⟨h1, h2⟩ := ih (x / 10) hd hl
      rw [decDigits_step x hx, dig, List.length_append, List.length_singleton, ← h2]
      refine ⟨by omega, ?_⟩
      rw [show d + 1 - ((Lib.decDigits (x / 10)).length + 1) = d - (Lib.decDigits (x / 10)).length by omega, List.append_assoc]
theorem repeat_one (c : UInt8) (n : Nat) : Lib.repeatL [c] n = List.replicate n c := by
  induction n with
  | zero => rfl
  | succ n ih => rw [Lib.repeatL, ih, List.replicate_succ]; rfl
/-- Bytes as whole numbers. -/
def nat8 (l : List UInt8) : List Int := l.map fun b => (b.toNat : Int)
theorem strOfNums_nat8 (l : List UInt8) : strOfNums (nat8 l) = ⟨l.toArray⟩ := by
  unfold strOfNums nat8
  congr 2
  rw [List.map_map]
  refine (List.map_congr_left (g := id) fun b _ => ?_).trans (List.map_id l)
  show UInt8.ofNat ((b.toNat : Int)).toNat = b
  rw [Int.toNat_natCast, UInt8.ofNat_toNat]
theorem byte_val (n : Nat) (h : n < 256) : ((UInt8.ofNat n).toNat : Int) = n := by
  have : (UInt8.ofNat n).toNat = n % 256 := UInt8.toNat_ofNat'
  omega
/-- A text out of its bytes. -/
def bs (l : List UInt8) : ByteArray := ⟨l.toArray⟩
theorem bs_size (l : List UInt8) : (bs l).size = l.length := by show l.toArray.size = _; simp
theorem bs_append (a b : List UInt8) : bs a ++ bs b = bs (a ++ b) := by
  apply ByteArray.ext
  rw [ByteArray.data_append]
  simp [bs]
theorem nat8_append (a b : List UInt8) : nat8 (a ++ b) = nat8 a ++ nat8 b := List.map_append
theorem dig_length (d x : Nat) : (dig d x).length = d := by
  induction d generalizing x with
  | zero => rfl
  | succ d ih => rw [dig, List.length_append, ih, List.length_singleton]
theorem dec_length (x : Nat) (h : x < 10 ^ 19) : (Lib.decDigits x).length ≤ 19 := (dec_pad 19 x (by decide) h).1
end Go.Proofs.YtelajgllidngiaaDoor.Pure
