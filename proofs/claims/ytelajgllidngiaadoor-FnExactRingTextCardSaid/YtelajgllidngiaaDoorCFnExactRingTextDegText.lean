/- Degrees with seven decimals, by both. No condition. -/
import Derived.Test.YtelajgllidngiaaDoorCFnExactRingTextx3
import Derived.Test.YtelajgllidngiaaDoorCFnExactRingTextx4
import Derived.Test.YtelajgllidngiaaDoorCFnExactRingTextx5
import Derived.Test.YtelajgllidngiaaDoorCFnExactRingTextDecText
namespace Go.Proofs.YtelajgllidngiaaDoor.Pure
open Go.RowKit Go.Proofs.YtelajgllidngiaaDoor.P Go.Proofs.YtelajgllidngiaaDoorW.PrintWords Go.Proofs.YtelajgllidngiaaDoorW.PrintLast

theorem digits_l0 (d : Nat) : ∀ (x : Nat) (s : ByteArray), x ≤ 9223372036854775807 → s.size + d ≤ 1000 → spec_l11Digits.l0 (d + 1) x d s = some (bs (dig d x) ++ s) := by
  induction d with
  | zero =>
    intro x s _ _
    rw [spec_l11Digits.l0, if_neg (by omega)]
    congr 1
  | succ d ih =>
    intro x s hx hs
    have e1 : Int.tmod (x : Int) 10 = ((x % 10 : Nat) : Int) := by rw [tmod_pos _ _ (by omega)]; omega
    have e2 : wrap64 (Int.tdiv (x : Int) 10) = ((x / 10 : Nat) : Int) := by rw [tdiv_pos _ _ (by omega), w64 _ (by omega) (by omega)]; omega
    have e3 : wrap64 (48 + ((x % 10 : Nat) : Int)) % 256 = 48 + ((x % 10 : Nat) : Int) := by rw [w64 _ (by omega) (by omega)]; omega
    have e4 : strOfNums [48 + ((x % 10 : Nat) : Int)] = bs [UInt8.ofNat (48 + x % 10)] := by
      rw [show [48 + ((x % 10 : Nat) : Int)] = nat8 [UInt8.ofNat (48 + x % 10)] by unfold nat8; rw [List.map_singleton, byte_val _ (by omega)]; congr 1, strOfNums_nat8]; rfl
    have e5 : (bs [UInt8.ofNat (48 + x % 10)]).size = 1 := rfl
    rw [spec_l11Digits.l0, if_pos (by omega), e1, Option.bind_some, e2, e3, e4, if_pos (by rw [e5]; omega), w64 _ (by omega) (by omega), show ((d + 1 : Nat) : Int) - 1 = (d : Int) by omega,
      ih (x / 10) _ (by omega) (by rw [ByteArray.size_append, e5]; omega), dig, ← bs_append, ByteArray.append_assoc]

theorem digits_some (x : Int) (h0 : 0 ≤ x) (h1 : x ≤ 9223372036854775807) (k : Nat) (hk : 8 ≤ k) : spec_l11Digits.f k x 7 = some (bs (dig 7 x.toNat)) := by
  obtain ⟨n, rfl⟩ := Int.eq_ofNat_of_zero_le h0
  have h := digits_l0 7 n ⟨#[]⟩ (by omega) (by decide)
  have e : bs (dig 7 n) ++ (⟨#[]⟩ : ByteArray) = bs (dig 7 n) := by
    apply ByteArray.ext
    rw [ByteArray.data_append]
    simp
  rw [e] at h
  exact at_rounds (g := fun k => spec_l11Digits.f k n 7) (fun k => spec_l11Digits.mono _ _ k) (k := 8) hk h

/-- An angle's text. -/
def degL (n : Int) : List UInt8 := (if n < 0 then [45] else []) ++ Lib.decDigits (n.natAbs / 10000000) ++ [46] ++ dig 7 (n.natAbs % 10000000)
theorem degL_length (n : Int) (h : -1800000000 ≤ n ∧ n ≤ 1800000000) : (degL n).length ≤ 30 := by
  unfold degL
  have h1 := dec_length (n.natAbs / 10000000) (by omega)
  have h2 := dig_length 7 (n.natAbs % 10000000)
  simp only [List.length_append]
  have h3 : (if n < 0 then [(45 : UInt8)] else []).length ≤ 1 := by split <;> simp
  have h4 : ([46] : List UInt8).length = 1 := rfl
  omega

theorem lit45 : (⟨#[45]⟩ : ByteArray) = bs [45] := rfl
theorem lit46 : (⟨#[46]⟩ : ByteArray) = bs [46] := rfl
theorem lit0 : (⟨#[]⟩ : ByteArray) = bs [] := rfl

theorem text_some (n : Int) (h : -1800000000 ≤ n ∧ n ≤ 1800000000) (k : Nat) (hk : 20 ≤ k) : spec_l11Text.f k n = some (bs (degL n)) := by
  unfold spec_l11Text.f degL
  have hl := dec_length (n.natAbs / 10000000) (by omega)
  have hd := dig_length 7 (n.natAbs % 10000000)
  by_cases hn : n < 0
  · have e1 : wrap64 (-n) = -n := w64 _ (by omega) (by omega)
    have e2 : wrap64 (Int.tdiv (-n) 10000000) = ((n.natAbs / 10000000 : Nat) : Int) := by rw [tdiv_pos _ _ (by omega), w64 _ (by omega) (by omega)]; omega
    have e3 : Int.tmod (-n) 10000000 = ((n.natAbs % 10000000 : Nat) : Int) := by rw [tmod_pos _ _ (by omega)]; omega
    rw [if_pos hn, if_pos hn, e1, e2, e3, dec_some _ (by omega) (by omega) k hk, digits_some _ (by omega) (by omega) k (by omega)]
    simp only [Option.bind_some, Int.toNat_natCast, lit45, lit46, bs_append]
    rw [if_pos (by rw [bs_size]; omega), if_pos (by rw [bs_size, List.length_append]; simp; omega), if_pos (by rw [bs_size, bs_size, List.length_append, List.length_append, hd]; simp; omega)]
  · have e2 : wrap64 (Int.tdiv n 10000000) = ((n.natAbs / 10000000 : Nat) : Int) := by rw [tdiv_pos _ _ (by omega), w64 _ (by omega) (by omega)]; omega
    have e3 : Int.tmod n 10000000 = ((n.natAbs % 10000000 : Nat) : Int) := by rw [tmod_pos _ _ (by omega)]; omega
    rw [if_neg hn, if_neg hn, e2, e3, dec_some _ (by omega) (by omega) k hk, digits_some _ (by omega) (by omega) k (by omega)]
    simp only [Option.bind_some, Int.toNat_natCast, lit0, lit46, bs_append]
    rw [if_pos (by rw [bs_size]; omega), if_pos (by rw [bs_size, List.length_append]; simp; omega), if_pos (by rw [bs_size, bs_size, List.length_append, List.length_append, hd]; simp; omega)]

theorem decimal_some (x : Int) (h0 : 0 ≤ x) (h1 : x ≤ 9223372036854775807) : impl_Decimal.f x = some (bs (Lib.decDigits x.toNat)) := by
  unfold impl_Decimal.f strconv_FormatInt.f
  rw [if_pos ⟨by omega, h1, rfl⟩, Option.bind_some]
  unfold Lib.itoa
  rw [if_neg (by omega)]
  rfl
theorem power7 (k : Nat) (hk : 8 ≤ k) : impl_powerOfTen.f k 7 = some 10000000 :=
  at_rounds (g := fun k => impl_powerOfTen.f k 7) (fun k => impl_powerOfTen.mono _ k) (k := 8) hk (by decide +kernel)
theorem repeat_zeros (n : Int) (h0 : 0 ≤ n) (h1 : n ≤ 1000) : strings_Repeat.f ⟨#[48]⟩ n = some (bs (List.replicate n.toNat 48)) := by
  unfold strings_Repeat.f
  have e : (⟨#[48]⟩ : ByteArray).size = 1 := rfl
  rw [if_pos ⟨h0, by omega, by rw [e]; omega⟩, show (⟨#[48]⟩ : ByteArray).data.toList = [48] from rfl, repeat_one]
  rfl

theorem digitsText_j0 (n : Nat) (h : n ≤ 1800000000) (s : List UInt8) (hs : s.length ≤ 1) (k : Nat) (hk : 8 ≤ k) : impl_digitsText.j0 (k + 1) n 7 (bs s) = some (bs (s ++ Lib.decDigits (n / 10000000) ++ [46] ++ dig 7 (n % 10000000))) := by
  have hl := dec_length (n / 10000000) (by omega)
  obtain ⟨hp1, hp2⟩ := dec_pad 7 (n % 10000000) (by decide) (by omega)
  have e2 : wrap64 (Int.tdiv (n : Int) 10000000) = ((n / 10000000 : Nat) : Int) := by rw [tdiv_pos _ _ (by omega), w64 _ (by omega) (by omega)]; omega
  have e3 : Int.tmod (n : Int) 10000000 = ((n % 10000000 : Nat) : Int) := by rw [tmod_pos _ _ (by omega)]; omega
  have e4 : wrap64 (7 - ((bs (Lib.decDigits (n % 10000000))).size : Int)) = ((7 - (Lib.decDigits (n % 10000000)).length : Nat) : Int) := by rw [bs_size, w64 _ (by omega) (by omega)]; omega
  rw [impl_digitsText.j0, power7 k hk, Option.bind_some, if_neg (by decide), e2, e3, decimal_some _ (by omega) (by omega), decimal_some _ (by omega) (by omega)]
  simp only [Option.bind_some, Int.toNat_natCast]
  rw [e4, repeat_zeros _ (by omega) (by omega), if_pos (by rw [bs_size, bs_size]; omega), if_neg (by decide)]
  simp only [Option.bind_some, Int.toNat_natCast, lit46, bs_append]
  rw [if_pos (by rw [bs_size, List.length_append]; omega)]
  rw [if_pos (by simp only [bs_size, List.length_append, List.length_replicate, List.length_singleton]; omega), if_pos (by simp only [bs_size, List.length_append, List.length_replicate, List.length_singleton]; omega), List.append_assoc _ (List.replicate _ _), hp2]

theorem degrees_some (n : Int) (h : -1800000000 ≤ n ∧ n ≤ 1800000000) (k : Nat) (hk : 20 ≤ k) : impl_degreesText.f k n = some (bs (degL n)) := by
  obtain ⟨k, rfl⟩ : ∃ m, k = m + 1 := ⟨k - 1, by omega⟩
  unfold impl_degreesText.f impl_digitsText.f degL
  by_cases hn : n < 0
  · have e1 : wrap64 (-n) = ((n.natAbs : Nat) : Int) := by rw [w64 _ (by omega) (by omega)]; omega
    rw [if_pos hn, if_pos hn, e1, lit45, digitsText_j0 n.natAbs (by omega) [45] (by decide) k (by omega)]
    rfl
  · have h3 := digitsText_j0 n.natAbs (by omega) [] (by decide) k (by omega)
    rw [show ((n.natAbs : Nat) : Int) = n by omega] at h3
    rw [if_neg hn, if_neg hn, lit0, h3]
    rfl
end Go.Proofs.YtelajgllidngiaaDoor.Pure
