/- Texts of units, by both. No condition. -/
import Derived.Test.YthabgkbpghpokaaDoorPIn
import Derived.Test.YthabgkbpghpokaaDoorPDecAll
namespace Go.Proofs.YthabgkbpghpokaaDoor.Ev
open Go Go.RowKit
set_option linter.unusedSimpArgs false
set_option linter.unusedVariables false
/-- A number of units of the last of d digits, as a decimal number. -/
def uT (m : Int) (d : Nat) : List UInt8 := (if m < 0 then [45] else []) ++ Lib.decDigits (m.natAbs / 10 ^ d) ++ ([46] ++ dig d (m.natAbs % 10 ^ d))
theorem c45 : (⟨#[45]⟩ : ByteArray) = bs [45] := rfl
theorem c46 : (⟨#[46]⟩ : ByteArray) = bs [46] := rfl
theorem c0 : (⟨#[]⟩ : ByteArray) = bs [] := rfl
theorem c32 : (⟨#[32]⟩ : ByteArray) = bs [32] := rfl
theorem uT_length (m : Int) (d : Nat) (hd : d ≤ 10) (hm : m.natAbs ≤ 9223372036854775807) : (uT m d).length ≤ 40 := by
  have h1 := dec_length (m.natAbs / 10 ^ d) (by have := Nat.div_le_self m.natAbs (10 ^ d); omega)
  unfold uT
  simp only [List.length_append, dig_length, List.length_singleton]
  split <;> simp <;> omega
theorem ipow_l0 (k : Nat) (x0 : Int) (D : Nat) (hD : D ≤ 100) : ∀ (d i n : Nat) (acc : Int), i + d = D → 0 ≤ acc → acc * 10 ^ d ≤ 1000000000000000000 → impl_powerOfTen_l0 k (d + 1 + n) x0 acc D i = some [.i 0, .i x0, .i (acc * 10 ^ d), .i D, .i D]
  | 0, i, n, acc, hi, h0, h1 => by
    obtain rfl : i = D := by omega
    rw [show 0 + 1 + n = n + 1 by omega, impl_powerOfTen_l0, bif_f (ltI_f (by omega))]
    simp
  | d + 1, i, n, acc, hi, h0, h1 => by
    have e : acc * 10 ^ (d + 1) = acc * 10 * 10 ^ d := by rw [Int.pow_succ, Int.mul_comm (10 ^ d) 10, Int.mul_assoc]
    rw [e] at h1 ⊢
    have hp : (1 : Int) ≤ 10 ^ d := by
      have h3 := Int.ofNat_le.2 (Nat.pow_pos (n := d) (show 0 < 10 by decide))
      simpa using h3
    have h2 : acc * 10 * 1 ≤ acc * 10 * 10 ^ d := Int.mul_le_mul_of_nonneg_left hp (by omega)
    rw [show d + 1 + 1 + n = (d + 1 + n) + 1 by omega, impl_powerOfTen_l0, bif_t (ltI_t (by omega)), wr (acc * 10) (by omega) (by omega), wr ((i : Int) + 1) (by omega) (by omega), show (i : Int) + 1 = ((i + 1 : Nat) : Int) by omega]
    exact ipow_l0 k x0 D hD d (i + 1) n (acc * 10) (by omega) (by omega) h1
theorem ipow (k : Nat) (hk : 20 ≤ k) (d : Nat) (hd : d ≤ 18) : impl_powerOfTen k d = some [.i (10 ^ d)] := by
  unfold impl_powerOfTen
  have hb : (1 : Int) * 10 ^ d ≤ 1000000000000000000 := by
    have : (10 : Nat) ^ d ≤ 10 ^ 18 := Nat.pow_le_pow_right (by decide) hd
    have h2 : ((10 ^ d : Nat) : Int) ≤ ((10 ^ 18 : Nat) : Int) := Int.ofNat_le.2 this
    simp only [Int.natCast_pow] at h2
    rw [Int.one_mul]; exact h2
  have := ipow_l0 k 0 d (by omega) d 0 (k - (d + 1)) 1 (by omega) (by decide) hb
  rw [show d + 1 + (k - (d + 1)) = k by omega] at this
  have h3 : impl_powerOfTen_l0 k k 0 1 d 0 = _ := this
  rw [h3, Option.bind_some]
  simp only [giS, gi0, Int.one_mul]
theorem abs_cases (m : Int) (h : -9223372036854775807 ≤ m ∧ m ≤ 9223372036854775807) : ∃ M : Nat, M ≤ 9223372036854775807 ∧ ((m = -(M : Int) ∧ 0 < M) ∨ m = M) := by
  by_cases h0 : m < 0
  · exact ⟨(-m).toNat, by omega, .inl ⟨by omega, by omega⟩⟩
  · exact ⟨m.toNat, by omega, .inr (by omega)⟩
theorem uT_neg (M d : Nat) (h : 0 < M) : uT (-(M : Int)) d = [45] ++ Lib.decDigits (M / 10 ^ d) ++ ([46] ++ dig d (M % 10 ^ d)) := by
  unfold uT
  rw [if_pos (by omega), Int.natAbs_neg, Int.natAbs_natCast]
theorem uT_pos (M d : Nat) : uT (M : Int) d = [] ++ Lib.decDigits (M / 10 ^ d) ++ ([46] ++ dig d (M % 10 ^ d)) := by
  unfold uT
  rw [if_neg (by omega), Int.natAbs_natCast]
theorem digits_tail (k : Nat) (d : Nat) (hd1 : 1 ≤ d) (hd : d ≤ 10) (x : Nat) (hx : x < 10 ^ d) (pre : List UInt8) (hp : pre.length ≤ 60) :
    ((impl_Decimal k (x : Int)).bind fun t5 => (bif (leN ((bs pre).size + (⟨#[46]⟩ : ByteArray).size) 140737488355328) then (repA (⟨#[48]⟩ : ByteArray) (IntKind.wrap .i64 ((d : Int) - ((ByteArray.size (gs t5 0) : Nat) : Int)))).bind fun t8 => (bif (leN (((bs pre) ++ (⟨#[46]⟩ : ByteArray)).size + (gs t8 0).size) 140737488355328) then (bif (leN ((((bs pre) ++ (⟨#[46]⟩ : ByteArray)) ++ (gs t8 0)).size + (gs t5 0).size) 140737488355328) then some [D.s ((((bs pre) ++ (⟨#[46]⟩ : ByteArray)) ++ (gs t8 0)) ++ (gs t5 0))] else none) else none) else none)) = some [.s (bs (pre ++ ([46] ++ dig d x)))] := by
  obtain ⟨hp1, hp2⟩ := dec_pad d x hd1 hx
  have hx10 : x < 10 ^ 10 := Nat.lt_of_lt_of_le hx (Nat.pow_le_pow_right (by decide) hd)
  have hdc : impl_Decimal k (x : Int) = some [.s (bs (Lib.decDigits x))] := by
    unfold impl_Decimal
    rw [fmt_some x (by omega)]; rfl
  rw [hdc, Option.bind_some]
  simp only [gs0]
  rw [c46, bif_t (leN_t (by rw [bs_size, bs_size, List.length_singleton]; omega)), bs_size, wr _ (by omega) (by omega), show (d : Int) - ((Lib.decDigits x).length : Int) = ((d - (Lib.decDigits x).length : Nat) : Int) by omega, rep_zeros _ (by omega), Option.bind_some]
  simp only [gs0, bs_append]
  rw [bif_t (leN_t (by simp only [bs_size, List.length_append, List.length_singleton, List.length_replicate]; omega)), bif_t (leN_t (by simp only [bs_size, List.length_append, List.length_singleton, List.length_replicate]; omega)), List.append_assoc, List.append_assoc, hp2]
theorem digits_some (k : Nat) (hk : 30 ≤ k) (d : Nat) (hd1 : 1 ≤ d) (hd : d ≤ 9) (m : Int) (h : -9223372036854775807 ≤ m ∧ m ≤ 9223372036854775807) : impl_digitsText k m d = some [.s (bs (uT m d))] := by
  have hP : (0 : Nat) < 10 ^ d := Nat.pow_pos (by decide)
  have hPi : ((10 : Int) ^ d) = ((10 ^ d : Nat) : Int) := by simp
  have hPb : (10 : Nat) ^ d ≤ 10 ^ 9 := Nat.pow_le_pow_right (by decide) hd
  obtain ⟨M, hM, ⟨rfl, h0⟩ | rfl⟩ := abs_cases m h
  · have hq : M / 10 ^ d ≤ M := Nat.div_le_self ..
    have hr : M % 10 ^ d < 10 ^ d := Nat.mod_lt _ hP
    have hl := dec_length (M / 10 ^ d) (by omega)
    have e1 : (M : Int) / ((10 ^ d : Nat) : Int) = ((M / 10 ^ d : Nat) : Int) := (Int.natCast_ediv M (10 ^ d)).symm
    have e2 : (M : Int) % ((10 ^ d : Nat) : Int) = ((M % 10 ^ d : Nat) : Int) := (Int.natCast_emod M (10 ^ d)).symm
    rw [uT_neg M d h0]
    generalize M / 10 ^ d = Q at hq hl e1 ⊢
    generalize M % 10 ^ d = R at hr e2 ⊢
    unfold impl_digitsText
    rw [bif_t (ltI_t (by omega)), ipow k (by omega) d (by omega), Option.bind_some]
    simp only [gi0, hPi]
    rw [bif_f (eqI_f (by omega)), wr (0 - -(M : Int)) (by omega) (by omega), show (0 - -(M : Int)) = (M : Int) by omega, tdiv_pos _ _ (by omega), tmod_pos _ _ (by omega), e1, wr _ (by omega) (by omega), e2]
    have hdc : impl_Decimal k (Q : Int) = some [.s (bs (Lib.decDigits Q))] := by
      unfold impl_Decimal
      rw [fmt_some _ (by omega)]; rfl
    try dsimp only
    rw [hdc, Option.bind_some]
    simp only [gs0]
    rw [c45, bif_t (leN_t (by rw [bs_size, bs_size, List.length_singleton]; omega)), bif_f (beq_f (by omega)), bif_f (eqI_f (by omega)), bs_append]
    exact digits_tail k d hd1 (by omega) _ hr _ (by rw [List.length_append, List.length_singleton]; omega)
  · have hq : M / 10 ^ d ≤ M := Nat.div_le_self ..
    have hr : M % 10 ^ d < 10 ^ d := Nat.mod_lt _ hP
    have hl := dec_length (M / 10 ^ d) (by omega)
    have e1 : (M : Int) / ((10 ^ d : Nat) : Int) = ((M / 10 ^ d : Nat) : Int) := (Int.natCast_ediv M (10 ^ d)).symm
    have e2 : (M : Int) % ((10 ^ d : Nat) : Int) = ((M % 10 ^ d : Nat) : Int) := (Int.natCast_emod M (10 ^ d)).symm
    rw [uT_pos M d]
    generalize M / 10 ^ d = Q at hq hl e1 ⊢
    generalize M % 10 ^ d = R at hr e2 ⊢
    unfold impl_digitsText
    rw [bif_f (ltI_f (by omega)), ipow k (by omega) d (by omega), Option.bind_some]
    simp only [gi0, hPi]
    rw [bif_f (eqI_f (by omega)), tdiv_pos _ _ (by omega), tmod_pos _ _ (by omega), e1, wr _ (by omega) (by omega), e2]
    have hdc : impl_Decimal k (Q : Int) = some [.s (bs (Lib.decDigits Q))] := by
      unfold impl_Decimal
      rw [fmt_some _ (by omega)]; rfl
    try dsimp only
    rw [hdc, Option.bind_some]
    simp only [gs0]
    rw [c0, bif_t (leN_t (by rw [bs_size, bs_size, List.length_nil]; omega)), bif_f (beq_f (by omega)), bif_f (eqI_f (by omega)), bs_append]
    exact digits_tail k d hd1 (by omega) _ hr _ (by rw [List.length_append, List.length_nil]; omega)
theorem ldig_l0 (k : Nat) (b0 : ByteArray) : ∀ (d n f : Nat) (acc : List UInt8), d ≤ 20 → n ≤ 9223372036854775807 → acc.length + d ≤ 100 → spec_l11Digits_l0 k (d + 1 + f) n d b0 (bs acc) = some [.i 0, .i ((n / 10 ^ d : Nat) : Int), .i 0, .s b0, .s (bs (dig d n ++ acc))]
  | 0, n, f, acc, hd, hn, ha => by
    rw [show 0 + 1 + f = f + 1 by omega, spec_l11Digits_l0, bif_f (ltI_f (by omega))]
    simp [dig]
  | d + 1, n, f, acc, hd, hn, ha => by
    have e3 : IntKind.wrap .u8 (IntKind.wrap .i64 (48 + ((n % 10 : Nat) : Int))) = ((UInt8.ofNat (48 + n % 10)).toNat : Int) := by rw [wr _ (by omega) (by omega), wr8 _ (by omega) (by omega), byte_val _ (by omega)]; omega
    have e4 : bytesD [[D.i ((UInt8.ofNat (48 + n % 10)).toNat : Int)]] = bs [UInt8.ofNat (48 + n % 10)] := bytesD_rw8 [UInt8.ofNat (48 + n % 10)]
    rw [show d + 1 + 1 + f = (d + 1 + f) + 1 by omega, spec_l11Digits_l0, bif_t (ltI_t (by omega)), tmod_pos _ _ (by omega), tdiv_pos _ _ (by omega), show (n : Int) % 10 = ((n % 10 : Nat) : Int) by omega, show (n : Int) / 10 = ((n / 10 : Nat) : Int) by omega]
    try dsimp only
    rw [e3, e4, bif_t (leN_t (by rw [bs_size, bs_size, List.length_singleton]; omega)), wr _ (by omega) (by omega), wr _ (by omega) (by omega), show ((d + 1 : Nat) : Int) - 1 = (d : Int) by omega, bs_append]
    rw [ldig_l0 k b0 d (n / 10) f _ (by omega) (by omega) (by rw [List.length_append, List.length_singleton]; omega), dig, List.append_assoc, Nat.div_div_eq_div_mul, Nat.pow_succ', Nat.mul_comm]
theorem ldig_some (k : Nat) (hk : 30 ≤ k) (n : Nat) (hn : n ≤ 9223372036854775807) : spec_l11Digits k n 7 = some [.s (bs (dig 7 n))] := by
  unfold spec_l11Digits
  have := ldig_l0 k (⟨#[]⟩ : ByteArray) 7 n (k - 8) [] (by decide) hn (by decide)
  rw [show 7 + 1 + (k - 8) = k by omega, List.append_nil] at this
  have h3 : spec_l11Digits_l0 k k n 7 (⟨#[]⟩ : ByteArray) (⟨#[]⟩ : ByteArray) = _ := this
  rw [h3, Option.bind_some]
  simp only [gsS, gs0]
theorem ltext_some (k : Nat) (hk : 30 ≤ k) (m : Int) (h : -9223372036854775807 ≤ m ∧ m ≤ 9223372036854775807) : spec_l11Text k m = some [.s (bs (uT m 7))] := by
  obtain ⟨M, hM, ⟨rfl, h0⟩ | rfl⟩ := abs_cases m h
  · have hl := dec_length (M / 10000000) (by omega)
    rw [uT_neg M 7 h0]
    unfold spec_l11Text
    rw [bif_t (ltI_t (by omega)), wr (0 - -(M : Int)) (by omega) (by omega), show (0 - -(M : Int)) = (M : Int) by omega, tdiv_pos _ _ (by omega), tmod_pos _ _ (by omega), show (M : Int) / 10000000 = ((M / 10000000 : Nat) : Int) by omega, wr _ (by omega) (by omega), show (M : Int) % 10000000 = ((M % 10000000 : Nat) : Int) by omega]
    try dsimp only
    rw [dec_some (M / 10000000) (by omega) k (by omega), Option.bind_some]
    simp only [gs0, c45, c46, bs_append]
    rw [bif_t (leN_t (by rw [bs_size, bs_size, List.length_singleton]; omega)), bif_t (leN_t (by rw [bs_size, bs_size, List.length_append, List.length_singleton, List.length_singleton]; omega)), ldig_some k hk _ (by omega), Option.bind_some]
    simp only [gs0, bs_append]
    rw [bif_t (leN_t (by rw [bs_size, bs_size]; simp only [List.length_append, List.length_singleton, dig_length]; omega)), List.append_assoc]
  · have hl := dec_length (M / 10000000) (by omega)
    rw [uT_pos M 7]
    unfold spec_l11Text
    rw [bif_f (ltI_f (by omega)), tdiv_pos _ _ (by omega), tmod_pos _ _ (by omega), show (M : Int) / 10000000 = ((M / 10000000 : Nat) : Int) by omega, wr _ (by omega) (by omega), show (M : Int) % 10000000 = ((M % 10000000 : Nat) : Int) by omega]
    try dsimp only
    rw [dec_some (M / 10000000) (by omega) k (by omega), Option.bind_some]
    simp only [gs0, c0, c46, bs_append]
    rw [bif_t (leN_t (by rw [bs_size, bs_size, List.length_nil]; omega)), bif_t (leN_t (by rw [bs_size, bs_size, List.length_append, List.length_nil, List.length_singleton]; omega)), ldig_some k hk _ (by omega), Option.bind_some]
    simp only [gs0, bs_append]
    rw [bif_t (leN_t (by rw [bs_size, bs_size]; simp only [List.length_append, List.length_singleton, List.length_nil, dig_length]; omega)), List.append_assoc]
end Go.Proofs.YthabgkbpghpokaaDoor.Ev
