/- Every number's decimal form, by the reference and by the program. No condition. -/
import Derived.Test.YthabgkbpghpokaaDoorPDec
namespace Go.Proofs.YthabgkbpghpokaaDoor.Ev
open Go Go.RowKit
set_option linter.unusedSimpArgs false
set_option linter.unusedVariables false
theorem dec_l0n (k : Nat) (x0 : Int) (b0 : ByteArray) (m : Nat) : ∀ (f n : Nat) (acc : List UInt8), 0 < n → n < 10 ^ m → n ≤ 9223372036854775808 → acc.length + m ≤ 1000 →
    ∃ x3 : Int, spec_l01Dec_l0 k (m + 1 + f) x0 b0 (rw8 acc) (-(n : Int)) = some [.i 0, .i x0, .s b0, .l (rw8 (Lib.decDigits n ++ acc)), .i x3] := by
  induction m with
  | zero => intro f n acc h1 h2; omega
  | succ m ih =>
    intro f n acc h1 h2 h3 h4
    have e1 : Int.tmod (-(n : Int)) 10 = -((n % 10 : Nat) : Int) := by rw [Int.neg_tmod, tmod_pos _ _ (by omega)]; omega
    have e2 : IntKind.wrap .i64 (Int.tdiv (-(n : Int)) 10) = -((n / 10 : Nat) : Int) := by rw [Int.neg_tdiv, tdiv_pos _ _ (by omega), wr _ (by omega) (by omega)]; omega
    have e3 : IntKind.wrap .u8 (IntKind.wrap .i64 (48 + ((n % 10 : Nat) : Int))) = ((UInt8.ofNat (48 + n % 10)).toNat : Int) := by rw [wr _ (by omega) (by omega), wr8 _ (by omega) (by omega), byte_val _ (by omega)]; omega
    have e4 : [[D.i ((UInt8.ofNat (48 + n % 10)).toNat : Int)]] ++ rw8 acc = rw8 ([UInt8.ofNat (48 + n % 10)] ++ acc) := rfl
    have e5 : IntKind.wrap .i64 (0 - -((n % 10 : Nat) : Int)) = ((n % 10 : Nat) : Int) := by rw [wr _ (by omega) (by omega)]; omega
    have e6 : (-((n % 10 : Nat) : Int) < 0 ∨ -((n % 10 : Nat) : Int) = ((n % 10 : Nat) : Int)) := by omega
    have stp : spec_l01Dec_l0 k (m + 1 + 1 + f) x0 b0 (rw8 acc) (-(n : Int)) = spec_l01Dec_l0 k (m + 1 + f) x0 b0 (rw8 ([UInt8.ofNat (48 + n % 10)] ++ acc)) (-((n / 10 : Nat) : Int)) := by
      rw [show m + 1 + 1 + f = (m + 1 + f) + 1 by omega, spec_l01Dec_l0]
      dsimp only
      rw [bif_t (bne_t (by omega)), e1, e2]
      rcases e6 with e6 | e6
      · rw [bif_t (ltI_t e6), e5, e3, bif_t (apOk_t (by rw [rw8_length, List.length_singleton]; omega) (by rw [rw8_length, List.length_singleton]; omega)), e4]
      · rw [bif_f (ltI_f (by omega)), e6, e3, bif_t (apOk_t (by rw [rw8_length, List.length_singleton]; omega) (by rw [rw8_length, List.length_singleton]; omega)), e4]
    rw [stp]
    by_cases hz : n < 10
    · have hz0 : n / 10 = 0 := by omega
      rw [hz0, decDigits_small n hz, show n % 10 = n by omega, show m + 1 + f = (m + f) + 1 by omega, spec_l01Dec_l0, bif_f (by rfl)]
      exact ⟨_, rfl⟩
    · obtain ⟨x3, e⟩ := ih f (n / 10) ([UInt8.ofNat (48 + n % 10)] ++ acc) (by omega) (by rw [Nat.pow_succ] at h2; omega) (by omega) (by rw [List.length_append, List.length_singleton]; omega)
      rw [e, decDigits_step n hz, List.append_assoc]
      exact ⟨_, rfl⟩
theorem dec_ne (n : Nat) : 1 ≤ (Lib.decDigits n).length := by
  by_cases h : n < 10
  · rw [decDigits_small n h]; simp
  · rw [decDigits_step n h]; simp
theorem decAll_some (x : Int) (h0 : -9223372036854775808 ≤ x) (h1 : x ≤ 9223372036854775807) (k : Nat) (hk : 20 ≤ k) : spec_l01Dec k x = some [.s (bs (Lib.itoa x))] := by
  by_cases hx : 0 ≤ x
  · obtain ⟨n, rfl⟩ := Int.eq_ofNat_of_zero_le hx
    rw [dec_some n (by omega) k hk]
    unfold Lib.itoa
    rw [if_neg (by omega), Int.toNat_natCast]
  · obtain ⟨n, hn⟩ : ∃ n : Nat, x = -(n : Int) := ⟨(-x).toNat, by omega⟩
    subst hn
    obtain ⟨f, rfl⟩ : ∃ f, k = 19 + 1 + f := ⟨k - 20, by omega⟩
    obtain ⟨x3, e⟩ := dec_l0n (19 + 1 + f) (-(n : Int)) ⟨#[]⟩ 19 f n [] (by omega) (by omega) (by omega) (by simp)
    have hne := dec_ne n
    unfold spec_l01Dec
    rw [show ([] : List (List D)) = rw8 [] from rfl, e, List.append_nil, Option.bind_some]
    simp only [giS, gi0, glS, gl0, rw8_length]
    have hl := dec_length n (by omega)
    rw [bif_f (beq_f (by omega)), bif_t (ltI_t (by omega)), bytesD_rw8, bif_t (leN_t (by rw [bs_size]; show 1 + _ ≤ _; omega))]
    unfold Lib.itoa
    rw [if_pos (by omega), show (-(n : Int)).natAbs = n by omega]
    exact congrArg (fun q => some [D.s q]) (bs_append [45] _)
theorem decimal_some (k : Nat) (x : Int) (h0 : -9223372036854775808 ≤ x) (h1 : x ≤ 9223372036854775807) : impl_Decimal k x = some [.s (bs (Lib.itoa x))] := by
  unfold impl_Decimal fmtInt
  rw [decide_eq_true h0, decide_eq_true h1]
  rfl
theorem itoa_length (x : Int) (h0 : -9223372036854775808 ≤ x) (h1 : x ≤ 9223372036854775807) : (Lib.itoa x).length ≤ 20 := by
  unfold Lib.itoa
  split
  · have := dec_length x.natAbs (by omega)
    simp; omega
  · have := dec_length x.toNat (by omega)
    omega
end Go.Proofs.YthabgkbpghpokaaDoor.Ev
