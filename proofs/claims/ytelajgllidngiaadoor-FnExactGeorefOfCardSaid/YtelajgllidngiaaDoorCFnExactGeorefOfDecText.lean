/- A number in decimal, by the reference. No condition. -/
import Derived.Test.YtelajgllidngiaaDoorCFnExactGeorefOfx1
import Derived.Test.YtelajgllidngiaaDoorCFnExactGeorefOfDec
namespace Go.Proofs.YtelajgllidngiaaDoor.Pure
open Go.RowKit Go.Proofs.YtelajgllidngiaaDoor.P Go.Proofs.YtelajgllidngiaaDoorW.PrintWords Go.Proofs.YtelajgllidngiaaDoorW.PrintLast

theorem dec_l0 (x0 : Int) (h0 : 0 ≤ x0) (m : Nat) : ∀ (n : Nat) (acc : List Int), 0 < n → n < 10 ^ m → n ≤ 9223372036854775807 → acc.length + m ≤ 1000 →
    spec_l01Dec.l0 (m + 1) x0 acc n = some (strOfNums (nat8 (Lib.decDigits n) ++ acc)) := by
  induction m with
  | zero => intro n acc h1 h2; omega
  | succ m ih =>
    intro n acc h1 h2 h3 h4
    have e1 : Int.tmod (n : Int) 10 = ((n % 10 : Nat) : Int) := by rw [tmod_pos _ _ (by omega)]; omega
    have e2 : wrap64 (Int.tdiv (n : Int) 10) = ((n / 10 : Nat) : Int) := by rw [tdiv_pos _ _ (by omega), w64 _ (by omega) (by omega)]; omega
    have e3 : wrap64 (48 + ((n % 10 : Nat) : Int)) % 256 = 48 + ((n % 10 : Nat) : Int) := by rw [w64 _ (by omega) (by omega)]; omega
    have e4 : (48 + ((n % 10 : Nat) : Int)) = ((UInt8.ofNat (48 + n % 10)).toNat : Int) := by rw [byte_val _ (by omega)]; omega
    rw [spec_l01Dec.l0, if_neg (by omega), e1, if_neg (by omega), Option.bind_some, e2, e3, if_pos (by rw [List.length_singleton]; omega), e4]
    by_cases hz : n < 10
    · have hz0 : n / 10 = 0 := by omega
      rw [hz0, decDigits_small n hz, show n % 10 = n by omega, spec_l01Dec.l0, if_pos (by omega), if_neg (by simp; omega), if_neg (by omega)]
      rfl
    · rw [ih (n / 10) _ (by omega) (by rw [Nat.pow_succ] at h2; omega) (by omega) (by rw [List.length_append, List.length_singleton]; omega), decDigits_step n hz, nat8_append, List.append_assoc]
      rfl

theorem dec_some (x : Int) (h0 : 0 ≤ x) (h1 : x ≤ 9223372036854775807) (k : Nat) (hk : 20 ≤ k) : spec_l01Dec.f k x = some (bs (Lib.decDigits x.toNat)) := by
  unfold spec_l01Dec.f
  by_cases hz : x = 0
  · subst hz
    refine at_rounds (g := fun k => spec_l01Dec.l0 k 0 [] 0) (fun k => spec_l01Dec.mono_l k _ _ _) (k := 1) (by omega) ?_
    rw [spec_l01Dec.l0, if_pos rfl, if_pos (by rfl), show (0 : Int).toNat = 0 from rfl, decDigits_small 0 (by decide)]
    rfl
  · obtain ⟨n, rfl⟩ := Int.eq_ofNat_of_zero_le h0
    refine at_rounds (g := fun k => spec_l01Dec.l0 k n [] n) (fun k => spec_l01Dec.mono_l k _ _ _) (k := 20) hk ?_
    rw [dec_l0 n h0 19 n [] (by omega) (Nat.lt_of_le_of_lt (show n ≤ 9223372036854775807 by omega) (by decide)) (by omega) (by simp), List.append_nil, strOfNums_nat8]
    rfl
end Go.Proofs.YtelajgllidngiaaDoor.Pure
