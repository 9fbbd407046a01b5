/- The texts of ellipsoids and projections, by both. No condition. -/
import Derived.Test.YthafgljgccebiaaDoorPVal
import Derived.Test.YthafgljgccebiaaDoorPDecAll
namespace Go.Proofs.YthafgljgccebiaaDoor.Ev
open Go Go.RowKit
set_option linter.unusedSimpArgs false
set_option linter.unusedVariables false
/-- A whole number that an int64 holds. -/
def I64 (x : Int) : Prop := -9223372036854775808 ≤ x ∧ x ≤ 9223372036854775807
theorem sp32 : (⟨#[32]⟩ : ByteArray) = bs [32] := rfl
theorem sl47 : (⟨#[47]⟩ : ByteArray) = bs [47] := rfl
theorem ellText_some (k : Nat) (hk : 20 ≤ k) (a n d : Int) (ha : I64 a) (hn : I64 n) (hd : I64 d) : ∃ t, t.length ≤ 100 ∧ spec_l12Text k a n d = some [.s (bs t)] ∧ impl_ellipsoidText k a n d = some [.s (bs t)] := by
  have la := itoa_length a ha.1 ha.2
  have ln := itoa_length n hn.1 hn.2
  have ld := itoa_length d hd.1 hd.2
  refine ⟨Lib.itoa a ++ [32] ++ Lib.itoa n ++ [47] ++ Lib.itoa d, by simp only [List.length_append, List.length_singleton]; omega, ?_, ?_⟩
  · unfold spec_l12Text
    simp only [decAll_some _ ha.1 ha.2 k hk, decAll_some _ hn.1 hn.2 k hk, decAll_some _ hd.1 hd.2 k hk, Option.bind_some, gs0, sp32, sl47, bs_append]
    rw [bif_t (leN_t (by simp only [bs_size, List.length_append, List.length_singleton]; omega)), bif_t (leN_t (by simp only [bs_size, List.length_append, List.length_singleton]; omega)), bif_t (leN_t (by simp only [bs_size, List.length_append, List.length_singleton]; omega)), bif_t (leN_t (by simp only [bs_size, List.length_append, List.length_singleton]; omega))]
  · unfold impl_ellipsoidText
    simp only [decimal_some k _ ha.1 ha.2, decimal_some k _ hn.1 hn.2, decimal_some k _ hd.1 hd.2, Option.bind_some, gs0, sp32, sl47, bs_append]
    rw [bif_t (leN_t (by simp only [bs_size, List.length_append, List.length_singleton]; omega)), bif_t (leN_t (by simp only [bs_size, List.length_append, List.length_singleton]; omega)), bif_t (leN_t (by simp only [bs_size, List.length_append, List.length_singleton]; omega)), bif_t (leN_t (by simp only [bs_size, List.length_append, List.length_singleton]; omega))]
theorem joinA_some (l : List (List D)) (s : ByteArray) (h : (joinL l s).length ≤ 1000000) (hl : l.length ≤ 1000) : joinA l s = some [.s (bs (joinL l s))] := by
  unfold joinA
  rw [bif_t]
  · rfl
  · rw [leN_t (by omega), leN_t (by omega)]; rfl
def pnames : List ByteArray := [⟨#[]⟩, ⟨#[112, 108, 97, 116, 101]⟩, ⟨#[109, 101, 114, 99, 97, 116, 111, 114]⟩, ⟨#[99, 121, 108, 105, 110, 100, 101, 114]⟩, ⟨#[109, 105, 108, 108, 101, 114]⟩, ⟨#[103, 110, 111, 109, 111, 110, 105, 99]⟩, ⟨#[115, 116, 101, 114, 101, 111]⟩, ⟨#[111, 114, 116, 104, 111]⟩, ⟨#[97, 122, 105, 109, 117, 116, 104]⟩, ⟨#[122, 101, 110, 105, 116, 104]⟩, ⟨#[97, 108, 98, 101, 114, 115]⟩, ⟨#[108, 97, 109, 98, 101, 114, 116]⟩, ⟨#[99, 111, 110, 105, 99]⟩, ⟨#[115, 105, 110, 117, 115]⟩, ⟨#[109, 111, 108, 108, 119, 101, 105, 100, 101]⟩, ⟨#[101, 99, 107, 101, 114, 116]⟩, ⟨#[116, 114, 97, 110, 115, 118, 101, 114, 115, 101]⟩]
theorem pname_some : ∀ i : Nat, i < 17 → ∃ l : List UInt8, l.length ≤ 20 ∧ pnames.getD i .empty = bs l := by
  intro i hi
  refine ⟨(pnames.getD i .empty).data.toList, ?_, by generalize pnames.getD i .empty = s; cases s; rfl⟩
  have : ∀ i, i < 17 → (pnames.getD i .empty).data.toList.length ≤ 20 := by decide +kernel
  exact this i hi
theorem pnames_row (i : Nat) (h : i < 17) : rs (pnames.map fun s => [.s s]) (i : Int) 0 = pnames.getD i .empty := by
  unfold rs
  rw [Int.toNat_natCast, List.getD_eq_getElem?_getD, List.getD_eq_getElem?_getD, List.getElem?_map]
  rw [List.getElem?_eq_getElem (show i < pnames.length from h)]
  rfl
theorem projText_some (k : Nat) (hk : 20 ≤ k) (p a b d e : Int) (hp : 1 ≤ p ∧ p ≤ 16) (ha : I64 a) (hb : I64 b) (hd : I64 d) (he : I64 e) : ∃ t, t.length ≤ 200 ∧ spec_l17Text k p a b d e = some [.s (bs t)] ∧ impl_projectionText k p a b d e = some [.s (bs t)] := by
  have la := itoa_length a ha.1 ha.2
  have lb := itoa_length b hb.1 hb.2
  have ld := itoa_length d hd.1 hd.2
  have le := itoa_length e he.1 he.2
  obtain ⟨i, rfl⟩ := Int.eq_ofNat_of_zero_le (show 0 ≤ p by omega)
  obtain ⟨n, ln, hn⟩ := pname_some i (by omega)
  refine ⟨n ++ [32] ++ Lib.itoa a ++ [32] ++ Lib.itoa b ++ [32] ++ Lib.itoa d ++ [32] ++ Lib.itoa e, by simp only [List.length_append, List.length_singleton]; omega, ?_, ?_⟩
  · unfold spec_l17Text
    rw [show spec_l17Names k = some [.l (pnames.map fun s => [.s s])] from rfl, Option.bind_some]
    simp only [gl0]
    rw [bif_t (inR_t (by omega) (by show (i : Int) < 17; omega)), pnames_row i (by omega), hn]
    simp only [decAll_some _ ha.1 ha.2 k hk, decAll_some _ hb.1 hb.2 k hk, decAll_some _ hd.1 hd.2 k hk, decAll_some _ he.1 he.2 k hk, Option.bind_some, gs0, sp32, bs_append]
    repeat rw [bif_t (leN_t (by simp only [bs_size, List.length_append, List.length_singleton]; omega))]
  · unfold impl_projectionText
    rw [bif_t (inR_t (by omega) (by omega))]
    simp only [decimal_some k _ ha.1 ha.2, decimal_some k _ hb.1 hb.2, decimal_some k _ hd.1 hd.2, decimal_some k _ he.1 he.2, Option.bind_some, gs0, sp32, Int.toNat_natCast]
    have hj : joinL [[.s (List.getD pnames i .empty)], [.s (bs (Lib.itoa a))], [.s (bs (Lib.itoa b))], [.s (bs (Lib.itoa d))], [.s (bs (Lib.itoa e))]] (bs [32]) = n ++ [32] ++ Lib.itoa a ++ [32] ++ Lib.itoa b ++ [32] ++ Lib.itoa d ++ [32] ++ Lib.itoa e := by
      rw [hn]
      simp [joinL, Lib.join, List.intercalate, gs0, bs]
    have := joinA_some [[.s (List.getD pnames i .empty)], [.s (bs (Lib.itoa a))], [.s (bs (Lib.itoa b))], [.s (bs (Lib.itoa d))], [.s (bs (Lib.itoa e))]] (bs [32]) (by rw [hj]; simp only [List.length_append, List.length_singleton]; omega) (by simp)
    rw [hj] at this
    erw [this]
    rfl
end Go.Proofs.YthafgljgccebiaaDoor.Ev
