/- Georef references are read back. No condition. -/
import Derived.Test.YtpanhndkcnojpaaDoorPLoc2
import Derived.Test.YtpanhndkcnojpaaDoorPRead
namespace Go.Proofs.YtpanhndkcnojpaaDoor.Ev
open Go Go.RowKit
set_option linter.unusedSimpArgs false
set_option linter.unusedVariables false
def lc (x : Nat) : UInt8 := UInt8.ofNat (bt L24 (x : Int)).toNat
theorem pair_bs (x y : Nat) : pair (x : Int) (y : Int) = bs [lc x, lc y] := rfl
theorem letter_lc : ∀ x, x < 24 → letter ((lc x).toNat : Int) = (x : Int) := by decide +kernel
theorem num_foldl : ∀ (d x a : Nat), d ≤ 4 → a ≤ 10000 → (dig d x).foldl (fun n u => step n (u.toNat : Int)) (a : Int) = ((a * 10 ^ d + x % 10 ^ d : Nat) : Int)
  | 0, x, a, _, _ => by rw [dig, List.foldl_nil, Nat.pow_zero, Nat.mod_one]; omega
  | d + 1, x, a, hd, ha => by
    have e := num_foldl d (x / 10) a (by omega) ha
    have hp : 10 ^ d ≤ 10 ^ 3 := Nat.pow_le_pow_right (by decide) (by omega)
    have h1 : a * 10 ^ d ≤ 10000 * 10 ^ 3 := Nat.mul_le_mul ha hp
    have h2 : x / 10 % 10 ^ d < 10 ^ d := Nat.mod_lt _ (Nat.pow_pos (by decide))
    have hm : x % (10 * 10 ^ d) = x % 10 + 10 * (x / 10 % 10 ^ d) := Nat.mod_mul
    have h3 : a * (10 * 10 ^ d) = 10 * (a * 10 ^ d) := by rw [← Nat.mul_assoc, Nat.mul_comm a 10, Nat.mul_assoc]
    rw [dig, List.foldl_append, e, List.foldl_cons, List.foldl_nil]
    unfold step
    rw [byte_val _ (by omega), Nat.pow_succ', h3, hm]
    generalize a * 10 ^ d = A at *
    generalize x / 10 % 10 ^ d = B at *
    rw [wr8 _ (by omega) (by omega), wr (((48 + x % 10 : Nat) : Int) - 48) (by omega) (by omega), wr (10 * ((A + B : Nat) : Int)) (by omega) (by omega), wr _ (by omega) (by omega)]
    omega
theorem num_dig (d x : Nat) (hd : d ≤ 4) (hx : x < 10 ^ d) : num (dig d x) = (x : Int) := by
  have := num_foldl d x 0 hd (by omega)
  unfold num
  rw [Nat.zero_mul, Nat.zero_add, Nat.mod_eq_of_lt hx] at this
  exact this
theorem dig_isDig : ∀ (d x : Nat), ∀ u ∈ dig d x, isDig (u.toNat : Int) = true
  | 0, x, u, h => by cases h
  | d + 1, x, u, h => by
    rw [dig] at h
    rcases List.mem_append.1 h with h | h
    · exact dig_isDig d _ u h
    · obtain rfl := List.mem_singleton.1 h
      unfold isDig
      rw [byte_val _ (by omega), leI_t (by omega), leI_t (by omega)]; rfl
theorem fin_true (K : Nat) (t : List UInt8) (i j m n : Nat) (lvl : Int) (hl : 1 ≤ lvl ∧ lvl ≤ 4) (hm : mOf lvl = m) (hn : mOf lvl / 2 = n) (hi : i < m) (hj : j < n) (ht : ∀ x y : Int, impl_georefText K i j x y lvl = some [.s (bs t)]) : implFin K (bs t) lvl i j = some [.i i, .i j, .i m, .i n, .b true] := by
  have hb := mOf_in (lvl := lvl)
  unfold implFin
  rw [cellG_some K i j lvl hl, hn, hm, Option.bind_some]
  simp only [gi0, giS]
  rw [wr ((m : Int) - 1) (by omega) (by omega), within_t (by omega) (by omega), Option.bind_some]
  simp only [gb0, Bool.not_true, cond_false]
  rw [wr ((n : Int) - 1) (by omega) (by omega), within_t (by omega) (by omega), Option.bind_some]
  simp only [gb0, Bool.not_true, cond_false]
  rw [ht, Option.bind_some]
  simp only [gs0]
  try dsimp only
  rw [bs_beq, decide_eq_true rfl]
  rfl
theorem read1 (K : Nat) (hK : 40 ≤ K) (i j : Nat) (hi : i < 24) (hj : j < 12) : (∀ x y : Int, impl_georefText K i j x y 1 = some [.s (bs [lc i, lc j])]) ∧ impl_readGeoref K (bs [lc i, lc j]) = some [.i i, .i j, .i 24, .i 12, .b true] := by
  have ht : ∀ x y : Int, impl_georefText K i j x y 1 = some [.s (bs [lc i, lc j])] := fun x y => by
    unfold impl_georefText
    rw [show impl_georefParts K 1 = some [.i 0, .i 0] from rfl, Option.bind_some]
    simp only [gi0]
    rw [bif_t (beq_t rfl), letters_some K _ _ ⟨by omega, by omega⟩ ⟨by omega, by omega⟩, Option.bind_some, pair_bs]
    rfl
  refine ⟨ht, ?_⟩
  obtain ⟨f, rfl⟩ : ∃ f, K = f + 3 := ⟨K - 3, by omega⟩
  have hf := fin_true (f + 3) [lc i, lc j] i j 24 12 1 ⟨by omega, by omega⟩ rfl rfl hi hj ht
  have b0 : bt (bs [lc i, lc j]) 0 = ((lc i).toNat : Int) := bt_at [lc i, lc j] 0 _ rfl
  have b1 : bt (bs [lc i, lc j]) 1 = ((lc j).toNat : Int) := bt_at [lc i, lc j] 1 _ rfl
  unfold impl_readGeoref
  rw [show ((bs [lc i, lc j]).size : Int) = ((2 : Nat) : Int) from rfl, show impl_georefLevel (f + 3) ((2 : Nat) : Int) = some [.i 1] from rfl, Option.bind_some, gi0, bif_f (beq_f (by omega)), show mnI ((2 : Nat) : Int) 4 = 2 from rfl]
  try dsimp only
  rw [loop2 _ f _ _ _ _ _ _ _ (by show 2 ≤ 2; omega), Option.bind_some, b0, b1, letter_lc i hi, letter_lc j (by omega)]
  exact hf
theorem v15 (q : Nat) (h : q < 360) : IntKind.wrap .i64 (IntKind.wrap .i64 (15 * ((q / 15 : Nat) : Int)) + ((q % 15 : Nat) : Int)) = (q : Int) := by
  rw [wr (15 * ((q / 15 : Nat) : Int)) (by omega) (by omega), wr _ (by omega) (by omega)]; omega
/-- The text of a reference of four letters and more. -/
def gt (p d i j : Nat) : List UInt8 := [lc (i / p / 15), lc (j / p / 15), lc (i / p % 15), lc (j / p % 15)] ++ (dig d (i % p) ++ dig d (j % p))
theorem readBig (K : Nat) (hK : 40 ≤ K) (lvl : Int) (p d m n i j : Nat) (hl : 1 ≤ lvl ∧ lvl ≤ 4) (hp : 1 ≤ p ∧ p ≤ 600) (hd : d ≤ 3) (hpd : p ≤ 10 ^ d) (hm : mOf lvl = m) (hn : mOf lvl / 2 = n) (hmp : m = 360 * p) (hi : i < m) (hj : j < n)
    (e1 : impl_georefLevel K ((4 + 2 * d : Nat) : Int) = some [.i lvl]) (e2 : impl_georefParts K lvl = some [.i p, .i (d : Int)]) (ht : ∀ x y : Int, impl_georefText K i j x y lvl = some [.s (bs (gt p d i j))]) : impl_readGeoref K (bs (gt p d i j)) = some [.i i, .i j, .i m, .i n, .b true] := by
  have hf := fin_true K (gt p d i j) i j m n lvl hl hm hn hi hj ht
  have len : (gt p d i j).length = 4 + 2 * d := by unfold gt; simp only [List.length_append, List.length_cons, List.length_nil, dig_length]; omega
  have hj' : j < 360 * p := by omega
  have qi : i / p < 360 := Nat.div_lt_of_lt_mul (by rw [Nat.mul_comm]; omega)
  have qj : j / p < 360 := Nat.div_lt_of_lt_mul (by rw [Nat.mul_comm]; omega)
  have ri : i % p < p := Nat.mod_lt _ (by omega)
  have rj : j % p < p := Nat.mod_lt _ (by omega)
  have si : p * (i / p) + i % p = i := Nat.div_add_mod i p
  have sj : p * (j / p) + j % p = j := Nat.div_add_mod j p
  have b0 : bt (bs (gt p d i j)) 0 = ((lc (i / p / 15)).toNat : Int) := bt_at _ 0 _ rfl
  have b1 : bt (bs (gt p d i j)) 1 = ((lc (j / p / 15)).toNat : Int) := bt_at _ 1 _ rfl
  have b2 : bt (bs (gt p d i j)) 2 = ((lc (i / p % 15)).toNat : Int) := bt_at _ 2 _ rfl
  have b3 : bt (bs (gt p d i j)) 3 = ((lc (j / p % 15)).toNat : Int) := bt_at _ 3 _ rfl
  have hdrop : (gt p d i j).drop 4 = dig d (i % p) ++ dig d (j % p) := rfl
  have hall : ((gt p d i j).drop 4).all (fun u => isDig (u.toNat : Int)) = true := by
    rw [hdrop, List.all_eq_true]
    intro u hu
    rcases List.mem_append.1 hu with hu | hu
    · exact dig_isDig _ _ u hu
    · exact dig_isDig _ _ u hu
  have t1 : ((gt p d i j).drop 4).take d = dig d (i % p) := by rw [hdrop, List.take_append_of_le_length (by rw [dig_length]; omega), List.take_of_length_le (by rw [dig_length]; omega)]
  have t2 : ((gt p d i j).drop 4).drop d = dig d (j % p) := by
    have := List.drop_left' (l₁ := dig d (i % p)) (l₂ := dig d (j % p)) (i := d) (dig_length _ _)
    rw [hdrop]; exact this
  have v1 : V (bs (gt p d i j)) 0 2 = ((i / p : Nat) : Int) := by
    unfold V
    rw [b0, b2, letter_lc _ (by omega), letter_lc _ (by omega)]
    exact v15 _ qi
  have v2 : V (bs (gt p d i j)) 1 3 = ((j / p : Nat) : Int) := by
    unfold V
    rw [b1, b3, letter_lc _ (by omega), letter_lc _ (by omega)]
    exact v15 _ qj
  have pi : ((i / p : Nat) : Int) * (p : Int) = ((p * (i / p) : Nat) : Int) := by rw [Nat.mul_comm]; simp
  have pj : ((j / p : Nat) : Int) * (p : Int) = ((p * (j / p) : Nat) : Int) := by rw [Nat.mul_comm]; simp
  rw [impl_big K hK (gt p d i j) lvl p d len hd (by omega) e1 e2 (by omega), hall, cond_true, t1, t2, v1, v2, num_dig d _ (by omega) (by omega), num_dig d _ (by omega) (by omega), pi, pj]
  generalize p * (i / p) = A at *
  generalize p * (j / p) = B at *
  rw [wr (A : Int) (by omega) (by omega), wr (B : Int) (by omega) (by omega), wr _ (by omega) (by omega), wr _ (by omega) (by omega), show (A : Int) + ((i % p : Nat) : Int) = (i : Int) by omega, show (B : Int) + ((j % p : Nat) : Int) = (j : Int) by omega]
  exact hf
theorem text2 (K : Nat) (i j : Nat) (hi : i < 360) (hj : j < 180) (x y : Int) : impl_georefText K i j x y 2 = some [.s (bs (gt 1 0 i j))] := by
  obtain ⟨a1, a2, a3, a4, a5, a6, a7, a8, a9, a10, a11, a12⟩ := parts (i : Int) 1 ⟨by omega, by omega⟩ (by omega) (by omega)
  obtain ⟨b1, b2, b3, b4, b5, b6, b7, b8, b9, b10, b11, b12⟩ := parts (j : Int) 1 ⟨by omega, by omega⟩ (by omega) (by omega)
  rw [Int.ediv_one] at *
  unfold impl_georefText
  rw [show impl_georefParts K 2 = some [.i 1, .i 0] from rfl, Option.bind_some]
  simp only [gi0, giS]
  rw [bif_f (beq_f (by omega)), bif_f (eqI_f (by omega)), bif_f (eqI_f (by omega)), a1, b1, a4, b4, a7, b7, letters_some K _ _ ⟨a8, a9⟩ ⟨b8, b9⟩, Option.bind_some, letters_some K _ _ ⟨a5, by omega⟩ ⟨b5, by omega⟩, Option.bind_some]
  simp only [gs0]
  rw [bif_t (leN_t (by rw [pair_size, pair_size]; omega)), bif_t (beq_t rfl), show (i : Int) / 15 = ((i / 15 : Nat) : Int) by omega, show (j : Int) / 15 = ((j / 15 : Nat) : Int) by omega, show (i : Int) % 15 = ((i % 15 : Nat) : Int) by omega, show (j : Int) % 15 = ((j % 15 : Nat) : Int) by omega, pair_bs, pair_bs, bs_append]
  unfold gt
  rw [Nat.div_one, Nat.div_one]
  rfl
theorem textH (K : Nat) (lvl : Int) (p d i j : Nat) (eg : impl_georefParts K lvl = some [.i p, .i (d : Int)]) (hd : 1 ≤ d ∧ d ≤ 3) (hp : 1 ≤ p ∧ p ≤ 600) (hpd : p ≤ 10 ^ d) (hi : i < 360 * p) (hj : j < 360 * p) (x y : Int) : impl_georefText K i j x y lvl = some [.s (bs (gt p d i j))] := by
  rw [impl_high K i j lvl p x y d eg hd ⟨by omega, by omega⟩ (by rw [Int.toNat_natCast]; exact hpd) (by omega) (by omega) (by omega) (by omega)]
  rw [show (i : Int) / (p : Int) / 15 = ((i / p / 15 : Nat) : Int) by simp, show (j : Int) / (p : Int) / 15 = ((j / p / 15 : Nat) : Int) by simp, show (i : Int) / (p : Int) % 15 = ((i / p % 15 : Nat) : Int) by simp, show (j : Int) / (p : Int) % 15 = ((j / p % 15 : Nat) : Int) by simp, show (i : Int) % (p : Int) = ((i % p : Nat) : Int) by simp, show (j : Int) % (p : Int) = ((j % p : Nat) : Int) by simp, Int.toNat_natCast, Int.toNat_natCast, pair_bs, pair_bs, bs_append, bs_append, bs_append]
  rfl
theorem geo_read (K : Nat) (hK : 40 ≤ K) (lvl : Int) (hl : 1 ≤ lvl ∧ lvl ≤ 4) : ∃ m n : Nat, (24 ≤ m ∧ m ≤ 216000) ∧ (12 ≤ n ∧ n ≤ 216000) ∧ mOf lvl = m ∧ mOf lvl / 2 = n ∧ ∀ i j : Nat, i < m → j < n → ∃ t : List UInt8, (∀ x y : Int, impl_georefText K i j x y lvl = some [.s (bs t)]) ∧ impl_readGeoref K (bs t) = some [.i i, .i j, .i m, .i n, .b true] := by
  have hc : lvl = 1 ∨ lvl = 2 ∨ lvl = 3 ∨ lvl = 4 := by omega
  rcases hc with rfl | rfl | rfl | rfl
  · exact ⟨24, 12, by omega, by omega, rfl, rfl, fun i j hi hj => ⟨_, read1 K hK i j hi hj⟩⟩
  · refine ⟨360, 180, by omega, by omega, rfl, rfl, fun i j hi hj => ⟨_, text2 K i j hi hj, ?_⟩⟩
    exact readBig K hK 2 1 0 360 180 i j (by omega) (by omega) (by omega) (by decide) rfl rfl rfl hi hj rfl rfl (text2 K i j hi hj)
  · refine ⟨21600, 10800, by omega, by omega, rfl, rfl, fun i j hi hj => ?_⟩
    have ht := textH K 3 60 2 i j rfl (by omega) (by omega) (by decide) (by omega) (by omega)
    exact ⟨_, ht, readBig K hK 3 60 2 21600 10800 i j (by omega) (by omega) (by omega) (by decide) rfl rfl rfl hi hj rfl rfl ht⟩
  · refine ⟨216000, 108000, by omega, by omega, rfl, rfl, fun i j hi hj => ?_⟩
    have ht := textH K 4 600 3 i j rfl (by omega) (by omega) (by decide) (by omega) (by omega)
    exact ⟨_, ht, readBig K hK 4 600 3 216000 108000 i j (by omega) (by omega) (by omega) (by decide) rfl rfl rfl hi hj rfl rfl ht⟩
theorem geo_of (K : Nat) (hK : 40 ≤ K) (lvl : Int) (hl : 1 ≤ lvl ∧ lvl ≤ 4) {a b : Int} (h : PtQ a b) : ∃ (m n : Nat) (t : List UInt8), (0 < m ∧ m ≤ 2000000) ∧ (0 < n ∧ n ≤ 2000000) ∧ impl_GeorefOf K a b lvl = some [.s (bs t), .i 0] ∧ impl_readGeoref K (bs t) = some [.i (cx_ m b : Nat), .i (cy_ n a : Nat), .i m, .i n, .b true] := by
  obtain ⟨m, n, hm, hn, e1, e2, hr⟩ := geo_read K hK lvl hl
  have c1 := cx_lt m (by omega) b
  have c2 := cy_lt n (by omega) h.1
  obtain ⟨t, ht, hread⟩ := hr _ _ c1 c2
  refine ⟨m, n, t, by omega, by omega, ?_, hread⟩
  unfold impl_GeorefOf
  rw [validF h, Option.bind_some]
  simp only [gb0, Bool.not_true, cond_false]
  rw [within_t hl.1 hl.2, Option.bind_some]
  simp only [gb0, Bool.not_true, cond_false]
  rw [cellG_some K 0 0 lvl hl, e2, e1, Option.bind_some]
  simp only [gi0, giS]
  rw [cell_at K h m n (by omega) (by omega), Option.bind_some]
  simp only [gi0, giS]
  rw [ht, Option.bind_some]
  rfl
end Go.Proofs.YtpanhndkcnojpaaDoor.Ev
