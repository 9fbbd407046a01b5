/- Keys of tiles. No condition. -/
import Derived.Test.YtpanhndkcnojpaaDoorPPyr
import Derived.Lib.SlTrimSet
namespace Go.Proofs.YtpanhndkcnojpaaDoor.Ev
open Go Go.RowKit
set_option linter.unusedSimpArgs false
set_option linter.unusedVariables false
def kd (x y : Nat) : UInt8 := UInt8.ofNat (48 + (x % 2 + 2 * (y % 2)))
/-- The key of a tile. -/
def pk : Nat → Nat → Nat → List UInt8
  | 0, _, _ => []
  | L + 1, x, y => pk L (x / 2) (y / 2) ++ [kd x y]
theorem pk_length : ∀ L x y, (pk L x y).length = L
  | 0, _, _ => rfl
  | L + 1, x, y => by rw [pk, List.length_append, pk_length]; rfl
theorem kd_val (x y : Nat) : ((kd x y).toNat : Int) = 48 + ((x % 2 + 2 * (y % 2) : Nat) : Int) := by
  unfold kd
  rw [byte_val _ (by omega)]; omega
/-- What stands at a place of a key. -/
theorem pk_get : ∀ (L x y i : Nat), i < L → (pk L x y)[i]? = some (kd (x / 2 ^ (L - 1 - i)) (y / 2 ^ (L - 1 - i)))
  | 0, x, y, i, h => by omega
  | L + 1, x, y, i, h => by
    rw [pk]
    by_cases hi : i < L
    · rw [List.getElem?_append_left (by rw [pk_length]; exact hi), pk_get L _ _ i hi, Nat.div_div_eq_div_mul, Nat.div_div_eq_div_mul, show L + 1 - 1 - i = (L - 1 - i) + 1 by omega, Nat.pow_succ, Nat.mul_comm]
    · obtain rfl : i = L := by omega
      rw [List.getElem?_append_right (by rw [pk_length]; exact Nat.le_refl _), pk_length]
      simp
/-- The key of a tile that contains this one. -/
theorem pk_take : ∀ (L c x y : Nat), c ≤ L → (pk L x y).take c = pk c (x / 2 ^ (L - c)) (y / 2 ^ (L - c))
  | 0, c, x, y, h => by
    obtain rfl : c = 0 := by omega
    rfl
  | L + 1, c, x, y, h => by
    by_cases hc : c = L + 1
    · subst hc
      rw [List.take_of_length_le (by rw [pk_length]; exact Nat.le_refl _)]
      simp
    · rw [pk, List.take_append_of_le_length (by rw [pk_length]; omega), pk_take L c _ _ (by omega), Nat.div_div_eq_div_mul, Nat.div_div_eq_div_mul, show L + 1 - c = (L - c) + 1 by omega, Nat.pow_succ, Nat.mul_comm]
theorem within_b (k : Nat) (a b c : Int) : impl_within k a b c = some [.b (leI b a && leI a c)] := by
  unfold impl_within
  cases leI b a <;> rfl
theorem in_b (k : Nat) (a b c : Int) : spec_l00In k a b c = some [.b (leI b a && leI a c)] := within_b k a b c
theorem cell_some (k L : Nat) (h : L ≤ 20) (a : Int) : impl_isCell k a L = some [.b (leI 0 a && leI a (((2 ^ L : Nat) : Int) - 1))] := by
  have hp := pow_le L h
  unfold impl_isCell
  rw [side_some k L h, Option.bind_some]
  simp only [gi0]
  rw [wr _ (by omega) (by omega), within_b, Option.bind_some, gb0]
theorem cell_true (k L x : Nat) (h : L ≤ 20) (hx : x < 2 ^ L) : impl_isCell k x L = some [.b true] := by
  rw [cell_some k L h, leI_t (by omega), leI_t (by omega)]; rfl
theorem level_true (k L : Nat) (h : L ≤ 20) : impl_isLevel k L = some [.b true] := by
  unfold impl_isLevel
  rw [within_b, leI_t (by omega), leI_t (by omega)]; rfl
theorem valid_true (k L x y : Nat) (h : L ≤ 20) (hx : x < 2 ^ L) (hy : y < 2 ^ L) : impl_ValidTile k L x y = some [.b true] := by
  unfold impl_ValidTile
  rw [level_true k L h, Option.bind_some, gb0, cond_true, cell_true k L x h hx, Option.bind_some, gb0, cond_true, cell_true k L y h hy, Option.bind_some, gb0]
theorem lok_true (k L x y : Nat) (h : L ≤ 20) (hx : x < 2 ^ L) (hy : y < 2 ^ L) : spec_l25Ok k L x y = some [.b true] := by
  have hp := pow_le L h
  unfold spec_l25Ok spec_l25Level
  rw [in_b, Option.bind_some, gb0, leI_t (by omega), leI_t (by omega), Option.bind_some, gb0]
  simp only [Bool.and_self, Bool.not_true, cond_false]
  rw [count_some k L h, Option.bind_some]
  simp only [gi0]
  rw [wr _ (by omega) (by omega), in_b, Option.bind_some, gb0, leI_t (by omega), leI_t (by omega)]
  simp only [Bool.and_self, cond_true]
  rw [in_b, leI_t (by omega), leI_t (by omega)]; rfl
theorem fd (n i : Nat) (hi : i ≤ 64) : Int.fdiv (n : Int) (2 ^ min (Int.toNat (i : Int)) 64) = ((n / 2 ^ i : Nat) : Int) := by
  rw [Int.toNat_natCast, Nat.min_eq_left hi, Int.fdiv_eq_ediv_of_nonneg _ (by exact Int.le_of_lt (Int.pow_pos (by decide)))]
  rw [show ((2 : Int) ^ i) = ((2 ^ i : Nat) : Int) by simp, ← Int.natCast_ediv]
theorem band1 (n : Nat) (h : n < 9223372036854775808) : band .i64 (n : Int) 1 = ((n % 2 : Nat) : Int) := by
  have := band_i (n : Int) 1 (by decide)
  have e : (BitVec.ofInt 64 (n : Int)).toNat = n := by rw [BitVec.toNat_ofInt]; omega
  rw [e, Nat.and_one_is_mod] at this
  exact this
theorem dec4 (k d : Nat) (h : d < 4) : impl_Decimal k d = some [.s (bs [UInt8.ofNat (48 + d)])] := by
  unfold impl_Decimal
  rw [fmt_some d (by omega), Option.bind_some, gs0, decDigits_small d (by omega)]
theorem key_l0 (k L x y : Nat) (hL : L ≤ 20) (hx : x < 1048576) (hy : y < 1048576) (b3 : ByteArray) : ∀ (d n m : Nat), m + d = L → impl_TileKey_l0 k (d + 1 + n) L x y b3 (bs (pk m (x / 2 ^ d) (y / 2 ^ d))) ((d : Int) - 1) = some [.i 0, .i L, .i x, .i y, .s b3, .s (bs (pk L x y)), .i (-1)]
  | 0, n, m, h => by
    obtain rfl : m = L := by omega
    rw [show 0 + 1 + n = n + 1 by omega, impl_TileKey_l0, bif_f (leI_f (by omega))]
    simp
  | d + 1, n, m, h => by
    have x1 : x / 2 ^ d ≤ x := Nat.div_le_self ..
    have y1 : y / 2 ^ d ≤ y := Nat.div_le_self ..
    have ex : x / 2 ^ (d + 1) = x / 2 ^ d / 2 := by rw [Nat.div_div_eq_div_mul, Nat.pow_succ]
    have ey : y / 2 ^ (d + 1) = y / 2 ^ d / 2 := by rw [Nat.div_div_eq_div_mul, Nat.pow_succ]
    rw [show d + 1 + 1 + n = (d + 1 + n) + 1 by omega, impl_TileKey_l0, show ((d + 1 : Nat) : Int) - 1 = (d : Int) by omega, bif_t (leI_t (by omega)), bif_f (ltI_f (by omega)), bif_f (ltI_f (by omega)), fd x d (by omega), fd y d (by omega), band1 _ (by omega), band1 _ (by omega)]
    rw [wr (2 * ((y / 2 ^ d % 2 : Nat) : Int)) (by omega) (by omega), wr _ (by omega) (by omega), show ((x / 2 ^ d % 2 : Nat) : Int) + 2 * ((y / 2 ^ d % 2 : Nat) : Int) = ((x / 2 ^ d % 2 + 2 * (y / 2 ^ d % 2) : Nat) : Int) by omega, dec4 k _ (by omega), Option.bind_some]
    simp only [gs0]
    rw [bif_t (leN_t (by rw [bs_size, bs_size, pk_length, List.length_singleton]; omega)), bs_append, wr _ (by omega) (by omega), ex, ey]
    exact key_l0 k L x y hL hx hy b3 d n (m + 1) (by omega)
theorem key_some (k : Nat) (hk : 30 ≤ k) (L x y : Nat) (h : L ≤ 20) (hx : x < 2 ^ L) (hy : y < 2 ^ L) : impl_TileKey k L x y = some [.s (bs (pk L x y))] := by
  have hp := pow_le L h
  unfold impl_TileKey
  rw [valid_true k L x y h hx hy, Option.bind_some, gb0]
  simp only [Bool.not_true, cond_false]
  have := key_l0 k L x y h (by omega) (by omega) (⟨#[]⟩ : ByteArray) L (k - L - 1) 0 (by omega)
  rw [show L + 1 + (k - L - 1) = k by omega, show pk 0 (x / 2 ^ L) (y / 2 ^ L) = [] from rfl] at this
  rw [wr _ (by omega) (by omega)]
  have h3 : impl_TileKey_l0 k k L x y (⟨#[]⟩ : ByteArray) (⟨#[]⟩ : ByteArray) ((L : Int) - 1) = _ := this
  rw [h3, Option.bind_some]
  simp only [gsS, gs0]
theorem dw_all {p : UInt8 → Bool} : ∀ {m : List UInt8}, (∀ x ∈ m, p x = true) → m.dropWhile p = []
  | [], _ => rfl
  | a :: m, h => by rw [List.dropWhile_cons_of_pos (h a (List.mem_cons_self ..)), dw_all fun x hx => h x (List.mem_cons_of_mem _ hx)]
theorem trim_all (l cs : List UInt8) (h : ∀ x ∈ l, cs.contains x = true) : Lib.trimS l cs = [] := by
  unfold Lib.trimS Lib.trimLeftS Lib.trimRightS
  rw [dw_all (m := l.reverse) fun x hx => h x (List.mem_reverse.1 hx)]
  rfl
theorem kd_mem (x y : Nat) : ([48, 49, 50, 51] : List UInt8).contains (kd x y) = true := by
  have : x % 2 + 2 * (y % 2) < 4 := by omega
  have all : ∀ d, d < 4 → ([48, 49, 50, 51] : List UInt8).contains (UInt8.ofNat (48 + d)) = true := by decide
  exact all _ this
theorem pk_mem : ∀ (L x y : Nat), ∀ b ∈ pk L x y, ([48, 49, 50, 51] : List UInt8).contains b = true
  | 0, _, _, b, h => by cases h
  | L + 1, x, y, b, h => by
    rw [pk] at h
    rcases List.mem_append.1 h with h | h
    · exact pk_mem L _ _ b h
    · obtain rfl := List.mem_singleton.1 h; exact kd_mem x y
theorem trim_key (L x y : Nat) (h : L ≤ 20) : trimA (bs (pk L x y)) (⟨#[48, 49, 50, 51]⟩ : ByteArray) = some [.s (⟨#[]⟩ : ByteArray)] := by
  unfold trimA
  rw [bif_t]
  · rw [show (bs (pk L x y)).data.toList = pk L x y by unfold bs; simp, show ((⟨#[48, 49, 50, 51]⟩ : ByteArray).data.toList) = [48, 49, 50, 51] from rfl, trim_all _ _ (pk_mem L x y)]
  · rw [show ((⟨#[48, 49, 50, 51]⟩ : ByteArray).data.toList.all fun b => decide (b.toNat < 128)) = true from rfl, decide_eq_true (by rw [bs_size, pk_length]; omega), decide_eq_true (by decide)]; rfl
theorem bt_get (l : List UInt8) (i : Nat) (b : UInt8) (h : l[i]? = some b) : bt (bs l) (i : Int) = (b.toNat : Int) := by
  unfold bt bs
  rw [Int.toNat_natCast, List.getD_eq_getElem?_getD]
  simp [h]
theorem read_l0 (k L x y : Nat) (hL : L ≤ 20) (hx : x < 1048576) (hy : y < 1048576) (x1 x2 x3 : Int) (b : Bool) : ∀ (d n i : Nat), i + d = L → impl_ReadTileKey_l0 k (d + 1 + n) (bs (pk L x y)) x1 x2 x3 b L ((x / 2 ^ d : Nat) : Int) ((y / 2 ^ d : Nat) : Int) L i = some [.i 0, .s (bs (pk L x y)), .i x1, .i x2, .i x3, .b b, .i L, .i x, .i y, .i L, .i L]
  | 0, n, i, h => by
    obtain rfl : i = L := by omega
    rw [show 0 + 1 + n = n + 1 by omega, impl_ReadTileKey_l0, bif_f (ltI_f (by omega))]
    simp
  | d + 1, n, i, h => by
    have x1' : x / 2 ^ d ≤ x := Nat.div_le_self ..
    have y1' : y / 2 ^ d ≤ y := Nat.div_le_self ..
    have ex : x / 2 ^ (d + 1) = x / 2 ^ d / 2 := by rw [Nat.div_div_eq_div_mul, Nat.pow_succ]
    have ey : y / 2 ^ (d + 1) = y / 2 ^ d / 2 := by rw [Nat.div_div_eq_div_mul, Nat.pow_succ]
    have hg := pk_get L x y i (by omega)
    rw [show L - 1 - i = d by omega] at hg
    have hb := bt_get _ _ _ hg
    rw [kd_val] at hb
    rw [show d + 1 + 1 + n = (d + 1 + n) + 1 by omega, impl_ReadTileKey_l0, bif_t (ltI_t (by omega)), bif_t (inR_t (by omega) (by rw [bs_size, pk_length]; omega)), hb, ex, ey]
    generalize hX : x / 2 ^ d = X at *
    generalize hY : y / 2 ^ d = Y at *
    have w1 : IntKind.wrap .u8 (48 + ((X % 2 + 2 * (Y % 2) : Nat) : Int) - 48) = ((X % 2 + 2 * (Y % 2) : Nat) : Int) := by rw [wr8 _ (by omega) (by omega)]; omega
    have w2 : IntKind.wrap .i64 ((X % 2 + 2 * (Y % 2) : Nat) : Int) = ((X % 2 + 2 * (Y % 2) : Nat) : Int) := wr _ (by omega) (by omega)
    have t1 : Int.tmod ((X % 2 + 2 * (Y % 2) : Nat) : Int) 2 = ((X % 2 : Nat) : Int) := by rw [tmod_pos _ _ (by omega)]; omega
    have t2 : IntKind.wrap .i64 (Int.tdiv ((X % 2 + 2 * (Y % 2) : Nat) : Int) 2) = ((Y % 2 : Nat) : Int) := by rw [tdiv_pos _ _ (by omega), wr _ (by omega) (by omega)]; omega
    have a1 : IntKind.wrap .i64 (IntKind.wrap .i64 (2 * ((X / 2 : Nat) : Int)) + ((X % 2 : Nat) : Int)) = (X : Int) := by rw [wr (2 * ((X / 2 : Nat) : Int)) (by omega) (by omega), wr _ (by omega) (by omega)]; omega
    have a2 : IntKind.wrap .i64 (IntKind.wrap .i64 (2 * ((Y / 2 : Nat) : Int)) + ((Y % 2 : Nat) : Int)) = (Y : Int) := by rw [wr (2 * ((Y / 2 : Nat) : Int)) (by omega) (by omega), wr _ (by omega) (by omega)]; omega
    dsimp only
    rw [w1, w2, t1, t2, a1, a2, wr ((i : Int) + 1) (by omega) (by omega), show (i : Int) + 1 = ((i + 1 : Nat) : Int) by omega]
    rw [← hX, ← hY]
    exact read_l0 k L x y hL hx hy x1 x2 x3 b d n (i + 1) (by omega)
theorem read_some (k : Nat) (hk : 30 ≤ k) (L x y : Nat) (h : L ≤ 20) (hx : x < 2 ^ L) (hy : y < 2 ^ L) : impl_ReadTileKey k (bs (pk L x y)) = some [.i L, .i x, .i y, .b true] := by
  have hp := pow_le L h
  unfold impl_ReadTileKey
  rw [bs_size, pk_length, level_true k L h, Option.bind_some, gb0]
  simp only [Bool.not_true, cond_false]
  rw [trim_key L x y h, Option.bind_some]
  simp only [gs0, beq_self_eq_true, Bool.not_true, cond_false]
  have := read_l0 k L x y h (by omega) (by omega) 0 0 0 false L (k - L - 1) 0 (by omega)
  rw [show L + 1 + (k - L - 1) = k by omega, Nat.div_eq_of_lt hx, Nat.div_eq_of_lt hy] at this
  have h3 : impl_ReadTileKey_l0 k k (bs (pk L x y)) 0 0 0 false L 0 0 L 0 = _ := this
  rw [h3, Option.bind_some]
  simp only [giS, gi0]
/-! ### Tiles of the next level and of the one before -/
def kids (L x y : Int) : List (List D) := [[.i (L + 1), .i (2 * x), .i (2 * y)], [.i (L + 1), .i (2 * x + 1), .i (2 * y)], [.i (L + 1), .i (2 * x), .i (2 * y + 1)], [.i (L + 1), .i (2 * x + 1), .i (2 * y + 1)]]
theorem children_some (k : Nat) (hk : 30 ≤ k) (L x y : Nat) (h : L < 20) (hx : x < 2 ^ L) (hy : y < 2 ^ L) : impl_ChildrenOf k L x y = some [.l (kids L x y), .i 0] := by
  have hp := pow_le L (by omega)
  obtain ⟨n, hn⟩ : ∃ n, k = n + 5 := ⟨k - 5, by omega⟩
  have w : ∀ z : Int, 0 ≤ z → z ≤ 10000000 → IntKind.wrap .i64 z = z := fun z h1 h2 => wr z (by omega) (by omega)
  have e : impl_ChildrenOf_l1 k k L x y [] 0 [] 0 = some [.i 0, .i L, .i x, .i y, .l [], .i 0, .l (kids L x y), .i 4] := by
    have step : ∀ (m i : Nat) (acc : List (List D)), i < 4 → acc.length ≤ 4 → impl_ChildrenOf_l1 k (m + 1) L x y [] 0 acc i = impl_ChildrenOf_l1 k m L x y [] 0 (acc ++ [[.i ((L : Int) + 1), .i (2 * (x : Int) + ((i % 2 : Nat) : Int)), .i (2 * (y : Int) + ((i / 2 : Nat) : Int))]]) ((i + 1 : Nat) : Int) := by
      intro m i acc hi ha
      rw [impl_ChildrenOf_l1, bif_t (ltI_t (by omega)), w (2 * (x : Int)) (by omega) (by omega), w (2 * (y : Int)) (by omega) (by omega), tmod_pos _ _ (by omega), tdiv_pos _ _ (by omega), w ((i : Int) / 2) (by omega) (by omega), w ((L : Int) + 1) (by omega) (by omega), show (i : Int) % 2 = ((i % 2 : Nat) : Int) by omega, show (i : Int) / 2 = ((i / 2 : Nat) : Int) by omega, w (2 * (x : Int) + ((i % 2 : Nat) : Int)) (by omega) (by omega), w (2 * (y : Int) + ((i / 2 : Nat) : Int)) (by omega) (by omega), w ((i : Int) + 1) (by omega) (by omega)]
      dsimp only
      rw [bif_t (apOk_t (by rw [List.length_singleton]; omega) (by rw [List.length_singleton]; omega)), show (i : Int) + 1 = ((i + 1 : Nat) : Int) by omega]
    rw [show impl_ChildrenOf_l1 k k = impl_ChildrenOf_l1 k (n + 1 + 1 + 1 + 1 + 1) by rw [← hn]]
    have s0 := step (n + 1 + 1 + 1 + 1) 0 [] (by decide) (by decide)
    have s1 := step (n + 1 + 1 + 1) 1 [[.i ((L : Int) + 1), .i (2 * (x : Int) + ((0 % 2 : Nat) : Int)), .i (2 * (y : Int) + ((0 / 2 : Nat) : Int))]] (by decide) (by simp)
    have s2 := step (n + 1 + 1) 2 [[.i ((L : Int) + 1), .i (2 * (x : Int) + ((0 % 2 : Nat) : Int)), .i (2 * (y : Int) + ((0 / 2 : Nat) : Int))], [.i ((L : Int) + 1), .i (2 * (x : Int) + ((1 % 2 : Nat) : Int)), .i (2 * (y : Int) + ((1 / 2 : Nat) : Int))]] (by decide) (by simp)
    have s3 := step (n + 1) 3 [[.i ((L : Int) + 1), .i (2 * (x : Int) + ((0 % 2 : Nat) : Int)), .i (2 * (y : Int) + ((0 / 2 : Nat) : Int))], [.i ((L : Int) + 1), .i (2 * (x : Int) + ((1 % 2 : Nat) : Int)), .i (2 * (y : Int) + ((1 / 2 : Nat) : Int))], [.i ((L : Int) + 1), .i (2 * (x : Int) + ((2 % 2 : Nat) : Int)), .i (2 * (y : Int) + ((2 / 2 : Nat) : Int))]] (by decide) (by simp)
    have s4 : ∀ acc, impl_ChildrenOf_l1 k (n + 1) L x y [] 0 acc ((3 + 1 : Nat) : Int) = some [.i 0, .i L, .i x, .i y, .l [], .i 0, .l acc, .i 4] := by
      intro acc
      rw [impl_ChildrenOf_l1, bif_f (ltI_f (by decide))]; rfl
    refine (s0.trans (s1.trans (s2.trans (s3.trans (s4 _))))).trans ?_
    have z : kids L x y = [] ++ [[.i ((L : Int) + 1), .i (2 * (x : Int) + ((0 % 2 : Nat) : Int)), .i (2 * (y : Int) + ((0 / 2 : Nat) : Int))]] ++ [[.i ((L : Int) + 1), .i (2 * (x : Int) + ((1 % 2 : Nat) : Int)), .i (2 * (y : Int) + ((1 / 2 : Nat) : Int))]] ++ [[.i ((L : Int) + 1), .i (2 * (x : Int) + ((2 % 2 : Nat) : Int)), .i (2 * (y : Int) + ((2 / 2 : Nat) : Int))]] ++ [[.i ((L : Int) + 1), .i (2 * (x : Int) + ((3 % 2 : Nat) : Int)), .i (2 * (y : Int) + ((3 / 2 : Nat) : Int))]] := by
      unfold kids
      simp
    rw [z]; rfl
  unfold impl_ChildrenOf
  rw [valid_true k L x y (by omega) hx hy, Option.bind_some, gb0]
  simp only [Bool.not_true, cond_false]
  rw [bif_f (beq_f (by omega)), e, Option.bind_some]
  simp only [giS, gi0, glS, gl0]
theorem full_some (k : Nat) (x y : Nat) (hx : x < 2 ^ 20) (hy : y < 2 ^ 20) : impl_ChildrenOf k 20 x y = some [.l [], .i 2] := by
  unfold impl_ChildrenOf
  rw [show (20 : Int) = ((20 : Nat) : Int) from rfl, valid_true k 20 x y (by decide) hx hy, Option.bind_some, gb0]
  rfl
theorem up_some (k : Nat) (L x y : Nat) (h : L < 20) (hx : x < 2 ^ (L + 1)) (hy : y < 2 ^ (L + 1)) : impl_ParentOf k ((L + 1 : Nat) : Int) x y = some [.i L, .i ((x / 2 : Nat) : Int), .i ((y / 2 : Nat) : Int), .i 0] := by
  have hp := pow_le (L + 1) (by omega)
  unfold impl_ParentOf impl_Tile_parent
  rw [valid_true k (L + 1) x y (by omega) hx hy, Option.bind_some, gb0]
  simp only [Bool.not_true, cond_false]
  rw [bif_f (beq_f (by omega)), Option.bind_some]
  simp only [giS, gi0]
  rw [wr _ (by omega) (by omega), tdiv_pos _ _ (by omega), tdiv_pos _ _ (by omega), wr ((x : Int) / 2) (by omega) (by omega), wr ((y : Int) / 2) (by omega) (by omega), show ((L + 1 : Nat) : Int) - 1 = (L : Int) by omega, show (x : Int) / 2 = ((x / 2 : Nat) : Int) by omega, show (y : Int) / 2 = ((y / 2 : Nat) : Int) by omega]
/-! ### Neighbours -/
theorem near_some (k : Nat) (L x y : Nat) (h : L ≤ 20) (hx : x < 2 ^ L) (hy : y < 2 ^ L) (dx : Int) (hd : -2 ≤ dx ∧ dx ≤ 2) :
    (impl_NeighbourOf k L x y dx 0 = some [.i 0, .i 0, .i 0, .i 2] ∧ spec_NeighbourOf k L x y dx 0 = some [.i 0, .i 0, .i 0, .i 2]) ∨ ∃ z : Nat, z < 2 ^ L ∧ impl_NeighbourOf k L x y dx 0 = some [.i L, .i z, .i y, .i 0] ∧ impl_NeighbourOf k L z y (0 - dx) 0 = some [.i L, .i x, .i y, .i 0] := by
  have hp := pow_le L h
  have step : ∀ (x : Nat) (dx : Int), x < 2 ^ L → -2 ≤ dx ∧ dx ≤ 2 → (-((2 ^ L : Nat) : Int) ≤ dx ∧ dx ≤ ((2 ^ L : Nat) : Int)) → impl_NeighbourOf k L x y dx 0 = some [.i L, .i (((x : Int) + dx + ((2 ^ L : Nat) : Int)) % ((2 ^ L : Nat) : Int)), .i y, .i 0] := by
    intro x dx hx hd hr
    unfold impl_NeighbourOf
    rw [valid_true k L x y h hx hy, Option.bind_some, gb0]
    simp only [Bool.not_true, cond_false]
    rw [side_some k L h, Option.bind_some]
    simp only [gi0]
    rw [wr (0 - ((2 ^ L : Nat) : Int)) (by omega) (by omega), within_b, Option.bind_some, gb0, leI_t (by omega), leI_t (by omega)]
    simp only [Bool.and_self, Bool.not_true, cond_false]
    rw [within_b, Option.bind_some, gb0, leI_t (by omega), leI_t (by omega)]
    simp only [Bool.and_self, Bool.not_true, cond_false]
    rw [wr ((y : Int) + 0) (by omega) (by omega), Int.add_zero, cell_true k L y h hy, Option.bind_some, gb0]
    simp only [Bool.not_true, cond_false]
    rw [bif_f (eqI_f (by omega)), wr ((x : Int) + dx) (by omega) (by omega), wr ((x : Int) + dx + ((2 ^ L : Nat) : Int)) (by omega) (by omega), tmod_pos _ _ (by omega)]
  by_cases hr : -((2 ^ L : Nat) : Int) ≤ dx ∧ dx ≤ ((2 ^ L : Nat) : Int)
  · refine .inr ?_
    have e1 := step x dx hx hd hr
    generalize hz : ((x : Int) + dx + ((2 ^ L : Nat) : Int)) % ((2 ^ L : Nat) : Int) = z at e1
    have z0 : 0 ≤ z := hz ▸ Int.emod_nonneg _ (by omega)
    have z1 : z < ((2 ^ L : Nat) : Int) := hz ▸ Int.emod_lt_of_pos _ (by omega)
    obtain ⟨m, rfl⟩ := Int.eq_ofNat_of_zero_le z0
    have e2 := step m (0 - dx) (by omega) (by omega) (by omega)
    refine ⟨m, by omega, e1, ?_⟩
    rw [e2, ← hz]
    have : ((((x : Int) + dx + ((2 ^ L : Nat) : Int)) % ((2 ^ L : Nat) : Int)) + (0 - dx) + ((2 ^ L : Nat) : Int)) % ((2 ^ L : Nat) : Int) = x := by
      rw [Int.add_assoc, Int.emod_add_emod, show (x : Int) + dx + ((2 ^ L : Nat) : Int) + (0 - dx + ((2 ^ L : Nat) : Int)) = x + ((2 ^ L : Nat) : Int) + ((2 ^ L : Nat) : Int) by omega, Int.add_emod_right, Int.add_emod_right]
      exact Int.emod_eq_of_lt (by omega) (by omega)
    rw [this]
  · refine .inl ?_
    have hw : (leI (0 - ((2 ^ L : Nat) : Int)) dx && leI dx ((2 ^ L : Nat) : Int)) = false := by
      by_cases h1 : -((2 ^ L : Nat) : Int) ≤ dx
      · rw [leI_f (show ((2 ^ L : Nat) : Int) < dx by omega), Bool.and_false]
      · rw [leI_f (show dx < 0 - ((2 ^ L : Nat) : Int) by omega), Bool.false_and]
    constructor
    · unfold impl_NeighbourOf
      rw [valid_true k L x y h hx hy, Option.bind_some, gb0]
      simp only [Bool.not_true, cond_false]
      rw [side_some k L h, Option.bind_some]
      simp only [gi0]
      rw [wr (0 - ((2 ^ L : Nat) : Int)) (by omega) (by omega), within_b, Option.bind_some, gb0, hw]; rfl
    · unfold spec_NeighbourOf
      rw [lok_true k L x y h hx hy, Option.bind_some, gb0]
      simp only [Bool.not_true, cond_false]
      rw [count_some k L h, Option.bind_some]
      simp only [gi0]
      rw [wr (0 - ((2 ^ L : Nat) : Int)) (by omega) (by omega), in_b, Option.bind_some, gb0, hw]; rfl
/-! ### The common tile -/
theorem nbq {a b : Nat} (h : ¬ a = b) : ((a : Int) == (b : Int)) = false := beq_f fun e => h (Int.ofNat.inj e)
theorem most {P : Nat → Prop} : ∀ n, P 0 → ∃ c, c ≤ n ∧ P c ∧ ∀ d, d ≤ n → P d → d ≤ c
  | 0, h => ⟨0, Nat.le_refl _, h, fun d hd _ => hd⟩
  | n + 1, h => by
    by_cases hp : P (n + 1)
    · exact ⟨n + 1, Nat.le_refl _, hp, fun d hd _ => hd⟩
    · obtain ⟨c, h1, h2, h3⟩ := most n h
      refine ⟨c, by omega, h2, fun d hd hpd => ?_⟩
      by_cases e : d = n + 1
      · subst e; exact absurd hpd hp
      · exact h3 d (by omega) hpd
theorem up_div (x d : Nat) (h : 0 < d) : x / 2 ^ d = x / 2 ^ (d - 1) / 2 := by
  obtain ⟨e, rfl⟩ : ∃ e, d = e + 1 := ⟨d - 1, by omega⟩
  rw [Nat.div_div_eq_div_mul, Nat.pow_succ]; rfl
theorem common_l0 (k L x y M u v c : Nat) (hL : L ≤ 20) (hM : M ≤ 20) (hx : x < 1048576) (hy : y < 1048576) (hu : u < 1048576) (hv : v < 1048576) (q1 q2 q3 q4 : Int)
    (hc : ∀ d, d ≤ L → d ≤ M → x / 2 ^ (L - d) = u / 2 ^ (M - d) → y / 2 ^ (L - d) = v / 2 ^ (M - d) → d ≤ c) (hcx : x / 2 ^ (L - c) = u / 2 ^ (M - c)) (hcy : y / 2 ^ (L - c) = v / 2 ^ (M - c)) :
    ∀ (d n a b : Nat), a + b = c + c + d → c ≤ a → a ≤ L → c ≤ b → b ≤ M → impl_CommonTile_l0 k (d + 1 + n) a ((x / 2 ^ (L - a) : Nat) : Int) ((y / 2 ^ (L - a) : Nat) : Int) b ((u / 2 ^ (M - b) : Nat) : Int) ((v / 2 ^ (M - b) : Nat) : Int) q1 q2 q3 q4 = some [.i 0, .i c, .i ((x / 2 ^ (L - c) : Nat) : Int), .i ((y / 2 ^ (L - c) : Nat) : Int), .i c, .i ((x / 2 ^ (L - c) : Nat) : Int), .i ((y / 2 ^ (L - c) : Nat) : Int), .i q1, .i q2, .i q3, .i q4] := by
  intro d
  have dl : ∀ x e : Nat, x / 2 ^ e ≤ x := fun x e => Nat.div_le_self ..
  induction d with
  | zero =>
    intro n a b h h1 h2 h3 h4
    obtain rfl : a = c := by omega
    obtain rfl : b = a := by omega
    rw [show 0 + 1 + n = n + 1 by omega, impl_CommonTile_l0, ← hcx, ← hcy]
    simp
  | succ d ih =>
    intro n a b h h1 h2 h3 h4
    have hne : ¬ (a = b ∧ x / 2 ^ (L - a) = u / 2 ^ (M - b) ∧ y / 2 ^ (L - a) = v / 2 ^ (M - b)) := by
      rintro ⟨rfl, e1, e2⟩
      have := hc a h2 h4 e1 e2
      omega
    have hb : (!((((a : Int)) == (b : Int)) && ((((x / 2 ^ (L - a) : Nat) : Int) == ((u / 2 ^ (M - b) : Nat) : Int)) && ((((y / 2 ^ (L - a) : Nat) : Int) == ((v / 2 ^ (M - b) : Nat) : Int)) && true)))) = true := by
      by_cases e1 : a = b
      · by_cases e2 : x / 2 ^ (L - a) = u / 2 ^ (M - b)
        · by_cases e3 : y / 2 ^ (L - a) = v / 2 ^ (M - b)
          · exact absurd ⟨e1, e2, e3⟩ hne
          · rw [nbq e3]; simp
        · rw [nbq e2]; simp
      · rw [nbq e1]; simp
    have p : ∀ z : Nat, z < 1048576 → ∀ e, IntKind.wrap .i64 (Int.tdiv ((z / 2 ^ e : Nat) : Int) 2) = ((z / 2 ^ e / 2 : Nat) : Int) := by
      intro z hz e
      have := dl z e
      generalize z / 2 ^ e = q at *
      rw [tdiv_pos _ _ (by omega), wr _ (by omega) (by omega)]; omega
    rw [show d + 1 + 1 + n = (d + 1 + n) + 1 by omega, impl_CommonTile_l0]
    try dsimp only
    rw [bif_t hb]
    unfold impl_Tile_parent
    simp only [Option.bind_some, giS, gi0]
    by_cases hab : b ≤ a
    · rw [bif_t (leI_t (by omega)), p x hx, p y hy, wr _ (by omega) (by omega)]
      have hac : c < a := by
        rcases Nat.lt_or_ge c a with h5 | h5
        · exact h5
        · exfalso
          obtain rfl : a = c := by omega
          obtain rfl : b = a := by omega
          exact hne ⟨rfl, hcx, hcy⟩
      have := ih n (a - 1) b (by omega) (by omega) (by omega) h3 h4
      rw [up_div x (L - (a - 1)) (by omega), up_div y (L - (a - 1)) (by omega), show L - (a - 1) - 1 = L - a by omega, show ((a - 1 : Nat) : Int) = (a : Int) - 1 by omega] at this
      exact this
    · rw [bif_f (leI_f (by omega)), p u hu, p v hv, wr _ (by omega) (by omega)]
      have := ih n a (b - 1) (by omega) h1 h2 (by omega) (by omega)
      rw [up_div u (M - (b - 1)) (by omega), up_div v (M - (b - 1)) (by omega), show M - (b - 1) - 1 = M - b by omega, show ((b - 1 : Nat) : Int) = (b : Int) - 1 by omega] at this
      exact this
/-- The common tile: the greatest level on which both lie in one tile. -/
theorem common_some (k : Nat) (hk : 60 ≤ k) (L x y M u v : Nat) (hL : L ≤ 20) (hM : M ≤ 20) (hx : x < 2 ^ L) (hy : y < 2 ^ L) (hu : u < 2 ^ M) (hv : v < 2 ^ M) :
    ∃ c, c ≤ L ∧ c ≤ M ∧ x / 2 ^ (L - c) = u / 2 ^ (M - c) ∧ y / 2 ^ (L - c) = v / 2 ^ (M - c) ∧ (c < L → c < M → ¬ (x / 2 ^ (L - (c + 1)) = u / 2 ^ (M - (c + 1)) ∧ y / 2 ^ (L - (c + 1)) = v / 2 ^ (M - (c + 1)))) ∧
      impl_CommonTile k L x y M u v = some [.i c, .i ((x / 2 ^ (L - c) : Nat) : Int), .i ((y / 2 ^ (L - c) : Nat) : Int), .i 0] := by
  have pL := pow_le L hL
  have pM := pow_le M hM
  obtain ⟨c, h1, h2, h3⟩ := most (P := fun c => c ≤ L ∧ c ≤ M ∧ x / 2 ^ (L - c) = u / 2 ^ (M - c) ∧ y / 2 ^ (L - c) = v / 2 ^ (M - c)) L
    ⟨Nat.zero_le _, Nat.zero_le _, by rw [Nat.sub_zero, Nat.sub_zero, Nat.div_eq_of_lt hx, Nat.div_eq_of_lt hu], by rw [Nat.sub_zero, Nat.sub_zero, Nat.div_eq_of_lt hy, Nat.div_eq_of_lt hv]⟩
  obtain ⟨g1, g2, g3, g4⟩ := h2
  refine ⟨c, g1, g2, g3, g4, fun e1 e2 e3 => ?_, ?_⟩
  · have := h3 (c + 1) e1 ⟨e1, e2, e3.1, e3.2⟩
    omega
  · have := common_l0 k L x y M u v c hL hM (by omega) (by omega) (by omega) (by omega) 0 0 0 0 (fun d d1 d2 d3 d4 => h3 d d1 ⟨d1, d2, d3, d4⟩) g3 g4 (L + M - c - c) (k - (L + M - c - c) - 1) L M (by omega) g1 (Nat.le_refl _) g2 (Nat.le_refl _)
    rw [show L + M - c - c + 1 + (k - (L + M - c - c) - 1) = k by omega, Nat.sub_self, Nat.sub_self] at this
    simp only [Nat.pow_zero, Nat.div_one] at this
    unfold impl_CommonTile
    rw [valid_true k L x y hL hx hy, Option.bind_some, gb0]
    simp only [Bool.not_true, cond_false]
    rw [valid_true k M u v hM hu hv, Option.bind_some, gb0]
    simp only [Bool.not_true, cond_false]
    rw [this, Option.bind_some]
    simp only [giS, gi0]
end Go.Proofs.YtpanhndkcnojpaaDoor.Ev
