/- A reference is read: the same cell, by both. No condition. -/
import Derived.Test.YtpanhndkcnojpaaDoorPGeo
import Derived.Lib.SlTrimSet
namespace Go.Proofs.YtpanhndkcnojpaaDoor.Ev
open Go Go.RowKit
set_option linter.unusedSimpArgs false
set_option linter.unusedVariables false
/-- The number of a letter; -1 if there is none. -/
def letter (c : Int) : Int := match (List.range L24.size).find? fun i => L24[i]! == c.toNat.toUInt8 with
  | some i => (i : Int)
  | none => -1
theorem idx_some (k : Nat) (c : Int) : strings_IndexByte k L24 c = some [.i (letter c)] := rfl
theorem find_congr {α : Type} {p q : α → Bool} : ∀ {l : List α}, (∀ x ∈ l, p x = q x) → l.find? p = l.find? q
  | [], _ => rfl
  | x :: l, h => by
    rw [List.find?_cons, List.find?_cons, h x (List.mem_cons_self ..), find_congr fun y hy => h y (List.mem_cons_of_mem _ hy)]
theorem L24_at : ∀ i : Nat, i < 24 → bt L24 (i : Int) = ((L24[i]!).toNat : Int) := by decide +kernel
theorem bt_in (s : ByteArray) (i : Int) : 0 ≤ bt s i ∧ bt s i ≤ 255 := by
  unfold bt
  have := (s.data.toList.getD i.toNat 0).toNat_lt
  omega
def implFin (k : Nat) (s : ByteArray) (lvl i j : Int) : Option (List D) := (impl_georefCell k i j lvl).bind fun t138 => (impl_within k i 0 (IntKind.wrap .i64 ((gi t138 2) - 1))).bind fun t139 => (bif (!(gb t139 0)) then some [.i 0, .i 0, .i 0, .i 0, .b false] else (impl_within k j 0 (IntKind.wrap .i64 ((gi t138 3) - 1))).bind fun t140 => (bif (!(gb t140 0)) then some [.i 0, .i 0, .i 0, .i 0, .b false] else (impl_georefText k (gi t138 0) (gi t138 1) (gi t138 2) (gi t138 3) lvl).bind fun t141 => let v142 : Bool := (!((gs t141 0).toList == s.toList)); (bif v142 then some [.i 0, .i 0, .i 0, .i 0, .b false] else some [.i (gi t138 0), .i (gi t138 1), .i (gi t138 2), .i (gi t138 3), .b true])))
/-- Both read the same. -/
def Same (a b : Option (List D)) : Prop := (a = some [.i 0, .i 0, .i 0, .b false] ∧ b = some [.i 0, .i 0, .i 0, .i 0, .b false]) ∨
  ∃ i j lvl, a = some [.i i, .i j, .i lvl, .b true] ∧ b = some [.i i, .i j, .i (mOf lvl), .i (mOf lvl / 2), .b true] ∧ (1 ≤ lvl ∧ lvl ≤ 4) ∧ (0 ≤ i ∧ i < mOf lvl) ∧ (0 ≤ j ∧ j < mOf lvl / 2)
theorem mOf_in {lvl : Int} : 24 ≤ mOf lvl ∧ mOf lvl ≤ 216000 := by unfold mOf; split; omega; split; omega; split <;> omega
theorem cellG_some (k : Nat) (i j lvl : Int) (h : 1 ≤ lvl ∧ lvl ≤ 4) : impl_georefCell k i j lvl = some [.i i, .i j, .i (mOf lvl), .i (mOf lvl / 2)] := by
  have hc : lvl = 1 ∨ lvl = 2 ∨ lvl = 3 ∨ lvl = 4 := by omega
  rcases hc with rfl | rfl | rfl | rfl <;> rfl
theorem loop4 (k f : Nat) (s : ByteArray) (x1 x2 x3 x4 : Int) (x5 : Bool) (lvl : Int) (hs : 4 ≤ s.size) : impl_readGeoref_l0 k (f + 5) s x1 x2 x3 x4 x5 lvl 0 0 0 0 4 0 = some [.i 0, .s s, .i x1, .i x2, .i x3, .i x4, .b x5, .i lvl, .i (letter (bt s 0)), .i (letter (bt s 1)), .i (letter (bt s 2)), .i (letter (bt s 3)), .i 4, .i 4] := by
  rw [impl_readGeoref_l0, bif_t (ltI_t (by omega)), bif_t (inR_t (by omega) (by omega))]
  erw [idx_some]
  rw [Option.bind_some, bif_t (eqI_t rfl), show IntKind.wrap .i64 ((0 : Int) + 1) = 1 from rfl]
  rw [impl_readGeoref_l0, bif_t (ltI_t (by omega)), bif_t (inR_t (by omega) (by omega))]
  erw [idx_some]
  rw [Option.bind_some, bif_f (eqI_f (by omega)), bif_t (eqI_t rfl), show IntKind.wrap .i64 ((1 : Int) + 1) = 2 from rfl]
  rw [impl_readGeoref_l0, bif_t (ltI_t (by omega)), bif_t (inR_t (by omega) (by omega))]
  erw [idx_some]
  rw [Option.bind_some, bif_f (eqI_f (by omega)), bif_f (eqI_f (by omega)), bif_t (eqI_t rfl), show IntKind.wrap .i64 ((2 : Int) + 1) = 3 from rfl]
  rw [impl_readGeoref_l0, bif_t (ltI_t (by omega)), bif_t (inR_t (by omega) (by omega))]
  erw [idx_some]
  rw [Option.bind_some, bif_f (eqI_f (by omega)), bif_f (eqI_f (by omega)), bif_f (eqI_f (by omega)), bif_t (eqI_t rfl), show IntKind.wrap .i64 ((3 : Int) + 1) = 4 from rfl]
  rw [impl_readGeoref_l0, bif_f (ltI_f (by omega))]
  rfl
theorem loop2 (k f : Nat) (s : ByteArray) (x1 x2 x3 x4 : Int) (x5 : Bool) (lvl : Int) (hs : 2 ≤ s.size) : impl_readGeoref_l0 k (f + 3) s x1 x2 x3 x4 x5 lvl 0 0 0 0 2 0 = some [.i 0, .s s, .i x1, .i x2, .i x3, .i x4, .b x5, .i lvl, .i (letter (bt s 0)), .i (letter (bt s 1)), .i 0, .i 0, .i 2, .i 2] := by
  rw [impl_readGeoref_l0, bif_t (ltI_t (by omega)), bif_t (inR_t (by omega) (by omega))]
  erw [idx_some]
  rw [Option.bind_some, bif_t (eqI_t rfl), show IntKind.wrap .i64 ((0 : Int) + 1) = 1 from rfl]
  rw [impl_readGeoref_l0, bif_t (ltI_t (by omega)), bif_t (inR_t (by omega) (by omega))]
  erw [idx_some]
  rw [Option.bind_some, bif_f (eqI_f (by omega)), bif_t (eqI_t rfl), show IntKind.wrap .i64 ((1 : Int) + 1) = 2 from rfl]
  rw [impl_readGeoref_l0, bif_f (ltI_f (by omega))]
  rfl
def isDig (c : Int) : Bool := leI 48 c && leI c 57
/-- One more digit. -/
def step (n c : Int) : Int := IntKind.wrap .i64 (IntKind.wrap .i64 (10 * n) + IntKind.wrap .i64 (IntKind.wrap .u8 (c - 48)))
theorem bt_bs (l : List UInt8) (i : Nat) : bt (bs l) (i : Int) = ((l.getD i 0).toNat : Int) := by
  unfold bt bs; rw [Int.toNat_natCast]
theorem extract_bs (l : List UInt8) (a b : Nat) : (bs l).extract a b = bs ((l.drop a).take (b - a)) := by
  apply ByteArray.ext
  rw [ByteArray.data_extract]
  unfold bs
  simp [List.extract]
theorem bs_of {s : ByteArray} {n : Nat} (h : s.size = n) : ∃ l, s = bs l ∧ l.length = n := ⟨s.data.toList, by cases s; rfl, by rw [← h]; exact Array.length_toList⟩
theorem wr_wr (n : Int) : IntKind.wrap .i64 (IntKind.wrap .i64 n) = IntKind.wrap .i64 n := by rw [IntKind.wrap_i64, IntKind.wrap_i64]; omega
/-- Trimmed to nothing. -/
theorem drop_all {p : UInt8 → Bool} : ∀ {m : List UInt8}, (∀ x ∈ m.dropWhile p, p x = true) → ∀ x ∈ m, p x = true
  | [], _, x, hx => by cases hx
  | a :: m, h, x, hx => by
    cases ha : p a with
    | true =>
      rw [List.dropWhile_cons_of_pos ha] at h
      rcases List.mem_cons.1 hx with rfl | hx
      · exact ha
      · exact drop_all h x hx
    | false =>
      rw [List.dropWhile_cons_of_neg (by rw [ha]; simp)] at h
      have := h a (List.mem_cons_self ..)
      rw [ha] at this; cases this
theorem dw_nil {p : UInt8 → Bool} : ∀ {m : List UInt8}, m.dropWhile p = [] ↔ ∀ x ∈ m, p x = true
  | [] => by simp
  | a :: m => by
    cases ha : p a with
    | true => rw [List.dropWhile_cons_of_pos ha, dw_nil]; simp [ha]
    | false => rw [List.dropWhile_cons_of_neg (by rw [ha]; simp)]; simp [ha]
theorem trim_nil (l cs : List UInt8) : Lib.trimS l cs = [] ↔ l.all (cs.contains ·) = true := by
  rw [List.all_eq_true]
  unfold Lib.trimS Lib.trimLeftS Lib.trimRightS
  rw [dw_nil]
  constructor
  · intro h x hx
    exact drop_all (m := l.reverse) (fun y hy => h y (List.mem_reverse.2 hy)) x (List.mem_reverse.2 hx)
  · intro h x hx
    have hx' : x ∈ l.reverse.dropWhile (cs.contains ·) := by simpa using hx
    exact h x (by simpa using (List.dropWhile_sublist _).subset hx')
theorem dig_contains : ∀ n, n < 256 → ([48, 49, 50, 51, 52, 53, 54, 55, 56, 57] : List UInt8).contains (UInt8.ofNat n) = isDig (n : Int) := by decide +kernel
theorem dig_contains' (u : UInt8) : ([48, 49, 50, 51, 52, 53, 54, 55, 56, 57] : List UInt8).contains u = isDig (u.toNat : Int) := by
  have := dig_contains u.toNat u.toNat_lt
  rwa [UInt8.ofNat_toNat] at this
theorem trim_some (l : List UInt8) (h : l.length ≤ 100) : ∃ r, trimA (bs l) ⟨#[48, 49, 50, 51, 52, 53, 54, 55, 56, 57]⟩ = some [.s r] ∧ (!(r.toList == (⟨#[]⟩ : ByteArray).toList)) = !l.all (fun u => isDig (u.toNat : Int)) := by
  refine ⟨bs (Lib.trimS l [48, 49, 50, 51, 52, 53, 54, 55, 56, 57]), ?_, ?_⟩
  · unfold trimA
    rw [bif_t]
    · rfl
    · rw [show ((⟨#[48, 49, 50, 51, 52, 53, 54, 55, 56, 57]⟩ : ByteArray).data.toList.all fun b => decide (b.toNat < 128)) = true from rfl, decide_eq_true (by rw [bs_size]; omega), decide_eq_true (by decide)]; rfl
  · have e : l.all (([48, 49, 50, 51, 52, 53, 54, 55, 56, 57] : List UInt8).contains ·) = l.all (fun u => isDig (u.toNat : Int)) := by
      congr 1; funext u; exact dig_contains' u
    rw [Lib.toList_data, Lib.toList_data, ← e]
    congr 1
    rw [Bool.eq_iff_iff, beq_iff_eq, ← trim_nil]
    show (bs _).data.toList = [] ↔ _
    unfold bs
    simp
theorem num_l0 (k : Nat) (m : List UInt8) (x1 : Int) (hm : m.length ≤ 100) : ∀ (d f j : Nat) (n : Int), j + d = m.length → impl_number_l0 k (d + 1 + f) (bs m) x1 n (m.length : Int) (j : Int) = some [.i 0, .s (bs m), .i x1, .i ((m.drop j).foldl (fun n u => step n (u.toNat : Int)) n), .i (m.length : Int), .i (m.length : Int)]
  | 0, f, j, n, h => by
    obtain rfl : j = m.length := by omega
    rw [show 0 + 1 + f = f + 1 by omega, impl_number_l0, bif_f (ltI_f (by omega)), List.drop_length]
    rfl
  | d + 1, f, j, n, h => by
    have hj : j < m.length := by omega
    rw [show d + 1 + 1 + f = (d + 1 + f) + 1 by omega, impl_number_l0, bif_t (ltI_t (by omega)), bif_t (inR_t (by omega) (by rw [bs_size]; omega)), List.drop_eq_getElem_cons hj, List.foldl_cons]
    dsimp only
    rw [show IntKind.wrap .i64 ((j : Int) + 1) = ((j + 1 : Nat) : Int) by rw [wr _ (by omega) (by omega)]; omega, bt_bs, List.getD_eq_getElem?_getD, List.getElem?_eq_getElem hj]
    exact num_l0 k m x1 hm d f (j + 1) _ (by omega)
theorem num_some (k : Nat) (m : List UInt8) (h : m.length < k) (h1 : m.length ≤ 100) : impl_number k (bs m) = some [.i (m.foldl (fun n u => step n (u.toNat : Int)) 0)] := by
  obtain ⟨f, hf⟩ : ∃ f, k = m.length + 1 + f := ⟨k - m.length - 1, by omega⟩
  have := num_l0 k m 0 h1 m.length f 0 0 (by omega)
  unfold impl_number
  rw [bs_size, show impl_number_l0 k k = impl_number_l0 k (m.length + 1 + f) by rw [← hf]]
  erw [this]
  rfl
def num (m : List UInt8) : Int := m.foldl (fun n u => step n (u.toNat : Int)) 0
def V (s : ByteArray) (i j : Int) : Int := IntKind.wrap .i64 (IntKind.wrap .i64 (15 * letter (bt s i)) + letter (bt s j))
theorem impl_big (K : Nat) (hK : 40 ≤ K) (l : List UInt8) (lvl P : Int) (D : Nat) (hl : l.length = 4 + 2 * D) (hD : D ≤ 3) (hP : 0 < P) (e1 : impl_georefLevel K ((4 + 2 * D : Nat) : Int) = some [.i lvl]) (e2 : impl_georefParts K lvl = some [.i P, .i (D : Int)]) (hlv : lvl ≠ 0) :
    impl_readGeoref K (bs l) = bif (l.drop 4).all (fun u => isDig (u.toNat : Int)) then implFin K (bs l) lvl (IntKind.wrap .i64 (IntKind.wrap .i64 (V (bs l) 0 2 * P) + num ((l.drop 4).take D))) (IntKind.wrap .i64 (IntKind.wrap .i64 (V (bs l) 1 3 * P) + num ((l.drop 4).drop D))) else some [.i 0, .i 0, .i 0, .i 0, .b false] := by
  obtain ⟨f, rfl⟩ : ∃ f, K = f + 5 := ⟨K - 5, by omega⟩
  have hs : (bs l).size = 4 + 2 * D := by rw [bs_size, hl]
  have hr : (l.drop 4).length = 2 * D := by rw [List.length_drop]; omega
  have hx : (l.drop (Int.toNat 4)).take (Int.toNat ((4 + 2 * D : Nat) : Int) - Int.toNat 4) = l.drop 4 := by
    rw [Int.toNat_natCast]
    exact List.take_of_length_le (by rw [show Int.toNat 4 = 4 from rfl, hr]; omega)
  unfold impl_readGeoref
  rw [hs, e1, Option.bind_some, gi0, bif_f (beq_f hlv), show mnI ((4 + 2 * D : Nat) : Int) 4 = 4 by unfold mnI; split <;> omega]
  dsimp only
  rw [loop4 _ f (bs l) _ _ _ _ _ _ (by omega), Option.bind_some]
  simp only [gi0, giS, gs0, gsS]
  rw [e2, Option.bind_some, hs]
  simp only [gi0, giS]
  rw [bif_t (ltI_t hP), bif_t (inS_t (by omega) (by omega) (by omega)), extract_bs, hx]
  obtain ⟨r, t1, t2⟩ := trim_some (l.drop 4) (by omega)
  rw [t1, Option.bind_some]
  simp only [gs0]
  rw [t2]
  cases hb : (l.drop 4).all (fun u => isDig (u.toNat : Int)) with
  | false => rfl
  | true =>
    have y1 : ((l.drop 4).drop (Int.toNat 0)).take (Int.toNat (D : Int) - Int.toNat 0) = (l.drop 4).take D := by rw [Int.toNat_natCast]; rfl
    have y2 : ((l.drop 4).drop (Int.toNat (D : Int))).take (Int.toNat (((2 * D : Nat) : Int)) - Int.toNat (D : Int)) = (l.drop 4).drop D := by
      rw [Int.toNat_natCast, Int.toNat_natCast]
      exact List.take_of_length_le (by rw [List.length_drop]; omega)
    rw [Bool.not_true, cond_false, cond_true, bs_size, hr, bif_t (inS_t (by omega) (by omega) (by omega)), extract_bs, y1, num_some _ _ (by rw [List.length_take]; omega) (by rw [List.length_take]; omega), Option.bind_some]
    rw [bif_t (inS_t (by omega) (by omega) (by omega)), extract_bs, y2, num_some _ _ (by rw [List.length_drop]; omega) (by rw [List.length_drop]; omega), Option.bind_some]
    rfl
theorem list8 {l : List UInt8} (h : l.length = 8) : ∃ a b c d e f g i, l = [a, b, c, d, e, f, g, i] := by
  match l, h with
  | [a, b, c, d, e, f, g, i], _ => exact ⟨a, b, c, d, e, f, g, i, rfl⟩
theorem list10 {l : List UInt8} (h : l.length = 10) : ∃ a b c d e f g i j k, l = [a, b, c, d, e, f, g, i, j, k] := by
  match l, h with
  | [a, b, c, d, e, f, g, i, j, k], _ => exact ⟨a, b, c, d, e, f, g, i, j, k, rfl⟩
theorem and4 (a b c d : Bool) : (a && c && (b && d && true)) = (a && (b && (c && (d && true)))) := by cases a <;> cases b <;> cases c <;> cases d <;> rfl
theorem and6 (a b c d e f : Bool) : (a && d && (b && e && (c && f && true))) = (a && (b && (c && (d && (e && (f && true)))))) := by cases a <;> cases b <;> cases c <;> cases d <;> cases e <;> cases f <;> rfl
def F4 : List D := [.i 0, .i 0, .i 0, .b false]
end Go.Proofs.YtpanhndkcnojpaaDoor.Ev
