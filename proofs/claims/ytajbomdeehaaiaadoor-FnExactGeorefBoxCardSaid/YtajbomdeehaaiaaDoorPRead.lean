/- A reference is read: the same cell, by both. No condition. -/
import Derived.Test.YtajbomdeehaaiaaDoorPGeo
import Derived.Lib.SlTrimSet
namespace Go.Proofs.YtajbomdeehaaiaaDoor.Ev
open Go Go.RowKit
set_option linter.unusedSimpArgs false
set_option linter.unusedVariables false
/-- The number of a letter; -1 if there is none. -/
def letter (c : Int) : Int := match (List.range L24.size).find? fun i => L24[i]! == c.toNat.toUInt8 with
  | some i => (i : Int)
  | none => -1
theorem idx_some (k : Nat) (c : Int) : strings_IndexByte k L24 c = some [.i (letter c)] := rfl
theorem letter_l0 (k : Nat) (x0 x1 : Int) : ∀ (d f j : Nat), j + d = 24 → spec_l26Letter_l0 k (d + 1 + f) x0 x1 L24 (j : Int) = match (List.range' j d).find? (fun (i : Nat) => bt L24 (i : Int) == x0) with
    | some i => some [.i 1, .i x0, .i i, .s L24, .i i]
    | none => some [.i 0, .i x0, .i x1, .s L24, .i 24]
  | 0, f, j, h => by
    obtain rfl : j = 24 := by omega
    rw [show 0 + 1 + f = f + 1 by omega, spec_l26Letter_l0]
    rfl
  | d + 1, f, j, h => by
    have ih := letter_l0 k x0 x1 d f (j + 1) (by omega)
    rw [show d + 1 + 1 + f = (d + 1 + f) + 1 by omega, spec_l26Letter_l0]
    rw [L24_size, bif_t (ltI_t (by omega)), bif_t (inR_t (by omega) (by omega)), List.range'_succ, List.find?_cons]
    cases hb : (bt L24 (j : Int) == x0) with
    | true => rfl
    | false =>
      rw [cond_false, show IntKind.wrap .i64 ((j : Int) + 1) = ((j + 1 : Nat) : Int) by rw [wr _ (by omega) (by omega)]; omega, ih]
theorem find_congr {α : Type} {p q : α → Bool} : ∀ {l : List α}, (∀ x ∈ l, p x = q x) → l.find? p = l.find? q
  | [], _ => rfl
  | x :: l, h => by
    rw [List.find?_cons, List.find?_cons, h x (List.mem_cons_self ..), find_congr fun y hy => h y (List.mem_cons_of_mem _ hy)]
theorem L24_at : ∀ i : Nat, i < 24 → bt L24 (i : Int) = ((L24[i]!).toNat : Int) := by decide +kernel
theorem letter_some (k : Nat) (hk : 25 ≤ k) (c : Int) (h0 : 0 ≤ c) (h1 : c ≤ 255) : spec_l26Letter k c = some [.i (letter c)] := by
  obtain ⟨f, rfl⟩ : ∃ f, k = 24 + 1 + f := ⟨k - 25, by omega⟩
  have e : (List.range L24.size).find? (fun i => L24[i]! == c.toNat.toUInt8) = (List.range' 0 24).find? (fun (i : Nat) => bt L24 (i : Int) == c) := by
    rw [show L24.size = 24 from rfl, List.range_eq_range']
    refine find_congr fun i hi => ?_
    have hi' : i < 24 := by simp [List.mem_range'] at hi; omega
    rw [L24_at i hi']
    obtain ⟨n, rfl⟩ := Int.eq_ofNat_of_zero_le h0
    have hn : n < 256 := by omega
    generalize L24[i]! = u
    rw [Bool.eq_iff_iff, beq_iff_eq, beq_iff_eq, Int.toNat_natCast]
    constructor
    · rintro rfl; simp; omega
    · intro h
      have : u.toNat = n := by exact_mod_cast h
      rw [← this]
      apply UInt8.toNat_inj.1
      simp
  unfold spec_l26Letter letter
  have e1 := letter_l0 (24 + 1 + f) c 0 24 f 0 (by omega)
  have e2 : spec_l26Letter_l0 (24 + 1 + f) (24 + 1 + f) c 0 L24 0 = _ := e1
  rw [letters_eq, Option.bind_some, gs0, e2, e]
  cases (List.range' 0 24).find? (fun (i : Nat) => bt L24 (i : Int) == c) <;> rfl
theorem bt_in (s : ByteArray) (i : Int) : 0 ≤ bt s i ∧ bt s i ≤ 255 := by
  unfold bt
  have := (s.data.toList.getD i.toNat 0).toNat_lt
  omega
/-- What is left when the letters and the digits are read, by the reference. -/
def specFin (k : Nat) (s : ByteArray) (lvl i j : Int) : Option (List D) := (spec_l26Grid k lvl).bind fun t30 => (spec_l00In k i 0 (IntKind.wrap .i64 ((gi t30 0) - 1))).bind fun t31 => (bif (!(gb t31 0)) then some [.i 0, .i 0, .i 0, .b false] else (spec_l00In k j 0 (IntKind.wrap .i64 ((gi t30 1) - 1))).bind fun t32 => (bif (!(gb t32 0)) then some [.i 0, .i 0, .i 0, .b false] else (spec_l26Georef k i j lvl).bind fun t33 => (bif (!((gs t33 0).toList == s.toList)) then some [.i 0, .i 0, .i 0, .b false] else some [.i i, .i j, .i lvl, .b true])))
def implFin (k : Nat) (s : ByteArray) (lvl i j : Int) : Option (List D) := (impl_georefCell k i j lvl).bind fun t138 => (impl_within k i 0 (IntKind.wrap .i64 ((gi t138 2) - 1))).bind fun t139 => (bif (!(gb t139 0)) then some [.i 0, .i 0, .i 0, .i 0, .b false] else (impl_within k j 0 (IntKind.wrap .i64 ((gi t138 3) - 1))).bind fun t140 => (bif (!(gb t140 0)) then some [.i 0, .i 0, .i 0, .i 0, .b false] else (impl_georefText k (gi t138 0) (gi t138 1) (gi t138 2) (gi t138 3) lvl).bind fun t141 => let v142 : Bool := (!((gs t141 0).toList == s.toList)); (bif v142 then some [.i 0, .i 0, .i 0, .i 0, .b false] else some [.i (gi t138 0), .i (gi t138 1), .i (gi t138 2), .i (gi t138 3), .b true])))
/-- Both read the same. -/
def Same (a b : Option (List D)) : Prop := (a = some [.i 0, .i 0, .i 0, .b false] ∧ b = some [.i 0, .i 0, .i 0, .i 0, .b false]) ∨
  ∃ i j lvl, a = some [.i i, .i j, .i lvl, .b true] ∧ b = some [.i i, .i j, .i (mOf lvl), .i (mOf lvl / 2), .b true] ∧ (1 ≤ lvl ∧ lvl ≤ 4) ∧ (0 ≤ i ∧ i < mOf lvl) ∧ (0 ≤ j ∧ j < mOf lvl / 2)
theorem mOf_in {lvl : Int} : 24 ≤ mOf lvl ∧ mOf lvl ≤ 216000 := by unfold mOf; split; omega; split; omega; split <;> omega
theorem cellG_some (k : Nat) (i j lvl : Int) (h : 1 ≤ lvl ∧ lvl ≤ 4) : impl_georefCell k i j lvl = some [.i i, .i j, .i (mOf lvl), .i (mOf lvl / 2)] := by
  have hc : lvl = 1 ∨ lvl = 2 ∨ lvl = 3 ∨ lvl = 4 := by omega
  rcases hc with rfl | rfl | rfl | rfl <;> rfl
theorem fin_same (k : Nat) (hk : 20 ≤ k) (s : ByteArray) (lvl i j : Int) (h : 1 ≤ lvl ∧ lvl ≤ 4) : Same (specFin k s lvl i j) (implFin k s lvl i j) := by
  have hm := mOf_in (lvl := lvl)
  have w1 : IntKind.wrap .i64 (mOf lvl - 1) = mOf lvl - 1 := wr _ (by omega) (by omega)
  have w2 : IntKind.wrap .i64 (mOf lvl / 2 - 1) = mOf lvl / 2 - 1 := wr _ (by omega) (by omega)
  unfold specFin implFin
  rw [grid_some k lvl h, cellG_some k i j lvl h]
  simp only [Option.bind_some, gi0, giS, w1, w2, in_some, within_some, gb0]
  cases h1 : (leI 0 i && leI i (mOf lvl - 1)) with
  | false => exact .inl ⟨rfl, rfl⟩
  | true =>
    simp only [Bool.not_true, cond_false]
    cases h2 : (leI 0 j && leI j (mOf lvl / 2 - 1)) with
    | false => exact .inl ⟨rfl, rfl⟩
    | true =>
      simp only [Bool.not_true, cond_false]
      simp only [Bool.and_eq_true, leI_iff] at h1 h2
      obtain ⟨t, e1, e2⟩ := text_same k hk i j lvl (mOf lvl) (mOf lvl / 2) h h1.1 (by omega) h2.1 (by omega)
      rw [e1, e2]
      simp only [Option.bind_some, gs0]
      cases (t.toList == s.toList) with
      | false => exact .inl ⟨rfl, rfl⟩
      | true => exact .inr ⟨i, j, lvl, rfl, rfl, h, ⟨h1.1, by omega⟩, h2.1, by omega⟩
theorem loop4 (k f : Nat) (s : ByteArray) (x1 x2 x3 x4 : Int) (x5 : Bool) (lvl : Int) (hs : 4 ≤ s.size) : impl_readGeoref_l0 k (f + 5) s x1 x2 x3 x4 x5 lvl 0 0 0 0 4 0 = some [.i 0, .s s, .i x1, .i x2, .i x3, .i x4, .b x5, .i lvl, .i (letter (bt s 0)), .i (letter (bt s 1)), .i (letter (bt s 2)), .i (letter (bt s 3)), .i 4, .i 4] := by
  rw [impl_readGeoref_l0, bif_t (ltI_t (by omega)), bif_t (inR_t (by omega) (by omega))]
  erw [idx_some]
  rw [Option.bind_some, bif_t (eqI_t rfl), show IntKind.wrap .i64 ((0 : Int) + 1) = 1 from rfl]
  rw [impl_readGeoref_l0, bif_t (ltI_t (by omega)), bif_t (inR_t (by omega) (by omega))]
  erw [idx_some]
  rw [Option.bind_some, bif_f (eqI_f (by omega)), bif_t (eqI_t rfl), show IntKind.wrap .i64 ((1 : Int) + 1) = 2 from rfl]
  rw [impl_readGeoref_l0, bif_t (ltI_t (by omega)), bif_t (inR_t (by omega) (by omega))]
  erw [idx_some]
  rw [Option.bind_some, bif_f (eqI_f (by omega)), bif_f (eqI_f (by omega)), bif_t (eqI_t rfl), show IntKind.wrap .i64 ((2 : Int) + 1) = 3 from rfl]
  rw [impl_readGeoref_l0, bif_t (ltI_t (by omega)), bif_t (inR_t (by omega) (by omega))]
  erw [idx_some]
  rw [Option.bind_some, bif_f (eqI_f (by omega)), bif_f (eqI_f (by omega)), bif_f (eqI_f (by omega)), bif_t (eqI_t rfl), show IntKind.wrap .i64 ((3 : Int) + 1) = 4 from rfl]
  rw [impl_readGeoref_l0, bif_f (ltI_f (by omega))]
  rfl
theorem loop2 (k f : Nat) (s : ByteArray) (x1 x2 x3 x4 : Int) (x5 : Bool) (lvl : Int) (hs : 2 ≤ s.size) : impl_readGeoref_l0 k (f + 3) s x1 x2 x3 x4 x5 lvl 0 0 0 0 2 0 = some [.i 0, .s s, .i x1, .i x2, .i x3, .i x4, .b x5, .i lvl, .i (letter (bt s 0)), .i (letter (bt s 1)), .i 0, .i 0, .i 2, .i 2] := by
  rw [impl_readGeoref_l0, bif_t (ltI_t (by omega)), bif_t (inR_t (by omega) (by omega))]
  erw [idx_some]
  rw [Option.bind_some, bif_t (eqI_t rfl), show IntKind.wrap .i64 ((0 : Int) + 1) = 1 from rfl]
  rw [impl_readGeoref_l0, bif_t (ltI_t (by omega)), bif_t (inR_t (by omega) (by omega))]
  erw [idx_some]
  rw [Option.bind_some, bif_f (eqI_f (by omega)), bif_t (eqI_t rfl), show IntKind.wrap .i64 ((1 : Int) + 1) = 2 from rfl]
  rw [impl_readGeoref_l0, bif_f (ltI_f (by omega))]
  rfl
def isDig (c : Int) : Bool := leI 48 c && leI c 57
theorem digit_some (k : Nat) (c : Int) : spec_l01Digit k c = some [.b (isDig c)] := by
  unfold spec_l01Digit isDig; cases leI 48 c <;> rfl
/-- One more digit. -/
def step (n c : Int) : Int := IntKind.wrap .i64 (IntKind.wrap .i64 (10 * n) + IntKind.wrap .i64 (IntKind.wrap .u8 (c - 48)))
theorem bt_bs (l : List UInt8) (i : Nat) : bt (bs l) (i : Int) = ((l.getD i 0).toNat : Int) := by
  unfold bt bs; rw [Int.toNat_natCast]
theorem extract_bs (l : List UInt8) (a b : Nat) : (bs l).extract a b = bs ((l.drop a).take (b - a)) := by
  apply ByteArray.ext
  rw [ByteArray.data_extract]
  unfold bs
  simp [List.extract]
theorem bs_of {s : ByteArray} {n : Nat} (h : s.size = n) : ∃ l, s = bs l ∧ l.length = n := ⟨s.data.toList, by cases s; rfl, by rw [← h]; exact Array.length_toList⟩
theorem wr_wr (n : Int) : IntKind.wrap .i64 (IntKind.wrap .i64 n) = IntKind.wrap .i64 n := by rw [IntKind.wrap_i64, IntKind.wrap_i64]; omega
/-- Trimmed to nothing. -/
theorem drop_all {p : UInt8 → Bool} : ∀ {m : List UInt8}, (∀ x ∈ m.dropWhile p, p x = true) → ∀ x ∈ m, p x = true
  | [], _, x, hx => by cases hx
  | a :: m, h, x, hx => by
    cases ha : p a with
    | true =>
      rw [List.dropWhile_cons_of_pos ha] at h
      rcases List.mem_cons.1 hx with rfl | hx
      · exact ha
      · exact drop_all h x hx
    | false =>
      rw [List.dropWhile_cons_of_neg (by rw [ha]; simp)] at h
      have := h a (List.mem_cons_self ..)
      rw [ha] at this; cases this
theorem dw_nil {p : UInt8 → Bool} : ∀ {m : List UInt8}, m.dropWhile p = [] ↔ ∀ x ∈ m, p x = true
  | [] => by simp
  | a :: m => by
    cases ha : p a with
    | true => rw [List.dropWhile_cons_of_pos ha, dw_nil]; simp [ha]
    | false => rw [List.dropWhile_cons_of_neg (by rw [ha]; simp)]; simp [ha]
theorem trim_nil (l cs : List UInt8) : Lib.trimS l cs = [] ↔ l.all (cs.contains ·) = true := by
  rw [List.all_eq_true]
  unfold Lib.trimS Lib.trimLeftS Lib.trimRightS
  rw [dw_nil]
  constructor
  · intro h x hx
    exact drop_all (m := l.reverse) (fun y hy => h y (List.mem_reverse.2 hy)) x (List.mem_reverse.2 hx)
  · intro h x hx
    have hx' : x ∈ l.reverse.dropWhile (cs.contains ·) := by simpa using hx
    exact h x (by simpa using (List.dropWhile_sublist _).subset hx')
theorem dig_contains : ∀ n, n < 256 → ([48, 49, 50, 51, 52, 53, 54, 55, 56, 57] : List UInt8).contains (UInt8.ofNat n) = isDig (n : Int) := by decide +kernel
theorem dig_contains' (u : UInt8) : ([48, 49, 50, 51, 52, 53, 54, 55, 56, 57] : List UInt8).contains u = isDig (u.toNat : Int) := by
  have := dig_contains u.toNat u.toNat_lt
  rwa [UInt8.ofNat_toNat] at this
theorem trim_some (l : List UInt8) (h : l.length ≤ 100) : ∃ r, trimA (bs l) ⟨#[48, 49, 50, 51, 52, 53, 54, 55, 56, 57]⟩ = some [.s r] ∧ (!(r.toList == (⟨#[]⟩ : ByteArray).toList)) = !l.all (fun u => isDig (u.toNat : Int)) := by
  refine ⟨bs (Lib.trimS l [48, 49, 50, 51, 52, 53, 54, 55, 56, 57]), ?_, ?_⟩
  · unfold trimA
    rw [bif_t]
    · rfl
    · rw [show ((⟨#[48, 49, 50, 51, 52, 53, 54, 55, 56, 57]⟩ : ByteArray).data.toList.all fun b => decide (b.toNat < 128)) = true from rfl, decide_eq_true (by rw [bs_size]; omega), decide_eq_true (by decide)]; rfl
  · have e : l.all (([48, 49, 50, 51, 52, 53, 54, 55, 56, 57] : List UInt8).contains ·) = l.all (fun u => isDig (u.toNat : Int)) := by
      congr 1; funext u; exact dig_contains' u
    rw [Lib.toList_data, Lib.toList_data, ← e]
    congr 1
    rw [Bool.eq_iff_iff, beq_iff_eq, ← trim_nil]
    show (bs _).data.toList = [] ↔ _
    unfold bs
    simp
theorem num_l0 (k : Nat) (m : List UInt8) (x1 : Int) (hm : m.length ≤ 100) : ∀ (d f j : Nat) (n : Int), j + d = m.length → impl_number_l0 k (d + 1 + f) (bs m) x1 n (m.length : Int) (j : Int) = some [.i 0, .s (bs m), .i x1, .i ((m.drop j).foldl (fun n u => step n (u.toNat : Int)) n), .i (m.length : Int), .i (m.length : Int)]
  | 0, f, j, n, h => by
    obtain rfl : j = m.length := by omega
    rw [show 0 + 1 + f = f + 1 by omega, impl_number_l0, bif_f (ltI_f (by omega)), List.drop_length]
    rfl
  | d + 1, f, j, n, h => by
    have hj : j < m.length := by omega
    rw [show d + 1 + 1 + f = (d + 1 + f) + 1 by omega, impl_number_l0, bif_t (ltI_t (by omega)), bif_t (inR_t (by omega) (by rw [bs_size]; omega)), List.drop_eq_getElem_cons hj, List.foldl_cons]
    dsimp only
    rw [show IntKind.wrap .i64 ((j : Int) + 1) = ((j + 1 : Nat) : Int) by rw [wr _ (by omega) (by omega)]; omega, bt_bs, List.getD_eq_getElem?_getD, List.getElem?_eq_getElem hj]
    exact num_l0 k m x1 hm d f (j + 1) _ (by omega)
theorem num_some (k : Nat) (m : List UInt8) (h : m.length < k) (h1 : m.length ≤ 100) : impl_number k (bs m) = some [.i (m.foldl (fun n u => step n (u.toNat : Int)) 0)] := by
  obtain ⟨f, hf⟩ : ∃ f, k = m.length + 1 + f := ⟨k - m.length - 1, by omega⟩
  have := num_l0 k m 0 h1 m.length f 0 0 (by omega)
  unfold impl_number
  rw [bs_size, show impl_number_l0 k k = impl_number_l0 k (m.length + 1 + f) by rw [← hf]]
  erw [this]
  rfl
def num (m : List UInt8) : Int := m.foldl (fun n u => step n (u.toNat : Int)) 0
def V (s : ByteArray) (i j : Int) : Int := IntKind.wrap .i64 (IntKind.wrap .i64 (15 * letter (bt s i)) + letter (bt s j))
theorem impl_big (K : Nat) (hK : 40 ≤ K) (l : List UInt8) (lvl P : Int) (D : Nat) (hl : l.length = 4 + 2 * D) (hD : D ≤ 3) (hP : 0 < P) (e1 : impl_georefLevel K ((4 + 2 * D : Nat) : Int) = some [.i lvl]) (e2 : impl_georefParts K lvl = some [.i P, .i (D : Int)]) (hlv : lvl ≠ 0) :
    impl_readGeoref K (bs l) = bif (l.drop 4).all (fun u => isDig (u.toNat : Int)) then implFin K (bs l) lvl (IntKind.wrap .i64 (IntKind.wrap .i64 (V (bs l) 0 2 * P) + num ((l.drop 4).take D))) (IntKind.wrap .i64 (IntKind.wrap .i64 (V (bs l) 1 3 * P) + num ((l.drop 4).drop D))) else some [.i 0, .i 0, .i 0, .i 0, .b false] := by
  obtain ⟨f, rfl⟩ : ∃ f, K = f + 5 := ⟨K - 5, by omega⟩
  have hs : (bs l).size = 4 + 2 * D := by rw [bs_size, hl]
  have hr : (l.drop 4).length = 2 * D := by rw [List.length_drop]; omega
  have hx : (l.drop (Int.toNat 4)).take (Int.toNat ((4 + 2 * D : Nat) : Int) - Int.toNat 4) = l.drop 4 := by
    rw [Int.toNat_natCast]
    exact List.take_of_length_le (by rw [show Int.toNat 4 = 4 from rfl, hr]; omega)
  unfold impl_readGeoref
  rw [hs, e1, Option.bind_some, gi0, bif_f (beq_f hlv), show mnI ((4 + 2 * D : Nat) : Int) 4 = 4 by unfold mnI; split <;> omega]
  dsimp only
  rw [loop4 _ f (bs l) _ _ _ _ _ _ (by omega), Option.bind_some]
  simp only [gi0, giS, gs0, gsS]
  rw [e2, Option.bind_some, hs]
  simp only [gi0, giS]
  rw [bif_t (ltI_t hP), bif_t (inS_t (by omega) (by omega) (by omega)), extract_bs, hx]
  obtain ⟨r, t1, t2⟩ := trim_some (l.drop 4) (by omega)
  rw [t1, Option.bind_some]
  simp only [gs0]
  rw [t2]
  cases hb : (l.drop 4).all (fun u => isDig (u.toNat : Int)) with
  | false => rfl
  | true =>
    have y1 : ((l.drop 4).drop (Int.toNat 0)).take (Int.toNat (D : Int) - Int.toNat 0) = (l.drop 4).take D := by rw [Int.toNat_natCast]; rfl
    have y2 : ((l.drop 4).drop (Int.toNat (D : Int))).take (Int.toNat (((2 * D : Nat) : Int)) - Int.toNat (D : Int)) = (l.drop 4).drop D := by
      rw [Int.toNat_natCast, Int.toNat_natCast]
      exact List.take_of_length_le (by rw [List.length_drop]; omega)
    rw [Bool.not_true, cond_false, cond_true, bs_size, hr, bif_t (inS_t (by omega) (by omega) (by omega)), extract_bs, y1, num_some _ _ (by rw [List.length_take]; omega) (by rw [List.length_take]; omega), Option.bind_some]
    rw [bif_t (inS_t (by omega) (by omega) (by omega)), extract_bs, y2, num_some _ _ (by rw [List.length_drop]; omega) (by rw [List.length_drop]; omega), Option.bind_some]
    rfl
theorem let_some (k : Nat) (hk : 25 ≤ k) (s : ByteArray) (i : Int) : spec_l26Letter k (bt s i) = some [.i (letter (bt s i))] := letter_some k hk _ (bt_in s i).1 (bt_in s i).2
theorem size2 (s : ByteArray) (h : s.size = 2) (K : Nat) (hK : 40 ≤ K) : ∃ i j, spec_l26ReadGeoref K s = specFin K s 1 i j ∧ impl_readGeoref K s = implFin K s 1 i j := by
  refine ⟨letter (bt s 0), letter (bt s 1), ?_, ?_⟩
  · unfold spec_l26ReadGeoref
    rw [h]
    refine (show _ = (spec_l26Letter K (bt s 0)).bind fun t28 => (spec_l26Letter K (bt s 1)).bind fun t29 => specFin K s 1 (gi t28 0) (gi t29 0) from rfl).trans ?_
    rw [let_some K (by omega), Option.bind_some, let_some K (by omega), Option.bind_some]
    rfl
  · obtain ⟨f, rfl⟩ : ∃ f, K = f + 3 := ⟨K - 3, by omega⟩
    unfold impl_readGeoref
    rw [h, show impl_georefLevel (f + 3) ((2 : Nat) : Int) = some [.i 1] from rfl, Option.bind_some, gi0, bif_f (beq_f (by omega)), show mnI ((2 : Nat) : Int) 4 = 2 from rfl]
    dsimp only
    rw [loop2 _ f s _ _ _ _ _ _ (by omega), Option.bind_some]
    rfl
theorem size4 (s : ByteArray) (h : s.size = 4) (K : Nat) (hK : 40 ≤ K) : ∃ i j, spec_l26ReadGeoref K s = specFin K s 2 i j ∧ impl_readGeoref K s = implFin K s 2 i j := by
  refine ⟨IntKind.wrap .i64 (IntKind.wrap .i64 (15 * letter (bt s 0)) + letter (bt s 2)), IntKind.wrap .i64 (IntKind.wrap .i64 (15 * letter (bt s 1)) + letter (bt s 3)), ?_, ?_⟩
  · unfold spec_l26ReadGeoref
    rw [h]
    refine (show _ = (spec_l26Letter K (bt s 0)).bind fun t0 => (spec_l26Letter K (bt s 1)).bind fun t1 => (spec_l26Letter K (bt s 2)).bind fun t2 => (spec_l26Letter K (bt s 3)).bind fun t3 => specFin K s 2 (IntKind.wrap .i64 ((IntKind.wrap .i64 (15 * (gi t0 0))) + (gi t2 0))) (IntKind.wrap .i64 ((IntKind.wrap .i64 (15 * (gi t1 0))) + (gi t3 0))) from rfl).trans ?_
    rw [let_some K (by omega), Option.bind_some, let_some K (by omega), Option.bind_some, let_some K (by omega), Option.bind_some, let_some K (by omega), Option.bind_some]
    rfl
  · obtain ⟨l, rfl, hl⟩ := bs_of h
    rw [impl_big K hK l 2 1 0 hl (by omega) (by omega) rfl rfl (by omega), show l.drop 4 = [] by rw [List.drop_eq_nil_iff]; omega]
    show implFin K (bs l) 2 _ _ = _
    rw [Int.mul_one, Int.mul_one, show num ([].take 0) = 0 from rfl, show num ([].drop 0) = 0 from rfl, Int.add_zero, Int.add_zero]
    unfold V
    rw [wr_wr, wr_wr, wr_wr, wr_wr]
/-- The digits, by the reference: first they are looked at. -/
theorem l1_some (k : Nat) (s : ByteArray) (x1 x2 x3 : Int) (x4 : Bool) (x6 x7 x8 : Int) (D : Nat) (hD : D ≤ 3) (hs : s.size = 4 + 2 * D) : ∀ (d f j : Nat), j + d = D →
    (((List.range' j d).all fun i => isDig (bt s ((4 + i : Nat) : Int)) && isDig (bt s ((4 + D + i : Nat) : Int))) = true → spec_l26ReadGeoref_l1 k (d + 1 + f) s x1 x2 x3 x4 ((D + 1 : Nat) : Int) x6 x7 x8 (j : Int) = some [.i 0, .s s, .i x1, .i x2, .i x3, .b x4, .i ((D + 1 : Nat) : Int), .i x6, .i x7, .i x8, .i (D : Int)]) ∧
    (((List.range' j d).all fun i => isDig (bt s ((4 + i : Nat) : Int)) && isDig (bt s ((4 + D + i : Nat) : Int))) = false → ∃ z, spec_l26ReadGeoref_l1 k (d + 1 + f) s x1 x2 x3 x4 ((D + 1 : Nat) : Int) x6 x7 x8 (j : Int) = some [.i 1, .s s, .i 0, .i 0, .i 0, .b false, .i ((D + 1 : Nat) : Int), .i x6, .i x7, .i x8, .i z])
  | 0, f, j, h => by
    obtain rfl : j = D := by omega
    refine ⟨fun _ => ?_, fun hh => by simp at hh⟩
    rw [show 0 + 1 + f = f + 1 by omega, spec_l26ReadGeoref_l1, bif_f (ltI_f (by rw [wr _ (by omega) (by omega)]; omega))]
  | d + 1, f, j, h => by
    have ih := l1_some k s x1 x2 x3 x4 x6 x7 x8 D hD hs d f (j + 1) (by omega)
    have w1 : IntKind.wrap .i64 (4 + (j : Int)) = ((4 + j : Nat) : Int) := by rw [wr _ (by omega) (by omega)]; omega
    have w2 : IntKind.wrap .i64 ((IntKind.wrap .i64 (3 + ((D + 1 : Nat) : Int))) + (j : Int)) = ((4 + D + j : Nat) : Int) := by rw [wr (3 + _) (by omega) (by omega), wr _ (by omega) (by omega)]; omega
    have w3 : IntKind.wrap .i64 ((j : Int) + 1) = ((j + 1 : Nat) : Int) := by rw [wr _ (by omega) (by omega)]; omega
    rw [show d + 1 + 1 + f = (d + 1 + f) + 1 by omega, spec_l26ReadGeoref_l1, bif_t (ltI_t (by rw [wr _ (by omega) (by omega)]; omega)), w1, bif_t (inR_t (by omega) (by omega)), digit_some, Option.bind_some, List.range'_succ, List.all_cons]
    simp only [gb0]
    cases h1 : isDig (bt s ((4 + j : Nat) : Int)) with
    | false => exact ⟨fun hh => by simp at hh, fun _ => ⟨_, rfl⟩⟩
    | true =>
      rw [Bool.not_true, cond_false, w2, bif_t (inR_t (by omega) (by omega)), digit_some, Option.bind_some]
      simp only [gb0]
      cases h2 : isDig (bt s ((4 + D + j : Nat) : Int)) with
      | false => exact ⟨fun hh => by simp at hh, fun _ => ⟨_, rfl⟩⟩
      | true =>
        rw [Bool.not_true, cond_false, w3, Bool.true_and, Bool.true_and]
        exact ih
/-- Then they are read. -/
theorem l3_some (k : Nat) (s : ByteArray) (x1 x2 x3 : Int) (x4 : Bool) (x6 x7 x8 : Int) (D : Nat) (hD : D ≤ 3) (hs : s.size = 4 + 2 * D) : ∀ (d f j : Nat) (a b : Int), j + d = D →
    spec_l26ReadGeoref_l3 k (d + 1 + f) s x1 x2 x3 x4 ((D + 1 : Nat) : Int) x6 x7 x8 a b (j : Int) = some [.i 0, .s s, .i x1, .i x2, .i x3, .b x4, .i ((D + 1 : Nat) : Int), .i x6, .i x7, .i x8, .i ((List.range' j d).foldl (fun n i => step n (bt s ((4 + i : Nat) : Int))) a), .i ((List.range' j d).foldl (fun n i => step n (bt s ((4 + D + i : Nat) : Int))) b), .i (D : Int)]
  | 0, f, j, a, b, h => by
    obtain rfl : j = D := by omega
    rw [show 0 + 1 + f = f + 1 by omega, spec_l26ReadGeoref_l3, bif_f (ltI_f (by rw [wr _ (by omega) (by omega)]; omega))]
    rfl
  | d + 1, f, j, a, b, h => by
    have w1 : IntKind.wrap .i64 (4 + (j : Int)) = ((4 + j : Nat) : Int) := by rw [wr _ (by omega) (by omega)]; omega
    have w2 : IntKind.wrap .i64 ((IntKind.wrap .i64 (3 + ((D + 1 : Nat) : Int))) + (j : Int)) = ((4 + D + j : Nat) : Int) := by rw [wr (3 + _) (by omega) (by omega), wr _ (by omega) (by omega)]; omega
    have w3 : IntKind.wrap .i64 ((j : Int) + 1) = ((j + 1 : Nat) : Int) := by rw [wr _ (by omega) (by omega)]; omega
    rw [show d + 1 + 1 + f = (d + 1 + f) + 1 by omega, spec_l26ReadGeoref_l3, bif_t (ltI_t (by rw [wr _ (by omega) (by omega)]; omega)), w1, bif_t (inR_t (by omega) (by omega))]
    dsimp only
    rw [w2, bif_t (inR_t (by omega) (by omega)), w3, List.range'_succ, List.foldl_cons, List.foldl_cons]
    exact l3_some k s x1 x2 x3 x4 x6 x7 x8 D hD hs d f (j + 1) _ _ (by omega)
theorem list8 {l : List UInt8} (h : l.length = 8) : ∃ a b c d e f g i, l = [a, b, c, d, e, f, g, i] := by
  match l, h with
  | [a, b, c, d, e, f, g, i], _ => exact ⟨a, b, c, d, e, f, g, i, rfl⟩
theorem list10 {l : List UInt8} (h : l.length = 10) : ∃ a b c d e f g i j k, l = [a, b, c, d, e, f, g, i, j, k] := by
  match l, h with
  | [a, b, c, d, e, f, g, i, j, k], _ => exact ⟨a, b, c, d, e, f, g, i, j, k, rfl⟩
theorem and4 (a b c d : Bool) : (a && c && (b && d && true)) = (a && (b && (c && (d && true)))) := by cases a <;> cases b <;> cases c <;> cases d <;> rfl
theorem and6 (a b c d e f : Bool) : (a && d && (b && e && (c && f && true))) = (a && (b && (c && (d && (e && (f && true)))))) := by cases a <;> cases b <;> cases c <;> cases d <;> cases e <;> cases f <;> rfl
def F4 : List D := [.i 0, .i 0, .i 0, .b false]
theorem size8 (s : ByteArray) (h : s.size = 8) (K : Nat) (hK : 40 ≤ K) : Same (spec_l26ReadGeoref K s) (impl_readGeoref K s) := by
  obtain ⟨f, hf⟩ : ∃ f, K = 2 + 1 + f := ⟨K - 3, by omega⟩
  obtain ⟨l, rfl, hl⟩ := bs_of h
  rw [impl_big K hK l 3 60 2 hl (by omega) (by omega) rfl rfl (by omega)]
  have hall : ((List.range' 0 2).all fun i => isDig (bt (bs l) ((4 + i : Nat) : Int)) && isDig (bt (bs l) ((4 + 2 + i : Nat) : Int))) = (l.drop 4).all (fun u => isDig (u.toNat : Int)) := by
    obtain ⟨u0, u1, u2, u3, u4, u5, u6, u7, rfl⟩ := list8 hl
    exact and4 _ _ _ _
  have h1 := l1_some K (bs l) 0 0 0 false (V (bs l) 0 2) (V (bs l) 1 3) 60 2 (by omega) h 2 f 0 rfl
  rw [hall, ← hf] at h1
  have hsp : spec_l26ReadGeoref K (bs l) = (spec_l26ReadGeoref_l1 K K (bs l) 0 0 0 false 3 (V (bs l) 0 2) (V (bs l) 1 3) 60 0).bind fun t55 => (bif (eqI (gi t55 0) 0) then (spec_l26ReadGeoref_l3 K K (gs t55 1) (gi t55 2) (gi t55 3) (gi t55 4) (gb t55 5) (gi t55 6) (gi t55 7) (gi t55 8) (gi t55 9) 0 0 0).bind fun t62 => specFin K (gs t62 1) (gi t62 6) (IntKind.wrap .i64 (IntKind.wrap .i64 ((gi t62 9) * (gi t62 7)) + gi t62 10)) (IntKind.wrap .i64 (IntKind.wrap .i64 ((gi t62 9) * (gi t62 8)) + gi t62 11)) else some [.i (gi t55 2), .i (gi t55 3), .i (gi t55 4), .b (gb t55 5)]) := by
    unfold spec_l26ReadGeoref
    rw [h]
    refine (show _ = (spec_l26Letter K (bt (bs l) 0)).bind fun t0 => (spec_l26Letter K (bt (bs l) 1)).bind fun t1 => (spec_l26Letter K (bt (bs l) 2)).bind fun t2 => (spec_l26Letter K (bt (bs l) 3)).bind fun t3 => (spec_l26ReadGeoref_l1 K K (bs l) 0 0 0 false 3 (IntKind.wrap .i64 ((IntKind.wrap .i64 (15 * (gi t0 0))) + (gi t2 0))) (IntKind.wrap .i64 ((IntKind.wrap .i64 (15 * (gi t1 0))) + (gi t3 0))) 60 0).bind fun t55 => (bif (eqI (gi t55 0) 0) then (spec_l26ReadGeoref_l3 K K (gs t55 1) (gi t55 2) (gi t55 3) (gi t55 4) (gb t55 5) (gi t55 6) (gi t55 7) (gi t55 8) (gi t55 9) 0 0 0).bind fun t62 => specFin K (gs t62 1) (gi t62 6) (IntKind.wrap .i64 (IntKind.wrap .i64 ((gi t62 9) * (gi t62 7)) + gi t62 10)) (IntKind.wrap .i64 (IntKind.wrap .i64 ((gi t62 9) * (gi t62 8)) + gi t62 11)) else some [.i (gi t55 2), .i (gi t55 3), .i (gi t55 4), .b (gb t55 5)]) from rfl).trans ?_
    rw [let_some K (by omega), Option.bind_some, let_some K (by omega), Option.bind_some, let_some K (by omega), Option.bind_some, let_some K (by omega), Option.bind_some]
    rfl
  rw [hsp]
  cases hb : (l.drop 4).all (fun u => isDig (u.toNat : Int)) with
  | false =>
    obtain ⟨z, e⟩ := h1.2 hb
    erw [e]
    exact .inl ⟨rfl, rfl⟩
  | true =>
    have e := h1.1 hb
    have h3 := l3_some K (bs l) 0 0 0 false (V (bs l) 0 2) (V (bs l) 1 3) 60 2 (by omega) h 2 f 0 0 0 rfl
    rw [← hf] at h3
    erw [e]
    rw [Option.bind_some]
    simp only [gi0, giS, gs0, gsS, gb0, gbS]
    rw [bif_t (eqI_t rfl)]
    erw [h3]
    have e1 : (List.range' 0 2).foldl (fun n i => step n (bt (bs l) ((4 + i : Nat) : Int))) 0 = num ((l.drop 4).take 2) := by
      obtain ⟨u0, u1, u2, u3, u4, u5, u6, u7, rfl⟩ := list8 hl; rfl
    have e2 : (List.range' 0 2).foldl (fun n i => step n (bt (bs l) ((4 + 2 + i : Nat) : Int))) 0 = num ((l.drop 4).drop 2) := by
      obtain ⟨u0, u1, u2, u3, u4, u5, u6, u7, rfl⟩ := list8 hl; rfl
    rw [Option.bind_some, e1, e2, cond_true]
    simp only [gi0, giS, gs0, gsS]
    rw [Int.mul_comm 60, Int.mul_comm 60]
    exact fin_same K (by omega) (bs l) 3 _ _ ⟨by omega, by omega⟩
theorem size10 (s : ByteArray) (h : s.size = 10) (K : Nat) (hK : 40 ≤ K) : Same (spec_l26ReadGeoref K s) (impl_readGeoref K s) := by
  obtain ⟨f, hf⟩ : ∃ f, K = 3 + 1 + f := ⟨K - 4, by omega⟩
  obtain ⟨l, rfl, hl⟩ := bs_of h
  rw [impl_big K hK l 4 600 3 hl (by omega) (by omega) rfl rfl (by omega)]
  have hall : ((List.range' 0 3).all fun i => isDig (bt (bs l) ((4 + i : Nat) : Int)) && isDig (bt (bs l) ((4 + 3 + i : Nat) : Int))) = (l.drop 4).all (fun u => isDig (u.toNat : Int)) := by
    obtain ⟨u0, u1, u2, u3, u4, u5, u6, u7, u8, u9, rfl⟩ := list10 hl
    exact and6 _ _ _ _ _ _
  have h1 := l1_some K (bs l) 0 0 0 false (V (bs l) 0 2) (V (bs l) 1 3) 600 3 (by omega) h 3 f 0 rfl
  rw [hall, ← hf] at h1
  have hsp : spec_l26ReadGeoref K (bs l) = (spec_l26ReadGeoref_l1 K K (bs l) 0 0 0 false 4 (V (bs l) 0 2) (V (bs l) 1 3) 600 0).bind fun t55 => (bif (eqI (gi t55 0) 0) then (spec_l26ReadGeoref_l3 K K (gs t55 1) (gi t55 2) (gi t55 3) (gi t55 4) (gb t55 5) (gi t55 6) (gi t55 7) (gi t55 8) (gi t55 9) 0 0 0).bind fun t62 => specFin K (gs t62 1) (gi t62 6) (IntKind.wrap .i64 (IntKind.wrap .i64 ((gi t62 9) * (gi t62 7)) + gi t62 10)) (IntKind.wrap .i64 (IntKind.wrap .i64 ((gi t62 9) * (gi t62 8)) + gi t62 11)) else some [.i (gi t55 2), .i (gi t55 3), .i (gi t55 4), .b (gb t55 5)]) := by
    unfold spec_l26ReadGeoref
    rw [h]
    refine (show _ = (spec_l26Letter K (bt (bs l) 0)).bind fun t0 => (spec_l26Letter K (bt (bs l) 1)).bind fun t1 => (spec_l26Letter K (bt (bs l) 2)).bind fun t2 => (spec_l26Letter K (bt (bs l) 3)).bind fun t3 => (spec_l26ReadGeoref_l1 K K (bs l) 0 0 0 false 4 (IntKind.wrap .i64 ((IntKind.wrap .i64 (15 * (gi t0 0))) + (gi t2 0))) (IntKind.wrap .i64 ((IntKind.wrap .i64 (15 * (gi t1 0))) + (gi t3 0))) 600 0).bind fun t55 => (bif (eqI (gi t55 0) 0) then (spec_l26ReadGeoref_l3 K K (gs t55 1) (gi t55 2) (gi t55 3) (gi t55 4) (gb t55 5) (gi t55 6) (gi t55 7) (gi t55 8) (gi t55 9) 0 0 0).bind fun t62 => specFin K (gs t62 1) (gi t62 6) (IntKind.wrap .i64 (IntKind.wrap .i64 ((gi t62 9) * (gi t62 7)) + gi t62 10)) (IntKind.wrap .i64 (IntKind.wrap .i64 ((gi t62 9) * (gi t62 8)) + gi t62 11)) else some [.i (gi t55 2), .i (gi t55 3), .i (gi t55 4), .b (gb t55 5)]) from rfl).trans ?_
    rw [let_some K (by omega), Option.bind_some, let_some K (by omega), Option.bind_some, let_some K (by omega), Option.bind_some, let_some K (by omega), Option.bind_some]
    rfl
  rw [hsp]
  cases hb : (l.drop 4).all (fun u => isDig (u.toNat : Int)) with
  | false =>
    obtain ⟨z, e⟩ := h1.2 hb
    erw [e]
    exact .inl ⟨rfl, rfl⟩
  | true =>
    have e := h1.1 hb
    have h3 := l3_some K (bs l) 0 0 0 false (V (bs l) 0 2) (V (bs l) 1 3) 600 3 (by omega) h 3 f 0 0 0 rfl
    rw [← hf] at h3
    erw [e]
    rw [Option.bind_some]
    simp only [gi0, giS, gs0, gsS, gb0, gbS]
    rw [bif_t (eqI_t rfl)]
    erw [h3]
    have e1 : (List.range' 0 3).foldl (fun n i => step n (bt (bs l) ((4 + i : Nat) : Int))) 0 = num ((l.drop 4).take 3) := by
      obtain ⟨u0, u1, u2, u3, u4, u5, u6, u7, u8, u9, rfl⟩ := list10 hl; rfl
    have e2 : (List.range' 0 3).foldl (fun n i => step n (bt (bs l) ((4 + 3 + i : Nat) : Int))) 0 = num ((l.drop 4).drop 3) := by
      obtain ⟨u0, u1, u2, u3, u4, u5, u6, u7, u8, u9, rfl⟩ := list10 hl; rfl
    rw [Option.bind_some, e1, e2, cond_true]
    simp only [gi0, giS, gs0, gsS]
    rw [Int.mul_comm 600, Int.mul_comm 600]
    exact fin_same K (by omega) (bs l) 4 _ _ ⟨by omega, by omega⟩
theorem read_same (s : ByteArray) (K : Nat) (hK : 40 ≤ K) : Same (spec_l26ReadGeoref K s) (impl_readGeoref K s) := by
  by_cases h2 : s.size = 2
  · obtain ⟨i, j, e1, e2⟩ := size2 s h2 K hK
    rw [e1, e2]; exact fin_same K (by omega) s 1 i j ⟨by omega, by omega⟩
  by_cases h4 : s.size = 4
  · obtain ⟨i, j, e1, e2⟩ := size4 s h4 K hK
    rw [e1, e2]; exact fin_same K (by omega) s 2 i j ⟨by omega, by omega⟩
  by_cases h8 : s.size = 8
  · exact size8 s h8 K hK
  by_cases h10 : s.size = 10
  · exact size10 s h10 K hK
  refine .inl ⟨?_, ?_⟩
  · unfold spec_l26ReadGeoref
    rw [bif_f (beq_f (by omega)), bif_f (beq_f (by omega)), bif_f (beq_f (by omega))]
    exact bif_f (beq_f (by omega)) _ _
  · unfold impl_readGeoref impl_georefLevel
    rw [bif_f (beq_f (by omega)), bif_f (beq_f (by omega)), bif_f (beq_f (by omega)), bif_f (beq_f (by omega))]
    rfl
end Go.Proofs.YtajbomdeehaaiaaDoor.Ev
