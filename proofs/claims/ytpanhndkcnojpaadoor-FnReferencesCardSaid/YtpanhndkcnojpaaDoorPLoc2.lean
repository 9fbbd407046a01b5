/- Locators are read back, found in, shifted and compared. No condition. -/
import Derived.Test.YtpanhndkcnojpaaDoorPLoc
import Derived.Lib.SplitLaws
namespace Go.Proofs.YtpanhndkcnojpaaDoor.Ev
open Go Go.RowKit
set_option linter.unusedSimpArgs false
set_option linter.unusedVariables false
theorem bs_data (l : List UInt8) : (bs l).data.toList = l := by unfold bs; simp
theorem bs_beq (a b : List UInt8) : ((bs a).toList == (bs b).toList) = decide (a = b) := by
  rw [Lib.toList_data, Lib.toList_data, bs_data, bs_data]
  by_cases h : a = b
  · subst h; simp
  · rw [decide_eq_false h]; exact beq_eq_false_iff_ne.2 h
theorem bt_at (l : List UInt8) (i : Nat) (b : UInt8) (h : l[i]? = some b) : bt (bs l) (i : Int) = (b.toNat : Int) := by
  unfold bt
  rw [bs_data, Int.toNat_natCast, List.getD_eq_getElem?_getD, h]; rfl
theorem ext_mid (l : List UInt8) (i j : Nat) : ByteArray.extract (bs l) (Int.toNat (i : Int)) (Int.toNat (j : Int)) = bs ((l.take j).drop i) := by
  apply ByteArray.ext
  rw [ByteArray.data_extract, Int.toNat_natCast, Int.toNat_natCast]
  unfold bs
  simp [List.extract]
  rw [List.drop_take]
theorem text_at (k P x y : Nat) (hk : 10 ≤ k) (h : P ≤ 5) (hx : x ≤ 2000000) (hy : y ≤ 2000000) (n m : Int) : impl_locatorText k x y n m P = some [.s (bs (lt P x y))] := by
  obtain ⟨x', y', e⟩ := text_l0 k n m (⟨#[]⟩ : ByteArray) P (k - P - 1) x y [] h hx hy (by simp; omega)
  rw [show P + 1 + (k - P - 1) = k by omega, List.append_nil] at e
  have e' : impl_locatorText_l0 k k x y n m (⟨#[]⟩ : ByteArray) (⟨#[]⟩ : ByteArray) ((P : Int) - 1) = _ := e
  unfold impl_locatorText
  rw [wr ((P : Int) - 1) (by omega) (by omega), e', Option.bind_some]
  rfl
theorem locOf (k P : Nat) (hk : 10 ≤ k) (h1 : 1 ≤ P) (h5 : P ≤ 5) {a b : Int} (h : PtQ a b) : impl_LocatorOf k a b P = some [.s (bs (lt P (cx_ (side P) b) (cy_ (side P) a))), .i 0] := by
  have hs := side_le P h5
  have c1 := cx_lt (side P) (by omega) b
  have c2 := cy_lt (side P) (by omega) h.1
  unfold impl_LocatorOf
  rw [validF h, Option.bind_some]
  simp only [gb0, Bool.not_true, cond_false]
  rw [within_t (show (1 : Int) ≤ P by omega) (by omega), Option.bind_some]
  simp only [gb0, Bool.not_true, cond_false]
  rw [side_at k P hk h1 h5, Option.bind_some]
  simp only [gi0]
  rw [cell_at k h (side P) (side P) (by omega) (by omega), Option.bind_some]
  simp only [gi0, giS]
  rw [text_at k P _ _ hk h5 (by omega) (by omega), Option.bind_some]
  rfl
theorem read_l0 (k P x y : Nat) (hP : P ≤ 5) (hx : x < side P) (hy : y < side P) (q1 q2 q3 q4 q5 x10 x11 : Int) : ∀ (d f j : Nat), j + d = P →
    impl_readLocator_l0 k (d + 1 + f) (bs (lt P x y)) q1 q2 q3 q4 q5 false P ((x / wd P j : Nat) : Int) ((y / wd P j : Nat) : Int) x10 x11 P j = some [.i 0, .s (bs (lt P x y)), .i q1, .i q2, .i q3, .i q4, .i q5, .b false, .i P, .i x, .i y, .i x10, .i x11, .i P, .i P]
  | 0, f, j, h => by
    obtain rfl : j = P := by omega
    rw [show 0 + 1 + f = f + 1 by omega, impl_readLocator_l0, bif_f (ltI_f (by omega)), wd_self j j (Nat.le_refl _), Nat.div_one, Nat.div_one]
  | d + 1, f, j, h => by
    have hs := side_le P hP
    have hp := pb_pos j
    have hc := pc_bd j
    obtain ⟨g1, g2⟩ := lt_get P j x y (by omega)
    have b1 := bt_at _ _ _ g1
    have b2 := bt_at _ _ _ g2
    rw [ch_val] at b1 b2
    have w1 : IntKind.wrap .i64 (2 * (j : Int)) = ((2 * j : Nat) : Int) := by rw [wr _ (by omega) (by omega)]; omega
    have w2 : IntKind.wrap .i64 (((2 * j : Nat) : Int) + 1) = ((2 * j + 1 : Nat) : Int) := by rw [wr _ (by omega) (by omega)]; omega
    have up : ∀ z, z / wd P j * pb j + z / wd P (j + 1) % pb j = z / wd P (j + 1) := fun z => by
      rw [wd_step P j (by omega), Nat.mul_comm (pb j), ← Nat.div_div_eq_div_mul, Nat.mul_comm]
      exact Nat.div_add_mod _ _
    have ux := up x
    have uy := up y
    have lx : x / wd P (j + 1) ≤ x := Nat.div_le_self _ _
    have ly : y / wd P (j + 1) ≤ y := Nat.div_le_self _ _
    have rx : x / wd P (j + 1) % pb j < pb j := Nat.mod_lt _ (by omega)
    have ry : y / wd P (j + 1) % pb j < pb j := Nat.mod_lt _ (by omega)
    have mx : (((x / wd P j : Nat) : Int)) * (pb j : Int) = ((x / wd P j * pb j : Nat) : Int) := by simp
    have my : (((y / wd P j : Nat) : Int)) * (pb j : Int) = ((y / wd P j * pb j : Nat) : Int) := by simp
    generalize x / wd P j * pb j = X0 at *
    generalize y / wd P j * pb j = Y0 at *
    generalize x / wd P (j + 1) % pb j = X1 at *
    generalize y / wd P (j + 1) % pb j = Y1 at *
    rw [show d + 1 + 1 + f = (d + 1 + f) + 1 by omega, impl_readLocator_l0, bif_t (ltI_t (by omega)), parts_at, Option.bind_some]
    simp only [gi0, giS]
    rw [w1, w2, bif_t (inR_t (by omega) (by rw [bs_size, lt_length]; omega)), bif_t (inR_t (by omega) (by rw [bs_size, lt_length]; omega)), b1, b2]
    try dsimp only
    rw [wr ((pc j + X1 : Nat) : Int) (by omega) (by omega), wr ((pc j + Y1 : Nat) : Int) (by omega) (by omega), wr (pc j : Int) (by omega) (by omega), wr (((pc j + X1 : Nat) : Int) - (pc j : Int)) (by omega) (by omega), wr (((pc j + Y1 : Nat) : Int) - (pc j : Int)) (by omega) (by omega), wr ((pb j : Int) - 1) (by omega) (by omega), within_t (by omega) (by omega), Option.bind_some]
    simp only [gb0, Bool.not_true, cond_false]
    rw [within_t (by omega) (by omega), Option.bind_some]
    simp only [gb0, Bool.not_true, cond_false]
    rw [mx, my, wr ((X0 : Nat) : Int) (by omega) (by omega), wr ((Y0 : Nat) : Int) (by omega) (by omega), show ((X0 : Nat) : Int) + (((pc j + X1 : Nat) : Int) - (pc j : Int)) = ((x / wd P (j + 1) : Nat) : Int) by omega, show ((Y0 : Nat) : Int) + (((pc j + Y1 : Nat) : Int) - (pc j : Int)) = ((y / wd P (j + 1) : Nat) : Int) by omega]
    have hX : ((x / wd P (j + 1) : Nat) : Int) ≤ 2000000 := by omega
    have hY : ((y / wd P (j + 1) : Nat) : Int) ≤ 2000000 := by omega
    have hX0 : (0 : Int) ≤ ((x / wd P (j + 1) : Nat) : Int) := Int.natCast_nonneg _
    have hY0 : (0 : Int) ≤ ((y / wd P (j + 1) : Nat) : Int) := Int.natCast_nonneg _
    rw [wr _ (by omega) (by omega), wr _ (by omega) (by omega), wr ((j : Int) + 1) (by omega) (by omega), show (j : Int) + 1 = ((j + 1 : Nat) : Int) by omega]
    exact read_l0 k P x y hP hx hy q1 q2 q3 q4 q5 x10 x11 d f (j + 1) (by omega)
theorem read_at (k P x y : Nat) (hk : 10 ≤ k) (h1 : 1 ≤ P) (hP : P ≤ 5) (hx : x < side P) (hy : y < side P) : impl_readLocator k (bs (lt P x y)) = some [.i x, .i y, .i (side P), .i (side P), .i P, .b true] := by
  have e := read_l0 k P x y hP hx hy 0 0 0 0 0 (side P) (side P) P (k - P - 1) 0 (by omega)
  have s0 := side_wd P 0 (by omega)
  rw [show side 0 = 1 from rfl, Nat.one_mul] at s0
  rw [show P + 1 + (k - P - 1) = k by omega, Nat.div_eq_of_lt (by rw [← s0]; exact hx), Nat.div_eq_of_lt (by rw [← s0]; exact hy)] at e
  have e' : impl_readLocator_l0 k k (bs (lt P x y)) 0 0 0 0 0 false P 0 0 (side P) (side P) P 0 = _ := e
  unfold impl_readLocator
  rw [bs_size, lt_length]
  have d2 : IntKind.wrap .i64 (Int.tdiv ((2 * P : Nat) : Int) 2) = (P : Int) := by rw [tdiv_pos _ _ (by omega), wr _ (by omega) (by omega)]; omega
  have m2 : Int.tmod ((2 * P : Nat) : Int) 2 = 0 := by rw [tmod_pos _ _ (by omega)]; omega
  try dsimp only
  rw [d2, m2, bif_f (bne_f rfl), within_t (by omega) (by omega), Option.bind_some]
  simp only [gb0, Bool.not_true, cond_false]
  rw [side_at k P hk h1 hP, Option.bind_some, Option.bind_some]
  simp only [gi0]
  rw [e', Option.bind_some]
  rfl
theorem lt_inj (P x y x' y' : Nat) (h1 : 1 ≤ P) (hP : P ≤ 5) (hx : x < side P) (hy : y < side P) (hx' : x' < side P) (hy' : y' < side P) (h : lt P x y = lt P x' y') : x = x' ∧ y = y' := by
  have e1 := read_at 10 P x y (by decide) h1 hP hx hy
  have e2 := read_at 10 P x' y' (by decide) h1 hP hx' hy'
  rw [h, e2] at e1
  injection e1 with e1
  injection e1 with a1 e1
  injection e1 with a2 e1
  injection a1 with a1
  injection a2 with a2
  omega
theorem in_at (k P x y : Nat) (hk : 10 ≤ k) (h1 : 1 ≤ P) (hP : P ≤ 5) (hx : x < side P) (hy : y < side P) {a b : Int} (h : PtQ a b) : impl_InLocator k (bs (lt P x y)) a b = some [.b (decide (cx_ (side P) b = x ∧ cy_ (side P) a = y))] := by
  have hs := side_le P hP
  unfold impl_InLocator
  rw [read_at k P x y hk h1 hP hx hy, Option.bind_some]
  simp only [gi0, giS, gb0, gbS, cond_true]
  rw [has_at k h x y (side P) (side P) (by omega) (by omega), Option.bind_some]
  rfl
theorem boxOf (k P x y : Nat) (hk : 10 ≤ k) (h1 : 1 ≤ P) (hP : P ≤ 5) (hx : x < side P) (hy : y < side P) : ∃ a b c d, impl_LocatorBox k (bs (lt P x y)) = some [.i a, .i b, .i c, .i d, .b true] ∧ PtQ a b ∧ PtQ c d ∧ (cx_ (side P) b = x ∧ cy_ (side P) a = y) ∧ (cx_ (side P) d = x ∧ cy_ (side P) c = y) ∧ ∀ p : Int, -900000000 ≤ p ∧ p ≤ 900000000 → cy_ (side P) p = y → a ≤ p ∧ p ≤ c := by
  have hs := side_le P hP
  obtain ⟨a, b, c, d, e, r⟩ := box_at k x y (side P) (side P) (by omega) (by omega) (by omega) (by omega) hx hy
  refine ⟨a, b, c, d, ?_, r⟩
  unfold impl_LocatorBox
  rw [read_at k P x y hk h1 hP hx hy, Option.bind_some]
  simp only [gi0, giS, gb0, gbS, Bool.not_true, cond_false]
  rw [e, Option.bind_some]
  rfl
/-- A coarser cell's number. -/
theorem coarse (v M P j : Nat) (hM : 0 < M) (h : j ≤ P) : v * side P / M / wd P j = v * side j / M := by
  rw [side_wd P j h, Nat.div_div_eq_div_mul, ← Nat.mul_assoc]
  exact Nat.mul_div_mul_right _ _ (wd_pos P j)
theorem pre_at (P j : Nat) (h : j ≤ P) (a b : Int) : (lt P (cx_ (side P) b) (cy_ (side P) a)).take (2 * j) = lt j (cx_ (side j) b) (cy_ (side j) a) := by
  rw [lt_take P j _ _ h]
  unfold cx_ cy_
  rw [coarse _ _ P j (by decide) h, coarse _ _ P j (by decide) h]
theorem common_l0 (k : Nat) (s t : List UInt8) (P : Nat) (hP : P ≤ 5) (hs : s.length = 2 * P) (ht : t.length = 2 * P) (x2 : ByteArray) (x3 : Bool) : ∀ (d f j : Nat), j + d = P → s.take (2 * j) = t.take (2 * j) →
    ∃ j', j ≤ j' ∧ j' ≤ P ∧ s.take (2 * j') = t.take (2 * j') ∧ (j' = P ∨ s.take (2 * j' + 2) ≠ t.take (2 * j' + 2)) ∧ impl_CommonLocator_l0 k (d + 1 + f) (bs s) (bs t) x2 x3 ((2 * j : Nat) : Int) = some [.i 0, .s (bs s), .s (bs t), .s x2, .b x3, .i ((2 * j' : Nat) : Int)]
  | 0, f, j, h, he => by
    obtain rfl : j = P := by omega
    refine ⟨j, Nat.le_refl _, Nat.le_refl _, he, .inl rfl, ?_⟩
    rw [show 0 + 1 + f = f + 1 by omega, impl_CommonLocator_l0, bs_size, bif_f (ltI_f (by omega))]
  | d + 1, f, j, h, he => by
    have w1 : IntKind.wrap .i64 (((2 * j : Nat) : Int) + 2) = ((2 * j + 2 : Nat) : Int) := by rw [wr _ (by omega) (by omega)]; omega
    rw [show d + 1 + 1 + f = (d + 1 + f) + 1 by omega, impl_CommonLocator_l0, bs_size, bs_size, bif_t (ltI_t (by omega)), bif_t (ltI_t (by omega)), w1, bif_t (inS_t (by omega) (by omega) (by omega)), bif_t (inS_t (by omega) (by omega) (by omega)), ext_mid, ext_mid]
    try dsimp only
    rw [bs_beq]
    have split2 : ∀ l : List UInt8, l.take (2 * j + 2) = l.take (2 * j) ++ (l.take (2 * j + 2)).drop (2 * j) := fun l => by
      have h1 : (l.take (2 * j + 2)).take (2 * j) = l.take (2 * j) := by rw [List.take_take]; congr 1; omega
      conv => lhs; rw [← List.take_append_drop (2 * j) (l.take (2 * j + 2)), h1]
    by_cases hq : (s.take (2 * j + 2)).drop (2 * j) = (t.take (2 * j + 2)).drop (2 * j)
    · rw [bif_t (decide_eq_true hq)]
      obtain ⟨j', q1, q2, q3, q4, q5⟩ := common_l0 k s t P hP hs ht x2 x3 d f (j + 1) (by omega) (by rw [show 2 * (j + 1) = 2 * j + 2 by omega, split2 s, split2 t, he, hq])
      exact ⟨j', by omega, q2, q3, q4, by rw [show 2 * j + 2 = 2 * (j + 1) by omega]; exact q5⟩
    · rw [bif_f (decide_eq_false hq)]
      refine ⟨j, Nat.le_refl _, by omega, he, .inr fun e => hq (by rw [e]), rfl⟩
theorem common_at (k P : Nat) (hk : 10 ≤ k) (h1 : 1 ≤ P) (hP : P ≤ 5) {a b c d : Int} (hp : PtQ a b) (hq : PtQ c d) :
    ∃ j, j ≤ P ∧ lt j (cx_ (side j) b) (cy_ (side j) a) = lt j (cx_ (side j) d) (cy_ (side j) c) ∧ (decide (0 < j) = decide ((lt P (cx_ (side P) b) (cy_ (side P) a)).take 2 = (lt P (cx_ (side P) d) (cy_ (side P) c)).take 2)) ∧ impl_CommonLocator k (bs (lt P (cx_ (side P) b) (cy_ (side P) a))) (bs (lt P (cx_ (side P) d) (cy_ (side P) c))) = some [.s (bs (lt j (cx_ (side j) b) (cy_ (side j) a))), .b (decide (0 < j))] := by
  have hs := side_le P hP
  have c1 := cx_lt (side P) (by omega) b
  have c2 := cy_lt (side P) (by omega) hp.1
  have c3 := cx_lt (side P) (by omega) d
  have c4 := cy_lt (side P) (by omega) hq.1
  obtain ⟨j, _, q2, q3, q4, q5⟩ := common_l0 k (lt P (cx_ (side P) b) (cy_ (side P) a)) (lt P (cx_ (side P) d) (cy_ (side P) c)) P hP (lt_length _ _ _) (lt_length _ _ _) (⟨#[]⟩ : ByteArray) false P (k - P - 1) 0 (by omega) rfl
  rw [show P + 1 + (k - P - 1) = k by omega] at q5
  have q5' : impl_CommonLocator_l0 k k (bs (lt P (cx_ (side P) b) (cy_ (side P) a))) (bs (lt P (cx_ (side P) d) (cy_ (side P) c))) (⟨#[]⟩ : ByteArray) false 0 = _ := q5
  have r3 := q3
  rw [pre_at P j q2 a b, pre_at P j q2 c d] at r3
  refine ⟨j, q2, r3, decide_eq_decide.2 ⟨fun hj => ?_, fun he => ?_⟩, ?_⟩
  · have := congrArg (List.take 2) q3
    rw [List.take_take, List.take_take, Nat.min_eq_left (by omega)] at this
    exact this
  · rcases Nat.eq_zero_or_pos j with h0 | h0
    · rcases q4 with h | h
      · omega
      · subst h0; exact absurd he h
    · exact h0
  · unfold impl_CommonLocator
    rw [read_at k P _ _ hk h1 hP c1 c2, read_at k P _ _ hk h1 hP c3 c4, Option.bind_some, Option.bind_some]
    simp only [gi0, giS, gb0, gbS, Bool.not_true, cond_false]
    rw [q5', Option.bind_some]
    simp only [gs0, gsS, gi0, giS]
    have hx := ext_mid (lt P (cx_ (side P) b) (cy_ (side P) a)) 0 (2 * j)
    rw [List.drop_zero, pre_at P j q2 a b] at hx
    have hx' : ByteArray.extract (bs (lt P (cx_ (side P) b) (cy_ (side P) a))) (Int.toNat 0) (Int.toNat ((2 * j : Nat) : Int)) = bs (lt j (cx_ (side j) b) (cy_ (side j) a)) := hx
    rw [bif_t (inS_t (by decide) (by omega) (by rw [bs_size, lt_length]; omega)), hx']
    have hd : ltI 0 ((2 * j : Nat) : Int) = decide (0 < j) := decide_eq_decide.2 (by omega)
    rw [hd]
theorem shift_at (k P x y : Nat) (hk : 10 ≤ k) (h1 : 1 ≤ P) (hP : P ≤ 5) (hx : x < side P) (hy : y < side P) (e n : Int) (he : -1000 ≤ e ∧ e ≤ 1000) (hn : -1000 ≤ n ∧ n ≤ 1000) :
    impl_ShiftLocator k (bs (lt P x y)) e n = some (if 0 ≤ (y : Int) + n ∧ (y : Int) + n ≤ (side P : Int) - 1 then [.s (bs (lt P ((((x : Int) + e) % (side P : Int)).toNat) (((y : Int) + n).toNat))), .i 0] else [.s (⟨#[]⟩ : ByteArray), .i 8]) := by
  have hs := side_le P hP
  unfold impl_ShiftLocator
  rw [read_at k P x y hk h1 hP hx hy, Option.bind_some]
  simp only [gi0, giS, gb0, gbS, Bool.not_true, cond_false]
  rw [within_t (by omega) (by omega), Option.bind_some]
  simp only [gb0, Bool.not_true, cond_false]
  rw [within_t (by omega) (by omega), Option.bind_some]
  simp only [gb0, Bool.not_true, cond_false]
  have hb := tmod_bd ((x : Int) + e) (side P) (by omega)
  have hm : Int.tmod (IntKind.wrap .i64 (Int.tmod (IntKind.wrap .i64 ((x : Int) + e)) (side P : Int) + (side P : Int))) (side P : Int) = ((x : Int) + e) % (side P : Int) := by
    rw [wr ((x : Int) + e) (by omega) (by omega), wr _ (by omega) (by omega), tmod_pos _ _ (by omega), Int.add_emod_right]
    by_cases h0 : 0 ≤ (x : Int) + e
    · rw [tmod_pos _ _ h0, Int.emod_emod_of_dvd _ (Int.dvd_refl _)]
    · have hr := Int.mul_tdiv_add_tmod ((x : Int) + e) (side P : Int)
      conv => rhs; rw [← hr, Int.add_comm, Int.add_mul_emod_self_left]
  have r0 := Int.emod_nonneg ((x : Int) + e) (show (side P : Int) ≠ 0 by omega)
  have r1 := Int.emod_lt_of_pos ((x : Int) + e) (show 0 < (side P : Int) by omega)
  rw [bif_f (eqI_f (by omega)), bif_f (eqI_f (by omega)), hm, wr ((y : Int) + n) (by omega) (by omega), wr ((side P : Int) - 1) (by omega) (by omega)]
  try dsimp only
  by_cases h : 0 ≤ (y : Int) + n ∧ (y : Int) + n ≤ (side P : Int) - 1
  · rw [within_t h.1 h.2, if_pos h, Option.bind_some]
    simp only [gb0, Bool.not_true, cond_false]
    have t := text_at k P ((((x : Int) + e) % (side P : Int)).toNat) (((y : Int) + n).toNat) hk hP (by omega) (by omega) (side P) (side P)
    rw [Int.toNat_of_nonneg r0, Int.toNat_of_nonneg h.1] at t
    rw [t, Option.bind_some]
    rfl
  · rw [within_f (by omega), if_neg h, Option.bind_some]
    rfl
/-- There and back. -/
theorem shift_back (k P x y : Nat) (hk : 10 ≤ k) (h1 : 1 ≤ P) (hP : P ≤ 5) (hx : x < side P) (hy : y < side P) (e n : Int) (he : -1000 ≤ e ∧ e ≤ 1000) (hn : -1000 ≤ n ∧ n ≤ 1000) :
    ∃ t c, impl_ShiftLocator k (bs (lt P x y)) e n = some [.s t, .i c] ∧ (c = 0 → impl_ShiftLocator k t (0 - e) (0 - n) = some [.s (bs (lt P x y)), .i 0]) := by
  have hs := side_le P hP
  rw [shift_at k P x y hk h1 hP hx hy e n he hn]
  by_cases h : 0 ≤ (y : Int) + n ∧ (y : Int) + n ≤ (side P : Int) - 1
  · rw [if_pos h]
    refine ⟨_, _, rfl, fun _ => ?_⟩
    have r0 := Int.emod_nonneg ((x : Int) + e) (show (side P : Int) ≠ 0 by omega)
    have r1 := Int.emod_lt_of_pos ((x : Int) + e) (show 0 < (side P : Int) by omega)
    rw [shift_at k P _ _ hk h1 hP (by omega) (by omega) (0 - e) (0 - n) (by omega) (by omega), Int.toNat_of_nonneg h.1, Int.toNat_of_nonneg r0, if_pos (by omega)]
    have e1 : (((x : Int) + e) % (side P : Int) + (0 - e)) % (side P : Int) = (x : Int) := by
      rw [Int.emod_add_emod, show (x : Int) + e + (0 - e) = (x : Int) by omega, Int.emod_eq_of_lt (by omega) (by omega)]
    rw [e1, show (y : Int) + n + (0 - n) = (y : Int) by omega, Int.toNat_natCast, Int.toNat_natCast]
  · rw [if_neg h]
    exact ⟨_, _, rfl, fun h => by cases h⟩
end Go.Proofs.YtpanhndkcnojpaaDoor.Ev
