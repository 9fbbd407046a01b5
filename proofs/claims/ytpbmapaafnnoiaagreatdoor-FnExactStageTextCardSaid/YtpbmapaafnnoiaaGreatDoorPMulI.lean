/- Intervals: products and quotients by both. No condition. -/
import Derived.Test.YtpbmapaafnnoiaaGreatDoorPFix
namespace Go.Proofs.YtpbmapaafnnoiaaGreatDoor.Ev
open Go Go.RowKit
set_option linter.unusedSimpArgs false
set_option linter.unusedVariables false
def ivB (a b : Int) : Bool := ltI (-1152921504606846976) a && (leI a b && ltI b 1152921504606846976)
/-- An interval, if it is one. -/
def mkIv (a b : Int) : List D := bif ivB a b then [.i a, .i b] else [.i (-1152921504606846976), .i 1152921504606846976]
def whole : List D := [.i (-1152921504606846976), .i 1152921504606846976]
theorem l04Ok_some (k : Nat) (a b : Int) : spec_l04Ok k a b = some [.b (ivB a b)] := by
  unfold spec_l04Ok ivB; cases ltI (-1152921504606846976) a <;> cases leI a b <;> rfl
theorem validIv_some (k : Nat) (a b : Int) : impl_ValidInterval k a b = some [.b (ivB a b)] := by
  unfold impl_ValidInterval ivB; cases ltI (-1152921504606846976) a <;> cases leI a b <;> rfl
theorem make_some (k : Nat) (a b : Int) : spec_l04Make k a b = some (mkIv a b) := by
  unfold spec_l04Make mkIv; rw [l04Ok_some]; cases ivB a b <;> rfl
theorem bounded_t (k : Nat) (a b : Int) : impl_bounded k a b true = some (mkIv a b) := by
  unfold impl_bounded mkIv; rw [validIv_some]; cases ivB a b <;> rfl
theorem bounded_f (k : Nat) (a b : Int) : impl_bounded k a b false = some whole := rfl
theorem mkIv_form (a b : Int) : ∃ x y, mkIv a b = [.i x, .i y] := by unfold mkIv; cases ivB a b <;> exact ⟨_, _, rfl⟩
theorem l00Min_some (k : Nat) (a b : Int) : spec_l00Min k a b = some [.i (mnI a b)] := by
  unfold spec_l00Min mnI
  by_cases h : a < b
  · rw [bif_t (ltI_t h), if_neg (by omega)]
  · rw [bif_f (ltI_f (by omega))]; split
    · rfl
    · rw [show a = b by omega]
theorem l00Max_some (k : Nat) (a b : Int) : spec_l00Max k a b = some [.i (mxI a b)] := by
  unfold spec_l00Max mxI
  by_cases h : b < a
  · rw [bif_t (ltI_t h), if_neg (by omega)]
  · rw [bif_f (ltI_f (by omega))]; split
    · rfl
    · rw [show a = b by omega]
/-- What the products of one bound answer. -/
structure Prods (k : Nat) (a b m1 : Int) (o1 : Bool) (m2 : Int) (o2 : Bool) : Prop where
  sd : spec_l03MulDown k a b = some [.i m1, .b o1]
  su : spec_l03MulUp k a b = some [.i m2, .b o2]
  id : impl_MulDown k a b = some [.i m1, .b o1]
  iu : impl_MulUp k a b = some [.i m2, .b o2]
  f1 : fixB m1 = true
  f2 : fixB m2 = true
theorem prods (k : Nat) (a b : Int) : ∃ m1 o1 m2 o2, Prods k a b m1 o1 m2 o2 := by
  obtain ⟨m1, o1, e1, e2, h1, _, _⟩ := mulDown_same k a b
  obtain ⟨m2, o2, e3, e4, h2⟩ := mulUp_same k a b
  exact ⟨m1, o1, m2, o2, e1, e3, e2, e4, h1, h2⟩
theorem mulS_step (k n : Nat) (x2 x3 : List (List D)) (lo hi i j a b m1 m2 : Int) (o1 o2 : Bool) (h1 : inR i ((List.length x2 : Nat) : Int) = true) (h2 : inR j ((List.length x3 : Nat) : Int) = true) (h3 : ltI j 2 = true) (ha : ri x2 i 0 = a) (hb : ri x3 j 0 = b) (P : Prods k a b m1 o1 m2 o2) :
    spec_MulI_l2 k (n + 1) 0 0 x2 x3 lo hi i j i true = bif o1 && o2 then spec_MulI_l2 k n 0 0 x2 x3 (mnI lo m1) (mxI hi m2) i (IntKind.wrap .i64 (j + 1)) i true else some [.i 1, .i (-1152921504606846976), .i 1152921504606846976, .l x2, .l x3, .i lo, .i hi, .i i, .i j, .i i, .b true] := by
  rw [spec_MulI_l2, bif_t h3, bif_t h1, bif_t h2, ha, hb, P.sd, Option.bind_some, bif_t h1, bif_t h2, P.su, Option.bind_some]
  cases o1
  · rfl
  · cases o2
    · rfl
    · simp only [gb0, gbS, gi0, giS, Bool.not_true, cond_false, l00Min_some, l00Max_some, Option.bind_some, Bool.and_self, cond_true]
/-- The products with both bounds of the second interval. -/
def rowR (x2 x3 : List (List D)) (lo hi i : Int) (g : Bool) (m1 m2 m3 m4 : Int) (r : Option (List D)) : Prop :=
  (g = true → r = some [.i 0, .i 0, .i 0, .l x2, .l x3, .i (mnI (mnI lo m1) m3), .i (mxI (mxI hi m2) m4), .i i, .i 2, .i i, .b true]) ∧
  (g = false → ∃ t, r = some t ∧ gi t 0 = 1 ∧ gi t 1 = -1152921504606846976 ∧ gi t 2 = 1152921504606846976)
theorem mulS_row (k n : Nat) (x2 : List (List D)) (lo hi i a b c m1 m2 m3 m4 : Int) (o1 o2 o3 o4 : Bool) (h1 : inR i ((List.length x2 : Nat) : Int) = true) (ha : ri x2 i 0 = a) (P : Prods k a b m1 o1 m2 o2) (Q : Prods k a c m3 o3 m4 o4) :
    rowR x2 [[.i b], [.i c]] lo hi i ((o1 && o2) && (o3 && o4)) m1 m2 m3 m4 (spec_MulI_l2 k (n + 3) 0 0 x2 [[.i b], [.i c]] lo hi i 0 i true) := by
  rw [mulS_step k (n + 2) x2 _ lo hi i 0 a b m1 m2 o1 o2 h1 rfl rfl ha rfl P]
  cases h12 : (o1 && o2)
  · exact ⟨fun h => by simp at h, fun _ => ⟨_, rfl, rfl, rfl, rfl⟩⟩
  · rw [cond_true, show IntKind.wrap .i64 ((0 : Int) + 1) = 1 from rfl, mulS_step k (n + 1) x2 _ _ _ i 1 a c m3 m4 o3 o4 h1 rfl rfl ha rfl Q]
    cases h34 : (o3 && o4)
    · exact ⟨fun h => by simp at h, fun _ => ⟨_, rfl, rfl, rfl, rfl⟩⟩
    · exact ⟨fun _ => rfl, fun h => by simp at h⟩
theorem mulS_l0 (k n : Nat) (x2 x3 : List (List D)) (lo hi i : Int) (h : ltI i 2 = true) (m1 m2 m3 m4 : Int) (g : Bool) (H : rowR x2 x3 lo hi i g m1 m2 m3 m4 (spec_MulI_l2 k k 0 0 x2 x3 lo hi i 0 i true)) :
    (g = true → spec_MulI_l0 k (n + 1) 0 0 x2 x3 lo hi i = spec_MulI_l0 k n 0 0 x2 x3 (mnI (mnI lo m1) m3) (mxI (mxI hi m2) m4) (IntKind.wrap .i64 (i + 1))) ∧
    (g = false → ∃ t, spec_MulI_l0 k (n + 1) 0 0 x2 x3 lo hi i = some t ∧ gi t 0 = 1 ∧ gi t 1 = -1152921504606846976 ∧ gi t 2 = 1152921504606846976) := by
  rw [spec_MulI_l0, bif_t h]
  constructor
  · intro hg
    rw [H.1 hg, Option.bind_some]; rfl
  · intro hg
    obtain ⟨t, e, t0, t1, t2⟩ := H.2 hg
    rw [e, Option.bind_some, t0, t1, t2]
    exact ⟨_, rfl, rfl, rfl, rfl⟩
theorem impl_step (k n : Nat) (x0 x1 x2 x3 lo hi x8 x9 x10 x12 x13 x14 p q j a b m1 m2 : Int) (x6 x11 o1 o2 : Bool) (h2 : inR j 2 = true) (h3 : ltI j 2 = true) (hb : List.getD [p, q] (Int.toNat j) 0 = b) (P : Prods k a b m1 o1 m2 o2) :
    impl_combine_MulDown_MulUp_l2 k (n + 1) x0 x1 x2 x3 lo hi x6 a x8 x9 x10 x11 x12 x13 x14 p q j = bif o1 && o2 then impl_combine_MulDown_MulUp_l2 k n x0 x1 x2 x3 (bif x6 then m1 else mnI lo m1) (bif x6 then m2 else mxI hi m2) false a x8 x9 x10 x11 x12 x13 x14 p q (IntKind.wrap .i64 (j + 1)) else some [.i 1, .i x0, .i x1, .i (-1152921504606846976), .i 1152921504606846976, .i lo, .i hi, .b x6, .i a, .i x8, .i x9, .i x10, .b x11, .i x12, .i x13, .i x14, .i p, .i q, .i j] := by
  have n1 : ∀ m : Int, mnI m m = m := fun m => by unfold mnI; split <;> rfl
  have n2 : ∀ m : Int, mxI m m = m := fun m => by unfold mxI; split <;> rfl
  rw [impl_combine_MulDown_MulUp_l2, bif_t h3, bif_t h2, hb, P.id, Option.bind_some, P.iu, Option.bind_some]
  cases o1
  · rfl
  · cases o2
    · rfl
    · simp only [gb0, gbS, gi0, giS, Bool.not_true, cond_false, Bool.and_self, cond_true]
      cases x6
      · rfl
      · simp only [n1, n2, cond_true]
def rowI (b c lo hi x8 x9 i a : Int) (x6 : Bool) (g : Bool) (m1 m2 m3 m4 : Int) (r : Option (List D)) : Prop :=
  (g = true → r = some [.i 0, .i b, .i c, .i 0, .i 0, .i (mnI (bif x6 then m1 else mnI lo m1) m3), .i (mxI (bif x6 then m2 else mxI hi m2) m4), .b false, .i a, .i x8, .i x9, .i i, .b true, .i a, .i b, .i c, .i b, .i c, .i 2]) ∧
  (g = false → ∃ t, r = some t ∧ gi t 0 = 1 ∧ gi t 3 = -1152921504606846976 ∧ gi t 4 = 1152921504606846976)
theorem impl_row (k n : Nat) (lo hi x8 x9 i a b c m1 m2 m3 m4 : Int) (x6 o1 o2 o3 o4 : Bool) (P : Prods k a b m1 o1 m2 o2) (Q : Prods k a c m3 o3 m4 o4) :
    rowI b c lo hi x8 x9 i a x6 ((o1 && o2) && (o3 && o4)) m1 m2 m3 m4 (impl_combine_MulDown_MulUp_l2 k (n + 3) b c 0 0 lo hi x6 a x8 x9 i true a b c b c 0) := by
  rw [impl_step k (n + 2) b c 0 0 lo hi x8 x9 i a b c b c 0 a b m1 m2 x6 true o1 o2 rfl rfl rfl P]
  cases h12 : (o1 && o2)
  · exact ⟨fun h => by simp at h, fun _ => ⟨_, rfl, rfl, rfl, rfl⟩⟩
  · rw [cond_true, show IntKind.wrap .i64 ((0 : Int) + 1) = 1 from rfl, impl_step k (n + 1) b c 0 0 _ _ x8 x9 i a b c b c 1 a c m3 m4 false true o3 o4 rfl rfl rfl Q]
    cases h34 : (o3 && o4)
    · exact ⟨fun h => by simp at h, fun _ => ⟨_, rfl, rfl, rfl, rfl⟩⟩
    · exact ⟨fun _ => rfl, fun h => by simp at h⟩
theorem impl_l0 (k n : Nat) (lo hi x8 x9 i a b c m1 m2 m3 m4 : Int) (x6 g : Bool) (h : ltI i 2 = true) (h' : inR i 2 = true) (ha : List.getD [x8, x9] (Int.toNat i) 0 = a) (H : rowI b c lo hi x8 x9 i a x6 g m1 m2 m3 m4 (impl_combine_MulDown_MulUp_l2 k k b c 0 0 lo hi x6 a x8 x9 i true a b c b c 0)) :
    (g = true → impl_combine_MulDown_MulUp_l0 k (n + 1) b c 0 0 lo hi x6 x8 x9 i = impl_combine_MulDown_MulUp_l0 k n b c 0 0 (mnI (bif x6 then m1 else mnI lo m1) m3) (mxI (bif x6 then m2 else mxI hi m2) m4) false x8 x9 (IntKind.wrap .i64 (i + 1))) ∧
    (g = false → ∃ t, impl_combine_MulDown_MulUp_l0 k (n + 1) b c 0 0 lo hi x6 x8 x9 i = some t ∧ gi t 0 = 1 ∧ gi t 3 = -1152921504606846976 ∧ gi t 4 = 1152921504606846976) := by
  rw [impl_combine_MulDown_MulUp_l0, bif_t h, bif_t h', ha]
  constructor
  · intro hg
    rw [H.1 hg, Option.bind_some]; rfl
  · intro hg
    obtain ⟨t, e, t0, t1, t2⟩ := H.2 hg
    rw [e, Option.bind_some, t0, t1, t2]
    exact ⟨_, rfl, rfl, rfl, rfl⟩
/-- What a result that is an interval is made of. -/
def MulB (k : Nat) (a0 a1 b0 b1 x y : Int) : Prop := ivB x y = false ∨ ivB a0 a1 = true ∧ ivB b0 b1 = true ∧ ∃ m1 m2 m3 m4 m5 m6 m7 m8, Prods k a0 b0 m1 true m2 true ∧ Prods k a0 b1 m3 true m4 true ∧ Prods k a1 b0 m5 true m6 true ∧ Prods k a1 b1 m7 true m8 true ∧ x = mnI (mnI (mnI m1 m3) m5) m7 ∧ y = mxI (mxI (mxI m2 m4) m6) m8
theorem Prods.uniq {k : Nat} {a b m1 m2 m1' m2' : Int} {o1 o2 o1' o2' : Bool} (P : Prods k a b m1 o1 m2 o2) (Q : Prods k a b m1' o1' m2' o2') : m1 = m1' ∧ o1 = o1' ∧ m2 = m2' ∧ o2 = o2' := by
  have h1 := P.sd.symm.trans Q.sd
  have h2 := P.su.symm.trans Q.su
  cases h1; cases h2
  exact ⟨rfl, rfl, rfl, rfl⟩
/-- The result, and what it is where all products are fixes. -/
def MulE (k : Nat) (a0 a1 b0 b1 x y : Int) : Prop := MulB k a0 a1 b0 b1 x y ∧ (ivB a0 a1 = true → ivB b0 b1 = true → ∀ m1 m2 m3 m4 m5 m6 m7 m8, Prods k a0 b0 m1 true m2 true → Prods k a0 b1 m3 true m4 true → Prods k a1 b0 m5 true m6 true → Prods k a1 b1 m7 true m8 true → [D.i x, .i y] = mkIv (mnI (mnI (mnI m1 m3) m5) m7) (mxI (mxI (mxI m2 m4) m6) m8))
theorem mulI_ex (k : Nat) (hk : 4 ≤ k) (a0 a1 b0 b1 : Int) : ∃ x y, spec_MulI k a0 a1 b0 b1 = some [.i x, .i y] ∧ impl_MulI k a0 a1 b0 b1 = some [.i x, .i y] ∧ MulE k a0 a1 b0 b1 x y := by
  obtain ⟨n, rfl⟩ : ∃ n, k = n + 4 := ⟨k - 4, by omega⟩
  generalize hK : n + 4 = K
  unfold spec_MulI impl_MulI impl_areBounded
  rw [l04Ok_some, l04Ok_some, validIv_some, validIv_some]
  simp only [Option.bind_some, gb0]
  cases hA : ivB a0 a1
  · exact ⟨_, _, rfl, rfl, .inl rfl, fun h => by rw [hA] at h; cases h⟩
  cases hB : ivB b0 b1
  · exact ⟨_, _, rfl, rfl, .inl rfl, fun _ h => by rw [hB] at h; cases h⟩
  simp only [Bool.not_true, cond_false, cond_true, Option.bind_some, gb0]
  obtain ⟨m1, o1, m2, o2, P⟩ := prods K a0 b0
  obtain ⟨m3, o3, m4, o4, Q⟩ := prods K a0 b1
  obtain ⟨m5, o5, m6, o6, R⟩ := prods K a1 b0
  obtain ⟨m7, o7, m8, o8, S⟩ := prods K a1 b1
  have p1 := fixB_iff.1 P.f1
  have p2 := fixB_iff.1 P.f2
  have s1 := mulS_l0 K (n + 3) [[.i a0], [.i a1]] [[.i b0], [.i b1]] 1152921504606846976 (-1152921504606846976) 0 rfl m1 m2 m3 m4 _ (by rw [← hK]; rw [← hK] at P Q; exact mulS_row (n + 4) (n + 1) [[.i a0], [.i a1]] _ _ 0 a0 b0 b1 m1 m2 m3 m4 o1 o2 o3 o4 rfl rfl P Q)
  have i1 := impl_l0 K (n + 3) 0 0 a0 a1 0 a0 b0 b1 m1 m2 m3 m4 true _ rfl rfl rfl (by rw [← hK]; rw [← hK] at P Q; exact impl_row (n + 4) (n + 1) _ _ a0 a1 0 a0 b0 b1 m1 m2 m3 m4 true o1 o2 o3 o4 P Q)
  have t1 : mnI 1152921504606846976 m1 = m1 := by unfold mnI; split <;> omega
  have t2 : mxI (-1152921504606846976) m2 = m2 := by unfold mxI; split <;> omega
  rw [t1, t2] at s1
  rw [cond_true, cond_true] at i1
  unfold impl_combine_MulDown_MulUp
  rw [show spec_MulI_l0 K K = spec_MulI_l0 K (n + 3 + 1) from by rw [← hK], show impl_combine_MulDown_MulUp_l0 K K = impl_combine_MulDown_MulUp_l0 K (n + 3 + 1) from by rw [← hK]]
  cases g1 : ((o1 && o2) && (o3 && o4))
  · obtain ⟨t, e, z0, z1, z2⟩ := s1.2 g1
    obtain ⟨t', e', y0, y1, y2⟩ := i1.2 g1
    rw [e, e', Option.bind_some, Option.bind_some, z0, z1, z2, y0, y1, y2]
    exact ⟨_, _, rfl, rfl, .inl rfl, fun _ _ _ _ _ _ _ _ _ _ P' Q' R' S' => by obtain ⟨_, rfl, _, rfl⟩ := P.uniq P'; obtain ⟨_, rfl, _, rfl⟩ := Q.uniq Q'; cases g1⟩
  rw [s1.1 g1, i1.1 g1, show IntKind.wrap .i64 ((0 : Int) + 1) = 1 from rfl]
  have s2 := mulS_l0 K (n + 2) [[.i a0], [.i a1]] [[.i b0], [.i b1]] (mnI m1 m3) (mxI m2 m4) 1 rfl m5 m6 m7 m8 _ (by rw [← hK]; rw [← hK] at R S; exact mulS_row (n + 4) (n + 1) [[.i a0], [.i a1]] _ _ 1 a1 b0 b1 m5 m6 m7 m8 o5 o6 o7 o8 rfl rfl R S)
  have i2 := impl_l0 K (n + 2) (mnI m1 m3) (mxI m2 m4) a0 a1 1 a1 b0 b1 m5 m6 m7 m8 false _ rfl rfl rfl (by rw [← hK]; rw [← hK] at R S; exact impl_row (n + 4) (n + 1) _ _ a0 a1 1 a1 b0 b1 m5 m6 m7 m8 false o5 o6 o7 o8 R S)
  cases g2 : ((o5 && o6) && (o7 && o8))
  · obtain ⟨t, e, z0, z1, z2⟩ := s2.2 g2
    obtain ⟨t', e', y0, y1, y2⟩ := i2.2 g2
    rw [e, e', Option.bind_some, Option.bind_some, z0, z1, z2, y0, y1, y2]
    exact ⟨_, _, rfl, rfl, .inl rfl, fun _ _ _ _ _ _ _ _ _ _ P' Q' R' S' => by obtain ⟨_, rfl, _, rfl⟩ := R.uniq R'; obtain ⟨_, rfl, _, rfl⟩ := S.uniq S'; cases g2⟩
  rw [s2.1 g2, i2.1 g2, show IntKind.wrap .i64 ((1 : Int) + 1) = 2 from rfl, cond_false, cond_false]
  have full : MulB K a0 a1 b0 b1 (mnI (mnI (mnI m1 m3) m5) m7) (mxI (mxI (mxI m2 m4) m6) m8) := by
    simp only [Bool.and_eq_true] at g1 g2
    obtain ⟨⟨rfl, rfl⟩, rfl, rfl⟩ := g1
    obtain ⟨⟨rfl, rfl⟩, rfl, rfl⟩ := g2
    exact .inr ⟨hA, hB, m1, m2, m3, m4, m5, m6, m7, m8, P, Q, R, S, rfl, rfl⟩
  have ex : ∀ m1' m2' m3' m4' m5' m6' m7' m8', Prods K a0 b0 m1' true m2' true → Prods K a0 b1 m3' true m4' true → Prods K a1 b0 m5' true m6' true → Prods K a1 b1 m7' true m8' true → mkIv (mnI (mnI (mnI m1 m3) m5) m7) (mxI (mxI (mxI m2 m4) m6) m8) = mkIv (mnI (mnI (mnI m1' m3') m5') m7') (mxI (mxI (mxI m2' m4') m6') m8') := by
    intro _ _ _ _ _ _ _ _ P' Q' R' S'
    obtain ⟨rfl, _, rfl, _⟩ := P.uniq P'; obtain ⟨rfl, _, rfl, _⟩ := Q.uniq Q'; obtain ⟨rfl, _, rfl, _⟩ := R.uniq R'; obtain ⟨rfl, _, rfl, _⟩ := S.uniq S'; rfl
  generalize mnI (mnI (mnI m1 m3) m5) m7 = lo at *
  generalize mxI (mxI (mxI m2 m4) m6) m8 = hi at *
  have hx : ∃ x y, mkIv lo hi = [.i x, .i y] ∧ MulE K a0 a1 b0 b1 x y := by
    unfold mkIv
    cases hv : ivB lo hi with
    | false => exact ⟨_, _, rfl, .inl rfl, fun _ _ => fun _ _ _ _ _ _ _ _ P' Q' R' S' => by rw [← ex _ _ _ _ _ _ _ _ P' Q' R' S']; unfold mkIv; rw [hv]; rfl⟩
    | true => exact ⟨lo, hi, rfl, full, fun _ _ => fun _ _ _ _ _ _ _ _ P' Q' R' S' => by rw [← ex _ _ _ _ _ _ _ _ P' Q' R' S']; unfold mkIv; rw [hv]; rfl⟩
  obtain ⟨x, y, e, hxy⟩ := hx
  refine ⟨x, y, ?_, ?_, hxy⟩
  · show (some [D.i 0, .i 0, .i 0, .l _, .l _, .i lo, .i hi, .i 2] : Option (List D)).bind _ = _
    rw [Option.bind_some]
    show (spec_l04Make K lo hi).bind _ = _
    rw [make_some, e]; rfl
  · show ((some [D.i 0, .i b0, .i b1, .i 0, .i 0, .i lo, .i hi, .b false, .i a0, .i a1, .i 2] : Option (List D)).bind _).bind _ = _
    rw [Option.bind_some]
    show ((impl_bounded K lo hi true).bind _).bind _ = _
    rw [bounded_t, e]; rfl
theorem mulI_full (k : Nat) (hk : 4 ≤ k) (a0 a1 b0 b1 : Int) : ∃ x y, spec_MulI k a0 a1 b0 b1 = some [.i x, .i y] ∧ impl_MulI k a0 a1 b0 b1 = some [.i x, .i y] ∧ MulB k a0 a1 b0 b1 x y := by
  obtain ⟨x, y, e1, e2, h, _⟩ := mulI_ex k hk a0 a1 b0 b1
  exact ⟨x, y, e1, e2, h⟩
theorem mulI_same (k : Nat) (hk : 4 ≤ k) (a0 a1 b0 b1 : Int) : ∃ x y, spec_MulI k a0 a1 b0 b1 = some [.i x, .i y] ∧ impl_MulI k a0 a1 b0 b1 = some [.i x, .i y] := by
  obtain ⟨x, y, e1, e2, _⟩ := mulI_full k hk a0 a1 b0 b1
  exact ⟨x, y, e1, e2⟩
end Go.Proofs.YtpbmapaafnnoiaaGreatDoor.Ev
