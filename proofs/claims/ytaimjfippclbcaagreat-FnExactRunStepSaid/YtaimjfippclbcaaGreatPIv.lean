/- Intervals, by both: sums, quotients, squares and what they are made of. No condition. -/
import Derived.Test.YtaimjfippclbcaaGreatPMulI
namespace Go.Proofs.YtaimjfippclbcaaGreat.Ev
open Go Go.RowKit
set_option linter.unusedSimpArgs false
set_option linter.unusedVariables false
theorem ivB_iff {a b : Int} : ivB a b = true ↔ -1152921504606846976 < a ∧ a ≤ b ∧ b < 1152921504606846976 := by
 unfold ivB; simp only [Bool.and_eq_true, ltI_iff, leI_iff]
theorem ivB_f {a b : Int} : ivB a b = false ↔ ¬ (-1152921504606846976 < a ∧ a ≤ b ∧ b < 1152921504606846976) := by rw [← ivB_iff]; simp
theorem isWhole_some (k : Nat) (a b : Int) : impl_IsWhole k a b = some [.b (!ivB a b)] := by unfold impl_IsWhole; rw [validIv_some]; rfl
theorem sWhole_some (k : Nat) (a b : Int) : spec_IsWhole k a b = some [.b (!ivB a b)] := by unfold spec_IsWhole; rw [l04Ok_some]; rfl
theorem sValid_some (k : Nat) (a b : Int) : spec_ValidInterval k a b = some [.b (ivB a b)] := by unfold spec_ValidInterval; rw [l04Ok_some]; rfl
theorem areB_some (k : Nat) (a b c d : Int) : impl_areBounded k a b c d = some [.b (ivB a b && ivB c d)] := by
 unfold impl_areBounded; rw [validIv_some, validIv_some]; cases ivB a b <;> rfl
theorem has_some (k : Nat) (a b n : Int) : spec_l04Has k a b n = some [.b (leI a n && leI n b)] := by unfold spec_l04Has; rw [in_some]; rfl
theorem hasI_some (k : Nat) (a b n : Int) : impl_HasI k a b n = some [.b (!ivB a b || (leI a n && leI n b))] := by
 unfold impl_HasI; rw [isWhole_some, within_some]; cases ivB a b <;> rfl
theorem mkIv_t {a b : Int} (h : ivB a b = true) : mkIv a b = [.i a, .i b] := by unfold mkIv; rw [h]; rfl
theorem mkIv_wh {a b : Int} (h : ivB a b = false) : mkIv a b = whole := by unfold mkIv; rw [h]; rfl
theorem mkIv_or (a b : Int) : ∃ x y, mkIv a b = [.i x, .i y] ∧ (ivB x y = false ∨ (x = a ∧ y = b)) := by
 cases h : ivB a b with
 | false => exact ⟨_, _, mkIv_wh h, .inl rfl⟩
 | true => exact ⟨a, b, mkIv_t h, .inr ⟨rfl, rfl⟩⟩
theorem mulDown_val {k : Nat} {a b m : Int} (h : spec_l03MulDown k a b = some [.i m, .b true]) : m = a * b / 4294967296 := by
 unfold spec_l03MulDown at h
 rw [l03Ok_some, l03Ok_some] at h
 simp only [Option.bind_some, gb0] at h
 cases ha : fixB a with
 | false => rw [ha] at h; cases h
 | true =>
  cases hb : fixB b with
  | false => rw [ha, hb] at h; cases h
  | true =>
   rw [ha, hb] at h
   simp only [Bool.not_true, cond_false] at h
   rw [mulFloor32_some k a b (fix_I64 ha) (fix_I64 hb)] at h
   unfold intR at h
   split at h
   ·simp only [Option.bind_some, gi0, giS, gb0, gbS, l03End_some] at h
    unfold endR at h
    rw [Bool.true_and] at h
    cases hf : fixB (a * b / 4294967296) with
    | false => rw [hf] at h; cases h
    | true => rw [hf] at h; cases h; rfl
   ·cases h
theorem mulUp_val {k : Nat} {a b m : Int} (ha : fixB a = true) (h : spec_l03MulUp k a b = some [.i m, .b true]) : m = -(-a * b / 4294967296) := by
 obtain ⟨m', o, e1, _, h1, _, _⟩ := mulDown_same k (IntKind.wrap .i64 (0 - a)) b
 have hfa := fixB_iff.1 ha
 have hm := fixB_iff.1 h1
 unfold spec_l03MulUp at h
 rw [e1, l03Ok_some] at h
 simp only [Option.bind_some, gb0, gi0, giS, gbS, ha, Bool.not_true, cond_false] at h
 cases o with
 | false => cases h
 | true =>
  rw [Bool.not_true, cond_false, wr (0 - m') (by omega) (by omega)] at h
  cases h
  rw [wr (0 - a) (by omega) (by omega)] at e1
  have := mulDown_val e1
  rw [show 0 - a = -a by omega] at this
  omega
theorem divDown_same (k : Nat) (hk : 66 ≤ k) (a b : Int) : ∃ m o, spec_l03DivDown k a b = some [.i m, .b o] ∧ impl_DivDown k a b = some [.i m, .b o] ∧ fixB m = true ∧ (o = false → m = 0) ∧ (o = true → 0 < b → m = a * 4294967296 / b) := by
 unfold spec_l03DivDown impl_DivDown
 rw [l03Ok_some, l03Ok_some, validFix_some, validFix_some]
 simp only [Option.bind_some, gb0]
 cases ha : fixB a with
 | false => exact ⟨0, false, rfl, rfl, rfl, fun _ => rfl, fun h => by cases h⟩
 | true =>
  cases hb : fixB b with
  | false => exact ⟨0, false, rfl, rfl, rfl, fun _ => rfl, fun h => by cases h⟩
  | true =>
   have hfa := fixB_iff.1 ha
   have hfb := fixB_iff.1 hb
   have hu : I64 4294967296 := ⟨by decide, by decide⟩
   simp only [Bool.not_true, cond_false]
   by_cases h0 : b = 0
   ·rw [bif_t (beq_t h0), bif_f (ltI_f (by omega)), implMulDivFloor_some k (by omega) a _ b (fix_I64 ha) hu (fix_I64 hb), if_pos (by omega)]
    exact ⟨0, false, rfl, rfl, rfl, fun _ => rfl, fun h => by cases h⟩
   ·rw [bif_f (beq_f h0)]
    by_cases h1 : b < 0
    ·rw [bif_t (ltI_t h1), bif_t (ltI_t h1), wr (0 - a) (by omega) (by omega), wr (0 - b) (by omega) (by omega), mulDivFloor_some k hk _ _ _ ⟨by omega, by omega⟩ hu ⟨by omega, by omega⟩, implMulDivFloor_some k (by omega) _ _ _ ⟨by omega, by omega⟩ hu ⟨by omega, by omega⟩, if_neg (by omega)]
     obtain ⟨n, p, e⟩ := intR_form ((0 - a) * 4294967296 / (0 - b))
     rw [e]
     simp only [Option.bind_some, gi0, giS, gb0, gbS, l03End_some, fixed_some]
     obtain ⟨m, o, e', g1, g2⟩ := endR_form n p
     rw [e']
     exact ⟨m, o, rfl, rfl, g1, g2, fun _ hp => by omega⟩
    ·rw [bif_f (ltI_f (by omega)), bif_f (ltI_f (by omega)), mulDivFloor_some k hk _ _ _ (fix_I64 ha) hu (fix_I64 hb), implMulDivFloor_some k (by omega) _ _ _ (fix_I64 ha) hu (fix_I64 hb), if_neg (by omega)]
     unfold intR
     split
     ·simp only [Option.bind_some, gi0, giS, gb0, gbS, l03End_some, fixed_some]
      unfold endR
      rw [Bool.true_and]
      cases hf : fixB (a * 4294967296 / b) with
      | false => exact ⟨0, false, rfl, rfl, rfl, fun _ => rfl, fun h => by cases h⟩
      | true => exact ⟨_, true, rfl, rfl, hf, fun h => (by cases h), fun _ _ => rfl⟩
     ·exact ⟨0, false, rfl, rfl, rfl, fun _ => rfl, fun h => by cases h⟩
theorem divDown_bad (k : Nat) (a b : Int) (h : fixB b = false) : spec_l03DivDown k a b = some [.i 0, .b false] := by
 unfold spec_l03DivDown
 rw [l03Ok_some, l03Ok_some, h]
 cases fixB a <;> rfl
theorem divUp_same (k : Nat) (hk : 66 ≤ k) (a b : Int) : ∃ m o, spec_l03DivUp k a b = some [.i m, .b o] ∧ impl_DivUp k a b = some [.i m, .b o] ∧ fixB m = true ∧ (o = true → 0 < b → m = -(-a * 4294967296 / b)) := by
 obtain ⟨m, o, e1, e2, h1, h2, h3⟩ := divDown_same k hk (IntKind.wrap .i64 (0 - a)) b
 unfold spec_l03DivUp impl_DivUp
 rw [l03Ok_some, validFix_some, validFix_some]
 simp only [Option.bind_some, gb0]
 cases ha : fixB a with
 | false => exact ⟨0, false, rfl, rfl, rfl, fun h => by cases h⟩
 | true =>
  cases hb : fixB b with
  | false =>
   rw [divDown_bad k _ b hb]
   exact ⟨0, false, rfl, rfl, rfl, fun h => by cases h⟩
  | true =>
   have hm := fixB_iff.1 h1
   have hfa := fixB_iff.1 ha
   simp only [Bool.not_true, cond_false]
   rw [e1, e2]
   simp only [Option.bind_some, gi0, giS, gb0, gbS]
   rw [wr (0 - m) (by omega) (by omega)]
   refine ⟨0 - m, o, rfl, rfl, fixB_iff.2 ⟨by omega, by omega⟩, fun ho hp => ?_⟩
   have := h3 ho hp
   rw [wr (0 - a) (by omega) (by omega), show 0 - a = -a by omega] at this
   omega
structure Divs (k : Nat) (a b m1 : Int) (o1 : Bool) (m2 : Int) (o2 : Bool) : Prop where
 sd : spec_l03DivDown k a b = some [.i m1, .b o1]
 su : spec_l03DivUp k a b = some [.i m2, .b o2]
 id : impl_DivDown k a b = some [.i m1, .b o1]
 iu : impl_DivUp k a b = some [.i m2, .b o2]
 f1 : fixB m1 = true
 f2 : fixB m2 = true
theorem divs (k : Nat) (hk : 66 ≤ k) (a b : Int) : ∃ m1 o1 m2 o2, Divs k a b m1 o1 m2 o2 := by
 obtain ⟨m1, o1, e1, e2, h1, _, _⟩ := divDown_same k hk a b
 obtain ⟨m2, o2, e3, e4, h2, _⟩ := divUp_same k hk a b
 exact ⟨m1, o1, m2, o2, e1, e3, e2, e4, h1, h2⟩
theorem divS_step (k n : Nat) (x2 x3 : List (List D)) (lo hi i j a b m1 m2 : Int) (o1 o2 : Bool) (h1 : inR i ((List.length x2 : Nat) : Int) = true) (h2 : inR j ((List.length x3 : Nat) : Int) = true) (h3 : ltI j 2 = true) (ha : ri x2 i 0 = a) (hb : ri x3 j 0 = b) (P : Divs k a b m1 o1 m2 o2) :
  spec_DivI_l2 k (n + 1) 0 0 x2 x3 lo hi i j i true = bif o1 && o2 then spec_DivI_l2 k n 0 0 x2 x3 (mnI lo m1) (mxI hi m2) i (IntKind.wrap .i64 (j + 1)) i true else some [.i 1, .i (-1152921504606846976), .i 1152921504606846976, .l x2, .l x3, .i lo, .i hi, .i i, .i j, .i i, .b true] := by
 rw [spec_DivI_l2, bif_t h3, bif_t h1, bif_t h2, ha, hb, P.sd, Option.bind_some, bif_t h1, bif_t h2, P.su, Option.bind_some]
 cases o1
 ·rfl
 ·cases o2
  ·rfl
  ·simp only [gb0, gbS, gi0, giS, Bool.not_true, cond_false, l00Min_some, l00Max_some, Option.bind_some, Bool.and_self, cond_true]
def rowDR (x2 x3 : List (List D)) (lo hi i : Int) (g : Bool) (m1 m2 m3 m4 : Int) (r : Option (List D)) : Prop :=
 (g = true → r = some [.i 0, .i 0, .i 0, .l x2, .l x3, .i (mnI (mnI lo m1) m3), .i (mxI (mxI hi m2) m4), .i i, .i 2, .i i, .b true]) ∧
 (g = false → ∃ t, r = some t ∧ gi t 0 = 1 ∧ gi t 1 = -1152921504606846976 ∧ gi t 2 = 1152921504606846976)
theorem divS_row (k n : Nat) (x2 : List (List D)) (lo hi i a b c m1 m2 m3 m4 : Int) (o1 o2 o3 o4 : Bool) (h1 : inR i ((List.length x2 : Nat) : Int) = true) (ha : ri x2 i 0 = a) (P : Divs k a b m1 o1 m2 o2) (Q : Divs k a c m3 o3 m4 o4) :
  rowDR x2 [[.i b], [.i c]] lo hi i ((o1 && o2) && (o3 && o4)) m1 m2 m3 m4 (spec_DivI_l2 k (n + 3) 0 0 x2 [[.i b], [.i c]] lo hi i 0 i true) := by
 rw [divS_step k (n + 2) x2 _ lo hi i 0 a b m1 m2 o1 o2 h1 rfl rfl ha rfl P]
 cases h12 : (o1 && o2)
 ·exact ⟨fun h => by simp at h, fun _ => ⟨_, rfl, rfl, rfl, rfl⟩⟩
 ·rw [cond_true, show IntKind.wrap .i64 ((0 : Int) + 1) = 1 from rfl, divS_step k (n + 1) x2 _ _ _ i 1 a c m3 m4 o3 o4 h1 rfl rfl ha rfl Q]
  cases h34 : (o3 && o4)
  ·exact ⟨fun h => by simp at h, fun _ => ⟨_, rfl, rfl, rfl, rfl⟩⟩
  ·exact ⟨fun _ => rfl, fun h => by simp at h⟩
theorem divS_l0 (k n : Nat) (x2 x3 : List (List D)) (lo hi i : Int) (h : ltI i 2 = true) (m1 m2 m3 m4 : Int) (g : Bool) (H : rowDR x2 x3 lo hi i g m1 m2 m3 m4 (spec_DivI_l2 k k 0 0 x2 x3 lo hi i 0 i true)) :
  (g = true → spec_DivI_l0 k (n + 1) 0 0 x2 x3 lo hi i = spec_DivI_l0 k n 0 0 x2 x3 (mnI (mnI lo m1) m3) (mxI (mxI hi m2) m4) (IntKind.wrap .i64 (i + 1))) ∧
  (g = false → ∃ t, spec_DivI_l0 k (n + 1) 0 0 x2 x3 lo hi i = some t ∧ gi t 0 = 1 ∧ gi t 1 = -1152921504606846976 ∧ gi t 2 = 1152921504606846976) := by
 rw [spec_DivI_l0, bif_t h]
 constructor
 ·intro hg
  rw [H.1 hg, Option.bind_some]; rfl
 ·intro hg
  obtain ⟨t, e, t0, t1, t2⟩ := H.2 hg
  rw [e, Option.bind_some, t0, t1, t2]
  exact ⟨_, rfl, rfl, rfl, rfl⟩
theorem impd_step (k n : Nat) (x0 x1 x2 x3 lo hi x8 x9 x10 x12 x13 x14 p q j a b m1 m2 : Int) (x6 x11 o1 o2 : Bool) (h2 : inR j 2 = true) (h3 : ltI j 2 = true) (hb : List.getD [p, q] (Int.toNat j) 0 = b) (P : Divs k a b m1 o1 m2 o2) :
  impl_combine_DivDown_DivUp_l2 k (n + 1) x0 x1 x2 x3 lo hi x6 a x8 x9 x10 x11 x12 x13 x14 p q j = bif o1 && o2 then impl_combine_DivDown_DivUp_l2 k n x0 x1 x2 x3 (bif x6 then m1 else mnI lo m1) (bif x6 then m2 else mxI hi m2) false a x8 x9 x10 x11 x12 x13 x14 p q (IntKind.wrap .i64 (j + 1)) else some [.i 1, .i x0, .i x1, .i (-1152921504606846976), .i 1152921504606846976, .i lo, .i hi, .b x6, .i a, .i x8, .i x9, .i x10, .b x11, .i x12, .i x13, .i x14, .i p, .i q, .i j] := by
 have n1 : ∀ m : Int, mnI m m = m := fun m => by unfold mnI; split <;> rfl
 have n2 : ∀ m : Int, mxI m m = m := fun m => by unfold mxI; split <;> rfl
 rw [impl_combine_DivDown_DivUp_l2, bif_t h3, bif_t h2, hb, P.id, Option.bind_some, P.iu, Option.bind_some]
 cases o1
 ·rfl
 ·cases o2
  ·rfl
  ·simp only [gb0, gbS, gi0, giS, Bool.not_true, cond_false, Bool.and_self, cond_true]
   cases x6
   ·rfl
   ·simp only [n1, n2, cond_true]
def rowDI (b c lo hi x8 x9 i a : Int) (x6 : Bool) (g : Bool) (m1 m2 m3 m4 : Int) (r : Option (List D)) : Prop :=
 (g = true → r = some [.i 0, .i b, .i c, .i 0, .i 0, .i (mnI (bif x6 then m1 else mnI lo m1) m3), .i (mxI (bif x6 then m2 else mxI hi m2) m4), .b false, .i a, .i x8, .i x9, .i i, .b true, .i a, .i b, .i c, .i b, .i c, .i 2]) ∧
 (g = false → ∃ t, r = some t ∧ gi t 0 = 1 ∧ gi t 3 = -1152921504606846976 ∧ gi t 4 = 1152921504606846976)
theorem impd_row (k n : Nat) (lo hi x8 x9 i a b c m1 m2 m3 m4 : Int) (x6 o1 o2 o3 o4 : Bool) (P : Divs k a b m1 o1 m2 o2) (Q : Divs k a c m3 o3 m4 o4) :
  rowDI b c lo hi x8 x9 i a x6 ((o1 && o2) && (o3 && o4)) m1 m2 m3 m4 (impl_combine_DivDown_DivUp_l2 k (n + 3) b c 0 0 lo hi x6 a x8 x9 i true a b c b c 0) := by
 rw [impd_step k (n + 2) b c 0 0 lo hi x8 x9 i a b c b c 0 a b m1 m2 x6 true o1 o2 rfl rfl rfl P]
 cases h12 : (o1 && o2)
 ·exact ⟨fun h => by simp at h, fun _ => ⟨_, rfl, rfl, rfl, rfl⟩⟩
 ·rw [cond_true, show IntKind.wrap .i64 ((0 : Int) + 1) = 1 from rfl, impd_step k (n + 1) b c 0 0 _ _ x8 x9 i a b c b c 1 a c m3 m4 false true o3 o4 rfl rfl rfl Q]
  cases h34 : (o3 && o4)
  ·exact ⟨fun h => by simp at h, fun _ => ⟨_, rfl, rfl, rfl, rfl⟩⟩
  ·exact ⟨fun _ => rfl, fun h => by simp at h⟩
theorem impd_l0 (k n : Nat) (lo hi x8 x9 i a b c m1 m2 m3 m4 : Int) (x6 g : Bool) (h : ltI i 2 = true) (h' : inR i 2 = true) (ha : List.getD [x8, x9] (Int.toNat i) 0 = a) (H : rowDI b c lo hi x8 x9 i a x6 g m1 m2 m3 m4 (impl_combine_DivDown_DivUp_l2 k k b c 0 0 lo hi x6 a x8 x9 i true a b c b c 0)) :
  (g = true → impl_combine_DivDown_DivUp_l0 k (n + 1) b c 0 0 lo hi x6 x8 x9 i = impl_combine_DivDown_DivUp_l0 k n b c 0 0 (mnI (bif x6 then m1 else mnI lo m1) m3) (mxI (bif x6 then m2 else mxI hi m2) m4) false x8 x9 (IntKind.wrap .i64 (i + 1))) ∧
  (g = false → ∃ t, impl_combine_DivDown_DivUp_l0 k (n + 1) b c 0 0 lo hi x6 x8 x9 i = some t ∧ gi t 0 = 1 ∧ gi t 3 = -1152921504606846976 ∧ gi t 4 = 1152921504606846976) := by
 rw [impl_combine_DivDown_DivUp_l0, bif_t h, bif_t h', ha]
 constructor
 ·intro hg
  rw [H.1 hg, Option.bind_some]; rfl
 ·intro hg
  obtain ⟨t, e, t0, t1, t2⟩ := H.2 hg
  rw [e, Option.bind_some, t0, t1, t2]
  exact ⟨_, rfl, rfl, rfl, rfl⟩
def DivB (k : Nat) (a0 a1 b0 b1 x y : Int) : Prop := ivB x y = false ∨ ivB a0 a1 = true ∧ ivB b0 b1 = true ∧ ∃ m1 m2 m3 m4 m5 m6 m7 m8, Divs k a0 b0 m1 true m2 true ∧ Divs k a0 b1 m3 true m4 true ∧ Divs k a1 b0 m5 true m6 true ∧ Divs k a1 b1 m7 true m8 true ∧ x = mnI (mnI (mnI m1 m3) m5) m7 ∧ y = mxI (mxI (mxI m2 m4) m6) m8
theorem Divs.uniq {k : Nat} {a b m1 m2 m1' m2' : Int} {o1 o2 o1' o2' : Bool} (P : Divs k a b m1 o1 m2 o2) (Q : Divs k a b m1' o1' m2' o2') : m1 = m1' ∧ o1 = o1' ∧ m2 = m2' ∧ o2 = o2' := by
 have h1 := P.sd.symm.trans Q.sd
 have h2 := P.su.symm.trans Q.su
 cases h1; cases h2
 exact ⟨rfl, rfl, rfl, rfl⟩
def DivE (k : Nat) (a0 a1 b0 b1 x y : Int) : Prop := DivB k a0 a1 b0 b1 x y ∧ (ivB a0 a1 = true → ivB b0 b1 = true → (leI b0 0 && leI 0 b1) = false → ∀ m1 m2 m3 m4 m5 m6 m7 m8, Divs k a0 b0 m1 true m2 true → Divs k a0 b1 m3 true m4 true → Divs k a1 b0 m5 true m6 true → Divs k a1 b1 m7 true m8 true → [D.i x, .i y] = mkIv (mnI (mnI (mnI m1 m3) m5) m7) (mxI (mxI (mxI m2 m4) m6) m8))
theorem divI_ex (k : Nat) (hk : 66 ≤ k) (a0 a1 b0 b1 : Int) : ∃ x y, spec_DivI k a0 a1 b0 b1 = some [.i x, .i y] ∧ impl_DivI k a0 a1 b0 b1 = some [.i x, .i y] ∧ DivE k a0 a1 b0 b1 x y := by
 obtain ⟨n, rfl⟩ : ∃ n, k = n + 4 := ⟨k - 4, by omega⟩
 generalize hK : n + 4 = K at hk
 unfold spec_DivI impl_DivI impl_areBounded
 rw [l04Ok_some, l04Ok_some, validIv_some, validIv_some]
 simp only [Option.bind_some, gb0]
 cases hA : ivB a0 a1
 ·exact ⟨_, _, rfl, rfl, .inl rfl, fun h => by rw [hA] at h; cases h⟩
 cases hB : ivB b0 b1
 ·exact ⟨_, _, rfl, rfl, .inl rfl, fun _ h => by rw [hB] at h; cases h⟩
 simp only [Bool.not_true, cond_false, cond_true, Option.bind_some, gb0, has_some, hasI_some, hB, Bool.false_or]
 cases hH : (leI b0 0 && leI 0 b1)
 rotate_left
 ·exact ⟨_, _, rfl, rfl, .inl rfl, fun _ _ h => by rw [hH] at h; cases h⟩
 simp only [cond_false]
 obtain ⟨m1, o1, m2, o2, P⟩ := divs K hk a0 b0
 obtain ⟨m3, o3, m4, o4, Q⟩ := divs K hk a0 b1
 obtain ⟨m5, o5, m6, o6, R⟩ := divs K hk a1 b0
 obtain ⟨m7, o7, m8, o8, S⟩ := divs K hk a1 b1
 have p1 := fixB_iff.1 P.f1
 have p2 := fixB_iff.1 P.f2
 have s1 := divS_l0 K (n + 3) [[.i a0], [.i a1]] [[.i b0], [.i b1]] 1152921504606846976 (-1152921504606846976) 0 rfl m1 m2 m3 m4 _ (by rw [← hK]; rw [← hK] at P Q; exact divS_row (n + 4) (n + 1) [[.i a0], [.i a1]] _ _ 0 a0 b0 b1 m1 m2 m3 m4 o1 o2 o3 o4 rfl rfl P Q)
 have i1 := impd_l0 K (n + 3) 0 0 a0 a1 0 a0 b0 b1 m1 m2 m3 m4 true _ rfl rfl rfl (by rw [← hK]; rw [← hK] at P Q; exact impd_row (n + 4) (n + 1) _ _ a0 a1 0 a0 b0 b1 m1 m2 m3 m4 true o1 o2 o3 o4 P Q)
 have t1 : mnI 1152921504606846976 m1 = m1 := by unfold mnI; split <;> omega
 have t2 : mxI (-1152921504606846976) m2 = m2 := by unfold mxI; split <;> omega
 rw [t1, t2] at s1
 rw [cond_true, cond_true] at i1
 unfold impl_combine_DivDown_DivUp
 rw [show spec_DivI_l0 K K = spec_DivI_l0 K (n + 3 + 1) from by rw [← hK], show impl_combine_DivDown_DivUp_l0 K K = impl_combine_DivDown_DivUp_l0 K (n + 3 + 1) from by rw [← hK]]
 cases g1 : ((o1 && o2) && (o3 && o4))
 ·obtain ⟨t, e, z0, z1, z2⟩ := s1.2 g1
  obtain ⟨t', e', y0, y1, y2⟩ := i1.2 g1
  rw [e, e', Option.bind_some, Option.bind_some, z0, z1, z2, y0, y1, y2]
  exact ⟨_, _, rfl, rfl, .inl rfl, fun _ _ _ _ _ _ _ _ _ _ _ P' Q' R' S' => by obtain ⟨_, rfl, _, rfl⟩ := P.uniq P'; obtain ⟨_, rfl, _, rfl⟩ := Q.uniq Q'; cases g1⟩
 rw [s1.1 g1, i1.1 g1, show IntKind.wrap .i64 ((0 : Int) + 1) = 1 from rfl]
 have s2 := divS_l0 K (n + 2) [[.i a0], [.i a1]] [[.i b0], [.i b1]] (mnI m1 m3) (mxI m2 m4) 1 rfl m5 m6 m7 m8 _ (by rw [← hK]; rw [← hK] at R S; exact divS_row (n + 4) (n + 1) [[.i a0], [.i a1]] _ _ 1 a1 b0 b1 m5 m6 m7 m8 o5 o6 o7 o8 rfl rfl R S)
 have i2 := impd_l0 K (n + 2) (mnI m1 m3) (mxI m2 m4) a0 a1 1 a1 b0 b1 m5 m6 m7 m8 false _ rfl rfl rfl (by rw [← hK]; rw [← hK] at R S; exact impd_row (n + 4) (n + 1) _ _ a0 a1 1 a1 b0 b1 m5 m6 m7 m8 false o5 o6 o7 o8 R S)
 cases g2 : ((o5 && o6) && (o7 && o8))
 ·obtain ⟨t, e, z0, z1, z2⟩ := s2.2 g2
  obtain ⟨t', e', y0, y1, y2⟩ := i2.2 g2
  rw [e, e', Option.bind_some, Option.bind_some, z0, z1, z2, y0, y1, y2]
  exact ⟨_, _, rfl, rfl, .inl rfl, fun _ _ _ _ _ _ _ _ _ _ _ P' Q' R' S' => by obtain ⟨_, rfl, _, rfl⟩ := R.uniq R'; obtain ⟨_, rfl, _, rfl⟩ := S.uniq S'; cases g2⟩
 rw [s2.1 g2, i2.1 g2, show IntKind.wrap .i64 ((1 : Int) + 1) = 2 from rfl, cond_false, cond_false]
 have full : DivB K a0 a1 b0 b1 (mnI (mnI (mnI m1 m3) m5) m7) (mxI (mxI (mxI m2 m4) m6) m8) := by
  simp only [Bool.and_eq_true] at g1 g2
  obtain ⟨⟨rfl, rfl⟩, rfl, rfl⟩ := g1
  obtain ⟨⟨rfl, rfl⟩, rfl, rfl⟩ := g2
  exact .inr ⟨hA, hB, m1, m2, m3, m4, m5, m6, m7, m8, P, Q, R, S, rfl, rfl⟩
 have ex : ∀ m1' m2' m3' m4' m5' m6' m7' m8', Divs K a0 b0 m1' true m2' true → Divs K a0 b1 m3' true m4' true → Divs K a1 b0 m5' true m6' true → Divs K a1 b1 m7' true m8' true → mkIv (mnI (mnI (mnI m1 m3) m5) m7) (mxI (mxI (mxI m2 m4) m6) m8) = mkIv (mnI (mnI (mnI m1' m3') m5') m7') (mxI (mxI (mxI m2' m4') m6') m8') := by
  intro _ _ _ _ _ _ _ _ P' Q' R' S'
  obtain ⟨rfl, _, rfl, _⟩ := P.uniq P'; obtain ⟨rfl, _, rfl, _⟩ := Q.uniq Q'; obtain ⟨rfl, _, rfl, _⟩ := R.uniq R'; obtain ⟨rfl, _, rfl, _⟩ := S.uniq S'; rfl
 generalize mnI (mnI (mnI m1 m3) m5) m7 = lo at *
 generalize mxI (mxI (mxI m2 m4) m6) m8 = hi at *
 have hx : ∃ x y, mkIv lo hi = [.i x, .i y] ∧ DivE K a0 a1 b0 b1 x y := by
  unfold mkIv
  cases hv : ivB lo hi with
  | false => exact ⟨_, _, rfl, .inl rfl, fun _ _ _ => fun _ _ _ _ _ _ _ _ P' Q' R' S' => by rw [← ex _ _ _ _ _ _ _ _ P' Q' R' S']; unfold mkIv; rw [hv]; rfl⟩
  | true => exact ⟨lo, hi, rfl, full, fun _ _ _ => fun _ _ _ _ _ _ _ _ P' Q' R' S' => by rw [← ex _ _ _ _ _ _ _ _ P' Q' R' S']; unfold mkIv; rw [hv]; rfl⟩
 obtain ⟨x, y, e, hxy⟩ := hx
 refine ⟨x, y, ?_, ?_, hxy⟩
 ·show (some [D.i 0, .i 0, .i 0, .l _, .l _, .i lo, .i hi, .i 2] : Option (List D)).bind _ = _
  rw [Option.bind_some]
  show (spec_l04Make K lo hi).bind _ = _
  rw [make_some, e]; rfl
 ·show ((some [D.i 0, .i b0, .i b1, .i 0, .i 0, .i lo, .i hi, .b false, .i a0, .i a1, .i 2] : Option (List D)).bind _).bind _ = _
  rw [Option.bind_some]
  show ((impl_bounded K lo hi true).bind _).bind _ = _
  rw [bounded_t, e]; rfl
theorem divI_full (k : Nat) (hk : 66 ≤ k) (a0 a1 b0 b1 : Int) : ∃ x y, spec_DivI k a0 a1 b0 b1 = some [.i x, .i y] ∧ impl_DivI k a0 a1 b0 b1 = some [.i x, .i y] ∧ DivB k a0 a1 b0 b1 x y := by
 obtain ⟨x, y, e1, e2, h, _⟩ := divI_ex k hk a0 a1 b0 b1
 exact ⟨x, y, e1, e2, h⟩
theorem integer_same (k : Nat) (n : Int) : ∃ x y, spec_Integer k n = some [.i x, .i y] ∧ impl_Integer k n = some [.i x, .i y] ∧ ((-268435455 ≤ n ∧ n ≤ 268435455) → x = n * 4294967296 ∧ y = n * 4294967296) := by
 unfold spec_Integer impl_Integer
 rw [in_some, within_some]
 simp only [Option.bind_some, gb0]
 by_cases h : -268435455 ≤ n ∧ n ≤ 268435455
 ·rw [leI_t h.1, leI_t h.2, leI_t (by omega), leI_t (by omega), make_some, bounded_t, wr _ (by omega) (by omega), mkIv_t (ivB_iff.2 ⟨by omega, by omega, by omega⟩)]
  exact ⟨_, _, rfl, rfl, fun _ => ⟨rfl, rfl⟩⟩
 ·have e1 : (leI (-268435455) n && leI n 268435455) = false := by
   rw [Bool.and_eq_false_iff]
   by_cases h1 : -268435455 ≤ n
   ·exact .inr (leI_f (by omega))
   ·exact .inl (leI_f (by omega))
  rw [e1]
  by_cases h2 : -268435456 ≤ n ∧ n ≤ 268435456
  ·rw [leI_t h2.1, leI_t h2.2, bounded_t, wr _ (by omega) (by omega), mkIv_wh (ivB_f.2 (by omega))]
   exact ⟨_, _, rfl, rfl, fun hh => absurd hh h⟩
  ·have e2 : (leI (-268435456) n && leI n 268435456) = false := by
    rw [Bool.and_eq_false_iff]
    by_cases h1 : -268435456 ≤ n
    ·exact .inr (leI_f (by omega))
    ·exact .inl (leI_f (by omega))
   rw [e2]
   exact ⟨_, _, rfl, rfl, fun hh => absurd hh h⟩
def AddB (a0 a1 b0 b1 x y : Int) : Prop := ivB x y = false ∨ (ivB a0 a1 = true ∧ ivB b0 b1 = true ∧ x = a0 + b0 ∧ y = a1 + b1)
theorem addI_full (k : Nat) (a0 a1 b0 b1 : Int) : ∃ x y, spec_AddI k a0 a1 b0 b1 = some [.i x, .i y] ∧ impl_AddI k a0 a1 b0 b1 = some [.i x, .i y] ∧ AddB a0 a1 b0 b1 x y := by
 unfold spec_AddI impl_AddI
 rw [l04Ok_some, l04Ok_some, areB_some]
 simp only [Option.bind_some, gb0]
 cases hA : ivB a0 a1
 ·exact ⟨_, _, rfl, rfl, .inl rfl⟩
 cases hB : ivB b0 b1
 ·exact ⟨_, _, rfl, rfl, .inl rfl⟩
 have h1 := ivB_iff.1 hA
 have h2 := ivB_iff.1 hB
 simp only [Bool.not_true, cond_false, Bool.and_self]
 rw [make_some, bounded_t, wr _ (by omega) (by omega), wr _ (by omega) (by omega)]
 obtain ⟨x, y, e, h⟩ := mkIv_or (a0 + b0) (a1 + b1)
 rw [e]
 exact ⟨x, y, rfl, rfl, h.imp id fun ⟨p, q⟩ => ⟨hA, hB, p, q⟩⟩
theorem negI_full (k : Nat) (a0 a1 : Int) : ∃ x y, spec_NegI k a0 a1 = some [.i x, .i y] ∧ impl_NegI k a0 a1 = some [.i x, .i y] ∧ (ivB a0 a1 = true → ivB x y = true ∧ x = -a1 ∧ y = -a0) ∧ (ivB a0 a1 = false → ivB x y = false) := by
 unfold spec_NegI impl_NegI
 rw [l04Ok_some, isWhole_some]
 simp only [Option.bind_some, gb0]
 cases hA : ivB a0 a1
 ·exact ⟨_, _, rfl, rfl, fun h => (by cases h), fun _ => rfl⟩
 have h1 := ivB_iff.1 hA
 simp only [Bool.not_true, cond_false]
 have hv : ivB (-a1) (-a0) = true := ivB_iff.2 ⟨by omega, by omega, by omega⟩
 rw [make_some, wr _ (by omega) (by omega), wr _ (by omega) (by omega), show 0 - a1 = -a1 by omega, show 0 - a0 = -a0 by omega, mkIv_t hv]
 exact ⟨_, _, rfl, rfl, fun _ => ⟨hv, rfl, rfl⟩, fun h => by cases h⟩
def SubB (a0 a1 b0 b1 x y : Int) : Prop := ivB x y = false ∨ (ivB a0 a1 = true ∧ ivB b0 b1 = true ∧ x = a0 - b1 ∧ y = a1 - b0)
theorem subI_full (k : Nat) (a0 a1 b0 b1 : Int) : ∃ x y, spec_SubI k a0 a1 b0 b1 = some [.i x, .i y] ∧ impl_SubI k a0 a1 b0 b1 = some [.i x, .i y] ∧ SubB a0 a1 b0 b1 x y := by
 obtain ⟨n0, n1, e1, e2, h1, h2⟩ := negI_full k b0 b1
 unfold spec_SubI impl_SubI
 rw [l04Ok_some, l04Ok_some, e2]
 simp only [Option.bind_some, gb0, gi0, giS]
 unfold impl_AddI
 rw [areB_some]
 simp only [Option.bind_some, gb0]
 cases hA : ivB a0 a1
 ·exact ⟨_, _, rfl, rfl, .inl rfl⟩
 cases hB : ivB b0 b1
 ·rw [h2 hB]
  exact ⟨_, _, rfl, rfl, .inl rfl⟩
 obtain ⟨h3, rfl, rfl⟩ := h1 hB
 have g1 := ivB_iff.1 hA
 have g2 := ivB_iff.1 hB
 rw [h3]
 simp only [Bool.not_true, cond_false, Bool.and_self]
 rw [make_some, bounded_t, wr _ (by omega) (by omega), wr _ (by omega) (by omega), wr _ (by omega) (by omega), wr _ (by omega) (by omega), show a0 + -b1 = a0 - b1 by omega, show a1 + -b0 = a1 - b0 by omega]
 obtain ⟨x, y, e, h⟩ := mkIv_or (a0 - b1) (a1 - b0)
 rw [e]
 exact ⟨x, y, rfl, rfl, h.imp id fun ⟨p, q⟩ => ⟨hA, hB, p, q⟩⟩
theorem fd1 (x : Int) : Int.fdiv x (2 ^ min (Int.toNat 1) 64) = x / 2 := by rw [p1]; exact fdiv_pos x 2 (by decide)
theorem halfI_same (k : Nat) (a0 a1 : Int) : ∃ x y, spec_HalfI k a0 a1 = some [.i x, .i y] ∧ impl_HalfI k a0 a1 = some [.i x, .i y] := by
 unfold spec_HalfI impl_HalfI
 rw [l04Ok_some, isWhole_some]
 simp only [Option.bind_some, gb0]
 cases hA : ivB a0 a1
 ·exact ⟨_, _, rfl, rfl⟩
 have h1 := ivB_iff.1 hA
 simp only [Bool.not_true, cond_false, fd1]
 rw [make_some, wr _ (by omega) (by omega), mkIv_t (ivB_iff.2 ⟨by omega, by omega, by omega⟩)]
 exact ⟨_, _, rfl, rfl⟩
theorem hullI_same (k : Nat) (a0 a1 b0 b1 : Int) : ∃ x y, spec_HullI k a0 a1 b0 b1 = some [.i x, .i y] ∧ impl_HullI k a0 a1 b0 b1 = some [.i x, .i y] := by
 unfold spec_HullI impl_HullI
 rw [l04Ok_some, l04Ok_some, areB_some]
 simp only [Option.bind_some, gb0]
 cases hA : ivB a0 a1
 ·exact ⟨_, _, rfl, rfl⟩
 cases hB : ivB b0 b1
 ·exact ⟨_, _, rfl, rfl⟩
 have h1 := ivB_iff.1 hA
 have h2 := ivB_iff.1 hB
 simp only [Bool.not_true, cond_false, Bool.and_self, l00Min_some, l00Max_some, Option.bind_some, gi0, make_some]
 rw [mkIv_t (ivB_iff.2 (by unfold mnI mxI; split <;> split <;> exact ⟨by omega, by omega, by omega⟩))]
 exact ⟨_, _, rfl, rfl⟩
theorem meetI_same (k : Nat) (a0 a1 b0 b1 : Int) : ∃ x y o, spec_MeetI k a0 a1 b0 b1 = some [.i x, .i y, .b o] ∧ impl_MeetI k a0 a1 b0 b1 = some [.i x, .i y, .b o] ∧ (ivB a0 a1 = false → o = true) ∧ (ivB b0 b1 = true → a0 ≤ b1 → b0 ≤ a1 → o = true) := by
 unfold spec_MeetI impl_MeetI
 simp only [l04Ok_some, isWhole_some, Option.bind_some, gb0, l00Min_some, l00Max_some, gi0]
 cases hA : ivB a0 a1
 ·cases hB : ivB b0 b1
  ·exact ⟨_, _, _, rfl, rfl, fun _ => rfl, fun _ _ _ => rfl⟩
  ·exact ⟨_, _, _, rfl, rfl, fun _ => rfl, fun _ _ _ => rfl⟩
 ·cases hB : ivB b0 b1
  ·exact ⟨_, _, _, rfl, rfl, fun _ => rfl, fun _ _ _ => rfl⟩
  ·have h1 := ivB_iff.1 hA
   have h2 := ivB_iff.1 hB
   simp only [Bool.not_true, cond_false]
   by_cases h : mnI a1 b1 < mxI a0 b0
   ·rw [bif_t (ltI_t h)]
    refine ⟨_, _, _, rfl, rfl, fun h => (by cases h), fun _ p q => ?_⟩
    exfalso
    revert h
    unfold mnI mxI
    split <;> split <;> omega
   ·rw [bif_f (ltI_f (by omega))]
    exact ⟨_, _, _, rfl, rfl, fun _ => rfl, fun _ _ _ => rfl⟩
theorem overlap_same (k : Nat) (a0 a1 b0 b1 : Int) : ∃ o, spec_OverlapI k a0 a1 b0 b1 = some [.b o] ∧ impl_OverlapI k a0 a1 b0 b1 = some [.b o] := by
 obtain ⟨x, y, o, e1, e2, _, _⟩ := meetI_same k a0 a1 b0 b1
 unfold spec_OverlapI impl_OverlapI
 rw [e1, e2]
 exact ⟨o, rfl, rfl⟩
theorem inside_same (k : Nat) (a0 a1 b0 b1 : Int) : ∃ o, spec_InsideI k a0 a1 b0 b1 = some [.b o] ∧ impl_InsideI k a0 a1 b0 b1 = some [.b o] ∧ (ivB b0 b1 = true → o = true → ivB a0 a1 = true ∧ b0 ≤ a0 ∧ a1 ≤ b1) := by
 unfold spec_InsideI impl_InsideI
 simp only [l04Ok_some, isWhole_some, Option.bind_some, gb0]
 cases hA : ivB a0 a1
 ·cases hB : ivB b0 b1
  ·exact ⟨_, rfl, rfl, fun h => by cases h⟩
  ·exact ⟨_, rfl, rfl, fun _ h => by cases h⟩
 ·cases hB : ivB b0 b1
  ·exact ⟨_, rfl, rfl, fun h => by cases h⟩
  ·simp only [Bool.not_true, cond_false, cond_true]
   by_cases h : b0 ≤ a0
   ·rw [bif_t (leI_t h)]
    exact ⟨_, rfl, rfl, fun _ hh => ⟨trivial, h, leI_iff.1 hh⟩⟩
   ·rw [bif_f (leI_f (by omega))]
    exact ⟨_, rfl, rfl, fun _ hh => by cases hh⟩
theorem ends_some (k : Nat) (a b : Int) : ∃ p q, spec_l04Ends k a b = some [.i p, .i q] ∧ p = (bif leI a 0 && leI 0 b then 0 else mnI (mxI a (IntKind.wrap .i64 (0 - a))) (mxI b (IntKind.wrap .i64 (0 - b)))) ∧ q = mxI (mxI a (IntKind.wrap .i64 (0 - a))) (mxI b (IntKind.wrap .i64 (0 - b))) := by
 unfold spec_l04Ends
 simp only [l00Max_some, l00Min_some, Option.bind_some, gi0, has_some, gb0]
 cases (leI a 0 && leI 0 b) <;> exact ⟨_, _, rfl, rfl, rfl⟩
theorem absI_some (k : Nat) (a b : Int) (h : ivB a b = true) : ∃ p q, spec_l04Ends k a b = some [.i p, .i q] ∧ impl_AbsI k a b = some [.i p, .i q] ∧ 0 ≤ p ∧ p ≤ q ∧ (∀ U, 0 ≤ U → -U ≤ a → b ≤ U → q ≤ U) ∧ q < 1152921504606846976 := by
 obtain ⟨p, q, e, hp, hq⟩ := ends_some k a b
 have hv := ivB_iff.1 h
 refine ⟨p, q, e, ?_, ?_⟩
 ·unfold impl_AbsI impl_abs
  rw [isWhole_some, h]
  simp only [Option.bind_some, gb0, Bool.not_true, cond_false, gi0, hasI_some, h, Bool.false_or]
  rw [hp, hq]
  cases (leI a 0 && leI 0 b) <;> rfl
 ·rw [wr (0 - a) (by omega) (by omega), wr (0 - b) (by omega) (by omega)] at hp hq
  cases hz : (leI a 0 && leI 0 b) with
  | true =>
   rw [hz, cond_true] at hp
   unfold mxI at hq
   refine ⟨by omega, ?_, fun U hU h1 h2 => ?_, ?_⟩ <;> (split at hq <;> split at hq <;> (try split at hq) <;> omega)
  | false =>
   have hz' : ¬ (a ≤ 0 ∧ 0 ≤ b) := fun hh => by rw [leI_t hh.1, leI_t hh.2] at hz; cases hz
   rw [hz, cond_false] at hp
   unfold mnI mxI at hp
   unfold mxI at hq
   refine ⟨?_, ?_, fun U hU h1 h2 => ?_, ?_⟩
   ·split at hp <;> split at hp <;> (try split at hp) <;> omega
   ·split at hp <;> split at hp <;> (try split at hp) <;> split at hq <;> split at hq <;> (try split at hq) <;> omega
   ·split at hq <;> split at hq <;> (try split at hq) <;> omega
   ·split at hq <;> split at hq <;> (try split at hq) <;> omega
def SqrB (k : Nat) (a0 a1 x y : Int) : Prop := ivB x y = false ∨ (ivB a0 a1 = true ∧ ∃ p q, 0 ≤ p ∧ p ≤ q ∧ (∀ U, 0 ≤ U → -U ≤ a0 → a1 ≤ U → q ≤ U) ∧ q < 1152921504606846976 ∧ spec_l03MulDown k p p = some [.i x, .b true] ∧ spec_l03MulUp k q q = some [.i y, .b true])
theorem sqrI_full (k : Nat) (a0 a1 : Int) : ∃ x y, spec_SqrI k a0 a1 = some [.i x, .i y] ∧ impl_SqrI k a0 a1 = some [.i x, .i y] ∧ SqrB k a0 a1 x y := by
 unfold spec_SqrI impl_SqrI
 rw [l04Ok_some, isWhole_some]
 simp only [Option.bind_some, gb0]
 cases hA : ivB a0 a1
 ·exact ⟨_, _, rfl, rfl, .inl rfl⟩
 obtain ⟨p, q, e1, e2, h1, h2, h3, h4⟩ := absI_some k a0 a1 hA
 obtain ⟨m, o, f1, f2, g1, _, _⟩ := mulDown_same k p p
 obtain ⟨m', o', f3, f4, g2⟩ := mulUp_same k q q
 simp only [Bool.not_true, cond_false]
 rw [e1, e2]
 simp only [Option.bind_some, gi0, giS]
 rw [f1, f2, f3, f4]
 simp only [Option.bind_some, gb0, gbS, gi0, giS]
 cases o
 ·exact ⟨_, _, rfl, rfl, .inl rfl⟩
 cases o'
 ·exact ⟨_, _, rfl, rfl, .inl rfl⟩
 simp only [Bool.not_true, cond_false, cond_true, make_some, bounded_t]
 obtain ⟨x, y, e, h⟩ := mkIv_or m m'
 rw [e]
 refine ⟨x, y, rfl, rfl, h.imp id ?_⟩
 rintro ⟨rfl, rfl⟩
 exact ⟨hA, p, q, h1, h2, h3, h4, f1, f3⟩
end Go.Proofs.YtaimjfippclbcaaGreat.Ev
