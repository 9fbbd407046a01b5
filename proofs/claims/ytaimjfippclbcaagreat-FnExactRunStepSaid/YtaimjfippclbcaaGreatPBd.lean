/- Intervals of small numbers: sums, products and quotients are bounded. No condition. -/
import Derived.Test.YtaimjfippclbcaaGreatPVl
namespace Go.Proofs.YtaimjfippclbcaaGreat.Ev
open Go Go.RowKit
set_option linter.unusedSimpArgs false
set_option linter.unusedVariables false
def Bd (p : Int × Int) (M : Int) : Prop := ivB p.1 p.2 = true ∧ -M ≤ p.1 ∧ p.2 ≤ M
theorem Bd.mono {p : Int × Int} {M N : Int} (h : Bd p M) (hm : M ≤ N) : Bd p N := ⟨h.1, by have := h.2.1; omega, by have := h.2.2; omega⟩
theorem mulDown_ok (k : Nat) (a b : Int) (ha : fixB a = true) (hb : fixB b = true) (h : fixB (a * b / 4294967296) = true) : spec_l03MulDown k a b = some [.i (a * b / 4294967296), .b true] := by
 have hf := fixB_iff.1 h
 unfold spec_l03MulDown
 rw [l03Ok_some, l03Ok_some, ha, hb, mulFloor32_some k a b (fix_I64 ha) (fix_I64 hb), intR_in (by omega) (by omega)]
 simp only [Option.bind_some, gb0, gbS, gi0, giS, Bool.not_true, cond_false, l03End_some]
 unfold endR
 rw [h]; rfl
theorem mulUp_ok (k : Nat) (a b : Int) (ha : fixB a = true) (hb : fixB b = true) (h : fixB (-a * b / 4294967296) = true) : spec_l03MulUp k a b = some [.i (-(-a * b / 4294967296)), .b true] := by
 have hf := fixB_iff.1 h
 have ha' := fixB_iff.1 ha
 unfold spec_l03MulUp
 rw [l03Ok_some, ha, wr (0 - a) (by omega) (by omega), show 0 - a = -a by omega, mulDown_ok k (-a) b (fixB_iff.2 ⟨by omega, by omega⟩) hb h]
 simp only [Option.bind_some, gb0, gbS, gi0, giS, Bool.not_true, cond_false]
 rw [wr _ (by omega) (by omega), show 0 - -a * b / 4294967296 = -(-a * b / 4294967296) by omega]
theorem divDown_ok (k : Nat) (hk : 66 ≤ k) (a b : Int) (ha : fixB a = true) (hb : fixB b = true) (h0 : 0 < b) (h : fixB (a * 4294967296 / b) = true) : spec_l03DivDown k a b = some [.i (a * 4294967296 / b), .b true] := by
 have hf := fixB_iff.1 h
 have hu : I64 4294967296 := ⟨by decide, by decide⟩
 unfold spec_l03DivDown
 rw [l03Ok_some, l03Ok_some, ha, hb]
 simp only [Option.bind_some, gb0, Bool.not_true, cond_false]
 rw [bif_f (beq_f (by omega)), bif_f (ltI_f (by omega)), mulDivFloor_some k hk a _ b (fix_I64 ha) hu (fix_I64 hb), if_neg (by omega), intR_in (by omega) (by omega)]
 simp only [Option.bind_some, gb0, gbS, gi0, giS, l03End_some]
 unfold endR
 rw [h]; rfl
theorem divUp_ok (k : Nat) (hk : 66 ≤ k) (a b : Int) (ha : fixB a = true) (hb : fixB b = true) (h0 : 0 < b) (h : fixB (-a * 4294967296 / b) = true) : spec_l03DivUp k a b = some [.i (-(-a * 4294967296 / b)), .b true] := by
 have hf := fixB_iff.1 h
 have ha' := fixB_iff.1 ha
 unfold spec_l03DivUp
 rw [l03Ok_some, ha, wr (0 - a) (by omega) (by omega), show 0 - a = -a by omega, divDown_ok k hk (-a) b (fixB_iff.2 ⟨by omega, by omega⟩) hb h0 h]
 simp only [Option.bind_some, gb0, gbS, gi0, giS, Bool.not_true, cond_false]
 rw [wr _ (by omega) (by omega), show 0 - -a * 4294967296 / b = -(-a * 4294967296 / b) by omega]
theorem abs_mul {a b A B : Int} (ha : -A ≤ a ∧ a ≤ A) (hb : -B ≤ b ∧ b ≤ B) : -(A * B) ≤ a * b ∧ a * b ≤ A * B := by
 have hA : 0 ≤ A := by omega
 have hB : 0 ≤ B := by omega
 by_cases h1 : 0 ≤ a
 ·by_cases h2 : 0 ≤ b
  ·have := mul_bd (show 0 ≤ a ∧ a ≤ A from ⟨h1, ha.2⟩) (show 0 ≤ b ∧ b ≤ B from ⟨h2, hb.2⟩); omega
  ·have := mul_bd (show 0 ≤ a ∧ a ≤ A from ⟨h1, ha.2⟩) (show 0 ≤ -b ∧ -b ≤ B by omega)
   rw [Int.mul_neg] at this; omega
 ·by_cases h2 : 0 ≤ b
  ·have := mul_bd (show 0 ≤ -a ∧ -a ≤ A by omega) (show 0 ≤ b ∧ b ≤ B from ⟨h2, hb.2⟩)
   rw [Int.neg_mul] at this; omega
  ·have := mul_bd (show 0 ≤ -a ∧ -a ≤ A by omega) (show 0 ≤ -b ∧ -b ≤ B by omega)
   rw [Int.neg_mul_neg] at this; omega
theorem prods_ok (k : Nat) {a b A B M : Int} (ha : -A ≤ a ∧ a ≤ A) (hb : -B ≤ b ∧ b ≤ B) (hA : A ≤ 1152921504606846976) (hB : B ≤ 1152921504606846976) (h : A * B ≤ M * 4294967296) (hM : M ≤ 1152921504606846976) : ∃ m1 m2, Prods k a b m1 true m2 true ∧ (-M ≤ m1 ∧ m1 ≤ M) ∧ (-M ≤ m2 ∧ m2 ≤ M) ∧ m1 ≤ m2 := by
 have h1 := abs_mul ha hb
 have fa : fixB a = true := fixB_iff.2 ⟨by omega, by omega⟩
 have fb : fixB b = true := fixB_iff.2 ⟨by omega, by omega⟩
 have e1 : -a * b = -(a * b) := Int.neg_mul a b
 have d1 := mulDown_ok k a b fa fb (fixB_iff.2 ⟨by omega, by omega⟩)
 have d2 := mulUp_ok k a b fa fb (by rw [e1]; exact fixB_iff.2 ⟨by omega, by omega⟩)
 obtain ⟨m1, o1, m2, o2, P⟩ := prods k a b
 have u1 := P.sd.symm.trans d1
 have u2 := P.su.symm.trans d2
 cases u1; cases u2
 rw [e1] at *
 exact ⟨_, _, P, ⟨by omega, by omega⟩, ⟨by omega, by omega⟩, by omega⟩
theorem mn_bd {a b M : Int} (ha : -M ≤ a) (hb : -M ≤ b) : -M ≤ mnI a b := by unfold mnI; split <;> omega
theorem mx_bd {a b M : Int} (ha : a ≤ M) (hb : b ≤ M) : mxI a b ≤ M := by unfold mxI; split <;> omega
theorem mn_mx4 {a b c d e f g h : Int} (h1 : a ≤ e) : mnI (mnI (mnI a b) c) d ≤ mxI (mxI (mxI e f) g) h := by
 unfold mnI mxI
 split <;> split <;> split <;> split <;> (try split) <;> (try split) <;> omega
theorem pv_inj {p q : Int × Int} (h : pv p = pv q) : p = q := by
 obtain ⟨a, b⟩ := p
 obtain ⟨c, d⟩ := q
 unfold pv at h
 cases h; rfl
theorem bd_mul {k : Nat} (hk : 700 ≤ k) {a b : Int × Int} {A B M : Int} (ha : Bd a A) (hb : Bd b B) (hA : A ≤ 1152921504606846976) (hB : B ≤ 1152921504606846976) (h : A * B ≤ M * 4294967296) (hM : M < 1152921504606846976) : Bd (vMul k a b) M := by
 obtain ⟨va, a1, a2⟩ := ha
 obtain ⟨vb, b1, b2⟩ := hb
 have ia := ivB_iff.1 va
 have ib := ivB_iff.1 vb
 obtain ⟨m1, m2, P, p1, p2, _⟩ := prods_ok k (a := a.1) (b := b.1) (by omega) (by omega) hA hB h (by omega)
 obtain ⟨m3, m4, Q, q1, q2, _⟩ := prods_ok k (a := a.1) (b := b.2) (by omega) (by omega) hA hB h (by omega)
 obtain ⟨m5, m6, R, r1, r2, _⟩ := prods_ok k (a := a.2) (b := b.1) (by omega) (by omega) hA hB h (by omega)
 obtain ⟨m7, m8, S, s1, s2, _⟩ := prods_ok k (a := a.2) (b := b.2) (by omega) (by omega) hA hB h (by omega)
 obtain ⟨x, y, e, _, _, ex⟩ := mulI_ex k (by omega) a.1 a.2 b.1 b.2
 have e' := ((ivr hk).2.2.2.1 a.1 a.2 b.1 b.2).1
 rw [e] at e'
 have hxy : pv (vMul k a b) = [.i x, .i y] := (Option.some.inj e').symm
 have he := ex va vb m1 m2 m3 m4 m5 m6 m7 m8 P Q R S
 have hle : mnI (mnI (mnI m1 m3) m5) m7 ≤ mxI (mxI (mxI m2 m4) m6) m8 := mn_mx4 (by omega)
 have hlo : -M ≤ mnI (mnI (mnI m1 m3) m5) m7 := mn_bd (mn_bd (mn_bd p1.1 q1.1) r1.1) s1.1
 have hhi : mxI (mxI (mxI m2 m4) m6) m8 ≤ M := mx_bd (mx_bd (mx_bd p2.2 q2.2) r2.2) s2.2
 have hv : ivB (mnI (mnI (mnI m1 m3) m5) m7) (mxI (mxI (mxI m2 m4) m6) m8) = true := ivB_iff.2 ⟨by omega, hle, by omega⟩
 rw [mkIv_t hv] at he
 rw [he] at hxy
 have := pv_inj (q := (_, _)) hxy
 rw [this]
 exact ⟨hv, hlo, hhi⟩
theorem int_val {k : Nat} (hk : 700 ≤ k) (n : Int) (h : -268435455 ≤ n ∧ n ≤ 268435455) : vInt k n = (n * 4294967296, n * 4294967296) := by
 obtain ⟨x, y, e, _, h1⟩ := integer_same k n
 obtain ⟨rfl, rfl⟩ := h1 h
 have e' := ((ivr hk).2.2.2.2.2.2.2.2.1 n).1
 rw [e] at e'
 exact (pv_inj (q := (_, _)) (Option.some.inj e').symm)
theorem divs_ok (k : Nat) (hk : 66 ≤ k) {a A i : Int} (ha : -A ≤ a ∧ a ≤ A) (hA : A ≤ 1152921504606846976) (hi : 1 ≤ i ∧ i ≤ 268435455) : ∃ m1 m2, Divs k a (i * 4294967296) m1 true m2 true ∧ (-A ≤ m1 ∧ m1 ≤ A) ∧ (-A ≤ m2 ∧ m2 ≤ A) ∧ m1 ≤ m2 := by
 have fa : fixB a = true := fixB_iff.2 ⟨by omega, by omega⟩
 have fb : fixB (i * 4294967296) = true := fixB_iff.2 ⟨by omega, by omega⟩
 have e1 : a * 4294967296 / (i * 4294967296) = a / i := Int.mul_ediv_mul_of_pos_left _ _ (by decide)
 have e2 : -a * 4294967296 / (i * 4294967296) = -a / i := Int.mul_ediv_mul_of_pos_left _ _ (by decide)
 have l1 : -A ≤ a / i := Int.le_ediv_of_mul_le (by omega) (by
  have := Int.mul_le_mul_of_nonneg_left (show 1 ≤ i by omega) (show 0 ≤ A by omega)
  rw [Int.neg_mul]; omega)
 have l2 : a / i ≤ A := Int.ediv_le_of_le_mul (by omega) (by
  have := Int.mul_le_mul_of_nonneg_left (show 1 ≤ i by omega) (show 0 ≤ A by omega)
  omega)
 have l3 : -A ≤ -a / i := Int.le_ediv_of_mul_le (by omega) (by
  have := Int.mul_le_mul_of_nonneg_left (show 1 ≤ i by omega) (show 0 ≤ A by omega)
  rw [Int.neg_mul]; omega)
 have l4 : -a / i ≤ A := Int.ediv_le_of_le_mul (by omega) (by
  have := Int.mul_le_mul_of_nonneg_left (show 1 ≤ i by omega) (show 0 ≤ A by omega)
  omega)
 have hle : a / i ≤ -(-a / i) := by
  have h1 := Int.mul_ediv_self_le (x := a) (k := i) (by omega)
  have h2 := Int.mul_ediv_self_le (x := -a) (k := i) (by omega)
  have h3 : i * (a / i + -a / i) ≤ 0 := by rw [Int.mul_add]; omega
  by_cases h4 : a / i + -a / i ≤ 0
  ·omega
  ·have := Int.mul_le_mul_of_nonneg_left (show 1 ≤ a / i + -a / i by omega) (show 0 ≤ i by omega)
   omega
 have d1 := divDown_ok k hk a _ fa fb (by omega) (by rw [e1]; exact fixB_iff.2 ⟨by omega, by omega⟩)
 have d2 := divUp_ok k hk a _ fa fb (by omega) (by rw [e2]; exact fixB_iff.2 ⟨by omega, by omega⟩)
 rw [e1] at d1
 rw [e2] at d2
 obtain ⟨m1, o1, m2, o2, P⟩ := divs k hk a (i * 4294967296)
 have u1 := P.sd.symm.trans d1
 have u2 := P.su.symm.trans d2
 cases u1; cases u2
 exact ⟨_, _, P, ⟨l1, l2⟩, ⟨by omega, by omega⟩, hle⟩
theorem bd_div {k : Nat} (hk : 700 ≤ k) {a : Int × Int} {A i : Int} (ha : Bd a A) (hA : A < 1152921504606846976) (hi : 1 ≤ i ∧ i ≤ 268435455) : Bd (vDiv k a (vInt k i)) A := by
 obtain ⟨va, a1, a2⟩ := ha
 have ia := ivB_iff.1 va
 rw [int_val hk i (by omega)]
 obtain ⟨m1, m2, P, p1, p2, pl⟩ := divs_ok k (by omega) (a := a.1) (A := A) (by omega) (by omega) hi
 obtain ⟨m3, m4, Q, q1, q2, _⟩ := divs_ok k (by omega) (a := a.2) (A := A) (by omega) (by omega) hi
 obtain ⟨x, y, e, _, _, ex⟩ := divI_ex k (by omega) a.1 a.2 (i * 4294967296) (i * 4294967296)
 have e' := ((ivr hk).2.2.2.2.1 a.1 a.2 (i * 4294967296) (i * 4294967296)).1
 rw [e] at e'
 have hxy : pv (vDiv k a (i * 4294967296, i * 4294967296)) = [.i x, .i y] := (Option.some.inj e').symm
 have he := ex va (ivB_iff.2 ⟨by omega, by omega, by omega⟩) (by rw [leI_f (by omega)]; rfl) m1 m2 m1 m2 m3 m4 m3 m4 P P Q Q
 have hle : mnI (mnI (mnI m1 m1) m3) m3 ≤ mxI (mxI (mxI m2 m2) m4) m4 := mn_mx4 pl
 have hlo : -A ≤ mnI (mnI (mnI m1 m1) m3) m3 := mn_bd (mn_bd (mn_bd p1.1 p1.1) q1.1) q1.1
 have hhi : mxI (mxI (mxI m2 m2) m4) m4 ≤ A := mx_bd (mx_bd (mx_bd p2.2 p2.2) q2.2) q2.2
 have hv : ivB (mnI (mnI (mnI m1 m1) m3) m3) (mxI (mxI (mxI m2 m2) m4) m4) = true := ivB_iff.2 ⟨by omega, hle, by omega⟩
 rw [mkIv_t hv] at he
 rw [he] at hxy
 have := pv_inj (q := (_, _)) hxy
 rw [this]
 exact ⟨hv, hlo, hhi⟩
theorem add_val {k : Nat} (hk : 700 ≤ k) {a b : Int × Int} (ha : ivB a.1 a.2 = true) (hb : ivB b.1 b.2 = true) : vAdd k a b = vMk (a.1 + b.1) (a.2 + b.2) := by
 have h1 := ivB_iff.1 ha
 have h2 := ivB_iff.1 hb
 have e := ((ivr hk).1 a.1 a.2 b.1 b.2).1
 unfold spec_AddI at e
 rw [l04Ok_some, l04Ok_some, ha, hb] at e
 simp only [Option.bind_some, gb0, Bool.not_true, cond_false] at e
 rw [make_some, mkIv_pv, wr _ (by omega) (by omega), wr _ (by omega) (by omega)] at e
 exact (pv_inj (Option.some.inj e)).symm
theorem bd_add {k : Nat} (hk : 700 ≤ k) {a b : Int × Int} {A B : Int} (ha : Bd a A) (hb : Bd b B) (h : A + B < 1152921504606846976) : Bd (vAdd k a b) (A + B) := by
 obtain ⟨va, a1, a2⟩ := ha
 obtain ⟨vb, b1, b2⟩ := hb
 have ia := ivB_iff.1 va
 have ib := ivB_iff.1 vb
 have hv : ivB (a.1 + b.1) (a.2 + b.2) = true := ivB_iff.2 ⟨by omega, by omega, by omega⟩
 rw [add_val hk va vb]
 unfold vMk
 rw [hv]
 exact ⟨hv, by dsimp only [cond_true]; omega, by dsimp only [cond_true]; omega⟩
theorem sub_val {k : Nat} (hk : 700 ≤ k) {a b : Int × Int} (ha : ivB a.1 a.2 = true) (hb : ivB b.1 b.2 = true) (hv : ivB (a.1 - b.2) (a.2 - b.1) = true) : vSub k a b = (a.1 - b.2, a.2 - b.1) := by
 have h1 := ivB_iff.1 ha
 have h2 := ivB_iff.1 hb
 have e := ((ivr hk).2.1 a.1 a.2 b.1 b.2).1
 unfold spec_SubI at e
 rw [l04Ok_some, l04Ok_some, ha, hb] at e
 simp only [Option.bind_some, gb0, Bool.not_true, cond_false] at e
 rw [make_some, mkIv_pv, wr _ (by omega) (by omega), wr _ (by omega) (by omega)] at e
 unfold vMk at e
 rw [hv] at e
 exact (pv_inj (Option.some.inj e)).symm
end Go.Proofs.YtaimjfippclbcaaGreat.Ev
