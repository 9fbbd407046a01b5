/- Shifts: what is valid and their texts, by both. No condition. -/
import Derived.Test.YthafgljgccebiaaDoorPText
namespace Go.Proofs.YthafgljgccebiaaDoor.Ev
open Go Go.RowKit
set_option linter.unusedSimpArgs false
set_option linter.unusedVariables false
theorem wn1 : IntKind.wrap .i64 (0 + 1) = 1 := by decide
theorem wn2 : IntKind.wrap .i64 (1 + 1) = 2 := by decide
theorem wn3 : IntKind.wrap .i64 (2 + 1) = 3 := by decide
theorem wn4 : IntKind.wrap .i64 (3 + 1) = 4 := by decide
theorem wn5 : IntKind.wrap .i64 (4 + 1) = 5 := by decide
theorem wn6 : IntKind.wrap .i64 (5 + 1) = 6 := by decide
theorem wn7 : IntKind.wrap .i64 (6 + 1) = 7 := by decide
def inB (m a : Int) : Bool := leI (-m) a && leI a m
theorem inB_iff {m a : Int} : inB m a = true ↔ -m ≤ a ∧ a ≤ m := by unfold inB; simp only [Bool.and_eq_true, leI_iff]
theorem areW_step (k n : Nat) (m : Int) (b : Bool) (l : List (List D)) (c i : Int) (h : ltI i c = true) (h' : inR i ((List.length l : Nat) : Int) = true) (hm : IntKind.wrap .i64 (0 - m) = -m) : impl_areWithin_l0 k (n + 1) m b l c i = bif inB m (ri l i 0) then impl_areWithin_l0 k n m b l c (IntKind.wrap .i64 (i + 1)) else some [.i 1, .i m, .b false, .l l, .i c, .i i] := by
  rw [impl_areWithin_l0, bif_t h, bif_t h', within_some, hm]
  simp only [Option.bind_some, gb0]
  unfold inB
  cases (leI (-m) (ri l i 0) && leI (ri l i 0) m) <;> rfl
theorem areWithin3 (k : Nat) (hk : 5 ≤ k) (m a b c : Int) (hm : IntKind.wrap .i64 (0 - m) = -m) : impl_areWithin k m [[.i a], [.i b], [.i c]] = some [.b (inB m a && (inB m b && inB m c))] := by
  obtain ⟨n, rfl⟩ : ∃ n, k = n + 4 := ⟨k - 4, by omega⟩
  unfold impl_areWithin
  rw [areW_step (n + 4) (n + 3) m false _ _ 0 rfl rfl hm, wn1, areW_step (n + 4) (n + 2) m false _ _ 1 rfl rfl hm, wn2, areW_step (n + 4) (n + 1) m false _ _ 2 rfl rfl hm, wn3]
  rw [show ri [[D.i a], [.i b], [.i c]] 0 0 = a from rfl, show ri [[D.i a], [.i b], [.i c]] 1 0 = b from rfl, show ri [[D.i a], [.i b], [.i c]] 2 0 = c from rfl]
  cases inB m a
  · rfl
  · cases inB m b
    · rfl
    · cases inB m c <;> rfl
theorem areWithin1 (k : Nat) (hk : 5 ≤ k) (m a : Int) (hm : IntKind.wrap .i64 (0 - m) = -m) : impl_areWithin k m [[.i a]] = some [.b (inB m a)] := by
  obtain ⟨n, rfl⟩ : ∃ n, k = n + 4 := ⟨k - 4, by omega⟩
  unfold impl_areWithin
  rw [areW_step (n + 4) (n + 3) m false _ _ 0 rfl rfl hm, wn1, show ri [[D.i a]] 0 0 = a from rfl]
  cases inB m a <;> rfl
theorem l23_step (k n : Nat) (a b c d e f g : Int) (x y : Bool) (u : List (List D)) (v : List (List D)) (i : Int) (h : ltI i 3 = true) (h1 : inR i ((List.length u : Nat) : Int) = true) (h2 : inR i ((List.length v : Nat) : Int) = true) (hx : inB 10000000 (ri u i 0) = x) (hy : inB 100000000 (ri v i 0) = y) : spec_l23Ok_l0 k (n + 1) a b c d e f g false u v i = bif x && y then spec_l23Ok_l0 k n a b c d e f g false u v (IntKind.wrap .i64 (i + 1)) else some [.i 1, .i a, .i b, .i c, .i d, .i e, .i f, .i g, .b false, .l u, .l v, .i i] := by
  rw [spec_l23Ok_l0, bif_t h, bif_t h1, in_some, Option.bind_some]
  unfold inB at hx hy
  rw [gb0, hx]
  cases x
  · rfl
  · rw [Bool.not_true, cond_false, bif_t h2, in_some, Option.bind_some, gb0, hy]
    cases y <;> rfl
def shiftB (a b c d e f g : Int) : Bool := (inB 10000000 a && (inB 10000000 b && inB 10000000 c)) && ((inB 100000000 d && (inB 100000000 e && inB 100000000 f)) && inB 1000000 g)
theorem shift_spec (k : Nat) (hk : 5 ≤ k) (a b c d e f g : Int) : spec_l23Ok k a b c d e f g = some [.b (shiftB a b c d e f g)] := by
  obtain ⟨n, rfl⟩ : ∃ n, k = n + 4 := ⟨k - 4, by omega⟩
  unfold spec_l23Ok shiftB
  rw [l23_step (n + 4) (n + 3) a b c d e f g _ _ _ _ 0 rfl rfl rfl rfl rfl, wn1, l23_step (n + 4) (n + 2) a b c d e f g _ _ _ _ 1 rfl rfl rfl rfl rfl, wn2, l23_step (n + 4) (n + 1) a b c d e f g _ _ _ _ 2 rfl rfl rfl rfl rfl, wn3]
  rw [show ri [[D.i a], [.i b], [.i c]] 0 0 = a from rfl, show ri [[D.i a], [.i b], [.i c]] 1 0 = b from rfl, show ri [[D.i a], [.i b], [.i c]] 2 0 = c from rfl, show ri [[D.i d], [.i e], [.i f]] 0 0 = d from rfl, show ri [[D.i d], [.i e], [.i f]] 1 0 = e from rfl, show ri [[D.i d], [.i e], [.i f]] 2 0 = f from rfl]
  cases inB 10000000 a
  · rfl
  · cases inB 100000000 d
    · cases inB 10000000 b <;> cases inB 10000000 c <;> rfl
    · cases inB 10000000 b
      · rfl
      · cases inB 100000000 e
        · cases inB 10000000 c <;> rfl
        · cases inB 10000000 c
          · rfl
          · cases inB 100000000 f
            · rfl
            · simp only [Bool.and_self, cond_true, Bool.true_and]
              show ((some [D.i 0, .i a, .i b, .i c, .i d, .i e, .i f, .i g, .b false, .l _, .l _, .i 3] : Option (List D))).bind _ = _
              rw [Option.bind_some]
              show (spec_l00In (n + 4) g (-1000000) 1000000).bind _ = _
              rw [in_some]
              rfl
theorem shift_eq (k : Nat) (hk : 5 ≤ k) (a b c d e f g : Int) : spec_l23Ok k a b c d e f g = some [.b (shiftB a b c d e f g)] ∧ impl_ValidShift k a b c d e f g = some [.b (shiftB a b c d e f g)] := by
  refine ⟨shift_spec k hk a b c d e f g, ?_⟩
  unfold impl_ValidShift shiftB
  rw [areWithin3 k hk _ a b c (by decide), areWithin3 k hk _ d e f (by decide), areWithin1 k hk _ g (by decide)]
  simp only [Option.bind_some, gb0]
  generalize (inB 10000000 a && (inB 10000000 b && inB 10000000 c)) = p
  generalize (inB 100000000 d && (inB 100000000 e && inB 100000000 f)) = q
  cases p <;> cases q <;> rfl
/-- Texts of numbers, a space between two. -/
def spaced : List Int → List UInt8
  | [] => []
  | [a] => Lib.itoa a
  | a :: b :: r => Lib.itoa a ++ [32] ++ spaced (b :: r)
theorem joined_step (k n : Nat) (x0 : ByteArray) (x1 x2 : List (List D)) (x3 x4 a : Int) (h1 : ltI x4 x3 = true) (h2 : inR x4 ((List.length x2 : Nat) : Int) = true) (h3 : inR x4 ((List.length x1 : Nat) : Int) = true) (ha : ri x2 x4 0 = a) (hr : I64 a) : impl_joined_l0 k (n + 1) x0 x1 x2 x3 x4 = impl_joined_l0 k n x0 (setc x1 x4 1 0 1 [.s (bs (Lib.itoa a))]) x2 x3 (IntKind.wrap .i64 (x4 + 1)) := by
  rw [impl_joined_l0, bif_t h1, bif_t h2, ha, decimal_some k a hr.1 hr.2, Option.bind_some, bif_t h3]
  rfl
theorem join_first (k n : Nat) (l : List (List D)) (x1 : ByteArray) (a : Int) (h1 : ltI 0 ((List.length l : Nat) : Int) = true) (h2 : inR 0 ((List.length l : Nat) : Int) = true) (ha : ri l 0 0 = a) (hr : I64 a) (hk : 20 ≤ k) : spec_l23Join_l0 k (n + 1) l x1 (bs []) 0 = spec_l23Join_l0 k n l x1 (bs (Lib.itoa a)) 1 := by
  have la := itoa_length a hr.1 hr.2
  rw [spec_l23Join_l0, bif_t h1, bif_f (show ltI 0 0 = false from rfl), bif_t h2, ha, decAll_some a hr.1 hr.2 k hk, Option.bind_some, gs0, bif_t (leN_t (by simp only [bs_size, List.length_nil]; omega)), wn1, bs_append, List.nil_append]
theorem join_next (k n : Nat) (l : List (List D)) (x1 : ByteArray) (t : List UInt8) (i a : Int) (h1 : ltI i ((List.length l : Nat) : Int) = true) (h2 : inR i ((List.length l : Nat) : Int) = true) (h3 : ltI 0 i = true) (ha : ri l i 0 = a) (hr : I64 a) (hk : 20 ≤ k) (ht : t.length ≤ 1000) : spec_l23Join_l0 k (n + 1) l x1 (bs t) i = spec_l23Join_l0 k n l x1 (bs (t ++ [32] ++ Lib.itoa a)) (IntKind.wrap .i64 (i + 1)) := by
  have la := itoa_length a hr.1 hr.2
  rw [spec_l23Join_l0, bif_t h1, bif_t h3, sp32, bif_t (leN_t (by simp only [bs_size, List.length_singleton]; omega)), bif_t h2, ha, decAll_some a hr.1 hr.2 k hk, Option.bind_some, gs0, bs_append, bif_t (leN_t (by simp only [bs_size, List.length_append, List.length_singleton]; omega)), bs_append]
theorem shiftText_some (k : Nat) (hk : 20 ≤ k) (a b c d e f g : Int) (ha : I64 a) (hb : I64 b) (hc : I64 c) (hd : I64 d) (he : I64 e) (hf : I64 f) (hg : I64 g) : ∃ t, t.length ≤ 200 ∧ spec_l23Join k [[.i a], [.i b], [.i c], [.i d], [.i e], [.i f], [.i g]] = some [.s (bs t)] ∧ impl_shiftText k a b c d e f g = some [.s (bs t)] := by
  have la := itoa_length a ha.1 ha.2
  have lb := itoa_length b hb.1 hb.2
  have lc := itoa_length c hc.1 hc.2
  have ld := itoa_length d hd.1 hd.2
  have le := itoa_length e he.1 he.2
  have lf := itoa_length f hf.1 hf.2
  have lg := itoa_length g hg.1 hg.2
  obtain ⟨n, rfl⟩ : ∃ n, k = n + 8 := ⟨k - 8, by omega⟩
  refine ⟨Lib.itoa a ++ [32] ++ Lib.itoa b ++ [32] ++ Lib.itoa c ++ [32] ++ Lib.itoa d ++ [32] ++ Lib.itoa e ++ [32] ++ Lib.itoa f ++ [32] ++ Lib.itoa g, by simp only [List.length_append, List.length_singleton]; omega, ?_, ?_⟩
  · unfold spec_l23Join
    rw [show (⟨#[]⟩ : ByteArray) = bs [] from rfl]
    rw [join_first (n + 8) (n + 7) _ _ a rfl rfl rfl ha hk, join_next (n + 8) (n + 6) _ _ _ 1 b rfl rfl rfl rfl hb hk (by omega), wn2, join_next (n + 8) (n + 5) _ _ _ 2 c rfl rfl rfl rfl hc hk (by simp only [List.length_append, List.length_singleton]; omega), wn3, join_next (n + 8) (n + 4) _ _ _ 3 d rfl rfl rfl rfl hd hk (by simp only [List.length_append, List.length_singleton]; omega), wn4, join_next (n + 8) (n + 3) _ _ _ 4 e rfl rfl rfl rfl he hk (by simp only [List.length_append, List.length_singleton]; omega), wn5, join_next (n + 8) (n + 2) _ _ _ 5 f rfl rfl rfl rfl hf hk (by simp only [List.length_append, List.length_singleton]; omega), wn6, join_next (n + 8) (n + 1) _ _ _ 6 g rfl rfl rfl rfl hg hk (by simp only [List.length_append, List.length_singleton]; omega), wn7]
    rfl
  · unfold impl_shiftText impl_joined
    dsimp only
    have hm : mkOk (7 : Int) 7 16 = true := by unfold mkOk; rw [decide_eq_true (by decide), decide_eq_true (by decide), decide_eq_true (by decide)]; rfl
    rw [show ((List.length [[D.i a], [.i b], [.i c], [.i d], [.i e], [.i f], [.i g]] : Nat) : Int) = 7 from rfl, bif_t hm]
    rw [show List.replicate (Int.toNat 7) [D.s (⟨#[]⟩ : ByteArray)] = [[.s (bs [])], [.s (bs [])], [.s (bs [])], [.s (bs [])], [.s (bs [])], [.s (bs [])], [.s (bs [])]] from rfl]
    rw [joined_step (n + 8) (n + 7) _ _ _ _ 0 a rfl rfl rfl rfl ha, wn1, joined_step (n + 8) (n + 6) _ _ _ _ 1 b rfl rfl rfl rfl hb, wn2, joined_step (n + 8) (n + 5) _ _ _ _ 2 c rfl rfl rfl rfl hc, wn3, joined_step (n + 8) (n + 4) _ _ _ _ 3 d rfl rfl rfl rfl hd, wn4, joined_step (n + 8) (n + 3) _ _ _ _ 4 e rfl rfl rfl rfl he, wn5, joined_step (n + 8) (n + 2) _ _ _ _ 5 f rfl rfl rfl rfl hf, wn6, joined_step (n + 8) (n + 1) _ _ _ _ 6 g rfl rfl rfl rfl hg, wn7]
    have hj : joinL [[.s (bs (Lib.itoa a))], [.s (bs (Lib.itoa b))], [.s (bs (Lib.itoa c))], [.s (bs (Lib.itoa d))], [.s (bs (Lib.itoa e))], [.s (bs (Lib.itoa f))], [.s (bs (Lib.itoa g))]] (bs [32]) = Lib.itoa a ++ [32] ++ Lib.itoa b ++ [32] ++ Lib.itoa c ++ [32] ++ Lib.itoa d ++ [32] ++ Lib.itoa e ++ [32] ++ Lib.itoa f ++ [32] ++ Lib.itoa g := by
      simp [joinL, Lib.join, List.intercalate, gs0, bs]
    have := joinA_some [[.s (bs (Lib.itoa a))], [.s (bs (Lib.itoa b))], [.s (bs (Lib.itoa c))], [.s (bs (Lib.itoa d))], [.s (bs (Lib.itoa e))], [.s (bs (Lib.itoa f))], [.s (bs (Lib.itoa g))]] (bs [32]) (by rw [hj]; simp only [List.length_append, List.length_singleton]; omega) (by simp)
    rw [hj] at this
    show ((some [D.i 0, .s _, .l [[.s (bs (Lib.itoa a))], [.s (bs (Lib.itoa b))], [.s (bs (Lib.itoa c))], [.s (bs (Lib.itoa d))], [.s (bs (Lib.itoa e))], [.s (bs (Lib.itoa f))], [.s (bs (Lib.itoa g))]], .l _, .i _, .i 7] : Option (List D)).bind _).bind _ = _
    rw [Option.bind_some]
    simp only [gl0, glS]
    erw [this]
    rfl
end Go.Proofs.YthafgljgccebiaaDoor.Ev
