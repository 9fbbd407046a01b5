/- Shifts: what is valid, by both. No condition. -/
import Derived.Test.YtaimjfippclbcaaGreatPVal
namespace Go.Proofs.YtaimjfippclbcaaGreat.Ev
open Go Go.RowKit
set_option linter.unusedSimpArgs false
set_option linter.unusedVariables false
theorem wn1 : IntKind.wrap .i64 (0 + 1) = 1 := by decide
theorem wn2 : IntKind.wrap .i64 (1 + 1) = 2 := by decide
theorem wn3 : IntKind.wrap .i64 (2 + 1) = 3 := by decide
def inB (m a : Int) : Bool := leI (-m) a && leI a m
theorem inB_iff {m a : Int} : inB m a = true ↔ -m ≤ a ∧ a ≤ m := by unfold inB; simp only [Bool.and_eq_true, leI_iff]
theorem areW_step (k n : Nat) (m : Int) (b : Bool) (l : List (List D)) (c i : Int) (h : ltI i c = true) (h' : inR i ((List.length l : Nat) : Int) = true) (hm : IntKind.wrap .i64 (0 - m) = -m) : impl_areWithin_l0 k (n + 1) m b l c i = bif inB m (ri l i 0) then impl_areWithin_l0 k n m b l c (IntKind.wrap .i64 (i + 1)) else some [.i 1, .i m, .b false, .l l, .i c, .i i] := by
 rw [impl_areWithin_l0, bif_t h, bif_t h', within_some, hm]
 simp only [Option.bind_some, gb0]
 unfold inB
 cases (leI (-m) (ri l i 0) && leI (ri l i 0) m) <;> rfl
theorem areWithin3 (k : Nat) (hk : 5 ≤ k) (m a b c : Int) (hm : IntKind.wrap .i64 (0 - m) = -m) : impl_areWithin k m [[.i a], [.i b], [.i c]] = some [.b (inB m a && (inB m b && inB m c))] := by
 obtain ⟨n, rfl⟩ : ∃ n, k = n + 4 := ⟨k - 4, by omega⟩
 unfold impl_areWithin
 rw [areW_step (n + 4) (n + 3) m false _ _ 0 rfl rfl hm, wn1, areW_step (n + 4) (n + 2) m false _ _ 1 rfl rfl hm, wn2, areW_step (n + 4) (n + 1) m false _ _ 2 rfl rfl hm, wn3]
 rw [show ri [[D.i a], [.i b], [.i c]] 0 0 = a from rfl, show ri [[D.i a], [.i b], [.i c]] 1 0 = b from rfl, show ri [[D.i a], [.i b], [.i c]] 2 0 = c from rfl]
 cases inB m a
 ·rfl
 ·cases inB m b
  ·rfl
  ·cases inB m c <;> rfl
theorem areWithin1 (k : Nat) (hk : 5 ≤ k) (m a : Int) (hm : IntKind.wrap .i64 (0 - m) = -m) : impl_areWithin k m [[.i a]] = some [.b (inB m a)] := by
 obtain ⟨n, rfl⟩ : ∃ n, k = n + 4 := ⟨k - 4, by omega⟩
 unfold impl_areWithin
 rw [areW_step (n + 4) (n + 3) m false _ _ 0 rfl rfl hm, wn1, show ri [[D.i a]] 0 0 = a from rfl]
 cases inB m a <;> rfl
theorem l23_step (k n : Nat) (a b c d e f g : Int) (x y : Bool) (u : List (List D)) (v : List (List D)) (i : Int) (h : ltI i 3 = true) (h1 : inR i ((List.length u : Nat) : Int) = true) (h2 : inR i ((List.length v : Nat) : Int) = true) (hx : inB 10000000 (ri u i 0) = x) (hy : inB 100000000 (ri v i 0) = y) : spec_l23Ok_l0 k (n + 1) a b c d e f g false u v i = bif x && y then spec_l23Ok_l0 k n a b c d e f g false u v (IntKind.wrap .i64 (i + 1)) else some [.i 1, .i a, .i b, .i c, .i d, .i e, .i f, .i g, .b false, .l u, .l v, .i i] := by
 rw [spec_l23Ok_l0, bif_t h, bif_t h1, in_some, Option.bind_some]
 unfold inB at hx hy
 rw [gb0, hx]
 cases x
 ·rfl
 ·rw [Bool.not_true, cond_false, bif_t h2, in_some, Option.bind_some, gb0, hy]
  cases y <;> rfl
def shiftB (a b c d e f g : Int) : Bool := (inB 10000000 a && (inB 10000000 b && inB 10000000 c)) && ((inB 100000000 d && (inB 100000000 e && inB 100000000 f)) && inB 1000000 g)
theorem shift_spec (k : Nat) (hk : 5 ≤ k) (a b c d e f g : Int) : spec_l23Ok k a b c d e f g = some [.b (shiftB a b c d e f g)] := by
 obtain ⟨n, rfl⟩ : ∃ n, k = n + 4 := ⟨k - 4, by omega⟩
 unfold spec_l23Ok shiftB
 rw [l23_step (n + 4) (n + 3) a b c d e f g _ _ _ _ 0 rfl rfl rfl rfl rfl, wn1, l23_step (n + 4) (n + 2) a b c d e f g _ _ _ _ 1 rfl rfl rfl rfl rfl, wn2, l23_step (n + 4) (n + 1) a b c d e f g _ _ _ _ 2 rfl rfl rfl rfl rfl, wn3]
 rw [show ri [[D.i a], [.i b], [.i c]] 0 0 = a from rfl, show ri [[D.i a], [.i b], [.i c]] 1 0 = b from rfl, show ri [[D.i a], [.i b], [.i c]] 2 0 = c from rfl, show ri [[D.i d], [.i e], [.i f]] 0 0 = d from rfl, show ri [[D.i d], [.i e], [.i f]] 1 0 = e from rfl, show ri [[D.i d], [.i e], [.i f]] 2 0 = f from rfl]
 cases inB 10000000 a
 ·rfl
 ·cases inB 100000000 d
  ·cases inB 10000000 b <;> cases inB 10000000 c <;> rfl
  ·cases inB 10000000 b
   ·rfl
   ·cases inB 100000000 e
    ·cases inB 10000000 c <;> rfl
    ·cases inB 10000000 c
     ·rfl
     ·cases inB 100000000 f
      ·rfl
      ·simp only [Bool.and_self, cond_true, Bool.true_and]
       show ((some [D.i 0, .i a, .i b, .i c, .i d, .i e, .i f, .i g, .b false, .l _, .l _, .i 3] : Option (List D))).bind _ = _
       rw [Option.bind_some]
       show (spec_l00In (n + 4) g (-1000000) 1000000).bind _ = _
       rw [in_some]
       rfl
theorem shift_eq (k : Nat) (hk : 5 ≤ k) (a b c d e f g : Int) : spec_l23Ok k a b c d e f g = some [.b (shiftB a b c d e f g)] ∧ impl_ValidShift k a b c d e f g = some [.b (shiftB a b c d e f g)] := by
 refine ⟨shift_spec k hk a b c d e f g, ?_⟩
 unfold impl_ValidShift shiftB
 rw [areWithin3 k hk _ a b c (by decide), areWithin3 k hk _ d e f (by decide), areWithin1 k hk _ g (by decide)]
 simp only [Option.bind_some, gb0]
 generalize (inB 10000000 a && (inB 10000000 b && inB 10000000 c)) = p
 generalize (inB 100000000 d && (inB 100000000 e && inB 100000000 f)) = q
 cases p <;> cases q <;> rfl
end Go.Proofs.YtaimjfippclbcaaGreat.Ev
