/- Lists of steps: as the laws hand them on, equal to themselves, marked and found so. No condition. -/
import Derived.Test.YtmjcfggcbdknnaaJoinF
import Derived.Test.YtmjcfggcbdknnaaPBase
namespace Go.Proofs.Ytmjcfggcbdknnaa.Ev
open Go Go.RowKit
set_option linter.unusedSimpArgs false
set_option linter.unusedVariables false
theorem setc_len (xs : List (List D)) (i : Int) (m o n : Nat) (ds : List D) : (setc xs i m o n ds).length = xs.length := List.length_set
theorem setc_first (xs : List (List D)) (i : Int) (m o n : Nat) (ds : List D) : setc xs i m o n ds = xs.set i.toNat (setRow m (xs.getD i.toNat []) o n ds) := rfl
theorem setc_set (xs : List (List D)) (i : Int) (r : List D) (m o n : Nat) (ds : List D) (h : i.toNat < xs.length) : setc (xs.set i.toNat r) i m o n ds = xs.set i.toNat (setRow m r o n ds) := by
  unfold setc
  rw [List.set_set, List.getD_eq_getElem?_getD, List.getElem?_set_self h]; rfl
/-- A step's sixteen numbers. -/
def nrm (r : List D) : List D := [.i (gi r 0), .i (gi r 1), .i (gi r 2), .i (gi r 3), .i (gi r 4), .i (gi r 5), .i (gi r 6), .i (gi r 7), .i (gi r 8), .i (gi r 9), .i (gi r 10), .i (gi r 11), .i (gi r 12), .i (gi r 13), .i (gi r 14), .i (gi r 15)]
theorem set_replicate' {α : Type} (A : List α) (d : Nat) (z v : α) : (A ++ List.replicate (d + 1) z).set A.length v = (A ++ [v]) ++ List.replicate d z := by
  rw [List.set_append_right _ _ (Nat.le_refl _), Nat.sub_self, List.replicate_succ, List.set_cons_zero]
  simp
theorem take_map_snoc' {α β : Type} (f : α → β) (xs : List α) (i : Nat) (h : i < xs.length) : (xs.map f).take (i + 1) = (xs.map f).take i ++ [f xs[i]] := by
  rw [List.take_succ_eq_append_getElem (by simpa using h)]
  simp
theorem toStepS_l0 (k : Nat) (xs e : List (List D)) (z : List D) (hn : xs.length ≤ 1048576) (d : Nat) : ∀ (i n : Nat), i + d = xs.length → laws_toStepS_l0 k (d + 1 + n) xs e ((xs.map nrm).take i ++ List.replicate d z) i = some [.i 0, .l xs, .l e, .l (xs.map nrm), .i xs.length] := by
  induction d with
  | zero =>
    intro i n h
    obtain rfl : i = xs.length := by omega
    rw [show 0 + 1 + n = n + 1 by omega, laws_toStepS_l0]
    dsimp only
    rw [bif_n (by omega)]
    simp only [List.replicate_zero, List.append_nil]
    rw [List.take_of_length_le (by simp)]
  | succ d ih =>
    intro i n h
    have hi : i < xs.length := by omega
    have hl : ((xs.map nrm).take i).length = i := by rw [List.length_take, List.length_map]; omega
    have hr : xs.getD (i : Int).toNat [] = xs[i] := by
      rw [Int.toNat_natCast, List.getD_eq_getElem?_getD, List.getElem?_eq_getElem hi]; rfl
    rw [show d + 1 + 1 + n = (d + 1 + n) + 1 by omega, laws_toStepS_l0]
    dsimp only
    rw [bif_p (by omega), bif_in (by omega) (by omega)]
    simp only [laws_toStep, laws_toProjection, laws_toEllipsoid, laws_toShift, Option.bind_some, gi0, giS]
    rw [bif_in (by omega) (by rw [List.length_append, hl, List.length_replicate]; omega), wr _ (by omega) (by omega)]
    have e1 : setc ((xs.map nrm).take i ++ List.replicate (d + 1) z) i 16 0 16 [.i (ri xs i 0), .i (ri xs i 1), .i (ri xs i 2), .i (ri xs i 3), .i (ri xs i 4), .i (ri xs i 5), .i (ri xs i 6), .i (ri xs i 7), .i (ri xs i 8), .i (ri xs i 9), .i (ri xs i 10), .i (ri xs i 11), .i (ri xs i 12), .i (ri xs i 13), .i (ri xs i 14), .i (ri xs i 15)] = ((xs.map nrm).take i ++ List.replicate (d + 1) z).set i (nrm xs[i]) := by
      rw [setc_first, Int.toNat_natCast]
      simp only [gil, hr]
      rfl
    have hs := set_replicate' ((xs.map nrm).take i) d z (nrm xs[i])
    rw [hl] at hs
    rw [e1, hs, ← take_map_snoc' nrm xs i hi, show ((i : Int) + 1) = ((i + 1 : Nat) : Int) by omega]
    exact ih (i + 1) n (by omega)
theorem toStepS_some (k : Nat) (xs : List (List D)) (hn : xs.length ≤ 1048576) (hk : xs.length < k) : laws_toStepS k xs = some [.l (xs.map nrm)] := by
  unfold laws_toStepS
  rw [bif_t (by simp; omega)]
  dsimp only
  rw [Int.toNat_natCast]
  have h0 := toStepS_l0 k xs [] [.i 0, .i 0, .i 0, .i 0, .i 0, .i 0, .i 0, .i 0, .i 0, .i 0, .i 0, .i 0, .i 0, .i 0, .i 0, .i 0] hn xs.length 0 (k - (xs.length + 1)) (by omega)
  rw [show xs.length + 1 + (k - (xs.length + 1)) = k by omega] at h0
  rw [List.take_zero, List.nil_append] at h0
  have h1 : laws_toStepS_l0 k k xs [] (List.replicate xs.length [.i 0, .i 0, .i 0, .i 0, .i 0, .i 0, .i 0, .i 0, .i 0, .i 0, .i 0, .i 0, .i 0, .i 0, .i 0, .i 0]) 0 = _ := h0
  rw [h1]
  rfl
theorem szStepS_some (k : Nat) (xs : List (List D)) (m : Int) (h0 : 0 ≤ m) (hm : m ≤ 1048576) (hn : xs.length ≤ 9223372036854775807) : laws_szStepS k xs m = some [.i (if m < (xs.length : Int) then -1 else m - xs.length)] := by
  unfold laws_szStepS
  rw [wr _ (by omega) (by omega)]
  dsimp only
  by_cases h : m < (xs.length : Int)
  · rw [bif_p (by omega), if_pos h]
  · rw [bif_n (by omega), if_neg h]
theorem eqStepS_l0 (k : Nat) (xs : List (List D)) (b : Bool) (hn : xs.length ≤ 1000000000) (d : Nat) : ∀ (i : Int) (n : Nat), 0 ≤ i → i + d = xs.length → laws_eqStepS_l0 k (d + 1 + n) xs xs b i = some [.i 0, .l xs, .l xs, .b b, .i xs.length] := by
  induction d with
  | zero =>
    intro i n h0 h
    rw [show 0 + 1 + n = n + 1 by omega, laws_eqStepS_l0]
    try dsimp only
    rw [bif_n (by omega), show i = (xs.length : Int) by omega]
  | succ d ih =>
    intro i n h0 h
    rw [show d + 1 + 1 + n = (d + 1 + n) + 1 by omega, laws_eqStepS_l0]
    try dsimp only
    rw [bif_p (by omega), bif_in h0 (by omega), bif_in h0 (by omega)]
    simp only [laws_eqStep, laws_eqProjection, laws_eqEllipsoid, laws_eqShift, bne_self_eq_false, cond_false, Option.bind_some, gb0, Bool.not_true]
    rw [wr _ (by omega) (by omega)]
    exact ih (i + 1) n (by omega) (by omega)
theorem eqStepS_refl (k : Nat) (xs : List (List D)) (hn : xs.length ≤ 1000000000) (hk : xs.length < k) : laws_eqStepS k xs xs = some [.b true] := by
  unfold laws_eqStepS
  dsimp only
  have := eqStepS_l0 k xs false hn xs.length 0 (k - (xs.length + 1)) (by omega) (by omega)
  rw [show xs.length + 1 + (k - (xs.length + 1)) = k by omega] at this
  rw [bne_self_eq_false, cond_false, this]
  rfl
def W (m : Int) : Int := IntKind.wrap .i64 (m + 1)
def W16 (m : Int) : Int := W (W (W (W (W (W (W (W (W (W (W (W (W (W (W (W m)))))))))))))))
theorem W_eq (m : Int) (h0 : 0 ≤ m) (h : m ≤ 1000000000000000000) : W m = m + 1 := wr _ (by omega) (by omega)
theorem W16_eq (m : Int) (h0 : 0 ≤ m) (h : m ≤ 100000000000000000) : W16 m = m + 16 := by
  have e : ∀ q : Int, 0 ≤ q → q ≤ 16 → W (m + q) = m + (q + 1) := fun q h1 h2 => by rw [W_eq _ (by omega) (by omega)]; omega
  have e0 : W m = m + 1 := W_eq m h0 (by omega)
  unfold W16
  rw [e0, e 1 (by decide) (by decide), e (1 + 1) (by decide) (by decide), e (1 + 1 + 1) (by decide) (by decide), e _ (by decide) (by decide), e _ (by decide) (by decide), e _ (by decide) (by decide), e _ (by decide) (by decide), e _ (by decide) (by decide), e _ (by decide) (by decide), e _ (by decide) (by decide), e _ (by decide) (by decide), e _ (by decide) (by decide), e _ (by decide) (by decide), e _ (by decide) (by decide), e _ (by decide) (by decide)]
  rfl
/-- The sixteen marks. -/
def mks (m : Int) : List D := [.i m, .i (W m), .i (W (W m)), .i (W (W (W m))), .i (W (W (W (W m)))), .i (W (W (W (W (W m))))), .i (W (W (W (W (W (W m)))))), .i (W (W (W (W (W (W (W m))))))), .i (W (W (W (W (W (W (W (W m)))))))), .i (W (W (W (W (W (W (W (W (W m))))))))), .i (W (W (W (W (W (W (W (W (W (W m)))))))))), .i (W (W (W (W (W (W (W (W (W (W (W m))))))))))), .i (W (W (W (W (W (W (W (W (W (W (W (W m)))))))))))), .i (W (W (W (W (W (W (W (W (W (W (W (W (W m))))))))))))), .i (W (W (W (W (W (W (W (W (W (W (W (W (W (W m)))))))))))))), .i (W (W (W (W (W (W (W (W (W (W (W (W (W (W (W m)))))))))))))))]
theorem mark_row (m : Int) (r : List D) : setRow 16 (setRow 16 (setRow 16 (setRow 16 (setRow 16 (setRow 16 (setRow 16 (setRow 16 (setRow 16 (setRow 16 (setRow 16 (setRow 16 (setRow 16 (setRow 16 (setRow 16 (setRow 16 r 0 1 [.i m]) 1 1 [.i (W m)]) 2 1 [.i (W (W m))]) 3 1 [.i (W (W (W m)))]) 4 1 [.i (W (W (W (W m))))]) 5 1 [.i (W (W (W (W (W m)))))]) 6 1 [.i (W (W (W (W (W (W m))))))]) 7 1 [.i (W (W (W (W (W (W (W m)))))))]) 8 1 [.i (W (W (W (W (W (W (W (W m))))))))]) 9 1 [.i (W (W (W (W (W (W (W (W (W m)))))))))]) 10 1 [.i (W (W (W (W (W (W (W (W (W (W m))))))))))]) 11 1 [.i (W (W (W (W (W (W (W (W (W (W (W m)))))))))))]) 12 1 [.i (W (W (W (W (W (W (W (W (W (W (W (W m))))))))))))]) 13 1 [.i (W (W (W (W (W (W (W (W (W (W (W (W (W m)))))))))))))]) 14 1 [.i (W (W (W (W (W (W (W (W (W (W (W (W (W (W m))))))))))))))]) 15 1 [.i (W (W (W (W (W (W (W (W (W (W (W (W (W (W (W m)))))))))))))))] = mks m := by rfl
theorem wW (m : Int) : IntKind.wrap .i64 (m + 1) = W m := rfl
theorem mark_step (k n : Nat) (xs : List (List D)) (m z i : Int) (h0 : 0 ≤ i) (h : i < xs.length) : laws_markStepS_l0 k (n + 1) xs m z i = laws_markStepS_l0 k n (xs.set i.toNat (mks m)) (W16 m) z (W i) := by
  have ht : i.toNat < xs.length := by omega
  rw [laws_markStepS_l0]
  simp only [wW, setc_len, bif_p h, bif_in h0 h]
  simp only [setc_first xs, setc_set _ _ _ _ _ _ _ ht, mark_row]
  rfl
theorem held_step (k n : Nat) (ys : List (List D)) (m z i : Int) (h0 : 0 ≤ i) (h : i < ys.length) (hr : ys.getD i.toNat [] = mks m) : laws_heldStepS_l0 k (n + 1) ys m z i = laws_heldStepS_l0 k n ys (W16 m) z (W i) := by
  rw [laws_heldStepS_l0]
  simp only [wW, bif_p h, bif_in h0 h, gil, hr, mks, gi0, giS, bne_self_eq_false, cond_false]
  rfl
theorem getD_set_ne {xs : List (List D)} {i j : Nat} {v : List D} (h : i ≠ j) : (xs.set i v).getD j [] = xs.getD j [] := by
  rw [List.getD_eq_getElem?_getD, List.getD_eq_getElem?_getD, List.getElem?_set_ne h]
theorem getD_set_self {xs : List (List D)} {i : Nat} {v : List D} (h : i < xs.length) : (xs.set i v).getD i [] = v := by
  rw [List.getD_eq_getElem?_getD, List.getElem?_set_self h]; rfl
theorem markStepS_l0 (k k' : Nat) (z z' : Int) (d : Nat) : ∀ (xs : List (List D)) (m i : Int) (n n' : Nat), xs.length ≤ 1000000000 → 0 ≤ i → i + d = xs.length → 0 ≤ m → m + 16 * d ≤ 1000000000000000 →
    ∃ ys, laws_markStepS_l0 k (d + 1 + n) xs m z i = some [.i 0, .l ys, .i (m + 16 * d), .i z, .i xs.length] ∧ ys.length = xs.length ∧ (∀ j : Int, 0 ≤ j → j < i → ys.getD j.toNat [] = xs.getD j.toNat []) ∧ laws_heldStepS_l0 k' (d + 1 + n') ys m z' i = some [.i 0, .l ys, .i (m + 16 * d), .i z', .i xs.length] := by
  induction d with
  | zero =>
    intro xs m i n n' hn h0 h hm hb
    refine ⟨xs, ?_, rfl, fun _ _ _ => rfl, ?_⟩
    · rw [show 0 + 1 + n = n + 1 by omega, laws_markStepS_l0]
      try dsimp only
      rw [bif_n (by omega), show i = (xs.length : Int) by omega, show m + 16 * ((0 : Nat) : Int) = m by omega]
    · rw [show 0 + 1 + n' = n' + 1 by omega, laws_heldStepS_l0]
      try dsimp only
      rw [bif_n (by omega), show i = (xs.length : Int) by omega, show m + 16 * ((0 : Nat) : Int) = m by omega]
  | succ d ih =>
    intro xs m i n n' hn h0 h hm hb
    have hl : (xs.set i.toNat (mks m)).length = xs.length := List.length_set
    have e1 : W16 m = m + 16 := W16_eq m hm (by omega)
    have e2 : W i = i + 1 := W_eq i h0 (by omega)
    obtain ⟨ys, h1, h2, h3, h4⟩ := ih (xs.set i.toNat (mks m)) (m + 16) (i + 1) n n' (by rw [hl]; exact hn) (by omega) (by rw [hl]; omega) (by omega) (by omega)
    rw [hl] at h1 h2 h4
    have hf : m + 16 + 16 * (d : Int) = m + 16 * ((d + 1 : Nat) : Int) := by omega
    rw [hf] at h1 h4
    refine ⟨ys, ?_, h2, fun j hj0 hj => ?_, ?_⟩
    · rw [show d + 1 + 1 + n = (d + 1 + n) + 1 by omega, mark_step _ _ _ _ _ _ h0 (by omega), e1, e2]; exact h1
    · rw [h3 j hj0 (by omega), getD_set_ne (by omega)]
    · rw [show d + 1 + 1 + n' = (d + 1 + n') + 1 by omega, held_step _ _ _ _ _ _ h0 (by omega) (by rw [h3 i h0 (by omega), getD_set_self (by omega)]), e1, e2]; exact h4
theorem markStepS_m (k : Nat) (xs : List (List D)) (m : Int) (hm : 0 ≤ m) (hb : m ≤ 100000000000000) (hn : xs.length ≤ 1000000000) (hk : xs.length < k) : ∃ ys, laws_markStepS k xs m = some [.i (m + 16 * xs.length), .l ys] := by
  obtain ⟨ys, h1, _, _, _⟩ := markStepS_l0 k k 0 0 xs.length xs m 0 (k - (xs.length + 1)) (k - (xs.length + 1)) hn (by omega) (by omega) hm (by omega)
  rw [show xs.length + 1 + (k - (xs.length + 1)) = k by omega] at h1
  exact ⟨ys, by unfold laws_markStepS; rw [h1]; rfl⟩
theorem markStepS_held (k : Nat) (xs : List (List D)) (hn : xs.length ≤ 1000000000) (hk : xs.length < k) : ∃ m ys, 0 ≤ m ∧ laws_markStepS k xs 1 = some [.i m, .l ys] ∧ laws_heldStepS k ys 1 = some [.i m] := by
  obtain ⟨ys, h1, h2, _, h4⟩ := markStepS_l0 k k 0 0 xs.length xs 1 0 (k - (xs.length + 1)) (k - (xs.length + 1)) hn (by omega) (by omega) (by omega) (by omega)
  rw [show xs.length + 1 + (k - (xs.length + 1)) = k by omega] at h1 h4
  refine ⟨1 + 16 * xs.length, ys, by omega, ?_, ?_⟩
  · unfold laws_markStepS; rw [h1]; rfl
  · unfold laws_heldStepS; rw [h4]; rfl
end Go.Proofs.Ytmjcfggcbdknnaa.Ev
