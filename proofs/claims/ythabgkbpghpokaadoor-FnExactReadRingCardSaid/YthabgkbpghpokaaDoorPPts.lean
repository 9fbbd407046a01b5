/- Lists of points: copied, measured, compared; which are valid, by both. No condition. -/
import Derived.Test.YthabgkbpghpokaaDoorPPt
namespace Go.Proofs.YthabgkbpghpokaaDoor.Ev
open Go Go.RowKit
set_option linter.unusedSimpArgs false
set_option linter.unusedVariables false
theorem setc_eq (xs : List (List D)) (i : Int) (m o n : Nat) (ds : List D) : setc xs i m o n ds = xs.set i.toNat (setRow m (xs.getD i.toNat []) o n ds) := rfl
theorem set_repl {α : Type} (A : List α) (d : Nat) (z v : α) : (A ++ List.replicate (d + 1) z).set A.length v = (A ++ [v]) ++ List.replicate d z := by
  rw [List.replicate_succ, List.set_append_right _ _ (Nat.le_refl _), Nat.sub_self, List.set_cons_zero, List.append_assoc]; rfl
theorem take_snoc {α β : Type} (f : α → β) (xs : List α) (i : Nat) (h : i < xs.length) : (xs.map f).take (i + 1) = (xs.map f).take i ++ [f xs[i]] := by
  rw [List.take_add_one, List.getElem?_map, List.getElem?_eq_getElem h]; rfl
/-- A point's two cells. -/
def pt2 (r : List D) : List D := [.i (gi r 0), .i (gi r 1)]
theorem ri_map (xs : List (List D)) (i : Nat) (h : i < xs.length) : ri (xs.map pt2) (i : Int) 0 = ri xs (i : Int) 0 ∧ ri (xs.map pt2) (i : Int) 1 = ri xs (i : Int) 1 := by
  have e1 : (xs.map pt2).getD (i : Int).toNat [] = pt2 xs[i] := by rw [Int.toNat_natCast, List.getD_eq_getElem?_getD, List.getElem?_map, List.getElem?_eq_getElem h]; rfl
  have e2 : xs.getD (i : Int).toNat [] = xs[i] := by rw [Int.toNat_natCast, List.getD_eq_getElem?_getD, List.getElem?_eq_getElem h]; rfl
  rw [gil, gil, gil, gil, e1, e2]
  exact ⟨rfl, rfl⟩
theorem eqPt_refl (k : Nat) (a b : Int) : laws_eqPoint k a b a b = some [.b true] := by
  unfold laws_eqPoint
  rw [bif_f (bne_f rfl), bif_f (bne_f rfl)]
theorem eqPts_l0 (k : Nat) (xs : List (List D)) (b : Bool) (hn : xs.length ≤ 1000000000) : ∀ (d i n : Nat), i + d = xs.length → laws_eqPointS_l0 k (d + 1 + n) xs xs b (i : Int) = some [.i 0, .l xs, .l xs, .b b, .i xs.length]
  | 0, i, n, h => by
    obtain rfl : i = xs.length := by omega
    rw [show 0 + 1 + n = n + 1 by omega, laws_eqPointS_l0, bif_f (ltI_f (by omega))]
  | d + 1, i, n, h => by
    rw [show d + 1 + 1 + n = (d + 1 + n) + 1 by omega, laws_eqPointS_l0, bif_t (ltI_t (by omega)), bif_t (inR_t (by omega) (by omega)), bif_t (inR_t (by omega) (by omega)), eqPt_refl, Option.bind_some]
    simp only [gb0, Bool.not_true, cond_false]
    rw [show IntKind.wrap .i64 ((i : Int) + 1) = ((i + 1 : Nat) : Int) by rw [wr _ (by omega) (by omega)]; omega]
    exact eqPts_l0 k xs b hn d (i + 1) n (by omega)
theorem eqPts_refl (k : Nat) (xs : List (List D)) (hn : xs.length ≤ 1000000000) (hk : xs.length < k) : laws_eqPointS k xs xs = some [.b true] := by
  unfold laws_eqPointS
  have h0 := eqPts_l0 k xs false hn xs.length 0 (k - (xs.length + 1)) (by omega)
  rw [show xs.length + 1 + (k - (xs.length + 1)) = k by omega] at h0
  have h1 : laws_eqPointS_l0 k k xs xs false 0 = _ := h0
  dsimp only
  rw [bif_f (bne_f rfl), h1]
  rfl
end Go.Proofs.YthabgkbpghpokaaDoor.Ev
