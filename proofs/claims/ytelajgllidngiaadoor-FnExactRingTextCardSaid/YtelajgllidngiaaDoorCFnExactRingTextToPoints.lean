/- Lists of points, as the laws hand them on. No condition. -/
import Derived.Test.YtelajgllidngiaaDoorCFnExactRingTextx2
import Derived.Test.YtelajgllidngiaaDoorCFnExactRingTextx4
import Derived.Test.YtelajgllidngiaaDoorCFnExactRingTextBase
namespace Go.Proofs.YtelajgllidngiaaDoor.Pure
open Go.RowKit Go.Proofs.YtelajgllidngiaaDoor.P Go.Proofs.YtelajgllidngiaaDoorW.PrintWords Go.Proofs.YtelajgllidngiaaDoorW.PrintLast

/-- A point of the laws as one of the program's. -/
def cvPt (p : S23) : S26 := ⟨p.f0, p.f1⟩

theorem set_replicate {α : Type} (A : List α) (d : Nat) (z v : α) : (A ++ List.replicate (d + 1) z).set A.length v = (A ++ [v]) ++ List.replicate d z := by
  rw [List.set_append_right _ _ (Nat.le_refl _), Nat.sub_self, List.replicate_succ, List.set_cons_zero]
  simp
theorem take_map_snoc {α β : Type} (f : α → β) (xs : List α) (i : Nat) (h : i < xs.length) : (xs.map f).take (i + 1) = (xs.map f).take i ++ [f xs[i]] := by
  rw [List.take_succ_eq_append_getElem (by simpa using h)]
  simp

theorem toPointS_l0 (xs : List S23) (hn : xs.length ≤ 1048576) (d : Nat) : ∀ (i : Nat), i + d = xs.length → laws_toPointS.l0 (d + 1) xs ((xs.map cvPt).take i ++ List.replicate d z26) i = some (xs.map cvPt) := by
  induction d with
  | zero =>
    intro i h
    rw [laws_toPointS.l0, if_neg (by omega)]
    simp only [List.replicate_zero, List.append_nil]
    rw [List.take_of_length_le (by simp; omega)]
  | succ d ih =>
    intro i h
    have hi : i < xs.length := by omega
    have hl : ((xs.map cvPt).take i).length = i := by rw [List.length_take, List.length_map]; omega
    have hr : rd_T23 xs (i : Int) = xs[i] := by
      unfold rd_T23
      rw [Int.toNat_natCast, List.getD_eq_getElem?_getD, List.getElem?_eq_getElem hi]; rfl
    rw [laws_toPointS.l0, if_pos (by omega), if_pos (by omega)]
    simp only [laws_toPoint.f, Option.bind_some]
    rw [if_pos (by rw [List.length_append, hl, List.length_replicate]; omega), w64 _ (by omega) (by omega), hr, Int.toNat_natCast]
    have hs := set_replicate ((xs.map cvPt).take i) d z26 (cvPt xs[i])
    rw [hl] at hs
    have e : (⟨xs[i].f0, xs[i].f1⟩ : S26) = cvPt xs[i] := rfl
    rw [e, hs, ← take_map_snoc cvPt xs i hi, show ((i : Int) + 1) = ((i + 1 : Nat) : Int) by omega]
    exact ih (i + 1) (by omega)

theorem toPointS_some (xs : List S23) (hn : xs.length ≤ 1048576) (k : Nat) (hk : xs.length < k) : laws_toPointS.f k xs = some (xs.map cvPt) := by
  unfold laws_toPointS.f
  rw [if_pos (by omega), if_pos (by rw [Int.toNat_natCast]; omega), Int.toNat_natCast]
  refine at_rounds (g := fun k => laws_toPointS.l0 k xs (List.replicate xs.length z26) 0) (fun k => laws_toPointS.mono_l k _ _ _) (k := xs.length + 1) hk ?_
  have := toPointS_l0 xs hn xs.length 0 (by omega)
  simpa using this

theorem szPointS_some (xs : List S23) (m : Int) (h0 : 0 ≤ m) (hm : m ≤ 1048576) (hn : xs.length ≤ 9223372036854775807) : laws_szPointS.f xs m = some (if m < (xs.length : Int) then -1 else m - xs.length) := by
  unfold laws_szPointS.f
  rw [w64 _ (by omega) (by omega)]
  by_cases h : m < (xs.length : Int)
  · rw [if_pos (by omega), if_pos h]
  · rw [if_neg (by omega), if_neg h]
end Go.Proofs.YtelajgllidngiaaDoor.Pure
