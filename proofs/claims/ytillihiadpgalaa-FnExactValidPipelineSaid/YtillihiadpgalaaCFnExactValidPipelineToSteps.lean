/- Lists of steps, as the laws hand them on, and equal to themselves. No condition. -/
import Derived.Test.YtillihiadpgalaaCFnExactValidPipelinex5
import Derived.Test.YtillihiadpgalaaCFnExactValidPipelinex9
import Derived.Test.YtillihiadpgalaaCFnExactValidPipelinex14
import Derived.Test.YtillihiadpgalaaCFnExactValidPipelineBase
namespace Go.Proofs.Ytillihiadpgalaa.Pure
open Go.RowKit Go.Proofs.Ytillihiadpgalaa.P Go.Proofs.YtillihiadpgalaaW.PrintWords Go.Proofs.YtillihiadpgalaaW.PrintLast

/-- A step of the laws as one of the program's. -/
def cvSt (p : S56) : S60 := ⟨p.f0, ⟨p.f1.f0, p.f1.f1, p.f1.f2, p.f1.f3, p.f1.f4⟩, ⟨p.f2.f0, p.f2.f1, p.f2.f2⟩, ⟨p.f3.f0, p.f3.f1, p.f3.f2, p.f3.f3, p.f3.f4, p.f3.f5, p.f3.f6⟩⟩

theorem set_replicate' {α : Type} (A : List α) (d : Nat) (z v : α) : (A ++ List.replicate (d + 1) z).set A.length v = (A ++ [v]) ++ List.replicate d z := by
  rw [List.set_append_right _ _ (Nat.le_refl _), Nat.sub_self, List.replicate_succ, List.set_cons_zero]
  simp
theorem take_map_snoc' {α β : Type} (f : α → β) (xs : List α) (i : Nat) (h : i < xs.length) : (xs.map f).take (i + 1) = (xs.map f).take i ++ [f xs[i]] := by
  rw [List.take_succ_eq_append_getElem (by simpa using h)]
  simp

theorem toStepS_l0 (xs : List S56) (hn : xs.length ≤ 1048576) (d : Nat) : ∀ (i : Nat), i + d = xs.length → laws_toStepS.l0 (d + 1) xs ((xs.map cvSt).take i ++ List.replicate d z60) i = some (xs.map cvSt) := by
  induction d with
  | zero =>
    intro i h
    rw [laws_toStepS.l0, if_neg (by omega)]
    simp only [List.replicate_zero, List.append_nil]
    rw [List.take_of_length_le (by simp; omega)]
  | succ d ih =>
    intro i h
    have hi : i < xs.length := by omega
    have hl : ((xs.map cvSt).take i).length = i := by rw [List.length_take, List.length_map]; omega
    have hr : rd_T56 xs (i : Int) = xs[i] := by
      unfold rd_T56
      rw [Int.toNat_natCast, List.getD_eq_getElem?_getD, List.getElem?_eq_getElem hi]; rfl
    rw [laws_toStepS.l0, if_pos (by omega), if_pos (by omega)]
    simp only [laws_toStep.f, laws_toProjection.f, laws_toEllipsoid.f, laws_toShift.f, Option.bind_some]
    rw [if_pos (by rw [List.length_append, hl, List.length_replicate]; omega), w64 _ (by omega) (by omega), hr, Int.toNat_natCast]
    have hs := set_replicate' ((xs.map cvSt).take i) d z60 (cvSt xs[i])
    rw [hl] at hs
    have e : ∀ p : S56, (⟨p.f0, ⟨p.f1.f0, p.f1.f1, p.f1.f2, p.f1.f3, p.f1.f4⟩, ⟨p.f2.f0, p.f2.f1, p.f2.f2⟩, ⟨p.f3.f0, p.f3.f1, p.f3.f2, p.f3.f3, p.f3.f4, p.f3.f5, p.f3.f6⟩⟩ : S60) = cvSt p := fun _ => rfl
    rw [e, hs, ← take_map_snoc' cvSt xs i hi, show ((i : Int) + 1) = ((i + 1 : Nat) : Int) by omega]
    exact ih (i + 1) (by omega)

theorem toStepS_some (xs : List S56) (hn : xs.length ≤ 1048576) (k : Nat) (hk : xs.length < k) : laws_toStepS.f k xs = some (xs.map cvSt) := by
  unfold laws_toStepS.f
  rw [if_pos (by omega), if_pos (by rw [Int.toNat_natCast]; omega), Int.toNat_natCast]
  refine at_rounds (g := fun k => laws_toStepS.l0 k xs (List.replicate xs.length z60) 0) (fun k => laws_toStepS.mono_l k _ _ _) (k := xs.length + 1) hk ?_
  have := toStepS_l0 xs hn xs.length 0 (by omega)
  simpa using this

theorem szStepS_some (xs : List S56) (m : Int) (h0 : 0 ≤ m) (hm : m ≤ 1048576) (hn : xs.length ≤ 9223372036854775807) : laws_szStepS.f xs m = some (if m < (xs.length : Int) then -1 else m - xs.length) := by
  unfold laws_szStepS.f
  rw [w64 _ (by omega) (by omega)]
  by_cases h : m < (xs.length : Int)
  · rw [if_pos (by omega), if_pos h]
  · rw [if_neg (by omega), if_neg h]

theorem eqStepS_l0 (xs : List S60) (hn : xs.length ≤ 1000000000) (d : Nat) : ∀ i : Int, 0 ≤ i → i + d = xs.length → laws_eqStepS.l0 (d + 1) xs xs i = some true := by
  induction d with
  | zero => intro i h0 h; rw [laws_eqStepS.l0, if_neg (by omega)]
  | succ d ih =>
    intro i h0 h
    rw [laws_eqStepS.l0, if_pos (by omega), if_pos h0, if_pos (by omega)]
    simp only [laws_eqStep.f, laws_eqProjection.f, laws_eqEllipsoid.f, laws_eqShift.f, if_true, Option.bind_some]
    rw [w64 _ (by omega) (by omega)]
    exact ih (i + 1) (by omega) (by omega)
theorem eqStepS_refl (xs : List S60) (hn : xs.length ≤ 1000000000) (k : Nat) (hk : xs.length < k) : laws_eqStepS.f k xs xs = some true := by
  unfold laws_eqStepS.f
  rw [if_pos rfl]
  exact at_rounds (g := fun k => laws_eqStepS.l0 k xs xs 0) (fun k => laws_eqStepS.mono_l k xs xs 0) (k := xs.length + 1) hk (eqStepS_l0 xs hn xs.length 0 (by omega) (by omega))
end Go.Proofs.Ytillihiadpgalaa.Pure
