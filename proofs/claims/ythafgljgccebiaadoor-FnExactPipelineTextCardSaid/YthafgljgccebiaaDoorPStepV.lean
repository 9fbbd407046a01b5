/- Steps of a pipeline: what is valid and their texts, by both. No condition. -/
import Derived.Test.YthafgljgccebiaaDoorPShift
namespace Go.Proofs.YthafgljgccebiaaDoor.Ev
open Go Go.RowKit
set_option linter.unusedSimpArgs false
set_option linter.unusedVariables false
theorem projRange (k : Nat) (p a b d e : Int) (h : impl_ValidProjection k p a b d e = some [.b true]) : 1 ≤ p ∧ p ≤ 16 := by
  unfold impl_ValidProjection at h
  rw [within_some, Option.bind_some, gb0] at h
  cases hb : (leI 1 p && leI p 16) with
  | false => rw [hb] at h; cases h
  | true =>
    simp only [Bool.and_eq_true, leI_iff] at hb
    exact hb
theorem step_eq (k : Nat) (hk : 5 ≤ k) (a0 a1 a2 a3 a4 a5 a6 a7 a8 a9 a10 a11 a12 a13 a14 a15 : Int) :
    ∃ r, spec_l27Step k a0 a1 a2 a3 a4 a5 a6 a7 a8 a9 a10 a11 a12 a13 a14 a15 = some [.b r] ∧ impl_ValidStep k a0 a1 a2 a3 a4 a5 a6 a7 a8 a9 a10 a11 a12 a13 a14 a15 = some [.b r] ∧ (r = true → (1 ≤ a0 ∧ a0 ≤ 7) ∧ (a0 = 1 ∨ a0 = 2 → spec_l17Ok k a1 a2 a3 a4 a5 = some [.b true] ∧ impl_ValidProjection k a1 a2 a3 a4 a5 = some [.b true]) ∧ (a0 = 3 ∨ a0 = 4 → spec_l12Ok k a6 a7 a8 = some [.b true]) ∧ (a0 = 5 ∨ a0 = 6 → spec_l23Ok k a9 a10 a11 a12 a13 a14 a15 = some [.b true])) := by
  obtain ⟨pr, p1, p2⟩ := projection_eq k a1 a2 a3 a4 a5
  obtain ⟨er, e1, e2⟩ := ellipsoid_eq k a6 a7 a8
  obtain ⟨s1, s2⟩ := shift_eq k hk a9 a10 a11 a12 a13 a14 a15
  have n1 : ∀ j, gi [.i 0, .i 0, .i 0, .i 0, .i 0, .i 0, .i 0, .i 0, .i 0, .i 0, .i 0, .i 0, .i 0, .i 0, .i 0, .i 0] j = 0 := by
    intro j
    match j with
    | 0 | 1 | 2 | 3 | 4 | 5 | 6 | 7 | 8 | 9 | 10 | 11 | 12 | 13 | 14 | 15 => rfl
    | j + 16 => rfl
  unfold spec_l27Step impl_ValidStep spec_l27None spec_ValidProjection spec_ValidEllipsoid
  rw [p1, p2, e1, e2, s1, s2]
  generalize shiftB a9 a10 a11 a12 a13 a14 a15 = sr
  simp only [Option.bind_some, impl_isProjecting, impl_isMeasuring, impl_isShifting, n1, gb0, beq_self_eq_true, Bool.true_and, Bool.and_true]
  generalize (a1 == 0 && (a2 == 0 && (a3 == 0 && (a4 == 0 && (a5 == 0))))) = P
  generalize (a6 == 0 && (a7 == 0 && (a8 == 0))) = E
  generalize (a9 == 0 && (a10 == 0 && (a11 == 0 && (a12 == 0 && (a13 == 0 && (a14 == 0 && (a15 == 0))))))) = S
  have hc : a0 = 1 ∨ a0 = 2 ∨ a0 = 3 ∨ a0 = 4 ∨ a0 = 5 ∨ a0 = 6 ∨ a0 = 7 ∨ ∀ j : Int, 1 ≤ j → j ≤ 7 → (a0 == j) = false := by
    by_cases h : 1 ≤ a0 ∧ a0 ≤ 7
    · omega
    · exact .inr (.inr (.inr (.inr (.inr (.inr (.inr fun j h1 h2 => by rw [beq_eq_false_iff_ne]; omega))))))
  rcases hc with rfl | rfl | rfl | rfl | rfl | rfl | rfl | hc
  case inr.inr.inr.inr.inr.inr.inr =>
    simp only [hc 1 (by decide) (by decide), hc 2 (by decide) (by decide), hc 3 (by decide) (by decide), hc 4 (by decide) (by decide), hc 5 (by decide) (by decide), hc 6 (by decide) (by decide), hc 7 (by decide) (by decide), cond_false, gb0, Option.bind_some, Bool.false_and]
    exact ⟨false, rfl, rfl, fun h => by cases h⟩
  all_goals
    clear n1 p1 p2 e1 e2 s1 s2
    cases P <;> cases E <;> cases S <;> cases pr <;> cases er <;> cases sr <;> first | exact ⟨false, rfl, rfl, fun h => by cases h⟩ | exact ⟨true, rfl, rfl, fun _ => ⟨by decide, fun h => by first | exact ⟨rfl, rfl⟩ | (exfalso; revert h; decide), fun h => by first | rfl | (exfalso; revert h; decide), fun h => by first | rfl | (exfalso; revert h; decide)⟩⟩
/-- The words of the kinds. -/
def swords : List ByteArray := [⟨#[]⟩, ⟨#[112, 114, 111, 106, 101, 99, 116]⟩, ⟨#[117, 110, 112, 114, 111, 106, 101, 99, 116]⟩, ⟨#[99, 97, 114, 116, 101, 115, 105, 97, 110]⟩, ⟨#[103, 101, 111, 103, 114, 97, 112, 104, 105, 99]⟩, ⟨#[115, 104, 105, 102, 116]⟩, ⟨#[117, 110, 115, 104, 105, 102, 116]⟩, ⟨#[114, 111, 117, 110, 100]⟩]
theorem sword_some : ∀ i : Nat, i < 8 → ∃ l : List UInt8, l.length ≤ 20 ∧ swords.getD i .empty = bs l := by
  intro i hi
  refine ⟨(swords.getD i .empty).data.toList, ?_, by generalize swords.getD i .empty = s; cases s; rfl⟩
  have : ∀ i, i < 8 → (swords.getD i .empty).data.toList.length ≤ 20 := by decide +kernel
  exact this i hi
theorem swords_row (i : Nat) (h : i < 8) : rs (swords.map fun s => [.s s]) (i : Int) 0 = swords.getD i .empty := by
  unfold rs
  rw [Int.toNat_natCast, List.getD_eq_getElem?_getD, List.getD_eq_getElem?_getD, List.getElem?_map]
  rw [List.getElem?_eq_getElem (show i < swords.length from h)]
  rfl
theorem nl10 : (⟨#[10]⟩ : ByteArray) = bs [10] := rfl
theorem line_some (k : Nat) (hk : 20 ≤ k) (a0 a1 a2 a3 a4 a5 a6 a7 a8 a9 a10 a11 a12 a13 a14 a15 : Int) (hv : spec_l27Step k a0 a1 a2 a3 a4 a5 a6 a7 a8 a9 a10 a11 a12 a13 a14 a15 = some [.b true])
    (h1 : I64 a1) (h2 : I64 a2) (h3 : I64 a3) (h4 : I64 a4) (h5 : I64 a5) (h6 : I64 a6) (h7 : I64 a7) (h8 : I64 a8) (h9 : I64 a9) (h10 : I64 a10) (h11 : I64 a11) (h12 : I64 a12) (h13 : I64 a13) (h14 : I64 a14) (h15 : I64 a15) :
    ∃ t, t.length ≤ 300 ∧ spec_l27Line k a0 a1 a2 a3 a4 a5 a6 a7 a8 a9 a10 a11 a12 a13 a14 a15 = some [.s (bs (t ++ [10]))] ∧ impl_stepText k a0 a1 a2 a3 a4 a5 a6 a7 a8 a9 a10 a11 a12 a13 a14 a15 = some [.s (bs t)] := by
  obtain ⟨r, e1, e2, hr⟩ := step_eq k (by omega) a0 a1 a2 a3 a4 a5 a6 a7 a8 a9 a10 a11 a12 a13 a14 a15
  rw [hv] at e1
  injection e1 with e1
  injection e1 with e1 _
  injection e1 with e1
  obtain ⟨⟨g1, g2⟩, hp, he, hs⟩ := hr e1.symm
  obtain ⟨i, rfl⟩ := Int.eq_ofNat_of_zero_le (show 0 ≤ a0 by omega)
  obtain ⟨w, lw, hw⟩ := sword_some i (by omega)
  have hw' : List.getD [(⟨#[]⟩ : ByteArray), ⟨#[112, 114, 111, 106, 101, 99, 116]⟩, ⟨#[117, 110, 112, 114, 111, 106, 101, 99, 116]⟩, ⟨#[99, 97, 114, 116, 101, 115, 105, 97, 110]⟩, ⟨#[103, 101, 111, 103, 114, 97, 112, 104, 105, 99]⟩, ⟨#[115, 104, 105, 102, 116]⟩, ⟨#[117, 110, 115, 104, 105, 102, 116]⟩, ⟨#[114, 111, 117, 110, 100]⟩] i .empty = bs w := hw
  unfold spec_l27Line impl_stepText
  rw [show spec_l27Words k = some [.l (swords.map fun s => [.s s])] from rfl, Option.bind_some]
  simp only [gl0]
  rw [bif_t (inR_t (by omega) (by show (i : Int) < 8; omega)), swords_row i (by omega), hw, bif_t (inR_t (by omega) (by omega)), Int.toNat_natCast, hw']
  simp only [sp32, nl10]
  have hc : i = 1 ∨ i = 2 ∨ i = 3 ∨ i = 4 ∨ i = 5 ∨ i = 6 ∨ i = 7 := by omega
  have cp : (i = 1 ∨ i = 2) → ∃ t, t.length ≤ 200 ∧ spec_ProjectionText k a1 a2 a3 a4 a5 = some [.s (bs t)] ∧ impl_projectionText k a1 a2 a3 a4 a5 = some [.s (bs t)] := by
    intro h
    obtain ⟨q1, q2⟩ := hp (by omega)
    obtain ⟨t, l, s1, s2⟩ := projText_some k hk a1 a2 a3 a4 a5 (projRange k a1 a2 a3 a4 a5 q2) h2 h3 h4 h5
    exact ⟨t, l, by unfold spec_ProjectionText; rw [q1, s1]; rfl, s2⟩
  have ce : (i = 3 ∨ i = 4) → ∃ t, t.length ≤ 200 ∧ spec_EllipsoidText k a6 a7 a8 = some [.s (bs t)] ∧ impl_ellipsoidText k a6 a7 a8 = some [.s (bs t)] := by
    intro h
    obtain ⟨t, l, s1, s2⟩ := ellText_some k hk a6 a7 a8 h6 h7 h8
    exact ⟨t, by omega, by unfold spec_EllipsoidText; rw [he (by omega), s1]; rfl, s2⟩
  have cs : (i = 5 ∨ i = 6) → ∃ t, t.length ≤ 200 ∧ spec_ShiftText k a9 a10 a11 a12 a13 a14 a15 = some [.s (bs t)] ∧ impl_shiftText k a9 a10 a11 a12 a13 a14 a15 = some [.s (bs t)] := by
    intro h
    obtain ⟨t, l, s1, s2⟩ := shiftText_some k hk a9 a10 a11 a12 a13 a14 a15 h9 h10 h11 h12 h13 h14 h15
    refine ⟨t, l, ?_, s2⟩
    unfold spec_ShiftText spec_l23Numbers
    rw [hs (by omega)]
    simp only [Option.bind_some, gb0, Bool.not_true, cond_false, gl0, s1, gs0]
  rcases hc with rfl | rfl | rfl | rfl | rfl | rfl | rfl
  · obtain ⟨t, l, s1, s2⟩ := cp (.inl rfl)
    refine ⟨w ++ [32] ++ t, by simp only [List.length_append, List.length_singleton]; omega, ?_, ?_⟩
    · rw [bif_t (show (((1 : Nat) : Int) == 1) = true from rfl), s1, Option.bind_some, gs0, bs_append, bs_append, bs_append]
      repeat rw [bif_t (leN_t (by simp only [bs_size, List.length_append, List.length_singleton]; omega))]
      simp only [List.append_assoc]
    · rw [show impl_isProjecting k ((1 : Nat) : Int) = some [.b true] from rfl, Option.bind_some, gb0, cond_true, s2, bs_append]
      simp only [Option.bind_some, gs0, bs_append]
      repeat rw [bif_t (leN_t (by simp only [bs_size, List.length_append, List.length_singleton]; omega))]
  · obtain ⟨t, l, s1, s2⟩ := cp (.inr rfl)
    refine ⟨w ++ [32] ++ t, by simp only [List.length_append, List.length_singleton]; omega, ?_, ?_⟩
    · rw [bif_f (show (((2 : Nat) : Int) == 1) = false from rfl), bif_t (show (((2 : Nat) : Int) == 2) = true from rfl), s1, Option.bind_some, gs0, bs_append, bs_append, bs_append]
      repeat rw [bif_t (leN_t (by simp only [bs_size, List.length_append, List.length_singleton]; omega))]
      simp only [List.append_assoc]
    · rw [show impl_isProjecting k ((2 : Nat) : Int) = some [.b true] from rfl, Option.bind_some, gb0, cond_true, s2, bs_append]
      simp only [Option.bind_some, gs0, bs_append]
      repeat rw [bif_t (leN_t (by simp only [bs_size, List.length_append, List.length_singleton]; omega))]
  · obtain ⟨t, l, s1, s2⟩ := ce (.inl rfl)
    refine ⟨w ++ [32] ++ t, by simp only [List.length_append, List.length_singleton]; omega, ?_, ?_⟩
    · rw [bif_f (show (((3 : Nat) : Int) == 1) = false from rfl), bif_f (show (((3 : Nat) : Int) == 2) = false from rfl), bif_t (show (((3 : Nat) : Int) == 3) = true from rfl), s1, Option.bind_some, gs0, bs_append, bs_append, bs_append]
      repeat rw [bif_t (leN_t (by simp only [bs_size, List.length_append, List.length_singleton]; omega))]
      simp only [List.append_assoc]
    · rw [show impl_isProjecting k ((3 : Nat) : Int) = some [.b false] from rfl, Option.bind_some, gb0, cond_false, show impl_isMeasuring k ((3 : Nat) : Int) = some [.b true] from rfl, Option.bind_some, gb0, cond_true, s2, bs_append]
      simp only [Option.bind_some, gs0, bs_append]
      repeat rw [bif_t (leN_t (by simp only [bs_size, List.length_append, List.length_singleton]; omega))]
  · obtain ⟨t, l, s1, s2⟩ := ce (.inr rfl)
    refine ⟨w ++ [32] ++ t, by simp only [List.length_append, List.length_singleton]; omega, ?_, ?_⟩
    · rw [bif_f (show (((4 : Nat) : Int) == 1) = false from rfl), bif_f (show (((4 : Nat) : Int) == 2) = false from rfl), bif_f (show (((4 : Nat) : Int) == 3) = false from rfl), bif_t (show (((4 : Nat) : Int) == 4) = true from rfl), s1, Option.bind_some, gs0, bs_append, bs_append, bs_append]
      repeat rw [bif_t (leN_t (by simp only [bs_size, List.length_append, List.length_singleton]; omega))]
      simp only [List.append_assoc]
    · rw [show impl_isProjecting k ((4 : Nat) : Int) = some [.b false] from rfl, Option.bind_some, gb0, cond_false, show impl_isMeasuring k ((4 : Nat) : Int) = some [.b true] from rfl, Option.bind_some, gb0, cond_true, s2, bs_append]
      simp only [Option.bind_some, gs0, bs_append]
      repeat rw [bif_t (leN_t (by simp only [bs_size, List.length_append, List.length_singleton]; omega))]
  · obtain ⟨t, l, s1, s2⟩ := cs (.inl rfl)
    refine ⟨w ++ [32] ++ t, by simp only [List.length_append, List.length_singleton]; omega, ?_, ?_⟩
    · rw [bif_f (show (((5 : Nat) : Int) == 1) = false from rfl), bif_f (show (((5 : Nat) : Int) == 2) = false from rfl), bif_f (show (((5 : Nat) : Int) == 3) = false from rfl), bif_f (show (((5 : Nat) : Int) == 4) = false from rfl), bif_t (show (((5 : Nat) : Int) == 5) = true from rfl), s1, Option.bind_some, gs0, bs_append, bs_append, bs_append]
      repeat rw [bif_t (leN_t (by simp only [bs_size, List.length_append, List.length_singleton]; omega))]
      simp only [List.append_assoc]
    · rw [show impl_isProjecting k ((5 : Nat) : Int) = some [.b false] from rfl, Option.bind_some, gb0, cond_false, show impl_isMeasuring k ((5 : Nat) : Int) = some [.b false] from rfl, Option.bind_some, gb0, cond_false, show impl_isShifting k ((5 : Nat) : Int) = some [.b true] from rfl, Option.bind_some, gb0, cond_true, s2, bs_append]
      simp only [Option.bind_some, gs0, bs_append]
      repeat rw [bif_t (leN_t (by simp only [bs_size, List.length_append, List.length_singleton]; omega))]
  · obtain ⟨t, l, s1, s2⟩ := cs (.inr rfl)
    refine ⟨w ++ [32] ++ t, by simp only [List.length_append, List.length_singleton]; omega, ?_, ?_⟩
    · rw [bif_f (show (((6 : Nat) : Int) == 1) = false from rfl), bif_f (show (((6 : Nat) : Int) == 2) = false from rfl), bif_f (show (((6 : Nat) : Int) == 3) = false from rfl), bif_f (show (((6 : Nat) : Int) == 4) = false from rfl), bif_f (show (((6 : Nat) : Int) == 5) = false from rfl), bif_t (show (((6 : Nat) : Int) == 6) = true from rfl), s1, Option.bind_some, gs0, bs_append, bs_append, bs_append]
      repeat rw [bif_t (leN_t (by simp only [bs_size, List.length_append, List.length_singleton]; omega))]
      simp only [List.append_assoc]
    · rw [show impl_isProjecting k ((6 : Nat) : Int) = some [.b false] from rfl, Option.bind_some, gb0, cond_false, show impl_isMeasuring k ((6 : Nat) : Int) = some [.b false] from rfl, Option.bind_some, gb0, cond_false, show impl_isShifting k ((6 : Nat) : Int) = some [.b true] from rfl, Option.bind_some, gb0, cond_true, s2, bs_append]
      simp only [Option.bind_some, gs0, bs_append]
      repeat rw [bif_t (leN_t (by simp only [bs_size, List.length_append, List.length_singleton]; omega))]
  · refine ⟨w, by omega, ?_, ?_⟩
    · rw [bif_f (show (((7 : Nat) : Int) == 1) = false from rfl), bif_f (show (((7 : Nat) : Int) == 2) = false from rfl), bif_f (show (((7 : Nat) : Int) == 3) = false from rfl), bif_f (show (((7 : Nat) : Int) == 4) = false from rfl), bif_f (show (((7 : Nat) : Int) == 5) = false from rfl), bif_f (show (((7 : Nat) : Int) == 6) = false from rfl), bs_append]
      rw [bif_t (leN_t (by simp only [bs_size, List.length_append, List.length_singleton]; omega))]
    · rw [show impl_isProjecting k ((7 : Nat) : Int) = some [.b false] from rfl, Option.bind_some, gb0, cond_false, show impl_isMeasuring k ((7 : Nat) : Int) = some [.b false] from rfl, Option.bind_some, gb0, cond_false, show impl_isShifting k ((7 : Nat) : Int) = some [.b false] from rfl, Option.bind_some, gb0, cond_false]
end Go.Proofs.YthafgljgccebiaaDoor.Ev
