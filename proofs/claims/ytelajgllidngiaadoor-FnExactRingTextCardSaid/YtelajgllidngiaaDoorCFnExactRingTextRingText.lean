/- The law FnExactRingText: the program's RingText and the reference's return the same text, and leave their argument alone. No condition. -/
import Derived.Test.YtelajgllidngiaaDoorCFnExactRingTextx6
import Derived.Test.YtelajgllidngiaaDoorCFnExactRingTextRing
import Derived.Test.YtelajgllidngiaaDoorCFnExactRingTextToPoints
import Derived.Test.YtelajgllidngiaaDoorCFnExactRingTextEqPoint
import Derived.Test.YtelajgllidngiaaDoorCFnExactRingTextDegText
import Derived.Lib.Join
namespace Go.Proofs.YtelajgllidngiaaDoor.Pure
open Go.RowKit Go.Proofs.YtelajgllidngiaaDoor.P Go.Proofs.YtelajgllidngiaaDoorW.PrintWords Go.Proofs.YtelajgllidngiaaDoorW.PrintLast

/-- A point's text. -/
def ptL (p : S26) : List UInt8 := degL p.f0 ++ [32] ++ degL p.f1
theorem ptL_length (p : S26) (h : Pt p.f0 p.f1) : (ptL p).length ≤ 61 := by
  unfold ptL
  have h1 := degL_length p.f0 ⟨by have := h.1; omega, by have := h.2.1; omega⟩
  have h2 := degL_length p.f1 ⟨by have := h.2.2.1; omega, h.2.2.2⟩
  simp only [List.length_append, List.length_singleton]
  omega
theorem lit32 : (⟨#[32]⟩ : ByteArray) = bs [32] := rfl
theorem lit5932 : (⟨#[59, 32]⟩ : ByteArray) = bs [59, 32] := rfl

theorem specPoint_some (p : S26) (h : Pt p.f0 p.f1) (k : Nat) (hk : 20 ≤ k) : spec_PointText.f k p.f0 p.f1 = some (bs (ptL p)) := by
  have b0 : -1800000000 ≤ p.f0 ∧ p.f0 ≤ 1800000000 := ⟨by have := h.1; omega, by have := h.2.1; omega⟩
  have b1 : -1800000000 ≤ p.f1 ∧ p.f1 ≤ 1800000000 := ⟨by have := h.2.2.1; omega, h.2.2.2⟩
  have h1 := degL_length p.f0 b0
  have h2 := degL_length p.f1 b1
  unfold spec_PointText.f ptL
  rw [ok_some, decide_eq_true h, Option.bind_some, if_pos rfl, text_some _ b0 k hk, Option.bind_some, if_pos (by rw [bs_size]; omega), text_some _ b1 k hk, Option.bind_some, lit32, bs_append, if_pos (by rw [bs_size, bs_size, List.length_append]; simp; omega), bs_append]
theorem implPoint_some (p : S26) (h : Pt p.f0 p.f1) (k : Nat) (hk : 20 ≤ k) : impl_pointText.f k p.f0 p.f1 = some (bs (ptL p)) := by
  have b0 : -1800000000 ≤ p.f0 ∧ p.f0 ≤ 1800000000 := ⟨by have := h.1; omega, by have := h.2.1; omega⟩
  have b1 : -1800000000 ≤ p.f1 ∧ p.f1 ≤ 1800000000 := ⟨by have := h.2.2.1; omega, h.2.2.2⟩
  have h1 := degL_length p.f0 b0
  have h2 := degL_length p.f1 b1
  unfold impl_pointText.f ptL
  rw [degrees_some _ b0 k hk, Option.bind_some, if_pos (by rw [bs_size]; omega), degrees_some _ b1 k hk, Option.bind_some, lit32, bs_append, if_pos (by rw [bs_size, bs_size, List.length_append]; simp; omega), bs_append]

/-- In a valid ring all corners are valid points. -/
theorem ring_points_l0 (xs : List S26) (hn : xs.length ≤ 1048576) (d : Nat) : ∀ i : Int, 0 ≤ i → i + d = xs.length → spec_l24Ok.l0 (d + 1) xs i = some true → ∀ j : Int, i ≤ j → j < xs.length → Pt (rd_T26 xs j).f0 (rd_T26 xs j).f1 := by
  induction d with
  | zero => intro i h0 h _ j h1 h2; omega
  | succ d ih =>
    intro i h0 h hs j h1 h2
    obtain ⟨p, e1, _⟩ := next_some xs i h0 (by omega) hn
    rw [spec_l24Ok.l0, if_pos (by omega), e1, Option.bind_some, if_pos h0] at hs
    obtain ⟨r, hr, hs⟩ := Option.bind_eq_some_iff.1 hs
    cases r with
    | false => rw [if_neg (by decide)] at hs; simp at hs
    | true =>
      rw [if_pos rfl] at hs
      split at hs
      · simp at hs
      · rw [w64 _ (by omega) (by omega)] at hs
        by_cases hj : j = i
        · subst hj
          unfold spec_l24Edge.f at hr
          rw [ok_some, Option.bind_some] at hr
          by_cases hp : Pt (rd_T26 xs j).f0 (rd_T26 xs j).f1
          · exact hp
          · rw [decide_eq_false hp, if_neg (by decide)] at hr; simp at hr
        · exact ih (i + 1) (by omega) (by omega) hs j (by omega) h2

theorem ring_points (xs : List S26) (hn : xs.length ≤ 1048576) (h : spec_l24Ok.f (xs.length + 1) xs = some true) : ∀ p ∈ xs, Pt p.f0 p.f1 := by
  unfold spec_l24Ok.f at h
  rw [in_some, Option.bind_some] at h
  split at h
  · intro p hp
    obtain ⟨n, hl, rfl⟩ := List.getElem_of_mem hp
    have := ring_points_l0 xs hn xs.length 0 (by omega) (by omega) h n (by omega) (by omega)
    have e : rd_T26 xs (n : Int) = xs[n] := by
      unfold rd_T26
      rw [Int.toNat_natCast, List.getD_eq_getElem?_getD, List.getElem?_eq_getElem hl]; rfl
    rw [e] at this
    exact this
  · simp at h

theorem join_snoc (xs : List (List UInt8)) (y sep : List UInt8) (h : xs ≠ []) : Lib.join (xs ++ [y]) sep = Lib.join xs sep ++ sep ++ y := by
  cases xs with
  | nil => exact absurd rfl h
  | cons x r =>
    rw [List.cons_append, Lib.join_cons, Lib.join_cons]
    unfold Lib.joinTail
    rw [List.map_append, List.flatten_append]
    simp [List.append_assoc]
theorem join_length (xs : List (List UInt8)) (sep : List UInt8) (c : Nat) (h : ∀ x ∈ xs, x.length ≤ c) : (Lib.join xs sep).length ≤ xs.length * (c + sep.length) := by
  cases xs with
  | nil => simp [Lib.join_nil]
  | cons x r =>
    rw [Lib.join_cons]
    have h1 := h x (by simp)
    have h2 : (Lib.joinTail sep r).length ≤ r.length * (c + sep.length) := by
      have hr : ∀ y ∈ r, y.length ≤ c := fun y hy => h y (List.mem_cons_of_mem _ hy)
      clear h h1
      unfold Lib.joinTail
      induction r with
      | nil => simp
      | cons y r ih =>
        have := ih (fun z hz => hr z (List.mem_cons_of_mem _ hz))
        have hy := hr y (by simp)
        simp only [List.map_cons, List.flatten_cons, List.length_append, List.length_cons, Nat.succ_mul]
        omega
    rw [List.length_append, List.length_cons, Nat.succ_mul]
    omega

theorem take_snoc (xs : List S26) (n : Nat) (h : n < xs.length) : (xs.take (n + 1)).map ptL = (xs.take n).map ptL ++ [ptL xs[n]] := by
  rw [List.take_succ_eq_append_getElem h, List.map_append]
  rfl

theorem specRing_l0 (xs : List S26) (hn : xs.length ≤ 1048576) (hp : ∀ p ∈ xs, Pt p.f0 p.f1) (d : Nat) : ∀ n : Nat, n + d = xs.length → spec_RingText.l0 (d + 21) xs (bs (Lib.join ((xs.take n).map ptL) [59, 32])) n = some (bs (Lib.join (xs.map ptL) [59, 32])) := by
  induction d with
  | zero =>
    intro n h
    rw [spec_RingText.l0, if_neg (by omega), List.take_of_length_le (by omega)]
  | succ d ih =>
    intro n h
    have hl : n < xs.length := by omega
    have e : rd_T26 xs (n : Int) = xs[n] := by
      unfold rd_T26
      rw [Int.toNat_natCast, List.getD_eq_getElem?_getD, List.getElem?_eq_getElem hl]; rfl
    have hv := hp xs[n] (List.getElem_mem hl)
    have hpl := ptL_length xs[n] hv
    have hj := join_length ((xs.take n).map ptL) [59, 32] 61 (fun x hx => by
      obtain ⟨p, hp2, rfl⟩ := List.mem_map.1 hx
      exact ptL_length p (hp p (List.mem_of_mem_take hp2)))
    rw [List.length_map, List.length_take, Nat.min_eq_left (by omega)] at hj
    have hj' : (Lib.join ((xs.take n).map ptL) [59, 32]).length ≤ 1000000000 := Nat.le_trans hj (by simp; omega)
    rw [show d + 1 + 21 = (d + 21) + 1 by omega, spec_RingText.l0, if_pos (by omega), e, specPoint_some _ hv _ (by omega)]
    by_cases h0 : n = 0
    · subst h0
      rw [if_neg (by omega), if_pos (by omega), Option.bind_some, if_pos (by rw [bs_size, bs_size]; omega), bs_append, w64 _ (by omega) (by omega), show ((0 : Nat) : Int) + 1 = ((1 : Nat) : Int) by omega]
      have := ih 1 (by omega)
      rw [take_snoc xs 0 hl] at this
      rw [show Lib.join ((xs.take 0).map ptL) [59, 32] = [] from rfl, List.nil_append]
      rw [show (xs.take 0).map ptL ++ [ptL xs[0]] = [ptL xs[0]] from rfl, Lib.join_one] at this
      exact this
    · have hne : (xs.take n).map ptL ≠ [] := by
        intro he
        have := congrArg List.length he
        rw [List.length_map, List.length_take, Nat.min_eq_left (by omega)] at this
        simp at this
        omega
      rw [if_pos (by omega), if_pos (by rw [bs_size]; omega), if_pos (by omega), Option.bind_some, lit5932, bs_append, if_pos (by rw [bs_size, bs_size, List.length_append]; simp only [List.length_cons, List.length_nil]; omega), bs_append, w64 _ (by omega) (by omega), show ((n : Nat) : Int) + 1 = ((n + 1 : Nat) : Int) by omega, ← join_snoc _ _ _ hne, ← take_snoc xs n hl]
      exact ih (n + 1) (by omega)

theorem implRing_l0 (xs : List S26) (hn : xs.length ≤ 1048576) (hp : ∀ p ∈ xs, Pt p.f0 p.f1) (d : Nat) : ∀ n : Nat, n + d = xs.length → impl_RingText.l0 (d + 21) ((xs.take n).map fun p => bs (ptL p)) xs xs.length n = some (bs (Lib.join (xs.map ptL) [59, 32])) := by
  induction d with
  | zero =>
    intro n h
    rw [impl_RingText.l0, if_neg (by omega), List.take_of_length_le (by omega)]
    have e : (xs.map fun p => bs (ptL p)).map (·.data.toList) = xs.map ptL := by
      rw [List.map_map]
      apply List.map_congr_left
      intro p _
      simp [bs]
    have hj := join_length (xs.map ptL) [59, 32] 61 (fun x hx => by
      obtain ⟨p, hp2, rfl⟩ := List.mem_map.1 hx
      exact ptL_length p (hp p hp2))
    rw [List.length_map] at hj
    have hj' : (Lib.join (xs.map ptL) [59, 32]).length ≤ 1000000000 := Nat.le_trans hj (by simp; omega)
    unfold strings_Join.f
    rw [e, show (⟨#[59, 32]⟩ : ByteArray).data.toList = [59, 32] from rfl, if_pos ⟨by omega, by rw [List.length_map]; omega⟩]
    rfl
  | succ d ih =>
    intro n h
    have hl : n < xs.length := by omega
    have e : rd_T26 xs (n : Int) = xs[n] := by
      unfold rd_T26
      rw [Int.toNat_natCast, List.getD_eq_getElem?_getD, List.getElem?_eq_getElem hl]; rfl
    have hv := hp xs[n] (List.getElem_mem hl)
    rw [show d + 1 + 21 = (d + 21) + 1 by omega, impl_RingText.l0, if_pos (by omega), if_pos (by omega), if_pos (by omega), e, implPoint_some _ hv _ (by omega), Option.bind_some, if_pos (by rw [List.length_map, List.length_take]; omega), w64 _ (by omega) (by omega), show ((n : Nat) : Int) + 1 = ((n + 1 : Nat) : Int) by omega]
    have := ih (n + 1) (by omega)
    rw [List.take_succ_eq_append_getElem hl, List.map_append] at this
    exact this

theorem ringText_eq (xs : List S26) (hn : xs.length ≤ 1048576) : ∃ r, spec_RingText.f (xs.length + 21) xs = some r ∧ impl_RingText.f (xs.length + 21) xs = some r := by
  obtain ⟨b, _, h1, h2⟩ := ring_eq xs hn
  unfold spec_RingText.f impl_RingText.f
  rw [h1 _ (by omega), h2 _ (by omega), Option.bind_some, Option.bind_some]
  cases b with
  | true =>
    have hp := ring_points xs hn (h1 _ (by omega))
    rw [if_pos rfl, if_pos rfl]
    exact ⟨_, specRing_l0 xs hn hp xs.length 0 (by omega), implRing_l0 xs hn hp xs.length 0 (by omega)⟩
  | false => exact ⟨_, rfl, rfl⟩

theorem FnExactRingText (l0 : List S23) (h0 : l0.length ≤ 9223372036854775807) : ∃ k, laws_FnExactRingText.f k l0 = some true := by
  unfold laws_FnExactRingText.f
  rw [szPointS_some l0 1048576 (by decide) (by decide) h0]
  simp only [Option.bind_some]
  by_cases h : (1048576 : Int) < l0.length
  · exact ⟨0, by rw [if_pos h, if_pos (by decide)]⟩
  · have hn : l0.length ≤ 1048576 := by omega
    have hm : (l0.map cvPt).length = l0.length := List.length_map _
    obtain ⟨r, h1, h2⟩ := ringText_eq (l0.map cvPt) (by omega)
    rw [hm] at h1 h2
    refine ⟨l0.length + 21, ?_⟩
    rw [if_neg h, if_neg (by omega), toPointS_some l0 hn _ (by omega)]
    simp only [Option.bind_some, h1, h2, if_true]
    rw [eqPointS_refl _ (by omega) _ (by omega)]
    rfl
end Go.Proofs.YtelajgllidngiaaDoor.Pure
