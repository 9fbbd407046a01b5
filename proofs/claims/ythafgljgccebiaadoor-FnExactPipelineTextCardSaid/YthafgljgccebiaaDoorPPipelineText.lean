/- PipelineText: the plain law. No condition. -/
import Derived.Test.YthafgljgccebiaaDoorPStepV
namespace Go.Proofs.YthafgljgccebiaaDoor.Ev
open Go Go.RowKit
set_option linter.unusedSimpArgs false
set_option linter.unusedVariables false
theorem setc_eq (xs : List (List D)) (i : Int) (m o n : Nat) (ds : List D) : setc xs i m o n ds = xs.set i.toNat (setRow m (xs.getD i.toNat []) o n ds) := rfl
theorem set_repl {α : Type} (A : List α) (d : Nat) (z v : α) : (A ++ List.replicate (d + 1) z).set A.length v = (A ++ [v]) ++ List.replicate d z := by
  rw [List.replicate_succ, List.set_append_right _ _ (Nat.le_refl _), Nat.sub_self, List.set_cons_zero, List.append_assoc]; rfl
theorem take_snoc {α β : Type} (f : α → β) (xs : List α) (i : Nat) (h : i < xs.length) : (xs.map f).take (i + 1) = (xs.map f).take i ++ [f xs[i]] := by
  rw [List.take_add_one, List.getElem?_map, List.getElem?_eq_getElem h]; rfl
/-- A step's sixteen numbers. -/
def nrm (r : List D) : List D := [.i (gi r 0), .i (gi r 1), .i (gi r 2), .i (gi r 3), .i (gi r 4), .i (gi r 5), .i (gi r 6), .i (gi r 7), .i (gi r 8), .i (gi r 9), .i (gi r 10), .i (gi r 11), .i (gi r 12), .i (gi r 13), .i (gi r 14), .i (gi r 15)]
theorem toStepS_l0 (k : Nat) (xs e : List (List D)) (z : List D) (hn : xs.length ≤ 1048576) : ∀ (d i n : Nat), i + d = xs.length → laws_toStepS_l0 k (d + 1 + n) xs e ((xs.map nrm).take i ++ List.replicate d z) (i : Int) = some [.i 0, .l xs, .l e, .l (xs.map nrm), .i xs.length]
  | 0, i, n, h => by
    obtain rfl : i = xs.length := by omega
    rw [show 0 + 1 + n = n + 1 by omega, laws_toStepS_l0, bif_f (ltI_f (by omega)), List.replicate_zero, List.append_nil, List.take_of_length_le (by simp)]
  | d + 1, i, n, h => by
    have hi : i < xs.length := by omega
    have hl : ((xs.map nrm).take i).length = i := by rw [List.length_take, List.length_map]; omega
    have hr : xs.getD (i : Int).toNat [] = xs[i] := by rw [Int.toNat_natCast, List.getD_eq_getElem?_getD, List.getElem?_eq_getElem hi]; rfl
    rw [show d + 1 + 1 + n = (d + 1 + n) + 1 by omega, laws_toStepS_l0, bif_t (ltI_t (by omega)), bif_t (inR_t (by omega) (by omega))]
    unfold laws_toStep laws_toProjection laws_toEllipsoid laws_toShift
    rw [Option.bind_some, Option.bind_some, Option.bind_some, Option.bind_some, bif_t (inR_t (by omega) (by rw [List.length_append, hl, List.length_replicate]; omega))]
    dsimp only
    have e1 : setc ((xs.map nrm).take i ++ List.replicate (d + 1) z) (i : Int) 16 0 16 (nrm xs[i]) = (xs.map nrm).take (i + 1) ++ List.replicate d z := by
      rw [setc_eq, Int.toNat_natCast, take_snoc nrm xs i hi]
      have hs := set_repl ((xs.map nrm).take i) d z (nrm xs[i])
      rw [hl] at hs
      rw [← hs]
      rfl
    simp only [gil, hr]
    rw [show IntKind.wrap .i64 ((i : Int) + 1) = ((i + 1 : Nat) : Int) by rw [wr _ (by omega) (by omega)]; omega]
    refine Eq.trans ?_ (toStepS_l0 k xs e z hn d (i + 1) n (by omega))
    rw [← e1]
    rfl
theorem toStepS_some (k : Nat) (xs : List (List D)) (hn : xs.length ≤ 1048576) (hk : xs.length < k) : laws_toStepS k xs = some [.l (xs.map nrm)] := by
  unfold laws_toStepS
  have hm : mkOk (xs.length : Int) (xs.length : Int) 128 = true := by
    unfold mkOk
    rw [decide_eq_true (show (0 : Int) ≤ xs.length by omega), decide_eq_true (Int.le_refl _), decide_eq_true (by omega)]; rfl
  rw [bif_t hm]
  dsimp only
  rw [Int.toNat_natCast]
  have h0 := toStepS_l0 k xs [] [.i 0, .i 0, .i 0, .i 0, .i 0, .i 0, .i 0, .i 0, .i 0, .i 0, .i 0, .i 0, .i 0, .i 0, .i 0, .i 0] hn xs.length 0 (k - (xs.length + 1)) (by omega)
  rw [show xs.length + 1 + (k - (xs.length + 1)) = k by omega, List.take_zero, List.nil_append] at h0
  have h1 : laws_toStepS_l0 k k xs [] (List.replicate xs.length [.i 0, .i 0, .i 0, .i 0, .i 0, .i 0, .i 0, .i 0, .i 0, .i 0, .i 0, .i 0, .i 0, .i 0, .i 0, .i 0]) 0 = _ := h0
  rw [h1]
  rfl
theorem szStepS_some (k : Nat) (xs : List (List D)) (m : Int) (h0 : 0 ≤ m) (hm : m ≤ 1048576) (hn : xs.length ≤ 9223372036854775807) : laws_szStepS k xs m = some [.i (if m < (xs.length : Int) then -1 else m - xs.length)] := by
  unfold laws_szStepS
  rw [wr _ (by omega) (by omega)]
  dsimp only
  by_cases h : m < (xs.length : Int)
  · rw [bif_t (ltI_t (by omega)), if_pos h]
  · rw [bif_f (ltI_f (by omega)), if_neg h]
theorem eqStep_refl (k : Nat) (a0 a1 a2 a3 a4 a5 a6 a7 a8 a9 a10 a11 a12 a13 a14 a15 : Int) : laws_eqStep k a0 a1 a2 a3 a4 a5 a6 a7 a8 a9 a10 a11 a12 a13 a14 a15 a0 a1 a2 a3 a4 a5 a6 a7 a8 a9 a10 a11 a12 a13 a14 a15 = some [.b true] := by
  unfold laws_eqStep laws_eqProjection laws_eqEllipsoid laws_eqShift
  simp only [bne_self_eq_false, cond_false, Option.bind_some, gb0, Bool.not_true]
theorem eqStepS_l0 (k : Nat) (xs : List (List D)) (b : Bool) (hn : xs.length ≤ 1000000000) : ∀ (d i n : Nat), i + d = xs.length → laws_eqStepS_l0 k (d + 1 + n) xs xs b (i : Int) = some [.i 0, .l xs, .l xs, .b b, .i xs.length]
  | 0, i, n, h => by
    obtain rfl : i = xs.length := by omega
    rw [show 0 + 1 + n = n + 1 by omega, laws_eqStepS_l0, bif_f (ltI_f (by omega))]
  | d + 1, i, n, h => by
    rw [show d + 1 + 1 + n = (d + 1 + n) + 1 by omega, laws_eqStepS_l0, bif_t (ltI_t (by omega)), bif_t (inR_t (by omega) (by omega)), bif_t (inR_t (by omega) (by omega)), eqStep_refl, Option.bind_some]
    simp only [gb0, Bool.not_true, cond_false]
    rw [show IntKind.wrap .i64 ((i : Int) + 1) = ((i + 1 : Nat) : Int) by rw [wr _ (by omega) (by omega)]; omega]
    exact eqStepS_l0 k xs b hn d (i + 1) n (by omega)
theorem eqStepS_refl (k : Nat) (xs : List (List D)) (hn : xs.length ≤ 1000000000) (hk : xs.length < k) : laws_eqStepS k xs xs = some [.b true] := by
  unfold laws_eqStepS
  have h0 := eqStepS_l0 k xs false hn xs.length 0 (k - (xs.length + 1)) (by omega)
  rw [show xs.length + 1 + (k - (xs.length + 1)) = k by omega] at h0
  have h1 : laws_eqStepS_l0 k k xs xs false 0 = _ := h0
  dsimp only
  rw [bif_f (bne_f rfl), h1]
  rfl
/-- A valid step. -/
def okRow (k : Nat) (l : List (List D)) (i : Int) : Prop := spec_l27Step k (ri l i 0) (ri l i 1) (ri l i 2) (ri l i 3) (ri l i 4) (ri l i 5) (ri l i 6) (ri l i 7) (ri l i 8) (ri l i 9) (ri l i 10) (ri l i 11) (ri l i 12) (ri l i 13) (ri l i 14) (ri l i 15) = some [.b true]
theorem forms_form (k : Nat) (a : Int) : ∃ x y, spec_l27Forms k a = some [.i x, .i y] ∧ impl_StepForms k a = some [.i x, .i y] := by
  unfold spec_l27Forms impl_StepForms
  cases a == 1 <;> cases a == 2 <;> cases a == 3 <;> cases a == 4 <;> cases a == 5 <;> cases a == 6 <;> cases a == 7 <;> exact ⟨_, _, rfl, rfl⟩
theorem form_l0 (k : Nat) (hk : 5 ≤ k) (l : List (List D)) (hn : l.length ≤ 1000000000) : ∀ (d i n n' : Nat) (f : Int), i + d = l.length →
    ∃ t t', spec_l27End_l0 k (d + 1 + n) l 0 false f (i : Int) = some t ∧ impl_formOf_l0 k (d + 1 + n') l 0 false f l (l.length : Int) (i : Int) = some t' ∧
      ((gi t 0 = 1 ∧ gi t' 0 = 1 ∧ gb t 3 = false ∧ gb t' 3 = false) ∨ (gi t 0 = 0 ∧ gi t' 0 = 0 ∧ gl t 1 = l ∧ gl t' 1 = l ∧ ∀ j : Nat, i ≤ j → j < l.length → okRow k l j))
  | 0, i, n, n', f, h => by
    obtain rfl : i = l.length := by omega
    have e1 : spec_l27End_l0 k (0 + 1 + n) l 0 false f (l.length : Int) = some [.i 0, .l l, .i 0, .b false, .i f, .i l.length] := by
      rw [show 0 + 1 + n = n + 1 by omega, spec_l27End_l0, bif_f (ltI_f (by omega))]
    have e2 : impl_formOf_l0 k (0 + 1 + n') l 0 false f l (l.length : Int) (l.length : Int) = some [.i 0, .l l, .i 0, .b false, .i f, .l l, .i l.length, .i l.length] := by
      rw [show 0 + 1 + n' = n' + 1 by omega, impl_formOf_l0, bif_f (ltI_f (by omega))]
    exact ⟨_, _, e1, e2, .inr ⟨rfl, rfl, rfl, rfl, fun j h1 h2 => by omega⟩⟩
  | d + 1, i, n, n', f, h => by
    obtain ⟨x, y, f1, f2⟩ := forms_form k (ri l (i : Int) 0)
    obtain ⟨r, s1, s2, _⟩ := step_eq k hk (ri l (i : Int) 0) (ri l (i : Int) 1) (ri l (i : Int) 2) (ri l (i : Int) 3) (ri l (i : Int) 4) (ri l (i : Int) 5) (ri l (i : Int) 6) (ri l (i : Int) 7) (ri l (i : Int) 8) (ri l (i : Int) 9) (ri l (i : Int) 10) (ri l (i : Int) 11) (ri l (i : Int) 12) (ri l (i : Int) 13) (ri l (i : Int) 14) (ri l (i : Int) 15)
    rw [show d + 1 + 1 + n = (d + 1 + n) + 1 by omega, show d + 1 + 1 + n' = (d + 1 + n') + 1 by omega, spec_l27End_l0, impl_formOf_l0]
    rw [bif_t (ltI_t (by omega)), bif_t (inR_t (by omega) (by omega)), bif_t (ltI_t (by omega)), bif_t (inR_t (by omega) (by omega)), f1, f2, Option.bind_some, Option.bind_some, bif_t (inR_t (by omega) (by omega)), s1, s2, Option.bind_some, Option.bind_some]
    simp only [gb0, gi0, giS]
    cases r with
    | false => exact ⟨_, _, rfl, rfl, .inl ⟨rfl, rfl, rfl, rfl⟩⟩
    | true =>
      simp only [Bool.not_true, cond_false]
      cases x != f with
      | true => exact ⟨_, _, rfl, rfl, .inl ⟨rfl, rfl, rfl, rfl⟩⟩
      | false =>
        rw [cond_false, cond_false, show IntKind.wrap .i64 ((i : Int) + 1) = ((i + 1 : Nat) : Int) by rw [wr _ (by omega) (by omega)]; omega]
        obtain ⟨t, t', e1, e2, hh⟩ := form_l0 k hk l hn d (i + 1) n n' y (by omega)
        refine ⟨t, t', e1, e2, hh.imp id fun ⟨a, b, c, c', e⟩ => ⟨a, b, c, c', fun j h1 h2 => ?_⟩⟩
        by_cases hj : j = i
        · subst hj; exact s1
        · exact e j (by omega) h2
theorem valid_same (k : Nat) (hk : 5 ≤ k) (l : List (List D)) (hn : l.length ≤ 1000000000) (hl : l.length < k) : ∃ r, spec_l27Ok k l = some [.b r] ∧ impl_ValidPipeline k l = some [.b r] ∧ (r = true → l.length ≤ 12 ∧ ∀ j : Nat, j < l.length → okRow k l j) := by
  obtain ⟨t, t', e1, e2, hh⟩ := form_l0 k hk l hn l.length 0 (k - (l.length + 1)) (k - (l.length + 1)) 1 (by omega)
  rw [show l.length + 1 + (k - (l.length + 1)) = k by omega] at e1 e2
  have e1' : spec_l27End_l0 k k l 0 false 1 0 = some t := e1
  have e2' : impl_formOf_l0 k k l 0 false 1 l (l.length : Int) 0 = some t' := e2
  unfold spec_l27Ok impl_ValidPipeline spec_l27End impl_formOf
  rw [e1', e2', Option.bind_some, Option.bind_some]
  rcases hh with ⟨a, b, c, c'⟩ | ⟨a, b, c, c', e⟩
  · rw [bif_f (eqI_f (by omega)), bif_f (eqI_f (by omega)), c, c']
    exact ⟨false, rfl, rfl, fun h => by cases h⟩
  · rw [bif_t (eqI_t a), bif_t (eqI_t b), c, c']
    dsimp only
    refine ⟨leI (l.length : Int) 12, rfl, rfl, fun h => ⟨?_, fun j hj => e j (by omega) hj⟩⟩
    have := leI_iff.1 h
    omega
theorem text_l0 (k : Nat) (hk : 20 ≤ k) (l : List (List D)) (hn : l.length ≤ 12) (x0 x1 : ByteArray) (hr : ∀ j : Nat, j < l.length → okRow k l j) (hi : ∀ (j : Nat) (m : Nat), I64 (ri l (j : Int) m)) : ∀ (d i n n' : Nat) (acc : List UInt8), i + d = l.length → acc.length ≤ 400 * i →
    ∃ t, spec_l27Text_l0 k (d + 1 + n) l x0 (bs acc) (i : Int) = some [.i 0, .l l, .s x0, .s (bs t), .i l.length] ∧ impl_pipelineText_l0 k (d + 1 + n') x1 (bs acc) l (l.length : Int) (i : Int) = some [.i 0, .s x1, .s (bs t), .l l, .i l.length, .i l.length]
  | 0, i, n, n', acc, h, ha => by
    obtain rfl : i = l.length := by omega
    refine ⟨acc, ?_, ?_⟩
    · rw [show 0 + 1 + n = n + 1 by omega, spec_l27Text_l0, bif_f (ltI_f (by omega))]
    · rw [show 0 + 1 + n' = n' + 1 by omega, impl_pipelineText_l0, bif_f (ltI_f (by omega))]
  | d + 1, i, n, n', acc, h, ha => by
    obtain ⟨t, lt, s1, s2⟩ := line_some k hk _ _ _ _ _ _ _ _ _ _ _ _ _ _ _ _ (hr i (by omega)) (hi i 1) (hi i 2) (hi i 3) (hi i 4) (hi i 5) (hi i 6) (hi i 7) (hi i 8) (hi i 9) (hi i 10) (hi i 11) (hi i 12) (hi i 13) (hi i 14) (hi i 15)
    rw [show d + 1 + 1 + n = (d + 1 + n) + 1 by omega, show d + 1 + 1 + n' = (d + 1 + n') + 1 by omega, spec_l27Text_l0, impl_pipelineText_l0]
    rw [bif_t (ltI_t (by omega)), bif_t (inR_t (by omega) (by omega)), bif_t (ltI_t (by omega)), bif_t (inR_t (by omega) (by omega)), s1, s2, Option.bind_some, Option.bind_some]
    simp only [gs0, nl10, bs_append]
    rw [bif_t (leN_t (by simp only [bs_size, List.length_append, List.length_singleton]; omega)), bif_t (leN_t (by simp only [bs_size, List.length_append, List.length_singleton]; omega)), bif_t (leN_t (by simp only [bs_size, List.length_append, List.length_singleton]; omega))]
    rw [show IntKind.wrap .i64 ((i : Int) + 1) = ((i + 1 : Nat) : Int) by rw [wr _ (by omega) (by omega)]; omega]
    exact text_l0 k hk l hn x0 x1 hr hi d (i + 1) n n' (acc ++ (t ++ [10])) (by omega) (by simp only [List.length_append, List.length_singleton]; omega)
theorem pipelineText_same (k : Nat) (hk : 20 ≤ k) (l : List (List D)) (hn : l.length ≤ 1000000000) (hl : l.length < k) (hi : ∀ (j : Nat) (m : Nat), I64 (ri l (j : Int) m)) : ∃ t, spec_PipelineText k l = some [.s t] ∧ impl_PipelineText k l = some [.s t] := by
  obtain ⟨r, e1, e2, hr⟩ := valid_same k (by omega) l hn hl
  unfold spec_PipelineText impl_PipelineText
  rw [e1, e2, Option.bind_some, Option.bind_some]
  cases r with
  | false => exact ⟨_, rfl, rfl⟩
  | true =>
    obtain ⟨h12, hok⟩ := hr rfl
    obtain ⟨t, t1, t2⟩ := text_l0 k hk l h12 (⟨#[]⟩ : ByteArray) (⟨#[]⟩ : ByteArray) hok hi l.length 0 (k - (l.length + 1)) (k - (l.length + 1)) [] (by omega) (Nat.zero_le _)
    rw [show l.length + 1 + (k - (l.length + 1)) = k by omega] at t1 t2
    have t1' : spec_l27Text_l0 k k l (⟨#[]⟩ : ByteArray) (⟨#[]⟩ : ByteArray) 0 = _ := t1
    have t2' : impl_pipelineText_l0 k k (⟨#[]⟩ : ByteArray) (⟨#[]⟩ : ByteArray) l (l.length : Int) 0 = _ := t2
    refine ⟨bs t, ?_, ?_⟩
    · unfold spec_l27Text
      rw [t1']; rfl
    · unfold impl_pipelineText
      rw [t2']; rfl
theorem I64_of {n : Int} (h : (Lit.int .i64 n).wf = true) : I64 n := by
  have := h
  simp [Lit.wf, IntKind.min, IntKind.max, IntKind.bits, IntKind.signed] at this
  exact this
theorem pipeline_law (l : List (List D)) (hn : l.length ≤ 9223372036854775807) (hi : ∀ (j : Nat) (m : Nat), I64 (ri l (j : Int) m)) : laws_FnExactPipelineText (l.length + 30) l = some [.b true] := by
  unfold laws_FnExactPipelineText
  rw [szStepS_some _ l 1048576 (by omega) (by omega) hn, Option.bind_some]
  simp only [gi0]
  by_cases h : (1048576 : Int) < (l.length : Int)
  · rw [if_pos h]; rfl
  · rw [if_neg h, bif_f (ltI_f (by omega))]
    have hml : (l.map nrm).length = l.length := List.length_map ..
    have hm : ∀ (j : Nat) (m : Nat), I64 (ri (l.map nrm) (j : Int) m) := by
      intro j m
      have z : I64 0 := ⟨by decide, by decide⟩
      unfold ri
      rw [Int.toNat_natCast, List.getD_eq_getElem?_getD, List.getElem?_map]
      cases hj : l[j]? with
      | none => exact z
      | some r =>
        have hg : ∀ m, ri l (j : Int) m = gi r m := fun m => by unfold ri; rw [Int.toNat_natCast, List.getD_eq_getElem?_getD, hj]; rfl
        match m with
        | 0 => exact hg 0 ▸ hi j 0
        | 1 => exact hg 1 ▸ hi j 1
        | 2 => exact hg 2 ▸ hi j 2
        | 3 => exact hg 3 ▸ hi j 3
        | 4 => exact hg 4 ▸ hi j 4
        | 5 => exact hg 5 ▸ hi j 5
        | 6 => exact hg 6 ▸ hi j 6
        | 7 => exact hg 7 ▸ hi j 7
        | 8 => exact hg 8 ▸ hi j 8
        | 9 => exact hg 9 ▸ hi j 9
        | 10 => exact hg 10 ▸ hi j 10
        | 11 => exact hg 11 ▸ hi j 11
        | 12 => exact hg 12 ▸ hi j 12
        | 13 => exact hg 13 ▸ hi j 13
        | 14 => exact hg 14 ▸ hi j 14
        | 15 => exact hg 15 ▸ hi j 15
        | m + 16 => exact z
    obtain ⟨t, e1, e2⟩ := pipelineText_same (l.length + 30) (by omega) (l.map nrm) (by omega) (by omega) hm
    simp only [toStepS_some _ l (show l.length ≤ 1048576 by omega) (show l.length < l.length + 30 by omega), Option.bind_some, gl0, e1, e2, gs0, eqStepS_refl _ (l.map nrm) (show (l.map nrm).length ≤ 1000000000 by omega) (show (l.map nrm).length < l.length + 30 by omega), gb0, beq_self_eq_true, Bool.not_true, cond_false]
theorem FnExactPipelineText_pure (zs : List (List Int)) (h1 : ∀ z ∈ zs, z.length = 16) (h2 : ∀ z ∈ zs, ∀ n ∈ z, (Lit.int .i64 n).wf = true) (h3 : zs.length ≤ 9223372036854775807) : ∃ k, laws_FnExactPipelineText k (zs.map fun z => z.map D.i) = some [.b true] := by
  refine ⟨_, pipeline_law _ (by rw [List.length_map]; exact h3) fun j m => ?_⟩
  have z : I64 0 := ⟨by decide, by decide⟩
  have e : (zs.map fun z => z.map D.i).getD (j : Int).toNat [] = ((zs[j]?).map fun z => z.map D.i).getD [] := by
    rw [Int.toNat_natCast, List.getD_eq_getElem?_getD, List.getElem?_map]
  unfold ri
  rw [e]
  cases hj : zs[j]? with
  | none => exact z
  | some r =>
    have e' : gi (r.map D.i) m = ((r[m]?).map D.i |>.getD .j).int := by
      unfold gi
      rw [List.getD_eq_getElem?_getD, List.getElem?_map]
    show I64 (gi (r.map D.i) m)
    rw [e']
    cases hm : r[m]? with
    | none => exact z
    | some n => exact I64_of (h2 r (List.mem_of_getElem? hj) n (List.mem_of_getElem? hm))
end Go.Proofs.YthafgljgccebiaaDoor.Ev
