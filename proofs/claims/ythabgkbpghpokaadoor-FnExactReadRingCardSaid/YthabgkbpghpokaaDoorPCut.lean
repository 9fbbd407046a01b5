/- Texts cut in pieces, digits read: plain facts. No condition. -/
import Derived.Test.YthabgkbpghpokaaDoorPUt
import Derived.Lib.SplitLaws
import Derived.Lib.SlTrimSet
namespace Go.Proofs.YthabgkbpghpokaaDoor.Ev
open Go Go.RowKit
set_option linter.unusedSimpArgs false
set_option linter.unusedVariables false
theorem bs_eta (s : ByteArray) : s = bs s.data.toList := by cases s; rfl
theorem bs_data (l : List UInt8) : (bs l).data.toList = l := by unfold bs; simp
theorem bs_beq (a b : List UInt8) : ((bs a).toList == (bs b).toList) = decide (a = b) := by
  rw [Lib.toList_data, Lib.toList_data, bs_data, bs_data]
  by_cases h : a = b
  · subst h; simp
  · rw [decide_eq_false h]; exact beq_eq_false_iff_ne.2 h
theorem bt_at (l : List UInt8) (i : Nat) (b : UInt8) (h : l[i]? = some b) : bt (bs l) (i : Int) = (b.toNat : Int) := by
  unfold bt
  rw [bs_data, Int.toNat_natCast, List.getD_eq_getElem?_getD, h]; rfl
theorem ext_mid (l : List UInt8) (i j : Nat) : ByteArray.extract (bs l) (Int.toNat (i : Int)) (Int.toNat (j : Int)) = bs ((l.take j).drop i) := by
  apply ByteArray.ext
  rw [ByteArray.data_extract, Int.toNat_natCast, Int.toNat_natCast]
  unfold bs
  simp [List.extract]
  rw [List.drop_take]
/-! ### Digits -/
def isDg (u : UInt8) : Bool := decide (48 ≤ u.toNat) && decide (u.toNat ≤ 57)
def vl : List UInt8 → Nat → Nat
  | [], a => a
  | u :: l, a => vl l (bif isDg u then 10 * a + (u.toNat - 48) else a)
def ct : List UInt8 → Nat
  | [] => 0
  | u :: l => (bif isDg u then 1 else 0) + ct l
theorem vl_append : ∀ (a b : List UInt8) (n : Nat), vl (a ++ b) n = vl b (vl a n)
  | [], _, _ => rfl
  | _ :: a, b, n => vl_append a b _
theorem ct_append : ∀ (a b : List UInt8), ct (a ++ b) = ct a + ct b
  | [], b => by rw [List.nil_append, ct, Nat.zero_add]
  | u :: a, b => by rw [List.cons_append, ct, ct, ct_append a b]; omega
theorem vl_bound : ∀ (l : List UInt8) (a P : Nat), a < P → vl l a < P * 10 ^ l.length
  | [], a, P, h => by simpa [vl] using h
  | u :: l, a, P, h => by
    have h1 : (bif isDg u then 10 * a + (u.toNat - 48) else a) < P * 10 := by
      cases hd : isDg u with
      | false => show a < P * 10; omega
      | true =>
        unfold isDg at hd
        rw [Bool.and_eq_true, decide_eq_true_iff, decide_eq_true_iff] at hd
        show 10 * a + (u.toNat - 48) < P * 10
        omega
    have := vl_bound l _ _ h1
    rw [List.length_cons, Nat.pow_succ', ← Nat.mul_assoc]
    exact this
theorem dg_of (n : Nat) (h : n < 10) : isDg (UInt8.ofNat (48 + n)) = true ∧ (UInt8.ofNat (48 + n)).toNat = 48 + n := by
  have e : (UInt8.ofNat (48 + n)).toNat = 48 + n := by rw [UInt8.toNat_ofNat']; omega
  refine ⟨?_, e⟩
  unfold isDg
  rw [e, decide_eq_true (by omega), decide_eq_true (by omega)]; rfl
theorem vl_dig : ∀ (d x a : Nat), vl (dig d x) a = a * 10 ^ d + x % 10 ^ d
  | 0, x, a => by rw [dig, vl, Nat.pow_zero, Nat.mod_one]; omega
  | d + 1, x, a => by
    obtain ⟨h1, h2⟩ := dg_of (x % 10) (by omega)
    rw [dig, vl_append, vl_dig d, vl, vl, h1, h2, cond_true, Nat.pow_succ', Nat.mod_mul, Nat.mul_comm a (10 * 10 ^ d), Nat.mul_assoc, Nat.mul_comm (10 ^ d) a, Nat.mul_add]
    omega
theorem ct_dig : ∀ (d x : Nat), ct (dig d x) = d
  | 0, x => rfl
  | d + 1, x => by
    obtain ⟨h1, h2⟩ := dg_of (x % 10) (by omega)
    rw [dig, ct_append, ct_dig d, ct, ct, h1]; rfl
theorem dig_dg : ∀ (d x : Nat), ∀ u ∈ dig d x, isDg u = true
  | 0, x, u, h => by cases h
  | d + 1, x, u, h => by
    rw [dig] at h
    rcases List.mem_append.1 h with h | h
    · exact dig_dg d _ u h
    · obtain rfl := List.mem_singleton.1 h; exact (dg_of (x % 10) (by omega)).1
theorem vl_zeros : ∀ z : Nat, vl (List.replicate z 48) 0 = 0
  | 0 => rfl
  | z + 1 => by rw [List.replicate_succ, vl]; exact vl_zeros z
theorem vl_dec (q : Nat) (h : q < 10 ^ 19) : vl (Lib.decDigits q) 0 = q := by
  have h1 := (dec_pad 19 q (by decide) h).2
  have h2 := vl_dig 19 q 0
  rw [← h1, vl_append, vl_zeros, Nat.mod_eq_of_lt h] at h2
  omega
theorem dec_dg (q : Nat) (h : q < 10 ^ 19) : ∀ u ∈ Lib.decDigits q, isDg u = true := fun u hu => by
  have h1 := (dec_pad 19 q (by decide) h).2
  exact dig_dg 19 q u (by rw [← h1]; exact List.mem_append_right _ hu)
theorem not_dg {u : UInt8} (h : isDg u = true) : u ≠ 45 ∧ u ≠ 46 ∧ u ≠ 32 ∧ u ≠ 59 := by
  refine ⟨?_, ?_, ?_, ?_⟩ <;> (rintro rfl; cases h)
/-- The text of a number of degrees, taken apart. -/
theorem uT_parts (m : Int) (h : -2000000000 ≤ m ∧ m ≤ 2000000000) : ∃ W F : List UInt8, uT m 7 = (if m < 0 then [45] else []) ++ W ++ ([46] ++ F) ∧ (∀ u ∈ W, isDg u = true) ∧ (∀ u ∈ F, isDg u = true) ∧ (1 ≤ W.length ∧ W.length ≤ 3) ∧ F.length = 7 ∧ vl (W ++ F) 0 = m.natAbs ∧ vl W 0 * 10 ^ 7 + vl F 0 = m.natAbs := by
  have hq : m.natAbs / 10 ^ 7 ≤ 200 := by omega
  refine ⟨Lib.decDigits (m.natAbs / 10 ^ 7), dig 7 (m.natAbs % 10 ^ 7), rfl, dec_dg _ (by omega), dig_dg _ _, ⟨dec_ne _, (dec_pad 3 _ (by decide) (by omega)).1⟩, dig_length _ _, ?_, ?_⟩
  · rw [vl_append, vl_dec _ (by omega), vl_dig]; omega
  · rw [vl_dec _ (by omega), vl_dig]; omega
theorem vl_uT (m : Int) (h : -2000000000 ≤ m ∧ m ≤ 2000000000) : vl (uT m 7) 0 = m.natAbs ∧ 0 < ct (uT m 7) ∧ (uT m 7).length ≤ 12 := by
  obtain ⟨W, F, e, hW, hF, hl, hf, hv, _⟩ := uT_parts m h
  rw [vl_append] at hv
  rw [e]
  have h1 : vl (if m < 0 then [45] else []) 0 = 0 := by split <;> rfl
  have h2 : (if m < 0 then [45] else ([] : List UInt8)).length ≤ 1 := by split <;> simp
  refine ⟨?_, ?_, ?_⟩
  · rw [vl_append, vl_append, vl_append, h1, ← hv]; rfl
  · rw [ct_append, ct_append, ct_append]
    obtain ⟨u, W', rfl⟩ : ∃ u W', W = u :: W' := by cases W with | nil => simp at hl | cons u W' => exact ⟨u, W', rfl⟩
    rw [ct, hW u (List.mem_cons_self ..)]
    show 0 < _ + (1 + _) + _
    omega
  · simp only [List.length_append, List.length_singleton]; omega
theorem uT_mem (m : Int) (h : -2000000000 ≤ m ∧ m ≤ 2000000000) : ∀ u ∈ uT m 7, u ≠ 32 ∧ u ≠ 59 := by
  obtain ⟨W, F, e, hW, hF, hl, hf, hv, _⟩ := uT_parts m h
  intro u hu
  rw [e] at hu
  rcases List.mem_append.1 hu with hu | hu
  · rcases List.mem_append.1 hu with hu | hu
    · split at hu
      · obtain rfl := List.mem_singleton.1 hu; exact ⟨by decide, by decide⟩
      · cases hu
    · exact (not_dg (hW u hu)).2.2
  · rcases List.mem_append.1 hu with hu | hu
    · obtain rfl := List.mem_singleton.1 hu; exact ⟨by decide, by decide⟩
    · exact (not_dg (hF u hu)).2.2
theorem uT_head (m : Int) (h : -2000000000 ≤ m ∧ m ≤ 2000000000) : ∃ u l, uT m 7 = u :: l ∧ (u = 45 ↔ m < 0) := by
  obtain ⟨W, F, e, hW, hF, hl, hf, hv, _⟩ := uT_parts m h
  rw [e]
  by_cases hm : m < 0
  · rw [if_pos hm]; exact ⟨45, _, rfl, fun _ => hm, fun _ => rfl⟩
  · rw [if_neg hm]
    obtain ⟨u, W', rfl⟩ : ∃ u W', W = u :: W' := by cases W with | nil => simp at hl | cons u W' => exact ⟨u, W', rfl⟩
    exact ⟨u, _, rfl, fun e => absurd e (not_dg (hW u (List.mem_cons_self ..))).1, fun e => absurd e hm⟩
/-! ### Cut at a byte -/
theorem index_hit1 (c : UInt8) : ∀ (p q : List UInt8), c ∉ p → Lib.index (p ++ c :: q) [c] = (p.length : Int)
  | [], q, _ => by rw [List.nil_append, Lib.index, if_pos (by simp [List.isPrefixOf])]; rfl
  | b :: p, q, h => by
    have hb : c ≠ b := fun e => h (by rw [e]; exact List.mem_cons_self ..)
    rw [List.cons_append, Lib.index, if_neg (by simp [List.isPrefixOf, hb]), index_hit1 c p q fun hm => h (List.mem_cons_of_mem _ hm), if_neg (by rw [beq_iff_eq]; omega), List.length_cons]
    omega
theorem index_miss1 (c : UInt8) : ∀ l : List UInt8, c ∉ l → Lib.index l [c] = -1
  | [], _ => rfl
  | b :: l, h => by
    have hb : c ≠ b := fun e => h (by rw [e]; exact List.mem_cons_self ..)
    rw [Lib.index, if_neg (by simp [List.isPrefixOf, hb]), index_miss1 c l fun hm => h (List.mem_cons_of_mem _ hm)]; rfl
theorem cut_hit1 (c : UInt8) (p q : List UInt8) (h : c ∉ p) : Lib.cut (p ++ c :: q) [c] = (p, q, true) := by
  unfold Lib.cut
  rw [index_hit1 c p q h, if_pos (by omega), Int.toNat_natCast]
  simp
theorem cut_miss1 (c : UInt8) (l : List UInt8) (h : c ∉ l) : Lib.cut l [c] = (l, [], false) := by
  unfold Lib.cut
  rw [index_miss1 c l h, if_neg (by omega)]
theorem cut_cases (c : UInt8) (l : List UInt8) : (c ∉ l ∧ Lib.cut l [c] = (l, [], false)) ∨ ∃ p q, l = p ++ c :: q ∧ c ∉ p ∧ Lib.cut l [c] = (p, q, true) := by
  by_cases h : c ∈ l
  · obtain ⟨p, q, e, hp⟩ := List.eq_append_cons_of_mem h
    exact .inr ⟨p, q, e, hp, by rw [e]; exact cut_hit1 c p q hp⟩
  · exact .inl ⟨h, cut_miss1 c l h⟩
/-! ### Pieces -/
def glue (a : List UInt8) : List (List UInt8) → List (List UInt8)
  | [] => [a]
  | p :: ps => (a ++ p) :: ps
theorem glue_nil : ∀ {ps : List (List UInt8)}, ps ≠ [] → glue [] ps = ps
  | [], h => absurd rfl h
  | p :: ps, _ => rfl
theorem glue_glue (a b : List UInt8) : ∀ ps, glue a (glue b ps) = glue (a ++ b) ps
  | [] => rfl
  | p :: ps => by show (a ++ (b ++ p)) :: ps = (a ++ b ++ p) :: ps; rw [List.append_assoc]
def spl (c : UInt8) : List UInt8 → List (List UInt8)
  | [] => [[]]
  | b :: l => if b = c then [] :: spl c l else glue [b] (spl c l)
def spl2 : List UInt8 → List (List UInt8)
  | [] => [[]]
  | [b] => [[b]]
  | b :: c :: l => if b = 59 ∧ c = 32 then [] :: spl2 l else glue [b] (spl2 (c :: l))
theorem glue_ne (a : List UInt8) : ∀ ps, glue a ps ≠ []
  | [] => List.cons_ne_nil _ _
  | p :: ps => List.cons_ne_nil _ _
theorem spl_ne (c : UInt8) : ∀ l, spl c l ≠ []
  | [] => List.cons_ne_nil _ _
  | b :: l => by
    unfold spl
    split
    · exact List.cons_ne_nil _ _
    · exact glue_ne _ _
theorem spl2_ne (l : List UInt8) : spl2 l ≠ [] := by
  unfold spl2
  split
  · exact List.cons_ne_nil _ _
  · exact List.cons_ne_nil _ _
  · split
    · exact List.cons_ne_nil _ _
    · exact glue_ne _ _
theorem spl_none (c : UInt8) : ∀ l, c ∉ l → spl c l = [l]
  | [], _ => rfl
  | b :: l, h => by
    have hb : b ≠ c := fun e => h (by rw [e]; exact List.mem_cons_self ..)
    rw [spl, if_neg hb, spl_none c l fun hm => h (List.mem_cons_of_mem _ hm)]; rfl
theorem spl_cut (c : UInt8) : ∀ p q, c ∉ p → spl c (p ++ c :: q) = p :: spl c q
  | [], q, _ => by rw [List.nil_append, spl, if_pos rfl]
  | b :: p, q, h => by
    have hb : b ≠ c := fun e => h (by rw [e]; exact List.mem_cons_self ..)
    rw [List.cons_append, spl, if_neg hb, spl_cut c p q fun hm => h (List.mem_cons_of_mem _ hm)]; rfl
theorem splitK_cons (b : UInt8) (l : List UInt8) (h : List.isPrefixOf [59, 32] (b :: l) = false) : ∀ n, Lib.splitK [59, 32] 0 n (b :: l) = glue [b] (Lib.splitK [59, 32] 0 n l)
  | 0 => rfl
  | n + 1 => by
    have hix : Lib.index (b :: l) [59, 32] = if Lib.index l [59, 32] == -1 then -1 else Lib.index l [59, 32] + 1 := by rw [Lib.index, h]; simp
    have hge := Lib.index_ge l [59, 32]
    unfold Lib.splitK
    rw [hix]
    by_cases hm : Lib.index l [59, 32] = -1
    · rw [if_pos (beq_iff_eq.2 hm), if_pos (beq_iff_eq.2 hm)]; rfl
    · obtain ⟨j, hj⟩ : ∃ j : Nat, Lib.index l [59, 32] = j := ⟨(Lib.index l [59, 32]).toNat, by omega⟩
      rw [if_neg (fun e => hm (beq_iff_eq.1 e)), if_neg (fun e => hm (beq_iff_eq.1 e)), hj, if_neg (by rw [beq_iff_eq]; omega), show ((j : Int) + 1).toNat = j + 1 by omega, Int.toNat_natCast]
      show List.take (j + 1 + 0) (b :: l) :: Lib.splitK [59, 32] 0 n (List.drop (j + 1 + 2) (b :: l)) = ([b] ++ List.take (j + 0) l) :: Lib.splitK [59, 32] 0 n (List.drop (j + 2) l)
      rw [show j + 1 + 2 = (j + 2) + 1 by omega, List.drop_succ_cons]
      rfl
theorem count_cons2 (b : UInt8) (l : List UInt8) (h : List.isPrefixOf [59, 32] (b :: l) = false) : Lib.count (b :: l) [59, 32] = Lib.count l [59, 32] := by
  have hix : Lib.index (b :: l) [59, 32] = if Lib.index l [59, 32] == -1 then -1 else Lib.index l [59, 32] + 1 := by rw [Lib.index, h]; simp
  by_cases hm : Lib.index l [59, 32] = -1
  · rw [Lib.count_miss hm, Lib.count_miss (by rw [hix, if_pos (beq_iff_eq.2 hm)])]
  · have hge := Lib.index_ge l [59, 32]
    obtain ⟨j, hj⟩ : ∃ j : Nat, Lib.index l [59, 32] = j := ⟨(Lib.index l [59, 32]).toNat, by omega⟩
    have hix' : Lib.index (b :: l) [59, 32] = ((j + 1 : Nat) : Int) := by rw [hix, if_neg (fun e => hm (beq_iff_eq.1 e)), hj]; omega
    rw [Lib.count_hit (by simp) hj, Lib.count_hit (by simp) hix']
    simp
theorem split_spl2 : ∀ l : List UInt8, Lib.splitK [59, 32] 0 (Lib.count l [59, 32]) l = spl2 l
  | [] => rfl
  | [b] => by
    have h : List.isPrefixOf [59, 32] [b] = false := by simp [List.isPrefixOf]
    rw [count_cons2 b [] h, splitK_cons b [] h, split_spl2 []]
    rfl
  | b :: c :: l => by
    by_cases hb : b = 59 ∧ c = 32
    · obtain ⟨rfl, rfl⟩ := hb
      have hix : Lib.index (59 :: 32 :: l) [59, 32] = ((0 : Nat) : Int) := by rw [Lib.index, if_pos (by simp [List.isPrefixOf])]; rfl
      rw [Lib.count_hit (by simp) hix, Nat.add_comm, Lib.splitK, hix, if_neg (by decide)]
      show [] :: Lib.splitK [59, 32] 0 (Lib.count l [59, 32]) l = _
      rw [split_spl2 l, spl2, if_pos ⟨rfl, rfl⟩]
    · have h : List.isPrefixOf [59, 32] (b :: c :: l) = false := by
        simp only [List.isPrefixOf, Bool.and_true, Bool.and_eq_false_iff, beq_eq_false_iff_ne]
        by_cases h1 : b = 59
        · exact .inr fun e => hb ⟨h1, e.symm⟩
        · exact .inl fun e => h1 e.symm
      rw [count_cons2 b (c :: l) h, splitK_cons b (c :: l) h, split_spl2 (c :: l)]
      rw [spl2, if_neg hb]
end Go.Proofs.YthabgkbpghpokaaDoor.Ev
