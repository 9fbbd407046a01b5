/- The law FnExactReadTileKey: the program's ReadTileKey and the reference's return the same tile and word. No condition. -/
import Derived.Test.YtillihiadpgalaaDoorCFnExactReadTileKeyx1
import Derived.Test.YtillihiadpgalaaDoorCFnExactReadTileKeyIn
namespace Go.Proofs.YtillihiadpgalaaDoor.Pure
open Go.RowKit Go.Proofs.YtillihiadpgalaaDoor.P Go.Proofs.YtillihiadpgalaaDoorW.PrintWords Go.Proofs.YtillihiadpgalaaDoorW.PrintLast

theorem dropWhile_nil_iff {α : Type} (p : α → Bool) (l : List α) : l.dropWhile p = [] ↔ ∀ b ∈ l, p b = true := by
  induction l with
  | nil => simp
  | cons a l ih =>
    rw [List.dropWhile_cons]
    cases h : p a with
    | true => rw [if_pos rfl, ih]; simp [h]
    | false => simp [h]
theorem trim_nil_iff (l cs : List UInt8) : Lib.trimS l cs = [] ↔ ∀ b ∈ l, cs.contains b = true := by
  unfold Lib.trimS Lib.trimLeftS Lib.trimRightS
  rw [dropWhile_nil_iff]
  constructor
  · intro h b hb
    cases hc : cs.contains b with
    | true => rfl
    | false =>
      have key : ∀ m : List UInt8, b ∈ m → b ∈ m.dropWhile (cs.contains ·) := by
        intro m
        induction m with
        | nil => intro h; cases h
        | cons a m ih =>
          intro hm
          rw [List.dropWhile_cons]
          cases ha : cs.contains a with
          | true =>
            rw [if_pos rfl]
            rcases List.mem_cons.1 hm with rfl | hm
            · rw [hc] at ha; cases ha
            · exact ih hm
          | false => rw [if_neg (by decide)]; exact hm
      have := h b (List.mem_reverse.2 (key l.reverse (List.mem_reverse.2 hb)))
      rw [hc] at this
      cases this
  · intro h b hb
    have hb' := List.mem_reverse.1 hb
    have : b ∈ l.reverse := (List.dropWhile_sublist _).subset hb'
    exact h b (List.mem_reverse.1 this)

theorem digit_iff (b : UInt8) : ([48, 49, 50, 51] : List UInt8).contains b = true ↔ 0 ≤ (b.toNat : Int) - 48 ∧ (b.toNat : Int) - 48 ≤ 3 := by
  have e : ∀ c : UInt8, b = c ↔ b.toNat = c.toNat := fun c => UInt8.toNat_inj.symm
  simp only [List.contains_cons, List.contains_nil, Bool.or_false, Bool.or_eq_true, beq_iff_eq, e]
  show b.toNat = 48 ∨ b.toNat = 49 ∨ b.toNat = 50 ∨ b.toNat = 51 ↔ _
  omega

/-- All bytes from i on are digits of a key. -/
def Good (s : ByteArray) (i : Int) : Prop := ∀ j : Int, i ≤ j → j < s.size → 0 ≤ bt s j - 48 ∧ bt s j - 48 ≤ 3

theorem good_iff (s : ByteArray) : Lib.trimS s.data.toList [48, 49, 50, 51] = [] ↔ Good s 0 := by
  rw [trim_nil_iff]
  constructor
  · intro h j h0 h1
    have hj : j.toNat < s.size := by omega
    have e : bt s j = ((s[j.toNat]'hj).toNat : Int) := (bt_at s j hj).symm
    rw [e]
    exact (digit_iff _).1 (h _ (by
      show s.data[j.toNat] ∈ s.data.toList
      exact Array.mem_toList_iff.2 (Array.getElem_mem _)))
  · intro h b hb
    obtain ⟨n, hn, rfl⟩ := List.getElem_of_mem hb
    have hn' : n < s.size := by rw [Array.length_toList] at hn; exact hn
    have := h n (by omega) (by omega)
    have e : bt s n = ((s[(n : Int).toNat]'(by simpa using hn')).toNat : Int) := (bt_at s n (by simpa using hn')).symm
    rw [e] at this
    exact (digit_iff _).2 this

theorem bad_l0 (s : ByteArray) (hs : s.size ≤ 20) (d : Nat) : ∀ (i l x y : Int), 0 ≤ i → i + d = s.size → ¬ Good s i → spec_ReadTileKey.l0 (d + 1) s i l x y = some (0, 0, 0, false) := by
  induction d with
  | zero =>
    intro i l x y h0 h hg
    exact absurd (fun j h1 h2 => by omega) hg
  | succ d ih =>
    intro i l x y h0 h hg
    obtain ⟨b0, b1⟩ := bt_range s i
    rw [spec_ReadTileKey.l0, if_pos (by omega), if_pos h0, w64 (bt s i) (by omega) (by omega), w64 (bt s i - 48) (by omega) (by omega), in_some]
    simp only [Option.bind_some]
    by_cases hd : 0 ≤ bt s i - 48 ∧ bt s i - 48 ≤ 3
    · rw [decide_eq_true hd, if_pos rfl, w64 (i + 1) (by omega) (by omega)]
      refine ih _ _ _ _ (by omega) (by omega) (fun hn => hg fun j h1 h2 => ?_)
      by_cases hj : j = i
      · rw [hj]; exact hd
      · exact hn j (by omega) h2
    · rw [decide_eq_false hd, if_neg (by decide)]

theorem good_l0 (s : ByteArray) (hs : s.size ≤ 20) (d : Nat) : ∀ (i l x y : Int), 0 ≤ i → i + d = s.size → Good s i → ∃ r, spec_ReadTileKey.l0 (d + 1) s i l x y = some r ∧ impl_ReadTileKey.l0 (d + 1) s s.size i l x y = some r := by
  induction d with
  | zero =>
    intro i l x y h0 h hg
    exact ⟨_, by rw [spec_ReadTileKey.l0, if_neg (by omega)], by rw [impl_ReadTileKey.l0, if_neg (by omega)]⟩
  | succ d ih =>
    intro i l x y h0 h hg
    obtain ⟨b0, b1⟩ := bt_range s i
    have hd := hg i (Int.le_refl _) (by omega)
    rw [spec_ReadTileKey.l0, impl_ReadTileKey.l0, if_pos (by omega), if_pos (show i < (s.size : Int) by omega), if_pos h0, if_pos h0, if_pos (show i < (s.size : Int) by omega), w64 (bt s i) (by omega) (by omega), w64 (bt s i - 48) (by omega) (by omega), in_some]
    simp only [Option.bind_some]
    have e1 : Int.tmod (bt s i - 48) 2 = (bt s i - 48) % 2 := tmod_pos _ _ hd.1
    have e2 : wrap64 (Int.tdiv (bt s i - 48) 2) = (bt s i - 48) % 256 / 2 := by rw [tdiv_pos _ _ hd.1, w64 _ (by omega) (by omega), Int.emod_eq_of_lt hd.1 (by omega)]
    rw [decide_eq_true hd, if_pos rfl, w64 (i + 1) (by omega) (by omega), e1, e2]
    exact ih _ _ _ _ (by omega) (by omega) fun j h1 h2 => hg j (by omega) h2

theorem readKey_eq (s : ByteArray) (hs : s.size ≤ 140737488351232) : ∃ r, spec_ReadTileKey.f 22 s = some r ∧ impl_ReadTileKey.f 22 s = some r := by
  unfold spec_ReadTileKey.f impl_ReadTileKey.f impl_isLevel.f
  simp only [within_some, Option.bind_some]
  by_cases h : (s.size : Int) > 20
  · rw [if_pos h, decide_eq_false (by omega), if_neg (by decide), impl_ReadTileKey.j0, if_pos rfl]
    exact ⟨_, rfl, rfl⟩
  · rw [if_neg h, decide_eq_true (by omega), if_pos rfl]
    have ht : strings_Trim.f s ⟨#[48, 49, 50, 51]⟩ = some ⟨(Lib.trimS s.data.toList [48, 49, 50, 51]).toArray⟩ := by
      unfold strings_Trim.f
      rw [if_pos ⟨by omega, by decide, by decide⟩]
    rw [ht, Option.bind_some]
    have hl : (⟨(Lib.trimS s.data.toList [48, 49, 50, 51]).toArray⟩ : ByteArray).toList = Lib.trimS s.data.toList [48, 49, 50, 51] := ByteArray.toList_mk _
    rw [hl]
    by_cases hg : Good s 0
    · obtain ⟨r, h1, h2⟩ := good_l0 s (by omega) s.size 0 s.size 0 0 (Int.le_refl _) (by omega) hg
      rw [(good_iff s).2 hg, impl_ReadTileKey.j0, if_neg (by decide)]
      exact ⟨r, at_rounds (g := fun k => spec_ReadTileKey.l0 k s 0 s.size 0 0) (fun k => spec_ReadTileKey.mono_l k _ _ _ _ _) (k := s.size + 1) (by omega) h1, at_rounds (g := fun k => impl_ReadTileKey.l0 k s s.size 0 s.size 0 0) (fun k => (impl_ReadTileKey.mono_l k).2 _ _ _ _ _ _) (k := s.size + 1) (by omega) h2⟩
    · have hb := bad_l0 s (by omega) s.size 0 s.size 0 0 (Int.le_refl _) (by omega) hg
      have hne : ((Lib.trimS s.data.toList [48, 49, 50, 51]) != ([] : List UInt8)) = true := by
        rw [bne_iff_ne]
        exact fun he => hg ((good_iff s).1 he)
      rw [hne, impl_ReadTileKey.j0, if_pos rfl]
      exact ⟨_, at_rounds (g := fun k => spec_ReadTileKey.l0 k s 0 s.size 0 0) (fun k => spec_ReadTileKey.mono_l k _ _ _ _ _) (k := s.size + 1) (by omega) hb, rfl⟩

theorem FnExactReadTileKey (a0 : ByteArray) (h0 : a0.size ≤ 140737488351232) : ∃ k, laws_FnExactReadTileKey.f k a0 = some true := by
  unfold laws_FnExactReadTileKey.f
  by_cases h : (a0.size : Int) > 1048576
  · exact ⟨0, by rw [if_pos h]⟩
  · obtain ⟨r, h1, h2⟩ := readKey_eq a0 h0
    refine ⟨22, ?_⟩
    rw [if_neg h, h1, h2]
    simp only [Option.bind_some, laws_eqTile.f, if_true, bne_self_eq_false]
    rfl
end Go.Proofs.YtillihiadpgalaaDoor.Pure
