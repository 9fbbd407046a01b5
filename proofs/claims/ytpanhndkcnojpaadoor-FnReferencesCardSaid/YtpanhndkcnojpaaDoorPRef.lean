/- FnReferences: the plain law. No condition. -/
import Derived.Test.YtpanhndkcnojpaaDoorPGrt
namespace Go.Proofs.YtpanhndkcnojpaaDoor.Ev
open Go Go.RowKit
set_option linter.unusedSimpArgs false
set_option linter.unusedVariables false
noncomputable def gtail (k : Nat) (a1 : List (List D)) (x y : Int) : Option (List D) := (laws_a2At k a1 3 4).bind fun t50 => (impl_GeorefOf k x y (IntKind.wrap .i64 (1 + (gi t50 0)))).bind fun t51 => (impl_GeorefBox k (gs t51 0)).bind fun t52 => (bif ((gi t51 1) == 0) then (bif (gb t52 4) then (impl_InGeoref k (gs t51 0) x y).bind fun t53 => (bif (gb t53 0) then (impl_InGeoref k (gs t51 0) (gi t52 0) (gi t52 1)).bind fun t54 => (bif (gb t54 0) then (impl_InGeoref k (gs t51 0) (gi t52 2) (gi t52 3)).bind fun t55 => some [.b (gb t55 0)] else some [.b false]) else some [.b false]) else some [.b false]) else some [.b false])
theorem gtail_ok (k : Nat) (hk : 40 ≤ k) {l : List (List D)} (hl : Bytes l) {a b : Int} (h : PtQ a b) : gtail k l a b = some [.b true] := by
  obtain ⟨v, e, v0, v1⟩ := a2At_ok k hl 3 4 (by omega) (by omega)
  obtain ⟨m, n, t, hm, hn, e1, e2⟩ := geo_of k hk (1 + v) (by omega) h
  have c1 := cx_lt m hm.1 b
  have c2 := cy_lt n hn.1 h.1
  obtain ⟨p, q, r, s, e3, h1, h2, ⟨g1, g2⟩, ⟨g3, g4⟩, _⟩ := box_at k _ _ m n hm.1 hm.2 hn.1 hn.2 c1 c2
  have hin : ∀ {x y : Int}, PtQ x y → cx_ m y = cx_ m b → cy_ n x = cy_ n a → impl_InGeoref k (bs t) x y = some [.b true] := fun {x y} hxy hx hy => by
    unfold impl_InGeoref
    rw [e2, Option.bind_some]
    simp only [gi0, giS, gb0, gbS, cond_true]
    rw [has_at k hxy _ _ m n hm.2 hn.2, Option.bind_some, decide_eq_true ⟨hx, hy⟩]
    rfl
  unfold gtail
  rw [e, Option.bind_some]
  simp only [gi0]
  rw [wr (1 + v) (by omega) (by omega), e1, Option.bind_some]
  simp only [gs0, giS, gi0]
  have hbox : impl_GeorefBox k (bs t) = some [.i p, .i q, .i r, .i s, .b true] := by
    unfold impl_GeorefBox
    rw [e2, Option.bind_some]
    simp only [gi0, giS, gb0, gbS, Bool.not_true, cond_false]
    rw [e3, Option.bind_some]
    rfl
  rw [hbox, Option.bind_some]
  simp only [gi0, giS, gb0, gbS, cond_true]
  rw [bif_t (beq_t rfl), hin h rfl rfl, Option.bind_some]
  simp only [gb0, cond_true]
  rw [hin h1 g1 g2, Option.bind_some]
  simp only [gb0, cond_true]
  rw [hin h2 g3 g4, Option.bind_some]
  rfl
noncomputable def stail (k : Nat) (a1 : List (List D)) (x y : Int) (s : ByteArray) : Option (List D) := (laws_a2At k a1 1 200).bind fun t43 => (laws_a2At k a1 2 9).bind fun t44 => (impl_ShiftLocator k s (IntKind.wrap .i64 ((gi t43 0) - 100)) (IntKind.wrap .i64 ((gi t44 0) - 4))).bind fun t45 => (bif ((gi t45 1) == 0) then let v46 : Int := IntKind.wrap .i64 (0 - (IntKind.wrap .i64 ((gi t43 0) - 100))); let v47 : Int := IntKind.wrap .i64 (0 - (IntKind.wrap .i64 ((gi t44 0) - 4))); (impl_ShiftLocator k (gs t45 0) v46 v47).bind fun t48 => (bif ((gi t48 1) != 0) then some [.b false] else let v49 : Bool := (!((gs t48 0).toList == s.toList)); (bif v49 then some [.b false] else gtail k a1 x y)) else gtail k a1 x y)
theorem stail_ok (k : Nat) (hk : 40 ≤ k) {l : List (List D)} (hl : Bytes l) (P x y : Nat) (h1 : 1 ≤ P) (hP : P ≤ 5) (hx : x < side P) (hy : y < side P) {a b : Int} (h : PtQ a b) : stail k l a b (bs (lt P x y)) = some [.b true] := by
  obtain ⟨v, e, v0, v1⟩ := a2At_ok k hl 1 200 (by omega) (by omega)
  obtain ⟨w, e', w0, w1⟩ := a2At_ok k hl 2 9 (by omega) (by omega)
  obtain ⟨t, c, e1, e2⟩ := shift_back k P x y (by omega) h1 hP hx hy (v - 100) (w - 4) (by omega) (by omega)
  unfold stail
  rw [e, Option.bind_some]
  simp only [gi0]
  rw [e', Option.bind_some]
  simp only [gi0]
  rw [wr (v - 100) (by omega) (by omega), wr (w - 4) (by omega) (by omega), wr (0 - (v - 100)) (by omega) (by omega), wr (0 - (w - 4)) (by omega) (by omega), e1, Option.bind_some]
  simp only [gs0, gi0, giS]
  by_cases hc : c = 0
  · rw [bif_t (beq_t hc)]
    try dsimp only
    rw [e2 hc, Option.bind_some]
    simp only [gs0, gi0, giS]
    rw [bif_f (bne_f rfl), bs_beq, decide_eq_true rfl]
    exact gtail_ok k hk hl h
  · rw [bif_f (beq_f hc)]
    exact gtail_ok k hk hl h
theorem ref_core (k : Nat) (hk : 100 ≤ k) (a0 a1 : List (List D)) (h0 : a0.length ≤ 1048576 → Bytes a0) (h1 : a1.length ≤ 1048576 → Bytes a1) : laws_FnReferences k a0 a1 = some [.b true] := by
  unfold laws_FnReferences laws_a2Long
  try dsimp only
  by_cases g0 : 3000 < (a0.length : Int)
  · rw [bif_t (ltI_t g0)]; rfl
  rw [bif_f (ltI_f (by omega))]
  by_cases g1 : 3000 < (a1.length : Int)
  · rw [ltI_t g1]; rfl
  rw [ltI_f (by omega), Option.bind_some]
  simp only [gb0, cond_false]
  have b0 := h0 (by omega)
  have b1 := h1 (by omega)
  obtain ⟨a, b, c, d, e, f, ep, hp, hq⟩ := a2Points k (by omega) b0
  obtain ⟨v, ev, v0, v1⟩ := a2At_ok k b1 0 5 (by omega) (by omega)
  obtain ⟨P, hP⟩ : ∃ P : Nat, 1 + v = (P : Int) := ⟨(1 + v).toNat, by omega⟩
  have P1 : 1 ≤ P := by omega
  have P5 : P ≤ 5 := by omega
  have hs := side_le P P5
  have c1 := cx_lt (side P) (by omega) b
  have c2 := cy_lt (side P) (by omega) hp.1
  have c3 := cx_lt (side P) (by omega) d
  have c4 := cy_lt (side P) (by omega) hq.1
  obtain ⟨p, q, r, s, e3, k1, k2, i1, i2, i3⟩ := boxOf k P _ _ (by omega) P1 P5 c1 c2
  obtain ⟨o1, o2⟩ := i3 a hp.1 rfl
  rw [ep, Option.bind_some]
  simp only [gi0, giS]
  rw [ev, Option.bind_some]
  simp only [gi0, giS]
  have hw : IntKind.wrap .i64 (1 + v) = (P : Int) := by rw [wr _ (by omega) (by omega), hP]
  rw [hw, locOf k P (by omega) P1 P5 hp, Option.bind_some]
  simp only [gs0, gi0, giS]
  rw [e3, Option.bind_some]
  simp only [gi0, giS, gb0, gbS]
  rw [bif_f (bne_f rfl), Bool.not_true, cond_false, wr (2 * (P : Int)) (by omega) (by omega), bs_size, lt_length, bif_f (bne_f (show ((2 * P : Nat) : Int) = 2 * (P : Int) by omega))]
  rw [in_at k P _ _ (by omega) P1 P5 c1 c2 hp, decide_eq_true ⟨rfl, rfl⟩, Option.bind_some]
  simp only [gb0, Bool.not_true, cond_false]
  rw [in_at k P _ _ (by omega) P1 P5 c1 c2 k1, decide_eq_true i1, Option.bind_some]
  simp only [gb0, Bool.not_true, cond_false]
  rw [in_at k P _ _ (by omega) P1 P5 c1 c2 k2, decide_eq_true i2, Option.bind_some]
  simp only [gb0, Bool.not_true, cond_false]
  rw [bif_f (ltI_f o1), bif_f (ltI_f o2)]
  have l1 : impl_LocatorOf k a b 1 = _ := locOf k 1 (by omega) (by omega) (by omega) hp
  rw [l1, Option.bind_some]
  simp only [gs0, gi0, giS]
  rw [locOf k P (by omega) P1 P5 hq, Option.bind_some]
  simp only [gs0, gi0, giS]
  have h2 : ∀ x y : Int, ByteArray.extract (bs (lt P (cx_ (side P) y) (cy_ (side P) x))) (Int.toNat 0) (Int.toNat 2) = bs ((lt P (cx_ (side P) y) (cy_ (side P) x)).take 2) := fun x y => by
    have := ext_mid (lt P (cx_ (side P) y) (cy_ (side P) x)) 0 2
    rw [List.drop_zero] at this
    exact this
  have hpre : (lt P (cx_ (side P) b) (cy_ (side P) a)).take 2 = lt 1 (cx_ (side 1) b) (cy_ (side 1) a) := pre_at P 1 P1 a b
  have s2 : inS 0 2 ((2 * P : Nat) : Int) = true := inS_t (by decide) (by decide) (by omega)
  simp only [bs_size, lt_length, s2, cond_true, h2]
  rw [bif_f (bne_f rfl), bif_f (bne_f rfl), bif_f (bne_f (by rfl)), bif_f (bne_f rfl), bs_beq, decide_eq_true hpre]
  simp only [Bool.not_true, cond_false]
  have hin : impl_InLocator k (bs (lt P (cx_ (side P) b) (cy_ (side P) a))) c d = some [.b ((bs (lt P (cx_ (side P) b) (cy_ (side P) a))).toList == (bs (lt P (cx_ (side P) d) (cy_ (side P) c))).toList)] := by
    rw [in_at k P _ _ (by omega) P1 P5 c1 c2 hq, bs_beq]
    congr 3
    refine decide_eq_decide.2 ⟨fun h => by rw [h.1, h.2], fun h => ?_⟩
    obtain ⟨x, y⟩ := lt_inj P _ _ _ _ P1 P5 c1 c2 c3 c4 h
    exact ⟨x.symm, y.symm⟩
  rw [hin, Option.bind_some]
  simp only [gb0, beq_self_eq_true, Bool.not_true, cond_false]
  obtain ⟨j, j1, j2, j3, j4⟩ := common_at k P (by omega) P1 P5 hp hq
  rw [j4, Option.bind_some]
  simp only [gs0, gbS, gb0, bs_beq, j3, beq_self_eq_true, Bool.not_true, cond_false]
  have fin := stail_ok k (by omega) b1 P _ _ P1 P5 c1 c2 hp
  rw [← j3]
  by_cases hj : 0 < j
  · have sj := side_le j (by omega)
    have d1 := cx_lt (side j) (by omega) b
    have d2 := cy_lt (side j) (by omega) hp.1
    have e1 : impl_InLocator k (bs (lt j (cx_ (side j) b) (cy_ (side j) a))) a b = some [.b true] := by
      rw [in_at k j _ _ (by omega) hj (by omega) d1 d2 hp, decide_eq_true ⟨rfl, rfl⟩]
    have e2 : impl_InLocator k (bs (lt j (cx_ (side j) b) (cy_ (side j) a))) c d = some [.b true] := by
      have d3 := cx_lt (side j) (by omega) d
      have d4 := cy_lt (side j) (by omega) hq.1
      rw [j2, in_at k j _ _ (by omega) hj (by omega) d3 d4 hq, decide_eq_true ⟨rfl, rfl⟩]
    rw [decide_eq_true hj, cond_true, e1, Option.bind_some]
    simp only [gb0, Bool.not_true, cond_false]
    rw [e2, Option.bind_some]
    simp only [gb0, Bool.not_true, cond_false]
    exact fin
  · rw [decide_eq_false hj, cond_false]
    exact fin
theorem bytes_of (zs : List (List Int)) (h1 : ∀ z ∈ zs, z.length = 1) (h2 : ∀ z ∈ zs, ∀ n ∈ z, (Lit.int .u8 n).wf = true) (h3 : (zs.map fun z => z.map D.i).length ≤ 1048576) : Bytes (zs.map fun z => z.map D.i) := by
  refine ⟨fun i => ?_, h3⟩
  rw [gil, List.getD_eq_getElem?_getD, List.getElem?_map]
  cases hz : zs[i.toNat]? with
  | none => exact ⟨by decide, by decide⟩
  | some z =>
    have hm := List.mem_of_getElem? hz
    have hl := h1 z hm
    match z, hl, h2 z hm with
    | [n], _, hw =>
      have := hw n (by simp)
      simp [Lit.wf, IntKind.min, IntKind.max, IntKind.bits, IntKind.signed] at this
      exact this
theorem FnReferences_pure (zs0 zs1 : List (List Int)) (h1 : ∀ z ∈ zs0, z.length = 1) (h2 : ∀ z ∈ zs0, ∀ n ∈ z, (Lit.int .u8 n).wf = true) (h3 : zs0.length ≤ 9223372036854775807) (g1 : ∀ z ∈ zs1, z.length = 1) (g2 : ∀ z ∈ zs1, ∀ n ∈ z, (Lit.int .u8 n).wf = true) (g3 : zs1.length ≤ 9223372036854775807) : ∃ k, laws_FnReferences k (zs0.map fun z => z.map D.i) (zs1.map fun z => z.map D.i) = some [.b true] :=
  ⟨100, ref_core 100 (by decide) _ _ (bytes_of zs0 h1 h2) (bytes_of zs1 g1 g2)⟩
end Go.Proofs.YtpanhndkcnojpaaDoor.Ev
