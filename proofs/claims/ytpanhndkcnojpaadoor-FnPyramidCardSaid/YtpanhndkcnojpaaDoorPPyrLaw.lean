/- FnPyramid: the plain law. No condition. -/
import Derived.Test.YtpanhndkcnojpaaDoorPKey
namespace Go.Proofs.YtpanhndkcnojpaaDoor.Ev
open Go Go.RowKit
set_option linter.unusedSimpArgs false
set_option linter.unusedVariables false
noncomputable def pyNear (k : Nat) (a1 : List (List D)) (p0 p1 p2 : Int) : Option (List D) := (laws_d8At k a1 0 5).bind fun t21 => (impl_NeighbourOf k p0 p1 p2 (IntKind.wrap .i64 ((gi t21 0) - 2)) 0).bind fun t22 => (bif ((gi t22 3) != 0) then (spec_NeighbourOf k p0 p1 p2 (IntKind.wrap .i64 ((gi t21 0) - 2)) 0).bind fun t23 => some [.b ((gi t22 3) == (gi t23 3))] else let v24 : Int := IntKind.wrap .i64 (0 - (IntKind.wrap .i64 ((gi t21 0) - 2))); (impl_NeighbourOf k (gi t22 0) (gi t22 1) (gi t22 2) v24 0).bind fun t25 => (bif ((gi t25 3) == 0) then let v26 : Bool := (((gi t25 0) == p0) && (((gi t25 1) == p1) && (((gi t25 2) == p2) && true))); some [.b v26] else some [.b false]))
noncomputable def pyTail (k : Nat) (a1 : List (List D)) (p0 p1 p2 q0 q1 q2 : Int) (key : ByteArray) : Option (List D) := (impl_CommonTile k p0 p1 p2 q0 q1 q2).bind fun t9 => (impl_TileKey k (gi t9 0) (gi t9 1) (gi t9 2)).bind fun t10 => (impl_TileKey k q0 q1 q2).bind fun t11 => (bif ((gi t9 3) != 0) then some [.b false] else let v12 : Int := ((ByteArray.size (gs t10 0) : Nat) : Int); let v13 : Bool := (ltI ((ByteArray.size key : Nat) : Int) v12); (bif v13 then some [.b false] else let v14 : Int := ((ByteArray.size (gs t10 0) : Nat) : Int); let v15 : Int := ((ByteArray.size (gs t11 0) : Nat) : Int); (bif (ltI v15 v14) then some [.b false] else let v16 : Int := ((ByteArray.size (gs t10 0) : Nat) : Int); (bif (inS 0 v16 ((ByteArray.size key : Nat) : Int)) then let v17 : ByteArray := ByteArray.extract key (Int.toNat 0) (Int.toNat v16); (bif (!(v17.toList == (gs t10 0).toList)) then some [.b false] else let v18 : Int := ((ByteArray.size (gs t10 0) : Nat) : Int); (bif (inS 0 v18 ((ByteArray.size (gs t11 0) : Nat) : Int)) then let v19 : ByteArray := ByteArray.extract (gs t11 0) (Int.toNat 0) (Int.toNat v18); (bif (!(v19.toList == (gs t10 0).toList)) then some [.b false] else (bif (ltI ((ByteArray.size (gs t10 0) : Nat) : Int) ((ByteArray.size key : Nat) : Int)) then (bif (ltI ((ByteArray.size (gs t10 0) : Nat) : Int) ((ByteArray.size (gs t11 0) : Nat) : Int)) then (bif (inR ((ByteArray.size (gs t10 0) : Nat) : Int) ((ByteArray.size key : Nat) : Int)) then (bif (inR ((ByteArray.size (gs t10 0) : Nat) : Int) ((ByteArray.size (gs t11 0) : Nat) : Int)) then let v20 : Bool := ((bt key ((ByteArray.size (gs t10 0) : Nat) : Int)) == (bt (gs t11 0) ((ByteArray.size (gs t10 0) : Nat) : Int))); (bif v20 then some [.b false] else pyNear k a1 p0 p1 p2) else none) else none) else pyNear k a1 p0 p1 p2) else pyNear k a1 p0 p1 p2)) else none)) else none))))
theorem near_ok (k : Nat) {l : List (List D)} (hl : Bytes l) (L x y : Nat) (h : L ≤ 20) (hx : x < 2 ^ L) (hy : y < 2 ^ L) : pyNear k l L x y = some [.b true] := by
  obtain ⟨v, e, v0, v1⟩ := at_ok k hl
  unfold pyNear
  rw [e, Option.bind_some]
  simp only [gi0]
  have w : IntKind.wrap .i64 (v - 2) = v - 2 := wr _ (by omega) (by omega)
  have w' : IntKind.wrap .i64 (0 - (v - 2)) = 0 - (v - 2) := wr _ (by omega) (by omega)
  rw [w, w']
  rcases near_some k L x y h hx hy (v - 2) (by omega) with ⟨e1, e2⟩ | ⟨z, hz, e1, e2⟩
  · rw [e1, Option.bind_some, e2, Option.bind_some]; rfl
  · rw [e1, Option.bind_some]
    simp only [giS, gi0]
    rw [bif_f (bne_f rfl)]
    try dsimp only
    rw [e2, Option.bind_some]
    simp only [giS, gi0, beq_self_eq_true, Bool.and_self, cond_true]
theorem ext_take (l : List UInt8) (c : Nat) : ByteArray.extract (bs l) (Int.toNat 0) (Int.toNat (c : Int)) = bs (l.take c) := by
  apply ByteArray.ext
  rw [ByteArray.data_extract, Int.toNat_natCast]
  unfold bs
  apply Array.ext'
  simp
theorem div_lt (L c x : Nat) (hc : c ≤ L) (hx : x < 2 ^ L) : x / 2 ^ (L - c) < 2 ^ c := by
  apply Nat.div_lt_of_lt_mul
  rw [← Nat.pow_add, show L - c + c = L by omega]; exact hx
theorem half_eq {a b : Nat} (h : a / 2 = b / 2) (h2 : a % 2 = b % 2) : a = b := by omega
theorem tail_ok (k : Nat) (hk : 60 ≤ k) {l : List (List D)} (hl : Bytes l) (L x y M u v : Nat) (hL : L ≤ 20) (hM : M ≤ 20) (hx : x < 2 ^ L) (hy : y < 2 ^ L) (hu : u < 2 ^ M) (hv : v < 2 ^ M) : pyTail k l L x y M u v (bs (pk L x y)) = some [.b true] := by
  obtain ⟨c, c1, c2, c3, c4, c5, e⟩ := common_some k hk L x y M u v hL hM hx hy hu hv
  have n := near_ok k hl L x y hL hx hy
  have k1 := key_some k (by omega) c (x / 2 ^ (L - c)) (y / 2 ^ (L - c)) (by omega) (div_lt L c x c1 hx) (div_lt L c y c1 hy)
  have k2 := key_some k (by omega) M u v hM hu hv
  have t1 := pk_take L c x y c1
  have t2 := pk_take M c u v c2
  rw [← c3, ← c4] at t2
  unfold pyTail
  rw [e, Option.bind_some]
  simp only [giS, gi0]
  rw [k1, k2, Option.bind_some, Option.bind_some]
  simp only [gs0, bs_size, pk_length]
  rw [bif_f (bne_f rfl), bif_f (ltI_f (by omega)), bif_f (ltI_f (by omega)), bif_t (inS_t (by omega) (by omega) (by omega)), ext_take, t1, beq_self_eq_true, Bool.not_true, cond_false, bif_t (inS_t (by omega) (by omega) (by omega)), ext_take, t2, beq_self_eq_true, Bool.not_true, cond_false]
  by_cases h1 : c < L
  · rw [bif_t (ltI_t (by omega))]
    by_cases h2 : c < M
    · rw [bif_t (ltI_t (by omega)), bif_t (inR_t (by omega) (by omega)), bif_t (inR_t (by omega) (by omega))]
      have g1 := bt_get _ _ _ (pk_get L x y c h1)
      have g2 := bt_get _ _ _ (pk_get M u v c h2)
      rw [kd_val, show L - 1 - c = L - (c + 1) by omega] at g1
      rw [kd_val, show M - 1 - c = M - (c + 1) by omega] at g2
      rw [g1, g2, bif_f (beq_f ?_)]
      · exact n
      · intro hh
        apply c5 h1 h2
        rw [up_div x (L - c) (by omega), up_div u (M - c) (by omega), show L - c - 1 = L - (c + 1) by omega, show M - c - 1 = M - (c + 1) by omega] at c3
        rw [up_div y (L - c) (by omega), up_div v (M - c) (by omega), show L - c - 1 = L - (c + 1) by omega, show M - c - 1 = M - (c + 1) by omega] at c4
        exact ⟨half_eq c3 (by omega), half_eq c4 (by omega)⟩
    · rw [bif_f (ltI_f (by omega))]
      exact n
  · rw [bif_f (ltI_f (by omega))]
    exact n
theorem kid_row (L x y i : Nat) (hi : i < 4) : ri (kids L x y) i 0 = ((L + 1 : Nat) : Int) ∧ ri (kids L x y) i 1 = ((2 * x + i % 2 : Nat) : Int) ∧ ri (kids L x y) i 2 = ((2 * y + i / 2 : Nat) : Int) := by
  have hc : i = 0 ∨ i = 1 ∨ i = 2 ∨ i = 3 := by omega
  rcases hc with rfl | rfl | rfl | rfl
  · exact ⟨rfl, by show 2 * (x : Int) = _; omega, by show 2 * (y : Int) = _; omega⟩
  · exact ⟨rfl, by show 2 * (x : Int) + 1 = _; omega, by show 2 * (y : Int) = _; omega⟩
  · exact ⟨rfl, by show 2 * (x : Int) = _; omega, by show 2 * (y : Int) + 1 = _; omega⟩
  · exact ⟨rfl, by show 2 * (x : Int) + 1 = _; omega, by show 2 * (y : Int) + 1 = _; omega⟩
theorem loop_ok (k : Nat) (hk : 30 ≤ k) (a1 : List (List D)) (L x y : Nat) (q0 q1 q2 : Int) (h : L < 20) (hx : x < 2 ^ L) (hy : y < 2 ^ L) : ∀ (d n i : Nat), i + d = 4 →
    laws_FnPyramid_l0 k (d + 1 + n) a1 false L x y q0 q1 q2 (bs (pk L x y)) (kids L x y) i = some [.i 0, .l a1, .b false, .i L, .i x, .i y, .i q0, .i q1, .i q2, .s (bs (pk L x y)), .l (kids L x y), .i 4]
  | 0, n, i, hi => by
    obtain rfl : i = 4 := by omega
    rw [show 0 + 1 + n = n + 1 by omega, laws_FnPyramid_l0, bif_f (ltI_f (by decide))]; rfl
  | d + 1, n, i, hi => by
    have hp := pow_le L (by omega)
    have h2 : 2 ^ (L + 1) = 2 * 2 ^ L := by rw [Nat.pow_succ]; omega
    obtain ⟨r0, r1, r2⟩ := kid_row L x y i (by omega)
    have hlen : ((kids L x y).length : Int) = 4 := rfl
    have u := up_some k L (2 * x + i % 2) (2 * y + i / 2) h (by omega) (by omega)
    have kk := key_some k hk (L + 1) (2 * x + i % 2) (2 * y + i / 2) (by omega) (by omega) (by omega)
    have px : (2 * x + i % 2) / 2 = x := by omega
    have py : (2 * y + i / 2) / 2 = y := by omega
    rw [px, py] at u
    have pt : (pk (L + 1) (2 * x + i % 2) (2 * y + i / 2)).take L = pk L x y := by
      rw [pk, px, py, List.take_append_of_le_length (by rw [pk_length]; exact Nat.le_refl _), List.take_of_length_le (by rw [pk_length]; exact Nat.le_refl _)]
    have g := bt_get _ _ _ (pk_get (L + 1) (2 * x + i % 2) (2 * y + i / 2) L (by omega))
    rw [kd_val, show L + 1 - 1 - L = 0 by omega, Nat.pow_zero, Nat.div_one, Nat.div_one] at g
    rw [show d + 1 + 1 + n = (d + 1 + n) + 1 by omega, laws_FnPyramid_l0, bif_t (ltI_t (by omega)), hlen, bif_t (inR_t (by omega) (by omega)), r0, r1, r2, u, Option.bind_some, bif_t (inR_t (by omega) (by omega)), kk, Option.bind_some]
    simp only [giS, gi0, gs0, bs_size, pk_length]
    rw [bif_f (bne_f rfl)]
    simp only [beq_self_eq_true, Bool.and_self, Bool.not_true, cond_false]
    rw [wr ((L : Int) + 1) (by omega) (by omega), bif_f (bne_f (by omega)), bif_t (inS_t (by omega) (by omega) (by omega)), ext_take, pt, beq_self_eq_true, Bool.not_true, cond_false, bif_t (inR_t (by omega) (by omega)), g]
    try dsimp only
    rw [show (48 : Int) + (((2 * x + i % 2) % 2 + 2 * ((2 * y + i / 2) % 2) : Nat) : Int) - 48 = (i : Int) by omega, wr8 _ (by omega) (by omega), wr _ (by omega) (by omega), bif_f (bne_f rfl), wr ((i : Int) + 1) (by omega) (by omega), show (i : Int) + 1 = ((i + 1 : Nat) : Int) by omega]
    exact loop_ok k hk a1 L x y q0 q1 q2 h hx hy d n (i + 1) (by omega)
theorem pyr_core (k : Nat) (hk : 100 ≤ k) (a0 a1 : List (List D)) (h0 : a0.length ≤ 1048576 → Bytes a0) (h1 : a1.length ≤ 1048576 → Bytes a1) : laws_FnPyramid k a0 a1 = some [.b true] := by
  unfold laws_FnPyramid laws_d8Long
  dsimp only
  by_cases g0 : (1048576 : Int) < (a0.length : Int)
  · rw [bif_t (ltI_t g0)]; rfl
  · rw [bif_f (ltI_f (by omega)), Option.bind_some]
    simp only [gb0]
    by_cases g1 : (1048576 : Int) < (a1.length : Int)
    · rw [bif_t (ltI_t g1)]
    · rw [bif_f (ltI_f (by omega))]
      have b0 := h0 (by omega)
      have b1 := h1 (by omega)
      obtain ⟨L, x, y, e, hL, hx, hy⟩ := e8_ok k (by omega) b0
      obtain ⟨M, u, v, e', hM, hu, hv⟩ := e8_ok k (by omega) b1
      have tl := tail_ok k (by omega) b1 L x y M u v hL hM hx hy hu hv
      rw [e, e', Option.bind_some, Option.bind_some]
      simp only [giS, gi0]
      rw [key_some k (by omega) L x y hL hx hy, Option.bind_some]
      simp only [gs0]
      rw [read_some k (by omega) L x y hL hx hy, Option.bind_some]
      simp only [giS, gi0, gbS, gb0, Bool.not_true, cond_false, beq_self_eq_true, Bool.and_self]
      rw [bif_f (bne_f (show ((ByteArray.size (bs (pk L x y)) : Nat) : Int) = (L : Int) by rw [bs_size, pk_length]))]
      by_cases h20 : L = 20
      · subst h20
        have f := full_some k x y hx hy
        rw [show ((20 : Nat) : Int) = 20 from rfl] at tl ⊢
        rw [f, Option.bind_some]
        simp only [giS, gi0]
        rw [bif_t (beq_t rfl), bif_f (bne_f rfl)]
        exact tl
      · rw [children_some k (by omega) L x y (by omega) hx hy, Option.bind_some]
        simp only [giS, gi0, gl0]
        rw [bif_f (beq_f (by omega)), bif_f (bne_f rfl), show ((kids L x y).length : Int) = 4 from rfl, bif_f (bne_f rfl)]
        have lo := loop_ok k (by omega) a1 L x y M u v (by omega) hx hy 4 (k - 5) 0 (by omega)
        rw [show 4 + 1 + (k - 5) = k by omega] at lo
        have lo : laws_FnPyramid_l0 k k a1 false L x y M u v (bs (pk L x y)) (kids L x y) 0 = _ := lo
        rw [lo, Option.bind_some]
        simp only [giS, gi0, gsS, gs0, glS, gl0]
        rw [bif_t (eqI_t rfl)]
        exact tl
theorem bytes_of (zs : List (List Int)) (h1 : ∀ z ∈ zs, z.length = 1) (h2 : ∀ z ∈ zs, ∀ n ∈ z, (Lit.int .u8 n).wf = true) (h3 : (zs.map fun z => z.map D.i).length ≤ 1048576) : Bytes (zs.map fun z => z.map D.i) := by
  refine ⟨fun i => ?_, h3⟩
  rw [gil, List.getD_eq_getElem?_getD, List.getElem?_map]
  cases hz : zs[i.toNat]? with
  | none => exact ⟨by decide, by decide⟩
  | some z =>
    have hm := List.mem_of_getElem? hz
    have hl := h1 z hm
    match z, hl, h2 z hm with
    | [n], _, hw =>
      have := hw n (by simp)
      simp [Lit.wf, IntKind.min, IntKind.max, IntKind.bits, IntKind.signed] at this
      exact this
theorem FnPyramid_pure (zs0 zs1 : List (List Int)) (h1 : ∀ z ∈ zs0, z.length = 1) (h2 : ∀ z ∈ zs0, ∀ n ∈ z, (Lit.int .u8 n).wf = true) (h3 : zs0.length ≤ 9223372036854775807) (g1 : ∀ z ∈ zs1, z.length = 1) (g2 : ∀ z ∈ zs1, ∀ n ∈ z, (Lit.int .u8 n).wf = true) (g3 : zs1.length ≤ 9223372036854775807) : ∃ k, laws_FnPyramid k (zs0.map fun z => z.map D.i) (zs1.map fun z => z.map D.i) = some [.b true] :=
  ⟨100, pyr_core 100 (by decide) _ _ (bytes_of zs0 h1 h2) (bytes_of zs1 g1 g2)⟩
end Go.Proofs.YtpanhndkcnojpaaDoor.Ev
