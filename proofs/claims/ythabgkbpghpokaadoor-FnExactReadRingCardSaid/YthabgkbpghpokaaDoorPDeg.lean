/- A number of degrees is read, by both. No condition. -/
import Derived.Test.YthabgkbpghpokaaDoorPCut
namespace Go.Proofs.YthabgkbpghpokaaDoor.Ev
open Go Go.RowKit
set_option linter.unusedSimpArgs false
set_option linter.unusedVariables false
theorem wsucc (i : Nat) (h : i ≤ 4611686018427387904) : IntKind.wrap .i64 ((i : Int) + 1) = ((i + 1 : Nat) : Int) := by rw [wr _ (by omega) (by omega)]; omega
/-- What is read: a number whose text this is. -/
def Rd (x : Option (List D)) (l : List UInt8) : Prop := ∃ (v : Int) (b : Bool), x = some [.i v, .b b] ∧ (b = true → l = uT v 7) ∧ ∀ m : Int, -2000000000 ≤ m ∧ m ≤ 2000000000 → l = uT m 7 → b = true ∧ v = m
/-! ### The reference -/
theorem lread_l0 (k : Nat) (l : List UInt8) (hl : l.length ≤ 1073741824) : ∀ (d f i a c : Nat), i + d = min 14 l.length → a < 10 ^ i → c ≤ i →
    spec_l11Read_l0 k (d + 1 + f) (bs l) 0 false a c i = some [.i 0, .s (bs l), .i 0, .b false, .i ((vl ((l.drop i).take d) a : Nat) : Int), .i ((c + ct ((l.drop i).take d) : Nat) : Int), .i ((i + d : Nat) : Int)]
  | 0, f, i, a, c, h, ha, hc => by
    rw [show 0 + 1 + f = f + 1 by omega, spec_l11Read_l0]
    dsimp only
    rw [bs_size, List.take_zero]
    by_cases h1 : i < l.length
    · rw [bif_t (ltI_t (by omega)), bif_f (ltI_f (by omega))]; rfl
    · rw [bif_f (ltI_f (by omega))]; rfl
  | d + 1, f, i, a, c, h, ha, hc => by
    have hi : i < l.length := by omega
    have hi2 : i < 14 := by omega
    have hb := bt_at l i l[i] (List.getElem?_eq_getElem hi)
    have hlt := (l[i]).toNat_lt
    have hp : 10 ^ i * 10 ≤ 10 ^ 14 := by
      have : (10 : Nat) ^ (i + 1) ≤ 10 ^ 14 := Nat.pow_le_pow_right (by decide) hi2
      rwa [Nat.pow_succ] at this
    rw [show d + 1 + 1 + f = (d + 1 + f) + 1 by omega, spec_l11Read_l0]
    dsimp only
    rw [bs_size, hb, bif_t (ltI_t (by omega)), bif_t (ltI_t (by omega)), bif_t (inR_t (by omega) (by omega)), List.drop_eq_getElem_cons hi, List.take_succ_cons, wsucc i (by omega), vl, ct]
    unfold isDg
    by_cases h1 : 48 ≤ (l[i]).toNat
    · rw [bif_t (leI_t (by omega)), bif_t (inR_t (by omega) (by omega)), decide_eq_true h1]
      by_cases h2 : (l[i]).toNat ≤ 57
      · rw [bif_t (leI_t (by omega)), bif_t (inR_t (by omega) (by omega)), decide_eq_true h2]
        have e : IntKind.wrap .i64 (IntKind.wrap .u8 (((l[i]).toNat : Int) - 48)) = (((l[i]).toNat - 48 : Nat) : Int) := by rw [wr8 _ (by omega) (by omega), wr _ (by omega) (by omega)]; omega
        have e2 : IntKind.wrap .i64 (IntKind.wrap .i64 (10 * (a : Int)) + IntKind.wrap .i64 (IntKind.wrap .u8 (((l[i]).toNat : Int) - 48))) = ((10 * a + ((l[i]).toNat - 48) : Nat) : Int) := by rw [e, wr (10 * (a : Int)) (by omega) (by omega), wr _ (by omega) (by omega)]; omega
        rw [e2, wsucc c (by omega), lread_l0 k l hl d f (i + 1) _ _ (by omega) (by rw [Nat.pow_succ]; omega) (by omega), show i + 1 + d = i + (d + 1) by omega]
        simp only [Bool.and_self, cond_true, Nat.add_assoc]
      · rw [bif_f (leI_f (by omega)), decide_eq_false h2, lread_l0 k l hl d f (i + 1) _ _ (by omega) (by rw [Nat.pow_succ]; omega) (by omega), show i + 1 + d = i + (d + 1) by omega]
        simp only [Bool.and_false, cond_false, Nat.zero_add]
    · rw [bif_f (leI_f (by omega)), decide_eq_false h1, lread_l0 k l hl d f (i + 1) _ _ (by omega) (by rw [Nat.pow_succ]; omega) (by omega), show i + 1 + d = i + (d + 1) by omega]
      simp only [Bool.false_and, cond_false, Nat.zero_add]
theorem lread (k : Nat) (hk : 50 ≤ k) (l : List UInt8) (hl : l.length ≤ 1073741824) : Rd (spec_l11Read k (bs l)) l := by
  have h0 := lread_l0 k l hl (min 14 l.length) (k - min 14 l.length - 1) 0 0 0 (by omega) (by decide) (by omega)
  rw [show min 14 l.length + 1 + (k - min 14 l.length - 1) = k by omega, List.drop_zero, Nat.zero_add, Nat.zero_add] at h0
  have h1 : spec_l11Read_l0 k k (bs l) 0 false 0 0 0 = _ := h0
  have hb := vl_bound (l.take (min 14 l.length)) 0 1 (by decide)
  have hp : 1 * 10 ^ (l.take (min 14 l.length)).length ≤ 10 ^ 14 := by
    rw [Nat.one_mul]; exact Nat.pow_le_pow_right (by decide) (by rw [List.length_take]; omega)
  have hT : ∀ m : Int, -2000000000 ≤ m ∧ m ≤ 2000000000 → l = uT m 7 → l.take (min 14 l.length) = l ∧ vl (l.take (min 14 l.length)) 0 = m.natAbs ∧ 0 < ct (l.take (min 14 l.length)) := by
    intro m hm e
    obtain ⟨v1, v2, v3⟩ := vl_uT m hm
    rw [← e] at v1 v2 v3
    have : l.take (min 14 l.length) = l := List.take_of_length_le (by omega)
    rw [this]; exact ⟨rfl, v1, v2⟩
  generalize hn : vl (l.take (min 14 l.length)) 0 = n at *
  generalize hc : ct (l.take (min 14 l.length)) = c at *
  have hn' : n ≤ 100000000000000 := by omega
  unfold spec_l11Read
  rw [h1, Option.bind_some]
  simp only [giS, gi0, gsS, gs0]
  by_cases hz : c = 0
  · rw [bif_t (beq_t (by omega))]
    exact ⟨0, false, rfl, fun h => (by cases h), fun m hm e => by have := (hT m hm e).2.2; omega⟩
  · rw [bif_f (beq_f (by omega))]
    obtain ⟨u, l', rfl⟩ : ∃ u l', l = u :: l' := by
      cases l with
      | nil => simp [ct] at hc; omega
      | cons u l' => exact ⟨u, l', rfl⟩
    have hu : bt (bs (u :: l')) 0 = (u.toNat : Int) := bt_at (u :: l') 0 u rfl
    rw [bs_size, bif_t (inR_t (by decide) (by rw [List.length_cons]; omega)), hu, wr (0 - (n : Int)) (by omega) (by omega)]
    have hh : ∀ m : Int, -2000000000 ≤ m ∧ m ≤ 2000000000 → u :: l' = uT m 7 → (u = 45 ↔ m < 0) := by
      intro m hm e
      obtain ⟨u', l'', e1, e2⟩ := uT_head m hm
      rw [← e] at e1
      injection e1 with e3 _
      rw [e3]; exact e2
    by_cases h45 : u = 45
    · subst h45
      rw [bif_t (beq_t (by decide)), ltext_some k (by omega) _ (by omega), Option.bind_some]
      simp only [gs0, bs_beq]
      refine ⟨_, _, rfl, fun h => (of_decide_eq_true h).symm, fun m hm e => ?_⟩
      have h3 := (hT m hm e).2.1
      have h4 := (hh m hm e).1 rfl
      have h5 : (0 - (n : Int)) = m := by omega
      exact ⟨by rw [h5, e]; exact decide_eq_true rfl, h5⟩
    · have hne : ((u.toNat : Int)) ≠ 45 := fun h => h45 (UInt8.toNat_inj.1 (by show u.toNat = 45; omega))
      rw [bif_f (beq_f hne), ltext_some k (by omega) _ (by omega), Option.bind_some]
      simp only [gs0, bs_beq]
      refine ⟨_, _, rfl, fun h => (of_decide_eq_true h).symm, fun m hm e => ?_⟩
      have h3 := (hT m hm e).2.1
      have h4 : ¬ m < 0 := fun h => h45 ((hh m hm e).2 h)
      have h5 : (n : Int) = m := by omega
      exact ⟨by rw [h5, e]; exact decide_eq_true rfl, h5⟩
/-! ### The program -/
def tp : List UInt8 → List UInt8
  | [] => []
  | b :: l => if b = 45 then l else b :: l
theorem tp_cons (b : UInt8) (l : List UInt8) : tp (b :: l) = if b = 45 then l else b :: l := rfl
theorem trimp (k : Nat) (p : List UInt8) (hp : p.length ≤ 1073741824) : strings_TrimPrefix k (bs p) (⟨#[45]⟩ : ByteArray) = some [.s (bs (tp p))] := by
  have e45 : (⟨#[45]⟩ : ByteArray) = bs [45] := rfl
  unfold strings_TrimPrefix stringslite_TrimPrefix stringslite_HasPrefix
  dsimp only
  rw [e45, bs_size, bs_size]
  cases p with
  | nil => rfl
  | cons b l =>
    rw [bif_t (leI_t (by simp only [List.length_cons, List.length_nil]; omega)), bif_t (inS_t (by decide) (by rw [List.length_singleton]; omega) (by simp only [List.length_cons, List.length_nil]; omega)), Option.bind_some]
    have e1 : ByteArray.extract (bs (b :: l)) (Int.toNat 0) (Int.toNat (([45] : List UInt8).length : Int)) = bs [b] := by
      have := ext_mid (b :: l) 0 1
      exact this
    have e2 : ByteArray.extract (bs (b :: l)) (Int.toNat (([45] : List UInt8).length : Int)) (Int.toNat ((b :: l).length : Int)) = bs l := by
      have := ext_mid (b :: l) 1 (b :: l).length
      rw [List.take_length] at this
      exact this
    rw [e1, e2, bs_beq]
    simp only [gb0]
    rw [tp_cons]
    by_cases h : b = 45
    · subst h
      rw [if_pos rfl, bif_t (decide_eq_true rfl), bif_t (inS_t (by rw [List.length_singleton]; omega) (by simp only [List.length_cons, List.length_nil]; omega) (by omega))]; rfl
    · rw [if_neg h, bif_f (decide_eq_false (by simpa using h))]; rfl
theorem cutA_some (l : List UInt8) (c : UInt8) (hl : l.length ≤ 1073741824) (p q : List UInt8) (b : Bool) (h : Lib.cut l [c] = (p, q, b)) : cutA (bs l) (bs [c]) = some [.s (bs p), .s (bs q), .b b] := by
  unfold cutA
  rw [bif_t (decide_eq_true (by rw [bs_size]; omega)), bs_data, bs_data, h]; rfl
theorem digits0 (k : Nat) (hk : 30 ≤ k) (m : Int) (h : -1000000000000000000 ≤ m ∧ m ≤ 1000000000000000000) : ∃ t, impl_digitsText k m 0 = some [.s t] := by
  have ip : impl_powerOfTen k 0 = some [.i 1] := ipow k (by omega) 0 (by decide)
  unfold impl_digitsText
  rw [ip]
  simp only [Option.bind_some, gi0]
  have dc : ∀ x : Int, -1000000000000000000 ≤ x → x ≤ 1000000000000000000 → ∃ t : List UInt8, t.length ≤ 20 ∧ impl_Decimal k (IntKind.wrap .i64 (Int.tdiv x 1)) = some [.s (bs t)] := fun x h0 h1 => by
    rw [Int.tdiv_one, wr x (by omega) (by omega)]
    exact ⟨_, itoa_length x (by omega) (by omega), decimal_some k x (by omega) (by omega)⟩
  by_cases hm : m < 0
  · rw [bif_t (ltI_t hm), bif_f (eqI_f (by decide)), wr (0 - m) (by omega) (by omega)]
    obtain ⟨t, ht, e⟩ := dc (0 - m) (by omega) (by omega)
    rw [e, Option.bind_some]
    simp only [gs0]
    rw [c45, bif_t (leN_t (by rw [bs_size, bs_size, List.length_singleton]; omega)), bif_t (beq_t rfl)]
    exact ⟨_, rfl⟩
  · rw [bif_f (ltI_f (by omega)), bif_f (eqI_f (by decide))]
    obtain ⟨t, ht, e⟩ := dc m (by omega) (by omega)
    rw [e, Option.bind_some]
    simp only [gs0]
    rw [c0, bif_t (leN_t (by rw [bs_size, bs_size, List.length_nil]; omega)), bif_t (beq_t rfl)]
    exact ⟨_, rfl⟩
theorem dg_contains : ∀ n, n < 256 → ([48, 49, 50, 51, 52, 53, 54, 55, 56, 57] : List UInt8).contains (UInt8.ofNat n) = isDg (UInt8.ofNat n) := by decide +kernel
theorem dg_contains' (u : UInt8) : ([48, 49, 50, 51, 52, 53, 54, 55, 56, 57] : List UInt8).contains u = isDg u := by
  have := dg_contains u.toNat u.toNat_lt
  rwa [UInt8.ofNat_toNat] at this
theorem drop_all {p : UInt8 → Bool} : ∀ {m : List UInt8}, (∀ x ∈ m.dropWhile p, p x = true) → ∀ x ∈ m, p x = true
  | [], _, x, hx => by cases hx
  | a :: m, h, x, hx => by
    cases ha : p a with
    | true =>
      rw [List.dropWhile_cons_of_pos ha] at h
      rcases List.mem_cons.1 hx with rfl | hx
      · exact ha
      · exact drop_all h x hx
    | false =>
      rw [List.dropWhile_cons_of_neg (by rw [ha]; simp)] at h
      have := h a (List.mem_cons_self ..)
      rw [ha] at this; cases this
theorem dw_nil {p : UInt8 → Bool} : ∀ {m : List UInt8}, m.dropWhile p = [] ↔ ∀ x ∈ m, p x = true
  | [] => by simp
  | a :: m => by
    cases ha : p a with
    | true => rw [List.dropWhile_cons_of_pos ha, dw_nil]; simp [ha]
    | false => rw [List.dropWhile_cons_of_neg (by rw [ha]; simp)]; simp [ha]
theorem trim_dg (l : List UInt8) (h : l.length ≤ 100) : ∃ r, trimA (bs l) ⟨#[48, 49, 50, 51, 52, 53, 54, 55, 56, 57]⟩ = some [.s (bs r)] ∧ (r = [] ↔ ∀ u ∈ l, isDg u = true) := by
  refine ⟨Lib.trimS l [48, 49, 50, 51, 52, 53, 54, 55, 56, 57], ?_, ?_⟩
  · unfold trimA
    rw [bif_t, bs_data]
    · rfl
    · rw [show ((⟨#[48, 49, 50, 51, 52, 53, 54, 55, 56, 57]⟩ : ByteArray).data.toList.all fun b => decide (b.toNat < 128)) = true from rfl, decide_eq_true (by rw [bs_size]; omega), decide_eq_true (by decide)]; rfl
  · have e : (fun u => ([48, 49, 50, 51, 52, 53, 54, 55, 56, 57] : List UInt8).contains u) = isDg := funext dg_contains'
    unfold Lib.trimS Lib.trimLeftS Lib.trimRightS
    rw [e, dw_nil]
    constructor
    · intro h x hx
      exact drop_all (m := l.reverse) (fun y hy => h y (List.mem_reverse.2 hy)) x (List.mem_reverse.2 hx)
    · intro h x hx
      have hx' : x ∈ l.reverse.dropWhile isDg := by simpa using hx
      exact h x (by simpa using (List.dropWhile_sublist _).subset hx')
theorem iread_l0 (k : Nat) (x0 x4 x6 : ByteArray) (x5 : Int) (w : List UInt8) (hw : w.length ≤ 18) (hd : ∀ u ∈ w, isDg u = true) : ∀ (d f i a : Nat), i + d = w.length → a < 10 ^ i →
    impl_readDigits_l0 k (d + 1 + f) x0 0 0 false x4 x5 x6 a (bytesR (bs w)) w.length i = some [.i 0, .s x0, .i 0, .i 0, .b false, .s x4, .i x5, .s x6, .i ((vl (w.drop i) a : Nat) : Int), .l (bytesR (bs w)), .i w.length, .i w.length]
  | 0, f, i, a, h, ha => by
    obtain rfl : i = w.length := by omega
    rw [show 0 + 1 + f = f + 1 by omega, impl_readDigits_l0, bif_f (ltI_f (by omega)), List.drop_length]; rfl
  | d + 1, f, i, a, h, ha => by
    have hi : i < w.length := by omega
    have hb : (bytesR (bs w)).length = w.length := by unfold bytesR; rw [List.length_map, bs_data]
    have hr : ri (bytesR (bs w)) (i : Int) 0 = ((w[i]).toNat : Int) := by
      unfold ri bytesR
      rw [bs_data, Int.toNat_natCast, List.getD_eq_getElem?_getD, List.getElem?_map, List.getElem?_eq_getElem hi]; rfl
    have hp : 10 ^ i * 10 ≤ 10 ^ 18 := by
      have : (10 : Nat) ^ (i + 1) ≤ 10 ^ 18 := Nat.pow_le_pow_right (by decide) (by omega)
      rwa [Nat.pow_succ] at this
    have hg := hd w[i] (List.getElem_mem hi)
    have hg' := hg
    unfold isDg at hg'
    rw [Bool.and_eq_true, decide_eq_true_iff, decide_eq_true_iff] at hg'
    have e : IntKind.wrap .i64 (IntKind.wrap .i64 (10 * (a : Int)) + IntKind.wrap .i64 (IntKind.wrap .u8 (((w[i]).toNat : Int) - 48))) = ((10 * a + ((w[i]).toNat - 48) : Nat) : Int) := by rw [wr8 _ (by omega) (by omega), wr (((w[i]).toNat : Int) - 48) (by omega) (by omega), wr (10 * (a : Int)) (by omega) (by omega), wr _ (by omega) (by omega)]; omega
    rw [show d + 1 + 1 + f = (d + 1 + f) + 1 by omega, impl_readDigits_l0, bif_t (ltI_t (by omega)), bif_t (inR_t (by omega) (by omega)), hr]
    dsimp only
    rw [e, wsucc i (by omega), List.drop_eq_getElem_cons hi, vl, hg, cond_true]
    exact iread_l0 k x0 x4 x6 x5 w hw hd d f (i + 1) _ (by omega) (by rw [Nat.pow_succ]; omega)
/-- What the program reads: a number and how many places it has. -/
def Rp (x : Option (List D)) (l : List UInt8) : Prop := ∃ (v e : Int) (b : Bool), x = some [.i v, .i e, .b b] ∧ (b = true → e = 7 → l = uT v 7) ∧ ∀ m : Int, -2000000000 ≤ m ∧ m ≤ 2000000000 → l = uT m 7 → b = true ∧ e = 7 ∧ v = m
theorem Rp_no {l : List UInt8} (h : ∀ m : Int, -2000000000 ≤ m ∧ m ≤ 2000000000 → l ≠ uT m 7) : Rp (some [.i 0, .i 0, .b false]) l := ⟨0, 0, false, rfl, fun h => (by cases h), fun m hm e => absurd e (h m hm)⟩
/-- A number's text, as the program cuts it. -/
theorem uT_cut (m : Int) (h : -2000000000 ≤ m ∧ m ≤ 2000000000) (p q : List UInt8) (b : Bool) (hc : Lib.cut (uT m 7) [46] = (p, q, b)) : b = true ∧ (1 ≤ (tp p).length ∧ (tp p).length ≤ 3) ∧ q.length = 7 ∧ (∀ u ∈ tp p ++ q, isDg u = true) ∧ vl (tp p ++ q) 0 = m.natAbs ∧ (tp p = p ↔ 0 ≤ m) := by
  obtain ⟨W, F, e, hW, hF, hl, hf, hv, _⟩ := uT_parts m h
  have h46 : ∀ u ∈ (if m < 0 then [45] else []) ++ W, u ≠ 46 := by
    intro u hu
    rcases List.mem_append.1 hu with hu | hu
    · split at hu
      · obtain rfl := List.mem_singleton.1 hu; decide
      · cases hu
    · exact (not_dg (hW u hu)).2.1
  rw [e] at hc
  have e2 : (if m < 0 then [45] else []) ++ W ++ ([46] ++ F) = ((if m < 0 then [45] else []) ++ W) ++ 46 :: F := rfl
  rw [e2, cut_hit1 46 _ F fun hm => h46 46 hm rfl] at hc
  injection hc with h1 hc
  injection hc with h2 h3
  subst h1; subst h2; subst h3
  have ht : tp ((if m < 0 then [45] else []) ++ W) = W := by
    by_cases hm : m < 0
    · rw [if_pos hm]; rfl
    · rw [if_neg hm, List.nil_append]
      cases W with
      | nil => rfl
      | cons u W' => show (if u = 45 then W' else u :: W') = _; rw [if_neg (not_dg (hW u (List.mem_cons_self ..))).1]
  rw [ht]
  refine ⟨rfl, hl, hf, fun u hu => (List.mem_append.1 hu).elim (hW u) (hF u), hv, ?_⟩
  by_cases hm : m < 0
  · rw [if_pos hm]
    refine ⟨fun e => ?_, fun e => by omega⟩
    have := congrArg List.length e
    simp at this
  · rw [if_neg hm]
    exact ⟨fun _ => by omega, fun _ => rfl⟩
theorem iread (k : Nat) (hk : 50 ≤ k) (l : List UInt8) (hl : l.length ≤ 1073741824) : Rp (impl_readDigits k (bs l)) l := by
  have hcut : ∃ p q b, Lib.cut l [46] = (p, q, b) ∧ p.length ≤ l.length ∧ q.length ≤ l.length := by
    rcases cut_cases 46 l with ⟨_, e⟩ | ⟨p, q, e, _, e2⟩
    · exact ⟨_, _, _, e, by simp, by simp⟩
    · refine ⟨p, q, true, e2, ?_, ?_⟩ <;> (rw [e, List.length_append, List.length_cons]; omega)
  obtain ⟨p, q, b, hc, hp, hq⟩ := hcut
  have hU : ∀ m : Int, -2000000000 ≤ m ∧ m ≤ 2000000000 → l = uT m 7 → _ := fun m hm e => uT_cut m hm p q b (by rw [← e]; exact hc)
  have htp : (tp p).length ≤ p.length := by
    cases p with
    | nil => exact Nat.le_refl _
    | cons u p => rw [tp_cons]; split <;> simp
  unfold impl_readDigits
  rw [c46, cutA_some l 46 hl p q b hc, Option.bind_some]
  simp only [gs0, gsS, gbS, gb0]
  rw [trimp k p (by omega), Option.bind_some]
  simp only [gs0, bs_size, within_some, Option.bind_some, gb0, bs_append]
  by_cases hq0 : b = ltI 0 (q.length : Int)
  case neg =>
    have hb : (b == ltI 0 (q.length : Int)) = false := by simpa using hq0
    rw [hb]
    refine Rp_no fun m hm e => ?_
    obtain ⟨h1, _, h3, _⟩ := hU m hm e
    exact hq0 (by rw [h1, h3]; rfl)
  rw [← hq0, beq_self_eq_true, Bool.not_true, cond_false]
  by_cases hq9 : 9 < q.length
  · rw [bif_t (ltI_t (by omega))]
    exact Rp_no fun m hm e => by have := (hU m hm e).2.2.1; omega
  rw [bif_f (ltI_f (by omega))]
  by_cases hw : 1 ≤ (tp p).length ∧ (tp p).length ≤ 9
  case neg =>
    have hb : (leI 1 ((tp p).length : Int) && leI ((tp p).length : Int) 9) = false := by
      by_cases h1 : 1 ≤ (tp p).length
      · rw [leI_f (show (9 : Int) < _ by omega), Bool.and_false]
      · rw [leI_f (show _ < (1 : Int) by omega), Bool.false_and]
    rw [hb, Bool.not_false, cond_true]
    exact Rp_no fun m hm e => by have := (hU m hm e).2.1; omega
  rw [leI_t (show (1 : Int) ≤ _ by omega), leI_t (show _ ≤ (9 : Int) by omega), Bool.and_self, Bool.not_true, cond_false, bif_t (leN_t (by omega)), bif_t (leN_t (by omega))]
  have hlen : (tp p ++ q).length ≤ 18 := by rw [List.length_append]; omega
  obtain ⟨r, hr, hr2⟩ := trim_dg (tp p ++ q) (by omega)
  rw [hr, Option.bind_some]
  simp only [gs0]
  rw [c0, bs_beq]
  by_cases hdg : ∀ u ∈ tp p ++ q, isDg u = true
  case neg =>
    rw [decide_eq_false fun e => hdg (hr2.1 e), Bool.not_false, cond_true]
    exact Rp_no fun m hm e => hdg (hU m hm e).2.2.2.1
  rw [decide_eq_true (hr2.2 hdg), Bool.not_true, cond_false]
  have hbl : (bytesR (bs (tp p ++ q))).length = (tp p ++ q).length := by unfold bytesR; rw [List.length_map, bs_data]
  have h0 := iread_l0 k (bs l) (bs p) (bs (tp p)) (q.length : Int) (tp p ++ q) hlen hdg (tp p ++ q).length (k - (tp p ++ q).length - 1) 0 0 (by omega) (by decide)
  rw [show (tp p ++ q).length + 1 + (k - (tp p ++ q).length - 1) = k by omega, List.drop_zero] at h0
  have h1 : impl_readDigits_l0 k k (bs l) 0 0 false (bs p) (q.length : Int) (bs (tp p)) 0 (bytesR (bs (tp p ++ q))) ((tp p ++ q).length : Int) 0 = _ := h0
  rw [hbl, h1, Option.bind_some]
  simp only [gs0, gsS, gi0, giS, bs_beq]
  have hb := vl_bound (tp p ++ q) 0 1 (by decide)
  have hP : 1 * 10 ^ (tp p ++ q).length ≤ 10 ^ 18 := by
    rw [Nat.one_mul]; exact Nat.pow_le_pow_right (by decide) hlen
  have hV : ∀ m : Int, -2000000000 ≤ m ∧ m ≤ 2000000000 → l = uT m 7 → vl (tp p ++ q) 0 = m.natAbs := fun m hm e => (hU m hm e).2.2.2.2.1
  generalize vl (tp p ++ q) 0 = n at *
  have hn' : n ≤ 1000000000000000000 := by omega
  rw [wr (0 - (n : Int)) (by omega) (by omega)]
  have fin : ∀ x : Int, -1000000000000000000 ≤ x ∧ x ≤ 1000000000000000000 → (∀ m : Int, -2000000000 ≤ m ∧ m ≤ 2000000000 → l = uT m 7 → x = m) → Rp ((impl_digitsText k x (q.length : Int)).bind fun t13 => some [.i x, .i (q.length : Int), .b ((gs t13 0).toList == (bs l).toList)]) l := by
    intro x hx hm
    by_cases h0 : q.length = 0
    · obtain ⟨t, e⟩ := digits0 k (by omega) x hx
      rw [h0]
      have e' : impl_digitsText k x ((0 : Nat) : Int) = _ := e
      rw [e', Option.bind_some]
      exact ⟨x, _, _, rfl, fun _ h => by omega, fun m hm' e => by have := (hU m hm' e).2.2.1; omega⟩
    · rw [digits_some k (by omega) q.length (by omega) (by omega) x (by omega), Option.bind_some]
      simp only [gs0, bs_beq]
      refine ⟨x, _, _, rfl, fun h1 h2 => ?_, fun m hm' e => ?_⟩
      · rw [show q.length = 7 by omega] at h1; exact (of_decide_eq_true h1).symm
      · have h7 := (hU m hm' e).2.2.1
        have hx' := hm m hm' e
        exact ⟨by rw [h7, hx']; exact decide_eq_true e.symm, by omega, hx'⟩
  by_cases hs : tp p = p
  · rw [decide_eq_true hs, Bool.not_true, cond_false]
    exact fin n (by omega) fun m hm e => by
      have h1 := hV m hm e
      have h2 := (hU m hm e).2.2.2.2.2.1 hs
      omega
  · rw [decide_eq_false hs, Bool.not_false, cond_true]
    exact fin (0 - (n : Int)) (by omega) fun m hm e => by
      have h1 := hV m hm e
      have h2 : ¬ 0 ≤ m := fun h => hs ((hU m hm e).2.2.2.2.2.2 h)
      omega
theorem idegrees (k : Nat) (hk : 50 ≤ k) (l : List UInt8) (hl : l.length ≤ 1073741824) : Rd (impl_readDegrees k (bs l)) l := by
  obtain ⟨v, e, b, e1, h1, h2⟩ := iread k hk l hl
  unfold impl_readDegrees
  rw [e1, Option.bind_some]
  simp only [gi0, giS, gb0, gbS]
  cases b with
  | false => exact ⟨0, false, rfl, fun h => (by cases h), fun m hm e' => by have := (h2 m hm e').1; cases this⟩
  | true =>
    rw [Bool.not_true, cond_false]
    by_cases h7 : e = 7
    · rw [bif_f (bne_f h7)]
      exact ⟨v, true, rfl, fun _ => h1 rfl h7, fun m hm e' => ⟨rfl, (h2 m hm e').2.2⟩⟩
    · rw [bif_t (bne_t h7)]
      exact ⟨0, false, rfl, fun h => (by cases h), fun m hm e' => absurd (h2 m hm e').2.1 h7⟩
end Go.Proofs.YthabgkbpghpokaaDoor.Ev
