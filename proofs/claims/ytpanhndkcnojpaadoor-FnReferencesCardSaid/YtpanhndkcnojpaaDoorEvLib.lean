/- Functions of Go's library that answer a string, out of the library's contracts: strconv.FormatInt at base 10, strings.Trim at an ASCII cutset, strings.Repeat, strings.Join. No condition. -/
import Derived.Test.YtpanhndkcnojpaaDoorEvD
import Derived.Shelf.Strconv.Itoa4
import Derived.Shelf.Strings.SlTrimAscii
import Derived.Shelf.Strings.Repeat
import Derived.Shelf.Strings.OnBuilder
import Derived.Lib.AppendIntMem
namespace Go.Proofs.YtpanhndkcnojpaaDoor.Ev
open Go Go.RowKit
set_option linter.unusedVariables false
def fmtInt (a b : Int) : Option (List D) := bif (decide (-9223372036854775808 ≤ a) && decide (a ≤ 9223372036854775807)) && decide (b = 10) then some [.s ⟨(Lib.itoa a).toArray⟩] else none
def fmtInt.sp (k : Nat) : Spec := { pt := [(0, [.int .i64]), (0, [.int .i64])], rt := [(false, [(.str, 0)])], G := fun ds => fmtInt (gi ds 0) (gi ds 1) }
def trimA (a b : ByteArray) : Option (List D) := bif (decide (a.size ≤ 9223372036854775807) && decide (b.size < 4294967281)) && b.data.toList.all (fun b => decide (b.toNat < 128)) then some [.s ⟨(Lib.trimS a.data.toList b.data.toList).toArray⟩] else none
def trimA.sp (k : Nat) : Spec := { pt := [(0, [.str]), (0, [.str])], rt := [(false, [(.str, 0)])], G := fun ds => trimA (gs ds 0) (gs ds 1) }
def repA (a : ByteArray) (n : Int) : Option (List D) := bif (decide (0 ≤ n) && decide (n ≤ 9223372036854775807)) && decide (a.size * n.toNat ≤ 140737488355328) then some [.s ⟨(Lib.repeatL a.data.toList n.toNat).toArray⟩] else none
def repA.sp (k : Nat) : Spec := { pt := [(0, [.str]), (0, [.int .i64])], rt := [(false, [(.str, 0)])], G := fun ds => repA (gs ds 0) (gi ds 1) }
def joinL (l : List (List D)) (s : ByteArray) : List UInt8 := Lib.join (l.map fun r => (gs r 0).data.toList) s.data.toList
def joinA (l : List (List D)) (s : ByteArray) : Option (List D) := bif leN (joinL l s).length 140737488355328 && leN l.length 140737488355328 then some [.s ⟨(joinL l s).toArray⟩] else none
def joinA.sp (e : TypeId) : Spec := { pt := [(0, [.sl e]), (0, [.str])], rt := [(false, [(.str, 0)])], G := fun ds => joinA (gl ds 0) (gs ds 1) }
section
variable {P : Program} {gl : Nat → Option (List Value)} {f : Nat} {fn : Func}
theorem tab_of_globs {w : World} {F : Nat → Prop} {g : Nat} {name : String} {k : IntKind} {zs : List Int} (h : GlobsAt gl w F) (hg : gl g = some (zs.map (Value.int k))) (hn : P.globalNamed name = some g) : Lib.TabIs P w name k zs := by
  obtain ⟨_, _, _, t, i, h3⟩ := h g _ hg
  unfold Lib.TabIs World.var?
  rw [hn]
  show (match w.heap[g]? with | some (.cells cs _ _) => some cs | _ => none) = _
  rw [h3]
theorem fmtInt_ok (k : Nat) {g : Nat} (hf : P.funcs[f]? = some fn) (hb : fn.body.isSome = true) (hn : (fn.name == "runtime.NumGoroutine") = false) (hg : gl g = some (Lib.pow10Tab.map (Value.int .u64))) (hgn : P.globalNamed "internal/strconv.uint64pow10" = some g)
    (hc : ∀ (a : Int), -9223372036854775808 ≤ a → a ≤ 9223372036854775807 → ∀ w : World, Lib.TabIs P w "internal/strconv.uint64pow10" .u64 Lib.pow10Tab → Calls P f #[.int .i64 a, .int .i64 10] w fun e w' => e = .returned (.string ⟨(Lib.itoa a).toArray⟩) ∧ ∃ k os, w' = Sort.grow (w.drewN k) os) : SpecOk P gl f (fmtInt.sp k) := by
  refine str_ok rfl rfl rfl hf hb hn fun w N args ds t hgl ha ht => ?_
  obtain rfl := two_args rfl rfl ha
  have ht' : fmtInt (gi ds 0) (gi ds 1) = some t := ht
  unfold fmtInt at ht'
  cases hq : ((decide (-9223372036854775808 ≤ gi ds 0) && decide (gi ds 0 ≤ 9223372036854775807)) && decide (gi ds 1 = 10)) with
  | false => rw [hq] at ht'; cases ht'
  | true =>
    rw [hq, cond_true] at ht'
    obtain rfl := Option.some.inj ht'
    simp only [Bool.and_eq_true, decide_eq_true_eq] at hq
    refine ⟨_, rfl, ?_⟩
    have e1 : sv (.int .i64) (ds.getD 1 .j) = .int .i64 10 := by rw [← hq.2]; rfl
    rw [e1]
    refine (hc _ hq.1.1 hq.1.2 w (tab_of_globs hgl hg hgn)).mono ?_
    rintro e w' ⟨he, k, os, rfl⟩
    exact ⟨he, Lib.below_grow _ w (Nat.le_refl _) k os⟩
theorem trimA_ok (k : Nat) (hf : P.funcs[f]? = some fn) (hb : fn.body.isSome = true) (hn : (fn.name == "runtime.NumGoroutine") = false)
    (hc : ∀ (a b : ByteArray) (w : World), a.size ≤ 9223372036854775807 → b.size < 4294967281 → (∀ (j : Nat) c, b.data.toList[j]? = some c → c.toNat < 128) → Calls P f #[.string a, .string b] w fun e w' => e = .returned (.string ⟨(Lib.trimS a.data.toList b.data.toList).toArray⟩) ∧ Below w.heap.size w w') : SpecOk P gl f (trimA.sp k) := by
  refine str_ok rfl rfl rfl hf hb hn fun w N args ds t hgl ha ht => ?_
  obtain rfl := two_args rfl rfl ha
  have ht' : trimA (gs ds 0) (gs ds 1) = some t := ht
  unfold trimA at ht'
  cases hq : ((decide ((gs ds 0).size ≤ 9223372036854775807) && decide ((gs ds 1).size < 4294967281)) && (gs ds 1).data.toList.all (fun b => decide (b.toNat < 128))) with
  | false => rw [hq] at ht'; cases ht'
  | true =>
    rw [hq, cond_true] at ht'
    obtain rfl := Option.some.inj ht'
    rw [Bool.and_eq_true, Bool.and_eq_true, decide_eq_true_iff, decide_eq_true_iff] at hq
    exact ⟨_, rfl, hc _ _ w hq.1.1 hq.1.2 (ascii_of_all hq.2)⟩
theorem repA_ok (k : Nat) (hf : P.funcs[f]? = some fn) (hb : fn.body.isSome = true) (hn : (fn.name == "runtime.NumGoroutine") = false)
    (hc : ∀ (a : ByteArray) (n : Nat) (w : World), (n : Int) ≤ 9223372036854775807 → a.size * n ≤ 140737488355328 → Calls P f #[.string a, .int .i64 (n : Int)] w fun e w' => e = .returned (.string ⟨(Lib.repeatL a.data.toList n).toArray⟩) ∧ Below w.heap.size w w') : SpecOk P gl f (repA.sp k) := by
  refine str_ok rfl rfl rfl hf hb hn fun w N args ds t hgl ha ht => ?_
  obtain rfl := two_args rfl rfl ha
  have ht' : repA (gs ds 0) (gi ds 1) = some t := ht
  unfold repA at ht'
  cases hq : ((decide (0 ≤ gi ds 1) && decide (gi ds 1 ≤ 9223372036854775807)) && decide ((gs ds 0).size * (gi ds 1).toNat ≤ 140737488355328)) with
  | false => rw [hq] at ht'; cases ht'
  | true =>
    rw [hq, cond_true] at ht'
    obtain rfl := Option.some.inj ht'
    rw [Bool.and_eq_true, Bool.and_eq_true, decide_eq_true_iff, decide_eq_true_iff, decide_eq_true_iff] at hq
    refine ⟨_, rfl, ?_⟩
    have := hc (gs ds 0) (gi ds 1).toNat w (by omega) hq.2
    rw [Int.toNat_of_nonneg hq.1.1] at this
    exact this
theorem joinA_ok {e : TypeId} (hf : P.funcs[f]? = some fn) (hb : fn.body.isSome = true) (hn : (fn.name == "runtime.NumGoroutine") = false) (hk : kinds P e = [.str])
    (h0 : ∀ (a : Option Addr) (c : Nat) (s : ByteArray) (w : World), Calls P f #[.slice a 0 c, .string s] w fun e w' => e = .returned (.string ⟨#[]⟩) ∧ w' = w)
    (hc : ∀ (bk o c : Nat) (xs : List ByteArray) (s : ByteArray) (w : World), (∀ (j : Nat) x, xs[j]? = some x → w.cell? ⟨bk, o + j, none⟩ = some (.string x)) → bk < w.heap.size → xs.length ≤ 140737488355328 → xs.length ≤ c → (Lib.join (xs.map (·.data.toList)) s.data.toList).length ≤ 140737488355328 →
      Calls P f #[.slice (some ⟨bk, o, none⟩) xs.length c, .string s] w fun e w' => e = .returned (.string ⟨(Lib.join (xs.map (·.data.toList)) s.data.toList).toArray⟩) ∧ Below w.heap.size w w') : SpecOk P gl f (joinA.sp e) := by
  refine str_ok rfl rfl rfl hf hb hn fun w N args ds t hgl ha ht => ?_
  have ht' : joinA (Ev.gl ds 0) (gs ds 1) = some t := ht
  unfold joinA at ht'
  cases hq : (leN (joinL (Ev.gl ds 0) (gs ds 1)).length 140737488355328 && leN (Ev.gl ds 0).length 140737488355328) with
  | false => rw [hq] at ht'; cases ht'
  | true =>
    rw [hq, cond_true] at ht'
    obtain rfl := Option.some.inj ht'
    simp only [Bool.and_eq_true, leN, decide_eq_true_eq] at hq
    refine ⟨_, rfl, ?_⟩
    match args, ha with
    | [a, b], ⟨ha, hb', _⟩ =>
      have e2 : b = .string (gs ds 1) := by
        have := one_arg (k := .str) rfl hb'
        rw [this]
        show Value.string _ = _
        simp [gs, List.getD_eq_getElem?_getD, List.getElem?_drop]
      subst e2
      have hr := ha.2 0 (.sl e) a rfl rfl
      have hd : (ds.getD 0 .j).rows = Ev.gl ds 0 := rfl
      cases hr with
      | fn _ _ he hk' => rw [hk] at hk'; cases hk'
      | clo _ _ b he hk' hF' hcl => rw [hk] at hk'; cases hk'
      | cap _ _ _ he hk' => rw [hk] at hk'; cases hk'
      | pnil _ _ he hk' => rw [hk] at hk'; cases hk'
      | ptr _ _ _ _ he hk' => rw [hk] at hk'; cases hk'
      | nil _ _ a' c' h =>
        rw [hd] at h
        have ej : joinL (Ev.gl ds 0) (gs ds 1) = [] := by rw [h]; rfl
        rw [ej]
        exact (h0 a' c' (gs ds 1) w).mono fun e w' ⟨h1, h2⟩ => ⟨h1, by rw [h2]; exact Below.refl _ _⟩
      | sl _ _ bk o c n vs hn' hpos hm hF hcell hrr hcp =>
        rw [hd] at hn' hrr
        rw [hk] at hcell hrr
        have hx : ∀ (j : Nat) x, ((Ev.gl ds 0).map fun r => gs r 0)[j]? = some x → w.cell? ⟨bk, o + j, none⟩ = some (.string x) := by
          intro j x hj
          rw [List.getElem?_map] at hj
          obtain ⟨r, hjr, rfl⟩ := Option.map_eq_some_iff.1 hj
          have hjn : j < n := by rw [hn']; exact (List.getElem?_eq_some_iff.1 hjr).1
          have h1 := hcell j 0 hjn (by simp)
          simp only [List.length_singleton, Nat.mul_one, Nat.add_zero] at h1
          rw [h1]
          have h2 := hrr j 0 .str hjn rfl
          generalize vs j 0 = q at h2
          cases h2
          congr 2
          have er : (Ev.gl ds 0).getD j [] = r := by rw [List.getD_eq_getElem?_getD, hjr]; rfl
          show ((((Ev.gl ds 0).getD j []).getD 0 .j)).str = gs r 0
          rw [er]; rfl
        have hlen : ((Ev.gl ds 0).map fun r => gs r 0).length = n := by rw [List.length_map]; exact hn'.symm
        have hjl : ((Ev.gl ds 0).map fun r => gs r 0).map (·.data.toList) = (Ev.gl ds 0).map fun r => (gs r 0).data.toList := by rw [List.map_map]; rfl
        have := hc bk o c ((Ev.gl ds 0).map fun r => gs r 0) (gs ds 1) w hx (cell_lt (hcell 0 0 hpos (by simp))) (by rw [hlen, hn']; exact hq.2) (by rw [hlen]; exact hcp) (by rw [hjl]; exact hq.1)
        rw [hlen, hjl] at this
        exact this
end
end Go.Proofs.YtpanhndkcnojpaaDoor.Ev
