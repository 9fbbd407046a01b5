/- Functions of Go's library that answer a string, out of the library's contracts: strconv.FormatInt at base 10, strings.Trim at an ASCII cutset, strings.Repeat, strings.Join. No condition. -/
import Derived.Test.YtajbomdeehaaiaaDoorEvExt
import Derived.Shelf.Strconv.Itoa4
import Derived.Shelf.Strings.SlTrimAscii
import Derived.Shelf.Strings.Repeat
import Derived.Shelf.Strings.OnBuilder
import Derived.Lib.AppendIntMem
namespace Go.Proofs.YtajbomdeehaaiaaDoor.Ev
open Go Go.RowKit
set_option linter.unusedVariables false
def fmtInt (a b : Int) : Option (List D) := bif (decide (-9223372036854775808 ≤ a) && decide (a ≤ 9223372036854775807)) && decide (b = 10) then some [.s ⟨(Lib.itoa a).toArray⟩] else none
def fmtInt.sp (k : Nat) : Spec := { pt := [(0, [.int .i64]), (0, [.int .i64])], rt := [(false, [(.str, 0)])], G := fun ds => fmtInt (gi ds 0) (gi ds 1) }
def trimA (a b : ByteArray) : Option (List D) := bif (decide (a.size ≤ 9223372036854775807) && decide (b.size < 4294967281)) && b.data.toList.all (fun b => decide (b.toNat < 128)) then some [.s ⟨(Lib.trimS a.data.toList b.data.toList).toArray⟩] else none
def trimA.sp (k : Nat) : Spec := { pt := [(0, [.str]), (0, [.str])], rt := [(false, [(.str, 0)])], G := fun ds => trimA (gs ds 0) (gs ds 1) }
def repA (a : ByteArray) (n : Int) : Option (List D) := bif (decide (0 ≤ n) && decide (n ≤ 9223372036854775807)) && decide (a.size * n.toNat ≤ 140737488355328) then some [.s ⟨(Lib.repeatL a.data.toList n.toNat).toArray⟩] else none
def repA.sp (k : Nat) : Spec := { pt := [(0, [.str]), (0, [.int .i64])], rt := [(false, [(.str, 0)])], G := fun ds => repA (gs ds 0) (gi ds 1) }
section
variable {P : Program} {gl : Nat → Option (List Value)} {f : Nat} {fn : Func}
theorem tab_of_globs {w : World} {F : Nat → Prop} {g : Nat} {name : String} {k : IntKind} {zs : List Int} (h : GlobsAt gl w F) (hg : gl g = some (zs.map (Value.int k))) (hn : P.globalNamed name = some g) : Lib.TabIs P w name k zs := by
  obtain ⟨_, _, _, t, i, h3⟩ := h g _ hg
  unfold Lib.TabIs World.var?
  rw [hn]
  show (match w.heap[g]? with | some (.cells cs _ _) => some cs | _ => none) = _
  rw [h3]
theorem fmtInt_ok (k : Nat) {g : Nat} (hf : P.funcs[f]? = some fn) (hb : fn.body.isSome = true) (hn : (fn.name == "runtime.NumGoroutine") = false) (hg : gl g = some (Lib.pow10Tab.map (Value.int .u64))) (hgn : P.globalNamed "internal/strconv.uint64pow10" = some g)
    (hc : ∀ (a : Int), -9223372036854775808 ≤ a → a ≤ 9223372036854775807 → ∀ w : World, Lib.TabIs P w "internal/strconv.uint64pow10" .u64 Lib.pow10Tab → Calls P f #[.int .i64 a, .int .i64 10] w fun e w' => e = .returned (.string ⟨(Lib.itoa a).toArray⟩) ∧ ∃ k os, w' = Sort.grow (w.drewN k) os) : SpecOk P gl f (fmtInt.sp k) := by
  refine str_ok rfl rfl rfl hf hb hn fun w N args ds t hgl ha ht => ?_
  obtain rfl := two_args rfl rfl ha
  have ht' : fmtInt (gi ds 0) (gi ds 1) = some t := ht
  unfold fmtInt at ht'
  cases hq : ((decide (-9223372036854775808 ≤ gi ds 0) && decide (gi ds 0 ≤ 9223372036854775807)) && decide (gi ds 1 = 10)) with
  | false => rw [hq] at ht'; cases ht'
  | true =>
    rw [hq, cond_true] at ht'
    obtain rfl := Option.some.inj ht'
    simp only [Bool.and_eq_true, decide_eq_true_eq] at hq
    refine ⟨_, rfl, ?_⟩
    have e1 : sv (.int .i64) (ds.getD 1 .j) = .int .i64 10 := by rw [← hq.2]; rfl
    rw [e1]
    refine (hc _ hq.1.1 hq.1.2 w (tab_of_globs hgl hg hgn)).mono ?_
    rintro e w' ⟨he, k, os, rfl⟩
    exact ⟨he, Lib.below_grow _ w (Nat.le_refl _) k os⟩
theorem trimA_ok (k : Nat) (hf : P.funcs[f]? = some fn) (hb : fn.body.isSome = true) (hn : (fn.name == "runtime.NumGoroutine") = false)
    (hc : ∀ (a b : ByteArray) (w : World), a.size ≤ 9223372036854775807 → b.size < 4294967281 → (∀ (j : Nat) c, b.data.toList[j]? = some c → c.toNat < 128) → Calls P f #[.string a, .string b] w fun e w' => e = .returned (.string ⟨(Lib.trimS a.data.toList b.data.toList).toArray⟩) ∧ Below w.heap.size w w') : SpecOk P gl f (trimA.sp k) := by
  refine str_ok rfl rfl rfl hf hb hn fun w N args ds t hgl ha ht => ?_
  obtain rfl := two_args rfl rfl ha
  have ht' : trimA (gs ds 0) (gs ds 1) = some t := ht
  unfold trimA at ht'
  cases hq : ((decide ((gs ds 0).size ≤ 9223372036854775807) && decide ((gs ds 1).size < 4294967281)) && (gs ds 1).data.toList.all (fun b => decide (b.toNat < 128))) with
  | false => rw [hq] at ht'; cases ht'
  | true =>
    rw [hq, cond_true] at ht'
    obtain rfl := Option.some.inj ht'
    rw [Bool.and_eq_true, Bool.and_eq_true, decide_eq_true_iff, decide_eq_true_iff] at hq
    exact ⟨_, rfl, hc _ _ w hq.1.1 hq.1.2 (ascii_of_all hq.2)⟩
theorem repA_ok (k : Nat) (hf : P.funcs[f]? = some fn) (hb : fn.body.isSome = true) (hn : (fn.name == "runtime.NumGoroutine") = false)
    (hc : ∀ (a : ByteArray) (n : Nat) (w : World), (n : Int) ≤ 9223372036854775807 → a.size * n ≤ 140737488355328 → Calls P f #[.string a, .int .i64 (n : Int)] w fun e w' => e = .returned (.string ⟨(Lib.repeatL a.data.toList n).toArray⟩) ∧ Below w.heap.size w w') : SpecOk P gl f (repA.sp k) := by
  refine str_ok rfl rfl rfl hf hb hn fun w N args ds t hgl ha ht => ?_
  obtain rfl := two_args rfl rfl ha
  have ht' : repA (gs ds 0) (gi ds 1) = some t := ht
  unfold repA at ht'
  cases hq : ((decide (0 ≤ gi ds 1) && decide (gi ds 1 ≤ 9223372036854775807)) && decide ((gs ds 0).size * (gi ds 1).toNat ≤ 140737488355328)) with
  | false => rw [hq] at ht'; cases ht'
  | true =>
    rw [hq, cond_true] at ht'
    obtain rfl := Option.some.inj ht'
    rw [Bool.and_eq_true, Bool.and_eq_true, decide_eq_true_iff, decide_eq_true_iff, decide_eq_true_iff] at hq
    refine ⟨_, rfl, ?_⟩
    have := hc (gs ds 0) (gi ds 1).toNat w (by omega) hq.2
    rw [Int.toNat_of_nonneg hq.1.1] at this
    exact this
end
end Go.Proofs.YtajbomdeehaaiaaDoor.Ev
