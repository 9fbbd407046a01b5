/- The form in which a function's contract is printed. No condition. -/
import Derived.Test.YtpggnjmmpkdkjaaGreatEvS24
namespace Go.Proofs.YtpggnjmmpkdkjaaGreat.Ev
open Go Go.RowKit
set_option linter.unusedVariables false
def Specs (P : Program) (gl : Nat → Option (List Value)) (l : List (Nat × Spec)) : Prop := ∀ x ∈ l, SpecOk P gl x.1 x.2
theorem Specs.nil {P : Program} {gl : Nat → Option (List Value)} : Specs P gl [] := fun x h => by cases h
theorem Specs.cons {P : Program} {gl : Nat → Option (List Value)} {n : Nat} {sp : Spec} {l : List (Nat × Spec)} (h : SpecOk P gl n sp) (hl : Specs P gl l) : Specs P gl ((n, sp) :: l) := fun x hx => by
  rcases List.mem_cons.1 hx with rfl | hx
  · exact h
  · exact hl x hx
def LoopsFrom (E : Env) (l : List (Nat × Code)) (i : Nat) : Prop := ∀ j, i ≤ j → j < l.length → LoopOk E (l.getD j (0, .skip))
theorem LoopsFrom.nil {E : Env} {l : List (Nat × Code)} {i : Nat} (h : Nat.ble l.length i = true) : LoopsFrom E l i := fun j h1 h2 => absurd h2 (by have := Nat.le_of_ble_eq_true h; omega)
theorem LoopsFrom.cons {E : Env} {l : List (Nat × Code)} {i : Nat} (h : LoopOk E (l.getD i (0, .skip))) (hl : LoopsFrom E l (i + 1)) : LoopsFrom E l i := fun j h1 h2 => by
  by_cases e : i = j
  · subst e; exact h
  · exact hl j (by omega) h2
def fnChecks (E : Env) (f : Nat) (fn : Func) (sp : Spec) : Bool :=
  E.P.follows .mixedOrders && fn.body.isSome && !(fn.name == "runtime.NumGoroutine") && Nat.beq E.nt fn.ntmps && Nat.ble sp.pt.length fn.ntmps && okC fn.ntmps (fn.body.getD .skip) && flagsOk sp.rt && kindsOk E.P sp.rt && oneMut sp.pt && (!isMut sp || noSl sp.rt)
theorem fn_spec {E : Env} {f : Nat} {fn : Func} {sp : Spec} {l : List (Nat × Spec)} {gl : Nat → Option (List Value)} (hE : Specs E.P gl l) (hl : E.spec = look l) (hg : E.glob = gl) (hfn : E.P.funcs[f]? = some fn) (hc : fnChecks E f fn sp = true) (hloops : LoopsFrom E (loopsOf (fn.body.getD .skip)) 0) (hG : ∀ ds, evFn E fn sp ds = sp.G ds) : SpecOk E.P gl f sp := by
  subst hg
  simp only [fnChecks, Bool.and_eq_true, Bool.not_eq_true', Bool.or_eq_true] at hc
  obtain ⟨⟨⟨⟨⟨⟨⟨⟨⟨h1, h2⟩, h3⟩, h4⟩, h5⟩, h6⟩, h7⟩, h8⟩, h9⟩, h10⟩ := hc
  obtain ⟨c, hb⟩ := Option.isSome_iff_exists.1 h2
  rw [hb, Option.getD_some] at h6 hloops
  refine fn_ok h1 (fun f sp hs => env_ok hE f sp (by rw [← hl]; exact hs)) hfn hb h3 (Nat.eq_of_beq_eq_true h4) (Nat.le_of_ble_eq_true h5) h6 (fun x hx => ?_) hG h7 h8 h9 h10
  obtain ⟨j, hj, rfl⟩ := List.mem_iff_getElem.1 hx
  have := hloops j (Nat.zero_le _) hj
  rw [List.getD_eq_getElem?_getD, List.getElem?_eq_getElem hj] at this
  exact this
/-- A function of which nothing is told: the ground of a recursion. -/
theorem spec_none {P : Program} {gl : Nat → Option (List Value)} {f : Nat} {fn : Func} {sp : Spec} (hfn : P.funcs[f]? = some fn) (hb : fn.body.isSome = true) (hn : (fn.name == "runtime.NumGoroutine") = false) (hfl : flagsOk sp.rt = true) (hG : ∀ ds, sp.G ds = none) : SpecOk P gl f sp :=
  ⟨hfl, fun w N args ds t _ _ _ ht => by rw [hG] at ht; cases ht⟩
end Go.Proofs.YtpggnjmmpkdkjaaGreat.Ev
