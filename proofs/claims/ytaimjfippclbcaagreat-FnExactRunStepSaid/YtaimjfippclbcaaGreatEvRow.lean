/- What a row's arguments are to the evaluator, and what its contract gives the row. No condition. -/
import Derived.Test.YtaimjfippclbcaaGreatEvD
import Derived.Test.YtaimjfippclbcaaGreatEvOpen
namespace Go.Proofs.YtaimjfippclbcaaGreat.Ev
open Go Go.RowKit
set_option linter.unusedVariables false
section
variable {P : Program} {w : World} {F : Nat → Prop}
theorem RowRep.nil {ds : List D} : RowRep P w F [] ds [] := ⟨rfl, fun j k u h => by simp at h⟩
theorem RowRep.cons {k : K} {ks : List K} {d : D} {ds : List D} {v : Value} {vs : List Value} (h : RepD P w F k d v) (r : RowRep P w F ks ds vs) : RowRep P w F (k :: ks) (d :: ds) (v :: vs) := by
 refine ⟨by simp [r.1], fun j k' u h1 h2 => ?_⟩
 cases j with
 | zero => obtain rfl := Option.some.inj h1; obtain rfl := Option.some.inj h2; exact h
 | succ j => exact r.2 j k' u (by simpa using h1) (by simpa using h2)
theorem ArgsRep.nil {ds : List D} : ArgsRep P w F [] ds [] := trivial
end
theorem ev_calls {P : Program} {gl : Nat → Option (List Value)} {f : FuncId} {sp : Spec} (h : SpecOk P gl f sp) {fn : Func} (hfn : P.funcs[f]? = some fn) (hb : fn.body.isSome = true) (hm : isMut sp = false) (hrt : sp.rt = [(false, [(.bool, 0)])]) {w : World} (hgl : GlobsAt gl w fun _ => False) {ds : List D} {args : List Value} (ha : ∀ F : Nat → Prop, (∀ b, ¬ F b) → ArgsRep P w F sp.pt ds args) (hG : sp.G ds = some [.b true]) :
  Calls P f args.toArray w fun e w' => e = .returned (.bool true) ∧ Below w.heap.size w w' := by
 have hX : ∀ b, ¬ MutB sp.pt args b := fun b => mutB_false (P := P) hm
 refine (h.calls hfn hb (N := fun _ => False) (fun b hb => hb.elim) (hgl.weaken fun b hb => hb.elim (hX b) id) (ha _ fun b hb => hb.elim id (hX b)) hG).mono fun e w' ⟨v, he, hk, ⟨own, pl', _, hr⟩, _⟩ => ?_
 refine ⟨?_, ⟨hk.os, hk.tape, hk.output, hk.size, fun b hb => hk.block b hb (hX b)⟩⟩
 rw [he, hrt] at *
 have hc : CellsRep (cxr P w' own (fun _ => False) pl') 0 0 [.v (.bool true)] [v] := by rw [hrt] at hr; exact hr
 have : v = .bool true := hc.2.2 0 _ _ rfl rfl
 rw [this]
end Go.Proofs.YtaimjfippclbcaaGreat.Ev
