/- A function that hands back a function: it keeps the given one in a variable that only the new one reads. No condition. -/
import Derived.Test.YtaimjfippclbcaaGreatEvD
namespace Go.Proofs.YtaimjfippclbcaaGreat.Ev
open Go Go.RowKit
set_option linter.unusedVariables false
set_option linter.unusedSimpArgs false
def oddBody (t g : Nat) (p q : String) : Code :=
 .seq (.region 0 #[{ dst := some 1, op := .box t (.tmp 0), type := 0, pos := p, after := #[], guard := none }, { dst := some 2, op := .assign (.const .nilFunc), type := t, pos := p, after := #[], guard := none }] false)
  (.seq (.region 1 #[{ dst := some 3, op := .makeFunc (.func g) #[] #[.tmp 1], type := t, pos := q, after := #[], guard := none }, { dst := some 2, op := .assign (.tmp 3), type := t, pos := q, after := #[{ on := 0, ground := .data }, { on := 0, ground := .phase }], guard := none }] false) .ret)
theorem odd_calls {P : Program} {f g f0 t : Nat} {p q : String} {fn : Func} (hf : P.funcs[f]? = some fn) (hb : fn.body = some (oddBody t g p q)) (hnt : fn.ntmps = 4) (hr : fn.results = #[.tmp 2]) (w : World) :
  Calls P f #[.func (.func f0) #[] #[]] w fun e w' => e = .returned (.func (.func g) #[] #[.pointer (some ⟨w.heap.size, 0, none⟩)]) ∧ w' = w.alloc (.cells #[.func (.func f0) #[] #[]] t (0, 0)) := by
 refine calls_of_wp hf hb ?_
 rw [hnt]
 refine wp_seq (wp_region_list ?_)
 refine .inl ?_
 show Oper.wp _ _ _ _ _ _
 unfold Oper.wp
 have e1 : (execOp (Act.eval { tmps := #[Value.func (.func f0) #[] #[]] ++ Array.replicate (4 - #[Value.func (.func f0) #[] #[]].size) undef, defers := [] }) { dst := some 1, op := .box t (.tmp 0), type := 0, pos := p, after := #[], guard := none }).run P w = .ok (.value (.pointer (some ⟨w.heap.size, 0, none⟩))) (w.alloc (.cells #[.func (.func f0) #[] #[]] t (0, 0))) := by
  simp [execOp, Instr.box, newVar, newRow, newObj, Sem.run, Act.eval, Value.cells]
 rw [e1]
 refine .inl ?_
 refine (?_ : Code.wp P (.seq (.region 1 #[{ dst := some 3, op := .makeFunc (.func g) #[] #[.tmp 1], type := t, pos := q, after := #[], guard := none }, { dst := some 2, op := .assign (.tmp 3), type := t, pos := q, after := #[{ on := 0, ground := .data }, { on := 0, ground := .phase }], guard := none }] false) .ret) _ { tmps := #[.func (.func f0) #[] #[], .pointer (some ⟨w.heap.size, 0, none⟩), .nilFunc, undef], defers := [] } _)
 refine wp_seq (wp_region_list ?_)
 refine .inl ?_
 have e3 : (#[Operand.tmp 1].map (Act.eval { tmps := #[.func (.func f0) #[] #[], .pointer (some ⟨w.heap.size, 0, none⟩), .nilFunc, undef], defers := [] })) = #[.pointer (some ⟨w.heap.size, 0, none⟩)] := by simp [Act.eval]
 have e4 : ((#[] : Array Operand).map (Act.eval { tmps := #[.func (.func f0) #[] #[], .pointer (some ⟨w.heap.size, 0, none⟩), .nilFunc, undef], defers := [] })) = #[] := by simp
 have e5 : (execOp (Act.eval { tmps := #[.func (.func f0) #[] #[], .pointer (some ⟨w.heap.size, 0, none⟩), .nilFunc, undef], defers := [] }) { dst := some 3, op := .makeFunc (.func g) #[] #[.tmp 1], type := t, pos := q, after := #[], guard := none }).run P (w.alloc (.cells #[.func (.func f0) #[] #[]] t (0, 0))) = .ok (.value (.func (.func g) #[] #[.pointer (some ⟨w.heap.size, 0, none⟩)])) (w.alloc (.cells #[.func (.func f0) #[] #[]] t (0, 0))) := by
  show Result.ok (Next.value (.func (.func g) _ _)) _ = _
  rw [e3, e4]
 unfold Oper.wp
 rw [e5]
 refine .inl ?_
 refine (?_ : Code.wp P .ret _ { tmps := #[.func (.func f0) #[] #[], .pointer (some ⟨w.heap.size, 0, none⟩), .func (.func g) #[] #[.pointer (some ⟨w.heap.size, 0, none⟩)], .func (.func g) #[] #[.pointer (some ⟨w.heap.size, 0, none⟩)]], defers := [] } _)
 refine wp_ret ⟨rfl, _, ?_, rfl, rfl⟩
 simp [results, hr, Sem.run]
def oddT (g f0 : Nat) : Nat := 2000000000 + g * 100000 + f0
def odd.sp (g f0 : Nat) : Spec := { pt := [(f0 + 10, [.bool])], rt := [(false, [(.sl (oddT g f0), 0)])], G := fun _ => some [.l []] }
theorem odd_ok {P : Program} {gl : Nat → Option (List Value)} {f g f0 t : Nat} {p q : String} {fn : Func} (h0 : f0 < 100000) (hk : (kinds P (oddT g f0)).length = 0) (hf : P.funcs[f]? = some fn) (hb : fn.body = some (oddBody t g p q)) (hn : (fn.name == "runtime.NumGoroutine") = false) (hnt : fn.ntmps = 4) (hr : fn.results = #[.tmp 2]) : SpecOk P gl f (odd.sp g f0) := by
 refine ⟨rfl, fun w N args ds t' hN _ ha ht => .inl ⟨⟨fn, hf, by rw [hb]; rfl, hn⟩, ?_⟩⟩
 obtain rfl := Option.some.inj ht
 match args, ha with
 | [v], ⟨⟨_, hv⟩, _⟩ =>
  have hv' : v = .func (.func f0) #[] #[] := hv
  subst hv'
  refine (odd_calls hf hb hnt hr w).mono ?_
  rintro e w' ⟨rfl, rfl⟩
  have hbel := Below.one w (.cells #[.func (.func f0) #[] #[]] t (0, 0))
  refine ⟨_, rfl, ⟨⟨hbel.os, hbel.tape, hbel.output, hbel.size, fun b h _ => hbel.block b h⟩, ⟨fun _ => none, fun _ => none, (fun b j h => nomatch h), ?_⟩, trivial⟩⟩
  have hg : cloF (oddT g f0) = g := by unfold cloF oddT; omega
  have hg0 : cloG (oddT g f0) = f0 := by unfold cloG oddT; omega
  have hclo : isCloT (oddT g f0) = true := Nat.ble_eq_true_of_le (by unfold oddT; omega)
  refine ⟨rfl, fun v hv => by obtain rfl := List.mem_singleton.1 hv; rfl, fun j c v h1 h2 => ?_⟩
  cases j with
  | succ j => simp [cellsR] at h1
  | zero =>
   obtain rfl := Option.some.inj h1
   obtain rfl := Option.some.inj h2
   have := RepD.clo (P := P) (w := w.alloc (.cells #[.func (.func f0) #[] #[]] t (0, 0))) (F := Forb (cxr P (w.alloc (.cells #[.func (.func f0) #[] #[]] t (0, 0))) (fun _ => none) N fun _ => none)) (oddT g f0) (.l []) w.heap.size hclo hk (fun hh => ?_) ?_
   ·rw [hg] at this
    exact this
   ·rcases hh with h | ⟨p, h⟩
    ·exact Nat.lt_irrefl _ (hN _ h).1
    ·cases h
   ·rw [hg0]
    have e2 := heap_alloc_new w (.cells #[.func (.func f0) #[] #[]] t (0, 0))
    unfold World.cell?
    dsimp only
    rw [e2]
    rfl
end Go.Proofs.YtaimjfippclbcaaGreat.Ev
