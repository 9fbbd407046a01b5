/- Small facts on what the evaluator's forms are made of. No condition. -/
import Derived.Test.YtpanhndkcnojpaaDoorEvRow
import Derived.Laws.BitsLemmas
namespace Go.Proofs.YtpanhndkcnojpaaDoor.Ev
open Go Go.RowKit
set_option linter.unusedSimpArgs false
set_option linter.unusedVariables false
theorem wr (n : Int) (h0 : -9223372036854775808 ≤ n) (h1 : n ≤ 9223372036854775807) : IntKind.wrap .i64 n = n := by rw [IntKind.wrap_i64]; omega
theorem gb0 (x : Bool) (l : List D) : gb (.b x :: l) 0 = x := rfl
theorem gi0 (x : Int) (l : List D) : gi (.i x :: l) 0 = x := rfl
theorem gs0 (x : ByteArray) (l : List D) : gs (.s x :: l) 0 = x := rfl
theorem gl0 (x : List (List D)) (l : List D) : gl (.l x :: l) 0 = x := rfl
theorem giS (d : D) (l : List D) (n : Nat) : gi (d :: l) (n + 1) = gi l n := rfl
theorem gbS (d : D) (l : List D) (n : Nat) : gb (d :: l) (n + 1) = gb l n := rfl
theorem gsS (d : D) (l : List D) (n : Nat) : gs (d :: l) (n + 1) = gs l n := rfl
theorem glS (d : D) (l : List D) (n : Nat) : gl (d :: l) (n + 1) = gl l n := rfl
theorem bif_t {α : Type} {b : Bool} (h : b = true) (x y : α) : (bif b then x else y) = x := by rw [h]; rfl
theorem bif_f {α : Type} {b : Bool} (h : b = false) (x y : α) : (bif b then x else y) = y := by rw [h]; rfl
theorem bif_p {α : Type} {p : Prop} {_ : Decidable p} (h : p) (x y : α) : (bif decide p then x else y) = x := bif_t (decide_eq_true h) x y
theorem bif_n {α : Type} {p : Prop} {_ : Decidable p} (h : ¬ p) (x y : α) : (bif decide p then x else y) = y := bif_f (decide_eq_false h) x y
theorem bif_and {α : Type} {p q : Prop} {_ : Decidable p} {_ : Decidable q} (h1 : p) (h2 : q) (x y : α) : (bif decide p && decide q then x else y) = x := bif_t (by rw [decide_eq_true h1, decide_eq_true h2]; rfl) x y
theorem bif_in {α : Type} {i n : Int} {_ : Decidable (0 ≤ i)} {_ : Decidable (i < n)} (h0 : 0 ≤ i) (h : i < n) (x y : α) : (bif decide (0 ≤ i) && decide (i < n) then x else y) = x := bif_and h0 h x y
theorem z0 (x : Int) : ((x == 0) = true ∧ (x != 0) = false) ∨ ((x == 0) = false ∧ (x != 0) = true) := by by_cases h : x = 0 <;> simp [h]
theorem gil (xs : List (List D)) (i : Int) (j : Nat) : ri xs i j = gi (xs.getD i.toNat []) j := rfl
theorem b_eq {p q : Prop} [Decidable p] [Decidable q] (h : p ↔ q) : (some [D.b (decide p)] : Option (List D)) = some [.b (decide q)] := by rw [decide_eq_decide.2 h]
theorem ltI_t {a b : Int} (h : a < b) : ltI a b = true := decide_eq_true h
theorem ltI_f {a b : Int} (h : b ≤ a) : ltI a b = false := decide_eq_false (by omega)
theorem leI_t {a b : Int} (h : a ≤ b) : leI a b = true := decide_eq_true h
theorem leI_f {a b : Int} (h : b < a) : leI a b = false := decide_eq_false (by omega)
theorem eqI_t {a b : Int} (h : a = b) : eqI a b = true := decide_eq_true h
theorem eqI_f {a b : Int} (h : a ≠ b) : eqI a b = false := decide_eq_false h
theorem leN_t {a b : Nat} (h : a ≤ b) : leN a b = true := decide_eq_true h
theorem inR_t {i n : Int} (h0 : 0 ≤ i) (h : i < n) : inR i n = true := by unfold inR; rw [decide_eq_true h0, decide_eq_true h]; rfl
theorem leR_t {i n : Int} (h0 : 0 ≤ i) (h : i ≤ n) : leR i n = true := by unfold leR; rw [decide_eq_true h0, decide_eq_true h]; rfl
theorem inS_t {l h n : Int} (h0 : 0 ≤ l) (h1 : l ≤ h) (h2 : h ≤ n) : inS l h n = true := by unfold inS; rw [decide_eq_true h0, decide_eq_true h1, decide_eq_true h2]; rfl
theorem apOk_t {n b : Nat} (h0 : n * b ≤ 140737488355328) (h : n ≤ 4611686018427387904) : apOk n b = true := by unfold apOk; rw [decide_eq_true h0, decide_eq_true h]; rfl
theorem beq_t {a b : Int} (h : a = b) : (a == b) = true := by rw [h]; exact beq_self_eq_true b
theorem beq_f {a b : Int} (h : a ≠ b) : (a == b) = false := beq_eq_false_iff_ne.2 h
theorem bne_t {a b : Int} (h : a ≠ b) : (a != b) = true := by unfold bne; rw [beq_f h]; rfl
theorem bne_f {a b : Int} (h : a = b) : (a != b) = false := by unfold bne; rw [beq_t h]; rfl
theorem ltI_iff {a b : Int} : ltI a b = true ↔ a < b := decide_eq_true_iff
theorem leI_iff {a b : Int} : leI a b = true ↔ a ≤ b := decide_eq_true_iff
theorem eqI_iff {a b : Int} : eqI a b = true ↔ a = b := decide_eq_true_iff
theorem ite_b {α : Type} (b : Bool) (x y : α) : (bif b then x else y) = if b = true then x else y := by cases b <;> rfl
end Go.Proofs.YtpanhndkcnojpaaDoor.Ev
