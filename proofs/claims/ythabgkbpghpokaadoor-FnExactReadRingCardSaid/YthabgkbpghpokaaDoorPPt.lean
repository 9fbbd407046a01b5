/- Points: what is valid, by both. No condition. -/
import Derived.Test.YthabgkbpghpokaaDoorPIn
namespace Go.Proofs.YthabgkbpghpokaaDoor.Ev
open Go Go.RowKit
set_option linter.unusedSimpArgs false
set_option linter.unusedVariables false
def PtB (a b : Int) : Bool := (leI (-900000000) a && leI a 900000000) && (leI (-1799999999) b && leI b 1800000000)
theorem pt_some (k : Nat) (a b : Int) : spec_l11Ok k a b = some [.b (PtB a b)] := by
  unfold spec_l11Ok PtB
  simp only [in_some, Option.bind_some, gb0]
  cases (leI (-900000000) a && leI a 900000000) <;> rfl
theorem point_some (k : Nat) (a b : Int) : impl_ValidPoint k a b = some [.b (PtB a b)] := by
  unfold impl_ValidPoint PtB
  have e : ltI (-1800000000) b = leI (-1799999999) b := decide_eq_decide.2 (by omega)
  simp only [within_some, Option.bind_some, gb0, e]
  cases (leI (-900000000) a && leI a 900000000) <;> cases leI (-1799999999) b <;> rfl
theorem PtB_iff {a b : Int} : PtB a b = true ↔ (-900000000 ≤ a ∧ a ≤ 900000000) ∧ -1799999999 ≤ b ∧ b ≤ 1800000000 := by
  unfold PtB
  simp only [Bool.and_eq_true, leI_iff]
end Go.Proofs.YthabgkbpghpokaaDoor.Ev
