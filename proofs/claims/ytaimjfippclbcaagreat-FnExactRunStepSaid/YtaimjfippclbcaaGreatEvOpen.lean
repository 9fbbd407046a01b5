/- Arguments that are slices of structs within structs of whole numbers, opened to their cells. No condition. -/
import Derived.Test.YtaimjfippclbcaaGreatOpen
import Derived.Deep.Slices
import Derived.Deep.Fields
import Derived.ChangeSame
namespace Go.Proofs.YtaimjfippclbcaaGreat.Open
open Go.ChangeShapes Go.WideShapes Go.ChangeAt Go.RowKit Go.Deep
def intsT (P : Program) : Nat → TypeId → Bool
 | 0, _ => false
 | n + 1, t => match P.underlying t with
  | some (.int .i64) => true
  | some (.struct fs) => (List.range (P.cellsOf t)).all fun j => (List.range fs.size).any fun i => match fs[i]? with
   | some f => decide (f.offset ≤ j) && decide (j < f.offset + P.cellsOf f.type) && intsT P n f.type
   | none => false
  | _ => false
section
variable {H : Type} {enc : TypeId × Value → H} {P : Program} {w : World} {base : Nat} {spare : Nat → Bool} {held : Bool}
end
end Go.Proofs.YtaimjfippclbcaaGreat.Open
