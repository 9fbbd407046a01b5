-- Printed by drive.py, which calls the kit's print.py with changes of its own.
import Derived.Test.YtelajgllidngiaaDoorProg
import Derived.Test.YtelajgllidngiaaDoorShelf
import Derived.Below
import Derived.Deep.Draws
import Derived.Deep.AppendLies
import Derived.Maps.AppendAt
import Derived.OwnWalk
import Derived.Laws.BytesArg
import Derived.Laws.MakeOwn
import Derived.Laws.OwnMore
import Derived.Deep.OwnRows
import Derived.Tactics
import Derived.Lib.ConvBytes
import Derived.Laws.Slices
import Derived.WalkKit
import Derived.KernelRfl
import Derived.RowKit3
import Derived.Deep.LoopGhost
import Derived.Deep.QuietTactic
import Derived.BigQuiet
import Derived.WideLaws
import Derived.Deep.DeepCutAuto
import Derived.Deep.CutBlock
import Derived.Deep.RegionHeld3
import Derived.Laws.Rows
import Derived.Lib.AppendStr
import Derived.ArgAppend
import Derived.Laws.IdiomCopy
import Derived.OrdersHeld
import Derived.Laws.BitsLemmas
import Derived.RowKit
import Derived.Test.YtelajgllidngiaaDoorWWords
import Derived.Test.YtelajgllidngiaaDoorWLast
import Derived.Test.YtelajgllidngiaaDoorWTab
import Derived.Test.YtelajgllidngiaaDoorWQPut
import Derived.Test.YtelajgllidngiaaDoorWApart
import Derived.Test.YtelajgllidngiaaDoorWArr
import Derived.Test.YtelajgllidngiaaDoorWZeros
import Derived.Test.YtelajgllidngiaaDoorWFoot
import Derived.Test.YtelajgllidngiaaDoorWKept
import Derived.Test.YtelajgllidngiaaDoorWShare
import Derived.Test.YtelajgllidngiaaDoorWN
import Derived.Test.YtelajgllidngiaaDoorWRepsOne
import Derived.Test.YtelajgllidngiaaDoorWNEv
import Derived.Test.YtelajgllidngiaaDoorWMore
namespace Go.Proofs.YtelajgllidngiaaDoor.P
open Go.RowKit Go.Proofs.YtelajgllidngiaaDoorW.PrintWords Go.Proofs.YtelajgllidngiaaDoorW.PrintLast Go.Proofs.YtelajgllidngiaaDoorW.PrintMore
attribute [local go_sem] max2_int min2_int max_two min_two max_three min_three max_four min_four   -- for this text's walks alone
set_option linter.unusedVariables false
set_option linter.unusedSimpArgs false



def errW : Option Int → Value
 | none => .nilIface
 | some c => .iface 0 (.int .i64 c)
theorem errW_none : errW none = .nilIface := rfl
theorem errW_some (c : Int) : errW (some c) = .iface 0 (.int .i64 c) := rfl

theorem info2 : (Tryd.prog.info? 2).map (fun i => (i.zero, i.size, i.bytes)) = some (some (.int .i64 0), 1, 8) := by kernel_rfl
theorem info5 : (Tryd.prog.info? 5).map (fun i => (i.zero, i.size, i.bytes)) = some (some (.int .u8 0), 1, 1) := by kernel_rfl
-- the values' own types

theorem bcell {W : World} {g : Nat} {cs : Array Value} {t : TypeId} (h : W.heap[g]? = some (.cells cs t (0, 0))) (j : Nat) (v : Value) (hv : cs[j]? = some v) : W.cell? ⟨g, j, none⟩ = some v := (blk_cell h j).trans hv
end Go.Proofs.YtelajgllidngiaaDoor.P
