-- Printed by drive.py, which calls the kit's print.py with changes of its own.
import Derived.Test.YtillihiadpgalaaProg
import Derived.Below
import Derived.Deep.Draws
import Derived.Deep.AppendLies
import Derived.Maps.AppendAt
import Derived.OwnWalk
import Derived.Laws.BytesArg
import Derived.Laws.MakeOwn
import Derived.Laws.OwnMore
import Derived.Deep.OwnRows
import Derived.Tactics
import Derived.Lib.ConvBytes
import Derived.Laws.Slices
import Derived.WalkKit
import Derived.KernelRfl
import Derived.RowKit3
import Derived.Deep.LoopGhost
import Derived.Deep.QuietTactic
import Derived.BigQuiet
import Derived.WideLaws
import Derived.Deep.DeepCutAuto
import Derived.Deep.CutBlock
import Derived.Deep.RegionHeld3
import Derived.Laws.Rows
import Derived.Lib.AppendStr
import Derived.ArgAppend
import Derived.Laws.IdiomCopy
import Derived.OrdersHeld
import Derived.Laws.BitsLemmas
import Derived.RowKit
import Derived.Test.YtillihiadpgalaaWWords
import Derived.Test.YtillihiadpgalaaWLast
import Derived.Test.YtillihiadpgalaaWTab
import Derived.Test.YtillihiadpgalaaWFour
import Derived.Test.YtillihiadpgalaaWQPut
import Derived.Test.YtillihiadpgalaaWApart
import Derived.Test.YtillihiadpgalaaWArr
import Derived.Test.YtillihiadpgalaaWZeros
import Derived.Test.YtillihiadpgalaaWFoot
import Derived.Test.YtillihiadpgalaaWKept
import Derived.Test.YtillihiadpgalaaWShare
import Derived.Test.YtillihiadpgalaaWN
import Derived.Test.YtillihiadpgalaaWFootNe
import Derived.Test.YtillihiadpgalaaWAt
import Derived.Test.YtillihiadpgalaaWEqStruct
import Derived.Test.YtillihiadpgalaaWRepsOne
import Derived.Test.YtillihiadpgalaaWInv
import Derived.Test.YtillihiadpgalaaWInvWords
import Derived.Test.YtillihiadpgalaaWGuard
import Derived.Test.YtillihiadpgalaaWNEv
import Derived.Test.YtillihiadpgalaaWMore
namespace Go.Proofs.Ytillihiadpgalaa.P
open Go.RowKit Go.Proofs.YtillihiadpgalaaW.PrintWords Go.Proofs.YtillihiadpgalaaW.PrintLast Go.Proofs.YtillihiadpgalaaW.PrintMore
attribute [local go_sem] max2_int min2_int max_two min_two max_three min_three max_four min_four   -- for this text's walks alone
set_option linter.unusedVariables false
set_option linter.unusedSimpArgs false



def errW : Option Int → Value
  | none => .nilIface
  | some c => .iface 0 (.int .i64 c)
theorem errW_none : errW none = .nilIface := rfl
theorem errW_some (c : Int) : errW (some c) = .iface 0 (.int .i64 c) := rfl

theorem info2 : (Try.prog.info? 2).map (fun i => (i.zero, i.size, i.bytes)) = some (some (.int .i64 0), 1, 8) := by kernel_rfl
-- the values' own types

end Go.Proofs.Ytillihiadpgalaa.P
