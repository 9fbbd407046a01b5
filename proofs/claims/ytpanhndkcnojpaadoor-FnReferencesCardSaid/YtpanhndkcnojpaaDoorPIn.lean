/- Bounds, by both. No condition. -/
import Derived.Test.YtpanhndkcnojpaaDoorFnReferencesF
import Derived.Test.YtpanhndkcnojpaaDoorPBase
namespace Go.Proofs.YtpanhndkcnojpaaDoor.Ev
open Go Go.RowKit
set_option linter.unusedSimpArgs false
set_option linter.unusedVariables false
end Go.Proofs.YtpanhndkcnojpaaDoor.Ev
