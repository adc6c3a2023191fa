/- LoadNone, evaluated. -/
import Derived.Test.YtbnfegcpnnokeaaGreatDoorAk
set_option linter.unusedVariables false
set_option linter.unusedSimpArgs false
namespace Go.Proofs.YtbnfegcpnnokeaaGreatDoor
open Go.RowKit

set_option maxRecDepth 100000 in
theorem loadNone_run (m n : Int) : (Ax.callB gv 100000 9 [.int .i64 n] (st0 m).nx (st0 m)).map (·.1) = some (.bool true) := by kernel_rfl
end Go.Proofs.YtbnfegcpnnokeaaGreatDoor
