/- How LoadNone goes. -/
import Derived.Test.YtbnfegcpnnokeaaGreatDoorRx
set_option linter.unusedVariables false
set_option linter.unusedSimpArgs false
namespace Go.Proofs.YtbnfegcpnnokeaaGreatDoor.loadNoneLaw
set_option maxRecDepth 100000 in
theorem goes : false = Rows.loadNoneRow.goesBy Tryz.pinned.checked.prog := by kernel_rfl
end Go.Proofs.YtbnfegcpnnokeaaGreatDoor.loadNoneLaw
