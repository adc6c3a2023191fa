/- The row of LoadNone is well formed. -/
import Derived.Test.YtbnfegcpnnokeaaGreatDoorRx
set_option linter.unusedVariables false
set_option linter.unusedSimpArgs false
namespace Go.Proofs.YtbnfegcpnnokeaaGreatDoor.loadNoneLaw
set_option maxRecDepth 100000 in
theorem wf : Rows.loadNoneRow.wfByText (OpenSpec.ofChange Rows.loadNoneSpec) = true := by kernel_rfl
end Go.Proofs.YtbnfegcpnnokeaaGreatDoor.loadNoneLaw
