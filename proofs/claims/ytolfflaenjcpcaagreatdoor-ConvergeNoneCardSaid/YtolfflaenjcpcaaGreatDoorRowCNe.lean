/- The row of ConvergeNone is well formed. -/
import Derived.Test.YtolfflaenjcpcaaGreatDoorRx
set_option linter.unusedVariables false
set_option linter.unusedSimpArgs false
namespace Go.Proofs.YtolfflaenjcpcaaGreatDoor.convergeNoneLaw
set_option maxRecDepth 100000 in
theorem wf : Rows.convergeNoneRow.wfByText (OpenSpec.ofChange Rows.convergeNoneSpec) = true := by kernel_rfl
end Go.Proofs.YtolfflaenjcpcaaGreatDoor.convergeNoneLaw
