/- The row of NetNone is well formed. -/
import Derived.Test.YtolfflaenjcpcaaGreatDoorRx
set_option linter.unusedVariables false
set_option linter.unusedSimpArgs false
namespace Go.Proofs.YtolfflaenjcpcaaGreatDoor.netNoneLaw
set_option maxRecDepth 100000 in
theorem wf : Rows.netNoneRow.wfByText (OpenSpec.ofChange Rows.netNoneSpec) = true := by kernel_rfl
end Go.Proofs.YtolfflaenjcpcaaGreatDoor.netNoneLaw
