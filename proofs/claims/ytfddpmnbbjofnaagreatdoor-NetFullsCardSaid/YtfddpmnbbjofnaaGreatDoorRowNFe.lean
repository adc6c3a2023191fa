/- The row of NetFulls is well formed. -/
import Derived.Test.YtfddpmnbbjofnaaGreatDoorRx
set_option linter.unusedVariables false
set_option linter.unusedSimpArgs false
namespace Go.Proofs.YtfddpmnbbjofnaaGreatDoor.netFullsLaw
set_option maxRecDepth 100000 in
theorem wf : Rows.netFullsRow.wfByText (OpenSpec.ofChange Rows.netFullsSpec) = true := by kernel_rfl
end Go.Proofs.YtfddpmnbbjofnaaGreatDoor.netFullsLaw
