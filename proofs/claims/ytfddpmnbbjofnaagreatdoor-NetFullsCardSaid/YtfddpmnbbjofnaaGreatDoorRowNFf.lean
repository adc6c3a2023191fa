/- The main package of NetFulls. -/
import Derived.Test.YtfddpmnbbjofnaaGreatDoorRx
set_option linter.unusedVariables false
set_option linter.unusedSimpArgs false
namespace Go.Proofs.YtfddpmnbbjofnaaGreatDoor.netFullsLaw
set_option maxRecDepth 100000 in
theorem mainIs : Tryz.pinned.checked.prog.mainIs = some (Rows.netFullsCard.stood.harness.1, Rows.netFullsCard.stood.harness.2.toList) := by kernel_rfl
end Go.Proofs.YtfddpmnbbjofnaaGreatDoor.netFullsLaw
