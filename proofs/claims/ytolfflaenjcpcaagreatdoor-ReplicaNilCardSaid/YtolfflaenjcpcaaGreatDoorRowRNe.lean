/- The row of ReplicaNil is well formed. -/
import Derived.Test.YtolfflaenjcpcaaGreatDoorRx
set_option linter.unusedVariables false
set_option linter.unusedSimpArgs false
namespace Go.Proofs.YtolfflaenjcpcaaGreatDoor.replicaNilLaw
set_option maxRecDepth 100000 in
theorem wf : Rows.replicaNilRow.wfByText (OpenSpec.ofChange Rows.replicaNilSpec) = true := by kernel_rfl
end Go.Proofs.YtolfflaenjcpcaaGreatDoor.replicaNilLaw
