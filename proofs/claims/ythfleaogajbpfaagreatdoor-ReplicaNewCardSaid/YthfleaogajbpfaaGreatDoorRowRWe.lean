/- The row of ReplicaNew is well formed. -/
import Derived.Test.YthfleaogajbpfaaGreatDoorRx
set_option linter.unusedVariables false
set_option linter.unusedSimpArgs false
namespace Go.Proofs.YthfleaogajbpfaaGreatDoor.replicaNewLaw
set_option maxRecDepth 100000 in
theorem wf : Rows.replicaNewRow.wfByText (OpenSpec.ofChange Rows.replicaNewSpec) = true := by kernel_rfl
end Go.Proofs.YthfleaogajbpfaaGreatDoor.replicaNewLaw
