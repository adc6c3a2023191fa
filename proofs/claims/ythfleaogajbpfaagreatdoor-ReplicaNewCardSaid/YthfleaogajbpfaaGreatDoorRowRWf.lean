/- The main package of ReplicaNew. -/
import Derived.Test.YthfleaogajbpfaaGreatDoorRx
set_option linter.unusedVariables false
set_option linter.unusedSimpArgs false
namespace Go.Proofs.YthfleaogajbpfaaGreatDoor.replicaNewLaw
set_option maxRecDepth 100000 in
theorem mainIs : Tryz.pinned.checked.prog.mainIs = some (Rows.replicaNewCard.stood.harness.1, Rows.replicaNewCard.stood.harness.2.toList) := by kernel_rfl
end Go.Proofs.YthfleaogajbpfaaGreatDoor.replicaNewLaw
