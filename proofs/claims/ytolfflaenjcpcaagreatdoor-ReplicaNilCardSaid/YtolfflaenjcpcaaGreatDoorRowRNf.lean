/- The main package of ReplicaNil. -/
import Derived.Test.YtolfflaenjcpcaaGreatDoorRx
set_option linter.unusedVariables false
set_option linter.unusedSimpArgs false
namespace Go.Proofs.YtolfflaenjcpcaaGreatDoor.replicaNilLaw
set_option maxRecDepth 100000 in
theorem mainIs : Tryz.pinned.checked.prog.mainIs = some (Rows.replicaNilCard.stood.harness.1, Rows.replicaNilCard.stood.harness.2.toList) := by kernel_rfl
end Go.Proofs.YtolfflaenjcpcaaGreatDoor.replicaNilLaw
