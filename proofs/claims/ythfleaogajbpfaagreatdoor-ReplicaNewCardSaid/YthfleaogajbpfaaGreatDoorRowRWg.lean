/- How ReplicaNew goes. -/
import Derived.Test.YthfleaogajbpfaaGreatDoorGo
set_option linter.unusedVariables false
namespace Go.Proofs.YthfleaogajbpfaaGreatDoor.replicaNewLaw
theorem goes : false = Rows.replicaNewRow.goesBy Tryz.pinned.checked.prog := (goesAt_false _ none_goes _ _).symm
end Go.Proofs.YthfleaogajbpfaaGreatDoor.replicaNewLaw
