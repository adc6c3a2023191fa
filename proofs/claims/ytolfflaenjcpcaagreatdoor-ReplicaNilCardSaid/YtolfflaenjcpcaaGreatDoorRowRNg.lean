/- How ReplicaNil goes. -/
import Derived.Test.YtolfflaenjcpcaaGreatDoorGo
set_option linter.unusedVariables false
namespace Go.Proofs.YtolfflaenjcpcaaGreatDoor.replicaNilLaw
theorem goes : false = Rows.replicaNilRow.goesBy Tryz.pinned.checked.prog := (goesAt_false _ none_goes _ _).symm
end Go.Proofs.YtolfflaenjcpcaaGreatDoor.replicaNilLaw
