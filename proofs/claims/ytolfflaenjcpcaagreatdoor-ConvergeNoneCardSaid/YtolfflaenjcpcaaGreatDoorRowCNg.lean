/- How ConvergeNone goes. -/
import Derived.Test.YtolfflaenjcpcaaGreatDoorGo
set_option linter.unusedVariables false
namespace Go.Proofs.YtolfflaenjcpcaaGreatDoor.convergeNoneLaw
theorem goes : false = Rows.convergeNoneRow.goesBy Tryz.pinned.checked.prog := (goesAt_false _ none_goes _ _).symm
end Go.Proofs.YtolfflaenjcpcaaGreatDoor.convergeNoneLaw
