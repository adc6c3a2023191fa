/- How NetNone goes. -/
import Derived.Test.YtolfflaenjcpcaaGreatDoorGo
set_option linter.unusedVariables false
namespace Go.Proofs.YtolfflaenjcpcaaGreatDoor.netNoneLaw
theorem goes : false = Rows.netNoneRow.goesBy Tryz.pinned.checked.prog := (goesAt_false _ none_goes _ _).symm
end Go.Proofs.YtolfflaenjcpcaaGreatDoor.netNoneLaw
