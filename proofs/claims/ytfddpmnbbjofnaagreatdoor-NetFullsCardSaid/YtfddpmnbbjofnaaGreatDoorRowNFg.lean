/- How NetFulls goes. -/
import Derived.Test.YtfddpmnbbjofnaaGreatDoorGo
set_option linter.unusedVariables false
namespace Go.Proofs.YtfddpmnbbjofnaaGreatDoor.netFullsLaw
theorem goes : false = Rows.netFullsRow.goesBy Tryz.pinned.checked.prog := (goesAt_false _ none_goes _ _).symm
end Go.Proofs.YtfddpmnbbjofnaaGreatDoor.netFullsLaw
