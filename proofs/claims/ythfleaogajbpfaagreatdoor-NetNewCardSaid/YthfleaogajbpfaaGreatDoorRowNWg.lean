/- How NetNew goes. -/
import Derived.Test.YthfleaogajbpfaaGreatDoorGo
set_option linter.unusedVariables false
namespace Go.Proofs.YthfleaogajbpfaaGreatDoor.netNewLaw
theorem goes : false = Rows.netNewRow.goesBy Tryz.pinned.checked.prog := (goesAt_false _ none_goes _ _).symm
end Go.Proofs.YthfleaogajbpfaaGreatDoor.netNewLaw
