/- How LoadMakes goes. -/
import Derived.Test.YtecnchmcdbcofaaGreatDoorGo
set_option linter.unusedVariables false
namespace Go.Proofs.YtecnchmcdbcofaaGreatDoor.loadMakesLaw
theorem goes : false = Rows.loadMakesRow.goesBy Tryz.pinned.checked.prog := (goesAt_false _ none_goes _ _).symm
end Go.Proofs.YtecnchmcdbcofaaGreatDoor.loadMakesLaw
