/- How LoadUses goes. -/
import Derived.Test.YtecnchmcdbcofaaGreatDoorGo
set_option linter.unusedVariables false
namespace Go.Proofs.YtecnchmcdbcofaaGreatDoor.loadUsesLaw
theorem goes : false = Rows.loadUsesRow.goesBy Tryz.pinned.checked.prog := (goesAt_false _ none_goes _ _).symm
end Go.Proofs.YtecnchmcdbcofaaGreatDoor.loadUsesLaw
