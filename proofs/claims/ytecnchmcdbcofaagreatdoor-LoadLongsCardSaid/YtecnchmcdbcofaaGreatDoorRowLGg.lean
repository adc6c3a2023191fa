/- How LoadLongs goes. -/
import Derived.Test.YtecnchmcdbcofaaGreatDoorGo
set_option linter.unusedVariables false
namespace Go.Proofs.YtecnchmcdbcofaaGreatDoor.loadLongsLaw
theorem goes : false = Rows.loadLongsRow.goesBy Tryz.pinned.checked.prog := (goesAt_false _ none_goes _ _).symm
end Go.Proofs.YtecnchmcdbcofaaGreatDoor.loadLongsLaw
