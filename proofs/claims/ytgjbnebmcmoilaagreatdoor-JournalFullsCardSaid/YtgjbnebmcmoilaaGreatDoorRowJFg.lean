/- How JournalFulls goes. -/
import Derived.Test.YtgjbnebmcmoilaaGreatDoorGo
set_option linter.unusedVariables false
namespace Go.Proofs.YtgjbnebmcmoilaaGreatDoor.journalFullsLaw
theorem goes : false = Rows.journalFullsRow.goesBy Tryz.pinned.checked.prog := (goesAt_false _ none_goes _ _).symm
end Go.Proofs.YtgjbnebmcmoilaaGreatDoor.journalFullsLaw
