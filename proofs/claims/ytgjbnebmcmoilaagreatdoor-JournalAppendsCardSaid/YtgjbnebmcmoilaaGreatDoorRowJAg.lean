/- How JournalAppends goes. -/
import Derived.Test.YtgjbnebmcmoilaaGreatDoorGo
set_option linter.unusedVariables false
namespace Go.Proofs.YtgjbnebmcmoilaaGreatDoor.journalAppendsLaw
theorem goes : false = Rows.journalAppendsRow.goesBy Tryz.pinned.checked.prog := (goesAt_false _ none_goes _ _).symm
end Go.Proofs.YtgjbnebmcmoilaaGreatDoor.journalAppendsLaw
