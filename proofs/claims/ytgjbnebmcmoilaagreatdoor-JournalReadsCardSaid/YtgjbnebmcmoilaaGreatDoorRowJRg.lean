/- How JournalReads goes. -/
import Derived.Test.YtgjbnebmcmoilaaGreatDoorGo
set_option linter.unusedVariables false
namespace Go.Proofs.YtgjbnebmcmoilaaGreatDoor.journalReadsLaw
theorem goes : false = Rows.journalReadsRow.goesBy Tryz.pinned.checked.prog := (goesAt_false _ none_goes _ _).symm
end Go.Proofs.YtgjbnebmcmoilaaGreatDoor.journalReadsLaw
