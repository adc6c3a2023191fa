/- How JournalNone goes. -/
import Derived.Test.YtolfflaenjcpcaaGreatDoorGo
set_option linter.unusedVariables false
namespace Go.Proofs.YtolfflaenjcpcaaGreatDoor.journalNoneLaw
theorem goes : false = Rows.journalNoneRow.goesBy Tryz.pinned.checked.prog := (goesAt_false _ none_goes _ _).symm
end Go.Proofs.YtolfflaenjcpcaaGreatDoor.journalNoneLaw
