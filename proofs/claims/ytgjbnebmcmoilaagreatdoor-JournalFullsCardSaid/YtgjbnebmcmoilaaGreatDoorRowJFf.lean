/- The main package of JournalFulls. -/
import Derived.Test.YtgjbnebmcmoilaaGreatDoorRx
set_option linter.unusedVariables false
set_option linter.unusedSimpArgs false
namespace Go.Proofs.YtgjbnebmcmoilaaGreatDoor.journalFullsLaw
set_option maxRecDepth 100000 in
theorem mainIs : Tryz.pinned.checked.prog.mainIs = some (Rows.journalFullsCard.stood.harness.1, Rows.journalFullsCard.stood.harness.2.toList) := by kernel_rfl
end Go.Proofs.YtgjbnebmcmoilaaGreatDoor.journalFullsLaw
