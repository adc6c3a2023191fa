/- The main package of JournalReads. -/
import Derived.Test.YtgjbnebmcmoilaaGreatDoorRx
set_option linter.unusedVariables false
set_option linter.unusedSimpArgs false
namespace Go.Proofs.YtgjbnebmcmoilaaGreatDoor.journalReadsLaw
set_option maxRecDepth 100000 in
theorem mainIs : Tryz.pinned.checked.prog.mainIs = some (Rows.journalReadsCard.stood.harness.1, Rows.journalReadsCard.stood.harness.2.toList) := by kernel_rfl
end Go.Proofs.YtgjbnebmcmoilaaGreatDoor.journalReadsLaw
