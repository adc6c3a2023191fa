/- The row of JournalFulls is well formed. -/
import Derived.Test.YtgjbnebmcmoilaaGreatDoorRx
set_option linter.unusedVariables false
set_option linter.unusedSimpArgs false
namespace Go.Proofs.YtgjbnebmcmoilaaGreatDoor.journalFullsLaw
set_option maxRecDepth 100000 in
theorem wf : Rows.journalFullsRow.wfByText (OpenSpec.ofChange Rows.journalFullsSpec) = true := by kernel_rfl
end Go.Proofs.YtgjbnebmcmoilaaGreatDoor.journalFullsLaw
