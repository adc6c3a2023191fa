/- The row of JournalAppends is well formed. -/
import Derived.Test.YtgjbnebmcmoilaaGreatDoorRx
set_option linter.unusedVariables false
set_option linter.unusedSimpArgs false
namespace Go.Proofs.YtgjbnebmcmoilaaGreatDoor.journalAppendsLaw
set_option maxRecDepth 100000 in
theorem wf : Rows.journalAppendsRow.wfByText (OpenSpec.ofChange Rows.journalAppendsSpec) = true := by kernel_rfl
end Go.Proofs.YtgjbnebmcmoilaaGreatDoor.journalAppendsLaw
