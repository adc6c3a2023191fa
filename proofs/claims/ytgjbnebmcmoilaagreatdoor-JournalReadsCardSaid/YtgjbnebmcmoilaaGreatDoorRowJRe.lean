/- The row of JournalReads is well formed. -/
import Derived.Test.YtgjbnebmcmoilaaGreatDoorRx
set_option linter.unusedVariables false
set_option linter.unusedSimpArgs false
namespace Go.Proofs.YtgjbnebmcmoilaaGreatDoor.journalReadsLaw
set_option maxRecDepth 100000 in
theorem wf : Rows.journalReadsRow.wfByText (OpenSpec.ofChange Rows.journalReadsSpec) = true := by kernel_rfl
end Go.Proofs.YtgjbnebmcmoilaaGreatDoor.journalReadsLaw
