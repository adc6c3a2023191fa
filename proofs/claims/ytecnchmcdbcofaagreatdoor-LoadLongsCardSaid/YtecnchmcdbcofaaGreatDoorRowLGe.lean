/- The row of LoadLongs is well formed. -/
import Derived.Test.YtecnchmcdbcofaaGreatDoorRx
set_option linter.unusedVariables false
set_option linter.unusedSimpArgs false
namespace Go.Proofs.YtecnchmcdbcofaaGreatDoor.loadLongsLaw
set_option maxRecDepth 100000 in
theorem wf : Rows.loadLongsRow.wfByText (OpenSpec.ofChange Rows.loadLongsSpec) = true := by kernel_rfl
end Go.Proofs.YtecnchmcdbcofaaGreatDoor.loadLongsLaw
