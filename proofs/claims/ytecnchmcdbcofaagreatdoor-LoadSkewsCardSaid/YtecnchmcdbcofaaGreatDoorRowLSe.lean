/- The row of LoadSkews is well formed. -/
import Derived.Test.YtecnchmcdbcofaaGreatDoorRx
set_option linter.unusedVariables false
set_option linter.unusedSimpArgs false
namespace Go.Proofs.YtecnchmcdbcofaaGreatDoor.loadSkewsLaw
set_option maxRecDepth 100000 in
theorem wf : Rows.loadSkewsRow.wfByText (OpenSpec.ofChange Rows.loadSkewsSpec) = true := by kernel_rfl
end Go.Proofs.YtecnchmcdbcofaaGreatDoor.loadSkewsLaw
