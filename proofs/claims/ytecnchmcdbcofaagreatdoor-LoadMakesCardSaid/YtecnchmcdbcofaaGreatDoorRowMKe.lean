/- The row of LoadMakes is well formed. -/
import Derived.Test.YtecnchmcdbcofaaGreatDoorRx
set_option linter.unusedVariables false
set_option linter.unusedSimpArgs false
namespace Go.Proofs.YtecnchmcdbcofaaGreatDoor.loadMakesLaw
set_option maxRecDepth 100000 in
theorem wf : Rows.loadMakesRow.wfByText (OpenSpec.ofChange Rows.loadMakesSpec) = true := by kernel_rfl
end Go.Proofs.YtecnchmcdbcofaaGreatDoor.loadMakesLaw
