/- The row of LoadUses is well formed. -/
import Derived.Test.YtecnchmcdbcofaaGreatDoorRx
set_option linter.unusedVariables false
set_option linter.unusedSimpArgs false
namespace Go.Proofs.YtecnchmcdbcofaaGreatDoor.loadUsesLaw
set_option maxRecDepth 100000 in
theorem wf : Rows.loadUsesRow.wfByText (OpenSpec.ofChange Rows.loadUsesSpec) = true := by kernel_rfl
end Go.Proofs.YtecnchmcdbcofaaGreatDoor.loadUsesLaw
