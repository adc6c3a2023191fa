/- The row of NetNew is well formed. -/
import Derived.Test.YthfleaogajbpfaaGreatDoorRx
set_option linter.unusedVariables false
set_option linter.unusedSimpArgs false
namespace Go.Proofs.YthfleaogajbpfaaGreatDoor.netNewLaw
set_option maxRecDepth 100000 in
theorem wf : Rows.netNewRow.wfByText (OpenSpec.ofChange Rows.netNewSpec) = true := by kernel_rfl
end Go.Proofs.YthfleaogajbpfaaGreatDoor.netNewLaw
