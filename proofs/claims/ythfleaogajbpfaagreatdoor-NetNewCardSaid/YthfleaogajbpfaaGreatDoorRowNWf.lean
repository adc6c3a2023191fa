/- The main package of NetNew. -/
import Derived.Test.YthfleaogajbpfaaGreatDoorRx
set_option linter.unusedVariables false
set_option linter.unusedSimpArgs false
namespace Go.Proofs.YthfleaogajbpfaaGreatDoor.netNewLaw
set_option maxRecDepth 100000 in
theorem mainIs : Tryz.pinned.checked.prog.mainIs = some (Rows.netNewCard.stood.harness.1, Rows.netNewCard.stood.harness.2.toList) := by kernel_rfl
end Go.Proofs.YthfleaogajbpfaaGreatDoor.netNewLaw
