/- The main package of ConvergeNone. -/
import Derived.Test.YtolfflaenjcpcaaGreatDoorRx
set_option linter.unusedVariables false
set_option linter.unusedSimpArgs false
namespace Go.Proofs.YtolfflaenjcpcaaGreatDoor.convergeNoneLaw
set_option maxRecDepth 100000 in
theorem mainIs : Tryz.pinned.checked.prog.mainIs = some (Rows.convergeNoneCard.stood.harness.1, Rows.convergeNoneCard.stood.harness.2.toList) := by kernel_rfl
end Go.Proofs.YtolfflaenjcpcaaGreatDoor.convergeNoneLaw
