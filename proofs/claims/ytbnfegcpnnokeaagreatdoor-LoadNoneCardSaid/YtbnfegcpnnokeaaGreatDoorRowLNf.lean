/- The main package of LoadNone. -/
import Derived.Test.YtbnfegcpnnokeaaGreatDoorRx
set_option linter.unusedVariables false
set_option linter.unusedSimpArgs false
namespace Go.Proofs.YtbnfegcpnnokeaaGreatDoor.loadNoneLaw
set_option maxRecDepth 100000 in
theorem mainIs : Tryz.pinned.checked.prog.mainIs = some (Rows.loadNoneCard.stood.harness.1, Rows.loadNoneCard.stood.harness.2.toList) := by kernel_rfl
end Go.Proofs.YtbnfegcpnnokeaaGreatDoor.loadNoneLaw
