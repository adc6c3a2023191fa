/- The main package of LoadSkews. -/
import Derived.Test.YtecnchmcdbcofaaGreatDoorRx
set_option linter.unusedVariables false
set_option linter.unusedSimpArgs false
namespace Go.Proofs.YtecnchmcdbcofaaGreatDoor.loadSkewsLaw
set_option maxRecDepth 100000 in
theorem mainIs : Tryz.pinned.checked.prog.mainIs = some (Rows.loadSkewsCard.stood.harness.1, Rows.loadSkewsCard.stood.harness.2.toList) := by kernel_rfl
end Go.Proofs.YtecnchmcdbcofaaGreatDoor.loadSkewsLaw
