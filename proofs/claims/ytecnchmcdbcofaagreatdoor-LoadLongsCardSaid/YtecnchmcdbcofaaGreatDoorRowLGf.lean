/- The main package of LoadLongs. -/
import Derived.Test.YtecnchmcdbcofaaGreatDoorRx
set_option linter.unusedVariables false
set_option linter.unusedSimpArgs false
namespace Go.Proofs.YtecnchmcdbcofaaGreatDoor.loadLongsLaw
set_option maxRecDepth 100000 in
theorem mainIs : Tryz.pinned.checked.prog.mainIs = some (Rows.loadLongsCard.stood.harness.1, Rows.loadLongsCard.stood.harness.2.toList) := by kernel_rfl
end Go.Proofs.YtecnchmcdbcofaaGreatDoor.loadLongsLaw
