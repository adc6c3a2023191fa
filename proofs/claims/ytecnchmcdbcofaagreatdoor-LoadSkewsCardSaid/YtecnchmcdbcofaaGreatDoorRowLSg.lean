/- How LoadSkews goes. -/
import Derived.Test.YtecnchmcdbcofaaGreatDoorRx
set_option linter.unusedVariables false
set_option linter.unusedSimpArgs false
namespace Go.Proofs.YtecnchmcdbcofaaGreatDoor.loadSkewsLaw
set_option maxRecDepth 100000 in
theorem goes : false = Rows.loadSkewsRow.goesBy Tryz.pinned.checked.prog := by kernel_rfl
end Go.Proofs.YtecnchmcdbcofaaGreatDoor.loadSkewsLaw
