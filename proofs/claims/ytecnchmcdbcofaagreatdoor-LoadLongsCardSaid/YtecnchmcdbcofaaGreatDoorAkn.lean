/- known of chapter 51, evaluated. -/
import Derived.Test.YtecnchmcdbcofaaGreatDoorAk
set_option linter.unusedVariables false
set_option linter.unusedSimpArgs false
namespace Go.Proofs.YtecnchmcdbcofaaGreatDoor
open Go.RowKit

set_option maxRecDepth 100000 in
theorem known_run (m : Int) : (Ax.callB gv 100000 10 [] (st0 m).nx (st0 m)).map (·.1) = some (.bool true) := by kernel_rfl
end Go.Proofs.YtecnchmcdbcofaaGreatDoor
