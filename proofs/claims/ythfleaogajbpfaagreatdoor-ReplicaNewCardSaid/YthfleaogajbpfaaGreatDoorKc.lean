/- known of chapter 23: true. -/
import Derived.Test.YthfleaogajbpfaaGreatDoorMc
set_option linter.unusedVariables false
set_option linter.unusedSimpArgs false
namespace Go.Proofs.YthfleaogajbpfaaGreatDoor
open Go.RowKit
set_option maxRecDepth 100000 in
theorem known23_run (m : Int) : (Ax.callB gve 100000 7 [] (st0 m).nx (st0 m)).map (·.1) = some (.bool true) := by kernel_rfl
theorem known23_yes (w : World) (h : Env w) : Calls Tryz.prog 7 #[] w fun e w' => e = .returned (.bool true) ∧ Below w.heap.size w w' := by
  obtain ⟨m, hv, hs⟩ := h
  exact Ax.callB_closed gve_types gve_funs gv_mixed (known23_run m) rfl (Ax.Inv0 hv vars0_lt gv_ng1000 hs) .nil
#print axioms known23_yes
end Go.Proofs.YthfleaogajbpfaaGreatDoor
