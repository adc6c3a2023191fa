/- known of chapter 37: true. -/
import Derived.Test.YthfleaogajbpfaaGreatDoorMb
set_option linter.unusedVariables false
set_option linter.unusedSimpArgs false
namespace Go.Proofs.YthfleaogajbpfaaGreatDoor
open Go.RowKit
set_option maxRecDepth 100000 in
theorem known37_run (m : Int) : (Ax.callB gvb7 100000 12 [] (st0 m).nx (st0 m)).map (·.1) = some (.bool true) := by kernel_rfl
theorem known37_yes (w : World) (h : Env w) : Calls Tryz.prog 12 #[] w fun e w' => e = .returned (.bool true) ∧ Below w.heap.size w w' := by
  obtain ⟨m, hv, hs⟩ := h
  exact Ax.callB_closed gvb7_types gvb7_funs gv_mixed (known37_run m) rfl (Ax.Inv0 hv vars0_lt gv_ng1000 hs) .nil
#print axioms known37_yes
end Go.Proofs.YthfleaogajbpfaaGreatDoor
