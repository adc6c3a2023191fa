/- ConvergeNone: true. -/
import Derived.Test.YtolfflaenjcpcaaGreatDoorMd
set_option linter.unusedVariables false
set_option linter.unusedSimpArgs false
namespace Go.Proofs.YtolfflaenjcpcaaGreatDoor
open Go.RowKit
set_option maxRecDepth 100000 in
theorem convergeNone_run (m : Int) : (Ax.callB gvg 100000 6 [] (st0 m).nx (st0 m)).map (·.1) = some (.bool true) := by kernel_rfl
theorem convergeNone_row (w : World) (h : Env w) : Calls Tryz.prog 6 #[] w fun e w' => e = .returned (.bool true) ∧ Below w.heap.size w w' := by
  obtain ⟨m, hv, hs⟩ := h
  exact Ax.callB_closed gvg_types gvg_funs gv_mixed (convergeNone_run m) rfl (Ax.Inv0 hv vars0_lt gv_ng1000 hs) .nil
#print axioms convergeNone_row
end Go.Proofs.YtolfflaenjcpcaaGreatDoor
