/- known of chapter 41: true. -/
import Derived.Test.YtgjbnebmcmoilaaGreatDoorMa
set_option linter.unusedVariables false
set_option linter.unusedSimpArgs false
namespace Go.Proofs.YtgjbnebmcmoilaaGreatDoor
open Go.RowKit
set_option maxRecDepth 100000 in
theorem known41_run (m : Int) : (Ax.callB gva 100000 6 [] (st1 m).nx (st1 m)).map (·.1) = some (.bool true) := by kernel_rfl
theorem known41_yes (w : World) (h : Env1 w) : Calls Tryz.prog 6 #[] w fun e w' => e = .returned (.bool true) ∧ Below w.heap.size w w' := by
  obtain ⟨m, hv, hs⟩ := h
  exact Ax.callB_closed gva_types gva_funs gv_mixed (known41_run m) rfl (Ax.Inv0 hv vars_lt gv_ng1000 hs) .nil
#print axioms known41_yes
end Go.Proofs.YtgjbnebmcmoilaaGreatDoor
