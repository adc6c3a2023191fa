/- LoadNone, evaluated: true, whatever the number. -/
import Derived.Test.YtbnfegcpnnokeaaGreatDoorAl
import Derived.Test.YtbnfegcpnnokeaaGreatDoorAkl
set_option linter.unusedVariables false
set_option linter.unusedSimpArgs false
namespace Go.Proofs.YtbnfegcpnnokeaaGreatDoor
open Go.RowKit
theorem loadNone_any (n : Int) (w : World) (h : Env w) : Calls Tryz.prog 9 #[.int .i64 n] w fun e w' => e = .returned (.bool true) ∧ Below w.heap.size w w' := by
  obtain ⟨m, hv, hs⟩ := h
  exact Ax.callB_closed gv_types gv_funs gv_mixed (loadNone_run m n) rfl (Ax.Inv0 hv vars_lt gv_ng1000 hs) (.cons _ _ _ _ (.int _ _) .nil)
#print axioms loadNone_any
end Go.Proofs.YtbnfegcpnnokeaaGreatDoor
