/- known of chapter 51: true. -/
import Derived.Test.YtecnchmcdbcofaaGreatDoorAl
import Derived.Test.YtecnchmcdbcofaaGreatDoorAkn
set_option linter.unusedVariables false
set_option linter.unusedSimpArgs false
namespace Go.Proofs.YtecnchmcdbcofaaGreatDoor
open Go.RowKit
theorem known_yes (w : World) (h : Env w) : Calls Tryz.prog 10 #[] w fun e w' => e = .returned (.bool true) ∧ Below w.heap.size w w' := by
  obtain ⟨m, hv, hs⟩ := h
  exact Ax.callB_closed gv_types gv_funs gv_mixed (known_run m) rfl (Ax.Inv0 hv vars_lt gv_ng1000 hs) .nil
theorem Env.below {w w' : World} (h : Env w) (hb : Below w.heap.size w w') : Env w' := by
  obtain ⟨m, hv, hs⟩ := h
  refine ⟨m, fun p hp => ?_, Nat.le_trans hs hb.size⟩
  obtain ⟨h1, arr, ty, fr, rest, h2, h3⟩ := hv p hp
  exact ⟨h1, arr, ty, fr, rest, (hb.block p.1 (Array.getElem?_eq_some_iff.1 h2).1).trans h2, h3⟩
#print axioms known_yes
end Go.Proofs.YtecnchmcdbcofaaGreatDoor
