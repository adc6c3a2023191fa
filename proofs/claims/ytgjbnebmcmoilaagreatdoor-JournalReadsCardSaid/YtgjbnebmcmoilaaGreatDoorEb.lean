/- The variables stay as they were laid. -/
import Derived.Test.YtgjbnebmcmoilaaGreatDoorAl
namespace Go.Proofs.YtgjbnebmcmoilaaGreatDoor
set_option linter.unusedVariables false
open Go.RowKit
theorem vars_below {w w' : World} {l : List (Nat × List Value)} (h : Ax.VarsAre w l) (hb : Below w.heap.size w w') : Ax.VarsAre w' l := fun p hp => by
  obtain ⟨h1, arr, ty, fr, rest, h2, h3⟩ := h p hp
  exact ⟨h1, arr, ty, fr, rest, (hb.block p.1 (Array.getElem?_eq_some_iff.1 h2).1).trans h2, h3⟩
theorem Env.below {w w' : World} (h : Env w) (hb : Below w.heap.size w w') : Env w' := by
  obtain ⟨m, hv, hs⟩ := h
  exact ⟨m, vars_below hv hb, Nat.le_trans hs hb.size⟩
end Go.Proofs.YtgjbnebmcmoilaaGreatDoor
