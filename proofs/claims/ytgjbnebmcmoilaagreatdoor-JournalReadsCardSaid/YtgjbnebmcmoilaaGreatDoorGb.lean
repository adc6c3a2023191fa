/- The evaluator with nothing known beside the program. -/
import Derived.Test.YtgjbnebmcmoilaaGreatDoorAk
set_option linter.unusedVariables false
set_option linter.unusedSimpArgs false
namespace Go.Proofs.YtgjbnebmcmoilaaGreatDoor
open Go.RowKit
set_option maxRecDepth 100000 in
theorem gz_names : (Tryz.prog.funcs.toList.all fun f => f.name != "runtime.NumGoroutine") = true := by kernel_rfl
theorem gz_mixed : Tryz.prog.follows .mixedOrders = true := by kernel_rfl
theorem gz_types : Ax.TypesOk Tryz.prog gvb := by
  intro t ti h
  unfold gvb at h
  dsimp only at h
  exact gtypes_ok t ti h
theorem gz_funs : Ax.FunsOk Tryz.prog gvb := by
  refine ⟨fun f fn h => ?_, fun f fn x _ _ h => ?_, fun f x h => ?_, fun f s h => ?_, fun f l h => ?_, fun f k h => ?_⟩
  · unfold gvb at h
    dsimp only at h
    exact ⟨gfuncs_ok f fn h, Ax.names_ok gz_names (gfuncs_ok f fn h)⟩
  all_goals simp [gvb, Ax.Tr.get] at h
theorem zclosedS_eq {E : Ax.Ev} {v v' : Value} (h : Ax.closedS v = true) (k : Ax.VR E v v') : v' = v := by
  cases k <;> first | rfl | cases h
theorem zclosedL_eq {E : Ax.Ev} : ∀ {l l' : List Value}, Ax.closedL l = true → Ax.VRs E l l' → l' = l
  | [], _, _, h => by cases h; rfl
  | v :: l, _, hc, h => by
    cases h with
    | cons _ v' _ l' h1 h2 =>
      simp only [Ax.closedL, Bool.and_eq_true] at hc
      rw [zclosedS_eq hc.1 h1, zclosedL_eq hc.2 h2]
end Go.Proofs.YtgjbnebmcmoilaaGreatDoor
