/-
  JournalFulls returns true, whatever the input, and its arguments read behind the call as before. Conditions: the row's own (the listed tables of Go's library start as the program's text lays them: tied by the card).
-/
import Derived.Test.YtgjbnebmcmoilaaGreatDoorRowJFa
import Derived.Test.YtgjbnebmcmoilaaGreatDoorRowJFb
import Derived.Test.YtgjbnebmcmoilaaGreatDoorYm
namespace Go.Proofs.YtgjbnebmcmoilaaGreatDoor.journalFullsLaw
set_option linter.unusedVariables false
set_option linter.unusedSimpArgs false
open Go.ChangeShapes Go.WideShapes Go.ChangeAt Go.RowKit Go.ChangeMaps

theorem said : Rows.JournalFullsSaid :=
  OpenClaim.holds_of_cond 3 Tryz.f3 rfl rfl rfl rfl rfl rfl rfl ⟨rfl, rfl, rfl, rfl, rfl⟩ rfl rfl rfl rfl rfl (by kernel_rfl) Tryz.func3 closed
    (of_decide_eq_true (by kernel_rfl)) (by unfold Func.isWrapper; first | (rw [if_pos (by decide +kernel)]; kernel_rfl) | (rw [if_neg (by decide +kernel)]; exact ⟨rfl, rfl⟩))
    (fun os started H enc _ F => by rw [OpenClaim.pre_eq_preRow]; exact lifted os started H enc F)

end Go.Proofs.YtgjbnebmcmoilaaGreatDoor.journalFullsLaw
