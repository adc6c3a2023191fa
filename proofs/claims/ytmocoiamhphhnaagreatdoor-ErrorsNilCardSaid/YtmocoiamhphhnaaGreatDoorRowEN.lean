/-
  ErrorsNil returns true, whatever the input, and its arguments read behind the call as before. Conditions: the row's own (the listed tables of Go's library start as the program's text lays them: tied by the card).
-/
import Derived.Test.YtmocoiamhphhnaaGreatDoorRowENc
import Derived.Test.YtmocoiamhphhnaaGreatDoorRowENd
import Derived.Test.YtmocoiamhphhnaaGreatDoorEw
set_option linter.unusedVariables false
set_option linter.unusedSimpArgs false
namespace Go.Proofs.YtmocoiamhphhnaaGreatDoor
/-- The tied card of ErrorsNil. -/
theorem errorsNil_card : Rows.ErrorsNilCardSaid :=
  Claim7.holds_tied_plain_at .later [] _ _ _ _ errorsNilLaw.said (fun _ h => by cases h) (by kernel_rfl) (fun _ h => by cases h) errorsNil_row_tie rfl ⟨rfl, rfl⟩ (by kernel_rfl) rfl errorsNilLaw.plain (by kernel_rfl)
#print axioms errorsNil_card
end Go.Proofs.YtmocoiamhphhnaaGreatDoor
