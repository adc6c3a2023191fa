/-
  ErrorsWords returns true, whatever the input, and its arguments read behind the call as before. Conditions: the row's own (the listed tables of Go's library start as the program's text lays them: tied by the card).
-/
import Derived.Test.YtmocoiamhphhnaaGreatDoorRowEWc
import Derived.Test.YtmocoiamhphhnaaGreatDoorRowEWd
import Derived.Test.YtmocoiamhphhnaaGreatDoorEw
set_option linter.unusedVariables false
set_option linter.unusedSimpArgs false
namespace Go.Proofs.YtmocoiamhphhnaaGreatDoor
/-- The tied card of ErrorsWords. -/
theorem errorsWords_card : Rows.ErrorsWordsCardSaid :=
  Claim7.holds_tied_plain_at .later [] _ _ _ _ errorsWordsLaw.said (fun _ h => by cases h) (by kernel_rfl) (fun _ h => by cases h) errorsWords_row_tie rfl ⟨rfl, rfl⟩ (by kernel_rfl) rfl errorsWordsLaw.plain (by kernel_rfl)
#print axioms errorsWords_card
end Go.Proofs.YtmocoiamhphhnaaGreatDoor
