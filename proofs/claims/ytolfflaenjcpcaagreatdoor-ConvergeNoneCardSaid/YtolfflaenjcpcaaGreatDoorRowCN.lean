/-
  ConvergeNone returns true, whatever the input, and its arguments read behind the call as before. Conditions: the row's own (the listed tables of Go's library start as the program's text lays them: tied by the card).
-/
import Derived.Test.YtolfflaenjcpcaaGreatDoorRowCNe
import Derived.Test.YtolfflaenjcpcaaGreatDoorRowCNf
import Derived.Test.YtolfflaenjcpcaaGreatDoorRowCNg
import Derived.Test.YtolfflaenjcpcaaGreatDoorRowCNc
import Derived.Test.YtolfflaenjcpcaaGreatDoorRowCNd
import Derived.Test.YtolfflaenjcpcaaGreatDoorKd
set_option linter.unusedVariables false
set_option linter.unusedSimpArgs false
namespace Go.Proofs.YtolfflaenjcpcaaGreatDoor
/-- The tied card of ConvergeNone. -/
theorem convergeNone_card : Rows.ConvergeNoneCardSaid :=
  Claim7.holds_tied_plain_at .later [] _ _ _ _ convergeNoneLaw.said (fun _ h => by cases h) convergeNoneLaw.wf (fun _ h => by cases h) convergeNone_row_tie rfl ⟨rfl, rfl⟩ convergeNoneLaw.mainIs rfl convergeNoneLaw.plain convergeNoneLaw.goes
#print axioms convergeNone_card
end Go.Proofs.YtolfflaenjcpcaaGreatDoor
