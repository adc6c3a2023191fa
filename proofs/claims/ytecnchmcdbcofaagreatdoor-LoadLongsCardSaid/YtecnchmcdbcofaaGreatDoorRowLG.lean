/-
  LoadLongs returns true, whatever the input, and its arguments read behind the call as before. Conditions: the row's own (the listed tables of Go's library start as the program's text lays them: tied by the card).
-/
import Derived.Test.YtecnchmcdbcofaaGreatDoorRowLGe
import Derived.Test.YtecnchmcdbcofaaGreatDoorRowLGf
import Derived.Test.YtecnchmcdbcofaaGreatDoorRowLGg
import Derived.Test.YtecnchmcdbcofaaGreatDoorRowLGc
import Derived.Test.YtecnchmcdbcofaaGreatDoorRowLGd
import Derived.Test.YtecnchmcdbcofaaGreatDoorLgg
set_option linter.unusedVariables false
set_option linter.unusedSimpArgs false
namespace Go.Proofs.YtecnchmcdbcofaaGreatDoor
/-- The tied card of LoadLongs. -/
theorem loadLongs_card : Rows.LoadLongsCardSaid :=
  Claim7.holds_tied_plain_at .later [] _ _ _ _ loadLongsLaw.said (fun _ h => by cases h) loadLongsLaw.wf (fun _ h => by cases h) loadLongs_row_tie rfl ⟨rfl, rfl⟩ loadLongsLaw.mainIs rfl loadLongsLaw.plain loadLongsLaw.goes
#print axioms loadLongs_card
end Go.Proofs.YtecnchmcdbcofaaGreatDoor
