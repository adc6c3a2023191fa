/-
  LoadSkews returns true, whatever the input, and its arguments read behind the call as before. Conditions: the row's own (the listed tables of Go's library start as the program's text lays them: tied by the card).
-/
import Derived.Test.YtecnchmcdbcofaaGreatDoorRowLSe
import Derived.Test.YtecnchmcdbcofaaGreatDoorRowLSf
import Derived.Test.YtecnchmcdbcofaaGreatDoorRowLSg
import Derived.Test.YtecnchmcdbcofaaGreatDoorRowLSc
import Derived.Test.YtecnchmcdbcofaaGreatDoorRowLSd
import Derived.Test.YtecnchmcdbcofaaGreatDoorSkc
set_option linter.unusedVariables false
set_option linter.unusedSimpArgs false
namespace Go.Proofs.YtecnchmcdbcofaaGreatDoor
/-- The tied card of LoadSkews. -/
theorem loadSkews_card : Rows.LoadSkewsCardSaid :=
  Claim7.holds_tied_plain_at .later [] _ _ _ _ loadSkewsLaw.said (fun _ h => by cases h) loadSkewsLaw.wf (fun _ h => by cases h) loadSkews_row_tie rfl ⟨rfl, rfl⟩ loadSkewsLaw.mainIs rfl loadSkewsLaw.plain loadSkewsLaw.goes
#print axioms loadSkews_card
end Go.Proofs.YtecnchmcdbcofaaGreatDoor
