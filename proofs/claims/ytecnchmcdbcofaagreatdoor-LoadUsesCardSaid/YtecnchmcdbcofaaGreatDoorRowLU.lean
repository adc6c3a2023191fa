/-
  LoadUses returns true, whatever the input, and its arguments read behind the call as before. Conditions: the row's own (the listed tables of Go's library start as the program's text lays them: tied by the card).
-/
import Derived.Test.YtecnchmcdbcofaaGreatDoorRowLUe
import Derived.Test.YtecnchmcdbcofaaGreatDoorRowLUf
import Derived.Test.YtecnchmcdbcofaaGreatDoorRowLUg
import Derived.Test.YtecnchmcdbcofaaGreatDoorRowLUc
import Derived.Test.YtecnchmcdbcofaaGreatDoorRowLUd
import Derived.Test.YtecnchmcdbcofaaGreatDoorUi
import Derived.Test.YtecnchmcdbcofaaGreatDoorUo
set_option linter.unusedVariables false
set_option linter.unusedSimpArgs false
namespace Go.Proofs.YtecnchmcdbcofaaGreatDoor
/-- The tied card of LoadUses. -/
theorem loadUses_card : Rows.LoadUsesCardSaid :=
  Claim7.holds_tied_plain_at .later [] _ _ _ _ loadUsesLaw.said (fun _ h => by cases h) loadUsesLaw.wf (fun _ h => by cases h) loadUses_row_tie rfl ⟨rfl, rfl⟩ loadUsesLaw.mainIs rfl loadUsesLaw.plain loadUsesLaw.goes
#print axioms loadUses_card
end Go.Proofs.YtecnchmcdbcofaaGreatDoor
