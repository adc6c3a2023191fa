/-
  LoadMakes returns true, whatever the input, and its arguments read behind the call as before. Conditions: the row's own (the listed tables of Go's library start as the program's text lays them: tied by the card).
-/
import Derived.Test.YtecnchmcdbcofaaGreatDoorRowMKe
import Derived.Test.YtecnchmcdbcofaaGreatDoorRowMKf
import Derived.Test.YtecnchmcdbcofaaGreatDoorRowMKg
import Derived.Test.YtecnchmcdbcofaaGreatDoorRowMKc
import Derived.Test.YtecnchmcdbcofaaGreatDoorRowMKd
import Derived.Test.YtecnchmcdbcofaaGreatDoorMkn
set_option linter.unusedVariables false
set_option linter.unusedSimpArgs false
namespace Go.Proofs.YtecnchmcdbcofaaGreatDoor
/-- The tied card of LoadMakes. -/
theorem loadMakes_card : Rows.LoadMakesCardSaid :=
  Claim7.holds_tied_plain_at .later [] _ _ _ _ loadMakesLaw.said (fun _ h => by cases h) loadMakesLaw.wf (fun _ h => by cases h) loadMakes_row_tie rfl ⟨rfl, rfl⟩ loadMakesLaw.mainIs rfl loadMakesLaw.plain loadMakesLaw.goes
#print axioms loadMakes_card
end Go.Proofs.YtecnchmcdbcofaaGreatDoor
