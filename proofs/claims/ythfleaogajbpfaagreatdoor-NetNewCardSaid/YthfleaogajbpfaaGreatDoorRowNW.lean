/-
  NetNew returns true, whatever the input, and its arguments read behind the call as before. Conditions: the row's own (the listed tables of Go's library start as the program's text lays them: tied by the card).
-/
import Derived.Test.YthfleaogajbpfaaGreatDoorRowNWe
import Derived.Test.YthfleaogajbpfaaGreatDoorRowNWf
import Derived.Test.YthfleaogajbpfaaGreatDoorRowNWg
import Derived.Test.YthfleaogajbpfaaGreatDoorRowNWc
import Derived.Test.YthfleaogajbpfaaGreatDoorRowNWd
import Derived.Test.YthfleaogajbpfaaGreatDoorNnf
import Derived.Test.YthfleaogajbpfaaGreatDoorOc
set_option linter.unusedVariables false
set_option linter.unusedSimpArgs false
namespace Go.Proofs.YthfleaogajbpfaaGreatDoor
/-- The tied card of NetNew. -/
theorem netNew_card : Rows.NetNewCardSaid :=
  Claim7.holds_tied_plain_at .later [] _ _ _ _ netNewLaw.said (fun _ h => by cases h) netNewLaw.wf (fun _ h => by cases h) netNew_row_tie rfl ⟨rfl, rfl⟩ netNewLaw.mainIs rfl netNewLaw.plain netNewLaw.goes
#print axioms netNew_card
end Go.Proofs.YthfleaogajbpfaaGreatDoor
