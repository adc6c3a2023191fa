/-
  ReplicaNew returns true, whatever the input, and its arguments read behind the call as before. Conditions: the row's own (the listed tables of Go's library start as the program's text lays them: tied by the card).
-/
import Derived.Test.YthfleaogajbpfaaGreatDoorRowRWe
import Derived.Test.YthfleaogajbpfaaGreatDoorRowRWf
import Derived.Test.YthfleaogajbpfaaGreatDoorRowRWg
import Derived.Test.YthfleaogajbpfaaGreatDoorRowRWc
import Derived.Test.YthfleaogajbpfaaGreatDoorRowRWd
import Derived.Test.YthfleaogajbpfaaGreatDoorRni
import Derived.Test.YthfleaogajbpfaaGreatDoorOc
set_option linter.unusedVariables false
set_option linter.unusedSimpArgs false
namespace Go.Proofs.YthfleaogajbpfaaGreatDoor
/-- The tied card of ReplicaNew. -/
theorem replicaNew_card : Rows.ReplicaNewCardSaid :=
  Claim7.holds_tied_plain_at .later [] _ _ _ _ replicaNewLaw.said (fun _ h => by cases h) replicaNewLaw.wf (fun _ h => by cases h) replicaNew_row_tie rfl ⟨rfl, rfl⟩ replicaNewLaw.mainIs rfl replicaNewLaw.plain replicaNewLaw.goes
#print axioms replicaNew_card
end Go.Proofs.YthfleaogajbpfaaGreatDoor
