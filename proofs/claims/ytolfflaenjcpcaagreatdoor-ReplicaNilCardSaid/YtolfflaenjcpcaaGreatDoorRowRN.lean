/-
  ReplicaNil returns true, whatever the input, and its arguments read behind the call as before. Conditions: the row's own (the listed tables of Go's library start as the program's text lays them: tied by the card).
-/
import Derived.Test.YtolfflaenjcpcaaGreatDoorRowRNe
import Derived.Test.YtolfflaenjcpcaaGreatDoorRowRNf
import Derived.Test.YtolfflaenjcpcaaGreatDoorRowRNg
import Derived.Test.YtolfflaenjcpcaaGreatDoorRowRNc
import Derived.Test.YtolfflaenjcpcaaGreatDoorRowRNd
import Derived.Test.YtolfflaenjcpcaaGreatDoorRf
set_option linter.unusedVariables false
set_option linter.unusedSimpArgs false
namespace Go.Proofs.YtolfflaenjcpcaaGreatDoor
/-- The tied card of ReplicaNil. -/
theorem replicaNil_card : Rows.ReplicaNilCardSaid :=
  Claim7.holds_tied_plain_at .later [] _ _ _ _ replicaNilLaw.said (fun _ h => by cases h) replicaNilLaw.wf (fun _ h => by cases h) replicaNil_row_tie rfl ⟨rfl, rfl⟩ replicaNilLaw.mainIs rfl replicaNilLaw.plain replicaNilLaw.goes
#print axioms replicaNil_card
end Go.Proofs.YtolfflaenjcpcaaGreatDoor
