/-
  NetNone returns true, whatever the input, and its arguments read behind the call as before. Conditions: the row's own (the listed tables of Go's library start as the program's text lays them: tied by the card).
-/
import Derived.Test.YtolfflaenjcpcaaGreatDoorRowNNe
import Derived.Test.YtolfflaenjcpcaaGreatDoorRowNNf
import Derived.Test.YtolfflaenjcpcaaGreatDoorRowNNg
import Derived.Test.YtolfflaenjcpcaaGreatDoorRowNNc
import Derived.Test.YtolfflaenjcpcaaGreatDoorRowNNd
import Derived.Test.YtolfflaenjcpcaaGreatDoorNf
set_option linter.unusedVariables false
set_option linter.unusedSimpArgs false
namespace Go.Proofs.YtolfflaenjcpcaaGreatDoor
/-- The tied card of NetNone. -/
theorem netNone_card : Rows.NetNoneCardSaid :=
  Claim7.holds_tied_plain_at .later [] _ _ _ _ netNoneLaw.said (fun _ h => by cases h) netNoneLaw.wf (fun _ h => by cases h) netNone_row_tie rfl ⟨rfl, rfl⟩ netNoneLaw.mainIs rfl netNoneLaw.plain netNoneLaw.goes
#print axioms netNone_card
end Go.Proofs.YtolfflaenjcpcaaGreatDoor
