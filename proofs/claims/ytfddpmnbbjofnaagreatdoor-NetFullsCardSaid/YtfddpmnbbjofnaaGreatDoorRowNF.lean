/-
  NetFulls returns true, whatever the input, and its arguments read behind the call as before. Conditions: the row's own (the listed tables of Go's library start as the program's text lays them: tied by the card).
-/
import Derived.Test.YtfddpmnbbjofnaaGreatDoorRowNFe
import Derived.Test.YtfddpmnbbjofnaaGreatDoorRowNFf
import Derived.Test.YtfddpmnbbjofnaaGreatDoorRowNFg
import Derived.Test.YtfddpmnbbjofnaaGreatDoorRowNFc
import Derived.Test.YtfddpmnbbjofnaaGreatDoorRowNFd
import Derived.Test.YtfddpmnbbjofnaaGreatDoorNfj
set_option linter.unusedVariables false
set_option linter.unusedSimpArgs false
namespace Go.Proofs.YtfddpmnbbjofnaaGreatDoor
/-- The tied card of NetFulls. -/
theorem netFulls_card : Rows.NetFullsCardSaid :=
  Claim7.holds_tied_plain_at .later [] _ _ _ _ netFullsLaw.said (fun _ h => by cases h) netFullsLaw.wf (fun _ h => by cases h) netFulls_row_tie rfl ⟨rfl, rfl⟩ netFullsLaw.mainIs rfl netFullsLaw.plain netFullsLaw.goes
#print axioms netFulls_card
end Go.Proofs.YtfddpmnbbjofnaaGreatDoor
