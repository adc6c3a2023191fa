/-
  LoadNone returns true, whatever the input, and its arguments read behind the call as before. Conditions: the row's own (the listed tables of Go's library start as the program's text lays them: tied by the card).
-/
import Derived.Test.YtbnfegcpnnokeaaGreatDoorRowLNe
import Derived.Test.YtbnfegcpnnokeaaGreatDoorRowLNf
import Derived.Test.YtbnfegcpnnokeaaGreatDoorRowLNg
import Derived.Test.YtbnfegcpnnokeaaGreatDoorRowLNc
import Derived.Test.YtbnfegcpnnokeaaGreatDoorRowLNd
import Derived.Test.YtbnfegcpnnokeaaGreatDoorAln
set_option linter.unusedVariables false
set_option linter.unusedSimpArgs false
namespace Go.Proofs.YtbnfegcpnnokeaaGreatDoor
/-- The tied card of LoadNone. -/
theorem loadNone_card : Rows.LoadNoneCardSaid :=
  Claim7.holds_tied_plain_at .later [] _ _ _ _ loadNoneLaw.said (fun _ h => by cases h) loadNoneLaw.wf (fun _ h => by cases h) loadNone_row_tie rfl ⟨rfl, rfl⟩ loadNoneLaw.mainIs rfl loadNoneLaw.plain loadNoneLaw.goes
#print axioms loadNone_card
end Go.Proofs.YtbnfegcpnnokeaaGreatDoor
