/-
  JournalFulls returns true, whatever the input, and its arguments read behind the call as before. Conditions: the row's own (the listed tables of Go's library start as the program's text lays them: tied by the card).
-/
import Derived.Test.YtgjbnebmcmoilaaGreatDoorRowJFe
import Derived.Test.YtgjbnebmcmoilaaGreatDoorRowJFf
import Derived.Test.YtgjbnebmcmoilaaGreatDoorRowJFg
import Derived.Test.YtgjbnebmcmoilaaGreatDoorRowJFc
import Derived.Test.YtgjbnebmcmoilaaGreatDoorRowJFd
import Derived.Test.YtgjbnebmcmoilaaGreatDoorYm
set_option linter.unusedVariables false
set_option linter.unusedSimpArgs false
namespace Go.Proofs.YtgjbnebmcmoilaaGreatDoor
/-- The tied card of JournalFulls. -/
theorem journalFulls_card : Rows.JournalFullsCardSaid :=
  Claim7.holds_tied_plain_at .later [] _ _ _ _ journalFullsLaw.said (fun _ h => by cases h) journalFullsLaw.wf (fun _ h => by cases h) journalFulls_row_tie rfl ⟨rfl, rfl⟩ journalFullsLaw.mainIs rfl journalFullsLaw.plain journalFullsLaw.goes
#print axioms journalFulls_card
end Go.Proofs.YtgjbnebmcmoilaaGreatDoor
