/-
  JournalAppends returns true, whatever the input, and its arguments read behind the call as before. Conditions: the row's own (the listed tables of Go's library start as the program's text lays them: tied by the card).
-/
import Derived.Test.YtgjbnebmcmoilaaGreatDoorRowJAe
import Derived.Test.YtgjbnebmcmoilaaGreatDoorRowJAf
import Derived.Test.YtgjbnebmcmoilaaGreatDoorRowJAg
import Derived.Test.YtgjbnebmcmoilaaGreatDoorRowJAc
import Derived.Test.YtgjbnebmcmoilaaGreatDoorRowJAd
import Derived.Test.YtgjbnebmcmoilaaGreatDoorVh
set_option linter.unusedVariables false
set_option linter.unusedSimpArgs false
namespace Go.Proofs.YtgjbnebmcmoilaaGreatDoor
/-- The tied card of JournalAppends. -/
theorem journalAppends_card : Rows.JournalAppendsCardSaid :=
  Claim7.holds_tied_plain_at .later [] _ _ _ _ journalAppendsLaw.said (fun _ h => by cases h) journalAppendsLaw.wf (fun _ h => by cases h) journalAppends_row_tie rfl ⟨rfl, rfl⟩ journalAppendsLaw.mainIs rfl journalAppendsLaw.plain journalAppendsLaw.goes
#print axioms journalAppends_card
end Go.Proofs.YtgjbnebmcmoilaaGreatDoor
