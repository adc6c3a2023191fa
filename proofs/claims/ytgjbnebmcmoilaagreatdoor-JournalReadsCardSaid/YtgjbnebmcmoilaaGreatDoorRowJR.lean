/-
  JournalReads returns true, whatever the input, and its arguments read behind the call as before. Conditions: the row's own (the listed tables of Go's library start as the program's text lays them: tied by the card).
-/
import Derived.Test.YtgjbnebmcmoilaaGreatDoorRowJRe
import Derived.Test.YtgjbnebmcmoilaaGreatDoorRowJRf
import Derived.Test.YtgjbnebmcmoilaaGreatDoorRowJRg
import Derived.Test.YtgjbnebmcmoilaaGreatDoorRowJRc
import Derived.Test.YtgjbnebmcmoilaaGreatDoorRowJRd
import Derived.Test.YtgjbnebmcmoilaaGreatDoorVh
set_option linter.unusedVariables false
set_option linter.unusedSimpArgs false
namespace Go.Proofs.YtgjbnebmcmoilaaGreatDoor
/-- The tied card of JournalReads. -/
theorem journalReads_card : Rows.JournalReadsCardSaid :=
  Claim7.holds_tied_plain_at .later [] _ _ _ _ journalReadsLaw.said (fun _ h => by cases h) journalReadsLaw.wf (fun _ h => by cases h) journalReads_row_tie rfl ⟨rfl, rfl⟩ journalReadsLaw.mainIs rfl journalReadsLaw.plain journalReadsLaw.goes
#print axioms journalReads_card
end Go.Proofs.YtgjbnebmcmoilaaGreatDoor
