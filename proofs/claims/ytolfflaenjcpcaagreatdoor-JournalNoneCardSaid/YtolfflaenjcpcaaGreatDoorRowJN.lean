/-
  JournalNone returns true, whatever the input, and its arguments read behind the call as before. Conditions: the row's own (the listed tables of Go's library start as the program's text lays them: tied by the card).
-/
import Derived.Test.YtolfflaenjcpcaaGreatDoorRowJNe
import Derived.Test.YtolfflaenjcpcaaGreatDoorRowJNf
import Derived.Test.YtolfflaenjcpcaaGreatDoorRowJNg
import Derived.Test.YtolfflaenjcpcaaGreatDoorRowJNc
import Derived.Test.YtolfflaenjcpcaaGreatDoorRowJNd
import Derived.Test.YtolfflaenjcpcaaGreatDoorJf
set_option linter.unusedVariables false
set_option linter.unusedSimpArgs false
namespace Go.Proofs.YtolfflaenjcpcaaGreatDoor
/-- The tied card of JournalNone. -/
theorem journalNone_card : Rows.JournalNoneCardSaid :=
  Claim7.holds_tied_plain_at .later [] _ _ _ _ journalNoneLaw.said (fun _ h => by cases h) journalNoneLaw.wf (fun _ h => by cases h) journalNone_row_tie rfl ⟨rfl, rfl⟩ journalNoneLaw.mainIs rfl journalNoneLaw.plain journalNoneLaw.goes
#print axioms journalNone_card
end Go.Proofs.YtolfflaenjcpcaaGreatDoor
