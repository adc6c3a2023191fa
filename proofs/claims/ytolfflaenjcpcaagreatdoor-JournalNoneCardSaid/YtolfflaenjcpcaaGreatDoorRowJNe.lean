/- The row of JournalNone is well formed. -/
import Derived.Test.YtolfflaenjcpcaaGreatDoorRx
set_option linter.unusedVariables false
set_option linter.unusedSimpArgs false
namespace Go.Proofs.YtolfflaenjcpcaaGreatDoor.journalNoneLaw
set_option maxRecDepth 100000 in
theorem wf : Rows.journalNoneRow.wfByText (OpenSpec.ofChange Rows.journalNoneSpec) = true := by kernel_rfl
end Go.Proofs.YtolfflaenjcpcaaGreatDoor.journalNoneLaw
