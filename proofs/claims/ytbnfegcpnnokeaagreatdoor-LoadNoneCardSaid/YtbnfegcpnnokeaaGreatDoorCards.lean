/-
  DERIVED. GIVEN WITH THE SEED: THE CARDS: each row of YtbnfegcpnnokeaaGreatDoorRows.lean that lists a variable, with what it lists TIED to the program's text (the seventh form; the later family's looks); each row that meets fmt, with fmt's text TOLD by the authors' own Lean function (tested against real Go, not proved from fmt's source: count such statements apart). THE CARD IS WHAT COUNTS. Prove the row's statement (the work); the ties are given (YtbnfegcpnnokeaaGreatDoorTie.lean); close each card by the builder's one call (the guide's Derived/Test/ToyasCard.lean, 'card_holds'). Laid BY PROGRAM, IN A SANDBOX (cutbox-door.mjs). By AI agents, Wed Nov 11 2026. No macro, syntax, notation, axiom, sorry.
-/
import Derived.Test.YtbnfegcpnnokeaaGreatDoorRows
import GoSem.ClaimSeven
namespace Go.Proofs.YtbnfegcpnnokeaaGreatDoor
namespace Rows

/-- THE TIED CARD OF 'pannierlaw41.JournalReads'. -/
def journalReadsCard : Claim7 := { stood := { row := journalReadsRow, standIns := [], harness := (true, "e0d9e99252f3f84031a1ee1978ecc34abf82dc9e4916ba6fead1e7d7b0d5b404"), looks := true }, kinds := [], alts := [], laidByText := true, laidKinds := [.data, .data, .data, .pinned], laidTests := true, laidLooks := .later }
def JournalReadsCardSaid : Prop := Claim7.holds Tryz.pinned (.plain (OpenSpec.ofChange journalReadsSpec)) journalReadsCard

/-- THE TIED CARD OF 'pannierlaw41.JournalAppends'. -/
def journalAppendsCard : Claim7 := { stood := { row := journalAppendsRow, standIns := [], harness := (true, "e0d9e99252f3f84031a1ee1978ecc34abf82dc9e4916ba6fead1e7d7b0d5b404"), looks := true }, kinds := [], alts := [], laidByText := true, laidKinds := [.data, .data, .data, .pinned], laidTests := true, laidLooks := .later }
def JournalAppendsCardSaid : Prop := Claim7.holds Tryz.pinned (.plain (OpenSpec.ofChange journalAppendsSpec)) journalAppendsCard

/-- THE TIED CARD OF 'pannierlaw41.JournalNone'. -/
def journalNoneCard : Claim7 := { stood := { row := journalNoneRow, standIns := [], harness := (true, "e0d9e99252f3f84031a1ee1978ecc34abf82dc9e4916ba6fead1e7d7b0d5b404"), looks := true }, kinds := [], alts := [], laidByText := true, laidKinds := [.data, .data, .data, .pinned], laidTests := true, laidLooks := .later }
def JournalNoneCardSaid : Prop := Claim7.holds Tryz.pinned (.plain (OpenSpec.ofChange journalNoneSpec)) journalNoneCard

/-- THE TIED CARD OF 'pannierlaw51.LoadUses'. -/
def loadUsesCard : Claim7 := { stood := { row := loadUsesRow, standIns := [], harness := (true, "e0d9e99252f3f84031a1ee1978ecc34abf82dc9e4916ba6fead1e7d7b0d5b404"), looks := true }, kinds := [], alts := [], laidByText := true, laidKinds := [.data, .data, .data, .data, .data, .data, .pinned], laidTests := true, laidLooks := .later }
def LoadUsesCardSaid : Prop := Claim7.holds Tryz.pinned (.plain (OpenSpec.ofChange loadUsesSpec)) loadUsesCard

/-- THE TIED CARD OF 'pannierlaw51.LoadSkews'. -/
def loadSkewsCard : Claim7 := { stood := { row := loadSkewsRow, standIns := [], harness := (true, "e0d9e99252f3f84031a1ee1978ecc34abf82dc9e4916ba6fead1e7d7b0d5b404"), looks := true }, kinds := [], alts := [], laidByText := true, laidKinds := [.data, .data, .data, .data, .data, .data, .pinned], laidTests := true, laidLooks := .later }
def LoadSkewsCardSaid : Prop := Claim7.holds Tryz.pinned (.plain (OpenSpec.ofChange loadSkewsSpec)) loadSkewsCard

/-- THE TIED CARD OF 'pannierlaw51.LoadMakes'. -/
def loadMakesCard : Claim7 := { stood := { row := loadMakesRow, standIns := [], harness := (true, "e0d9e99252f3f84031a1ee1978ecc34abf82dc9e4916ba6fead1e7d7b0d5b404"), looks := true }, kinds := [], alts := [], laidByText := true, laidKinds := [.data, .data, .data, .data, .data, .data, .pinned], laidTests := true, laidLooks := .later }
def LoadMakesCardSaid : Prop := Claim7.holds Tryz.pinned (.plain (OpenSpec.ofChange loadMakesSpec)) loadMakesCard

/-- THE TIED CARD OF 'pannierlaw51.LoadNone'. -/
def loadNoneCard : Claim7 := { stood := { row := loadNoneRow, standIns := [], harness := (true, "e0d9e99252f3f84031a1ee1978ecc34abf82dc9e4916ba6fead1e7d7b0d5b404"), looks := true }, kinds := [], alts := [], laidByText := true, laidKinds := [.data, .data, .data, .data, .data, .data, .pinned], laidTests := true, laidLooks := .later }
def LoadNoneCardSaid : Prop := Claim7.holds Tryz.pinned (.plain (OpenSpec.ofChange loadNoneSpec)) loadNoneCard

/-- THE SECOND FORM's CARD OF 'pannierlaw41.JournalReads'. -/
def journalReadsUptoCard : Claim7 := { stood := { row := journalReadsUptoRow, standIns := [], harness := (true, "e0d9e99252f3f84031a1ee1978ecc34abf82dc9e4916ba6fead1e7d7b0d5b404"), looks := true }, kinds := [], alts := [], laidByText := true, laidKinds := [.data, .data, .data, .pinned], laidTests := true, laidLooks := .later }
def JournalReadsUptoCardSaid : Prop := Claim7.holds Tryz.pinned (.plain (OpenSpec.upto journalReadsSpec)) journalReadsUptoCard

/-- THE SECOND FORM's CARD OF 'pannierlaw41.JournalAppends'. -/
def journalAppendsUptoCard : Claim7 := { stood := { row := journalAppendsUptoRow, standIns := [], harness := (true, "e0d9e99252f3f84031a1ee1978ecc34abf82dc9e4916ba6fead1e7d7b0d5b404"), looks := true }, kinds := [], alts := [], laidByText := true, laidKinds := [.data, .data, .data, .pinned], laidTests := true, laidLooks := .later }
def JournalAppendsUptoCardSaid : Prop := Claim7.holds Tryz.pinned (.plain (OpenSpec.upto journalAppendsSpec)) journalAppendsUptoCard

/-- THE SECOND FORM's CARD OF 'pannierlaw41.JournalNone'. -/
def journalNoneUptoCard : Claim7 := { stood := { row := journalNoneUptoRow, standIns := [], harness := (true, "e0d9e99252f3f84031a1ee1978ecc34abf82dc9e4916ba6fead1e7d7b0d5b404"), looks := true }, kinds := [], alts := [], laidByText := true, laidKinds := [.data, .data, .data, .pinned], laidTests := true, laidLooks := .later }
def JournalNoneUptoCardSaid : Prop := Claim7.holds Tryz.pinned (.plain (OpenSpec.upto journalNoneSpec)) journalNoneUptoCard

/-- THE SECOND FORM's CARD OF 'pannierlaw51.LoadUses'. -/
def loadUsesUptoCard : Claim7 := { stood := { row := loadUsesUptoRow, standIns := [], harness := (true, "e0d9e99252f3f84031a1ee1978ecc34abf82dc9e4916ba6fead1e7d7b0d5b404"), looks := true }, kinds := [], alts := [], laidByText := true, laidKinds := [.data, .data, .data, .data, .data, .data, .pinned], laidTests := true, laidLooks := .later }
def LoadUsesUptoCardSaid : Prop := Claim7.holds Tryz.pinned (.plain (OpenSpec.upto loadUsesSpec)) loadUsesUptoCard

/-- THE SECOND FORM's CARD OF 'pannierlaw51.LoadSkews'. -/
def loadSkewsUptoCard : Claim7 := { stood := { row := loadSkewsUptoRow, standIns := [], harness := (true, "e0d9e99252f3f84031a1ee1978ecc34abf82dc9e4916ba6fead1e7d7b0d5b404"), looks := true }, kinds := [], alts := [], laidByText := true, laidKinds := [.data, .data, .data, .data, .data, .data, .pinned], laidTests := true, laidLooks := .later }
def LoadSkewsUptoCardSaid : Prop := Claim7.holds Tryz.pinned (.plain (OpenSpec.upto loadSkewsSpec)) loadSkewsUptoCard

/-- THE SECOND FORM's CARD OF 'pannierlaw51.LoadMakes'. -/
def loadMakesUptoCard : Claim7 := { stood := { row := loadMakesUptoRow, standIns := [], harness := (true, "e0d9e99252f3f84031a1ee1978ecc34abf82dc9e4916ba6fead1e7d7b0d5b404"), looks := true }, kinds := [], alts := [], laidByText := true, laidKinds := [.data, .data, .data, .data, .data, .data, .pinned], laidTests := true, laidLooks := .later }
def LoadMakesUptoCardSaid : Prop := Claim7.holds Tryz.pinned (.plain (OpenSpec.upto loadMakesSpec)) loadMakesUptoCard

/-- THE SECOND FORM's CARD OF 'pannierlaw51.LoadNone'. -/
def loadNoneUptoCard : Claim7 := { stood := { row := loadNoneUptoRow, standIns := [], harness := (true, "e0d9e99252f3f84031a1ee1978ecc34abf82dc9e4916ba6fead1e7d7b0d5b404"), looks := true }, kinds := [], alts := [], laidByText := true, laidKinds := [.data, .data, .data, .data, .data, .data, .pinned], laidTests := true, laidLooks := .later }
def LoadNoneUptoCardSaid : Prop := Claim7.holds Tryz.pinned (.plain (OpenSpec.upto loadNoneSpec)) loadNoneUptoCard
end Rows
end Go.Proofs.YtbnfegcpnnokeaaGreatDoor
