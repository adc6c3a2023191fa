/-
  DERIVED. GIVEN WITH THE SEED: THE CARDS: each row of YtgjbnebmcmoilaaGreatDoorRows.lean that lists a variable, with what it lists TIED to the program's text (the seventh form; the later family's looks); each row that meets fmt, with fmt's text TOLD by the authors' own Lean function (tested against real Go, not proved from fmt's source: count such statements apart). THE CARD IS WHAT COUNTS. Prove the row's statement (the work); the ties are given (YtgjbnebmcmoilaaGreatDoorTie.lean); close each card by the builder's one call (the guide's Derived/Test/ToyasCard.lean, 'card_holds'). Laid BY PROGRAM, IN A SANDBOX (cutbox-door.mjs). By AI agents, Wed Nov 11 2026. No macro, syntax, notation, axiom, sorry.
-/
import Derived.Test.YtgjbnebmcmoilaaGreatDoorRows
import GoSem.ClaimSeven
namespace Go.Proofs.YtgjbnebmcmoilaaGreatDoor
namespace Rows

/-- THE TIED CARD OF 'pannierlaw41.JournalFulls'. -/
def journalFullsCard : Claim7 := { stood := { row := journalFullsRow, standIns := [], harness := (true, "bcb8963e32070d1b8b072a12d44010d2716c0ef5e4fda3554114d1dbe7bd0c44"), looks := true }, kinds := [], alts := [], laidByText := true, laidKinds := [.data, .data, .data, .pinned], laidTests := true, laidLooks := .later }
def JournalFullsCardSaid : Prop := Claim7.holds Tryz.pinned (.plain (OpenSpec.ofChange journalFullsSpec)) journalFullsCard

/-- THE TIED CARD OF 'pannierlaw41.JournalReads'. -/
def journalReadsCard : Claim7 := { stood := { row := journalReadsRow, standIns := [], harness := (true, "bcb8963e32070d1b8b072a12d44010d2716c0ef5e4fda3554114d1dbe7bd0c44"), looks := true }, kinds := [], alts := [], laidByText := true, laidKinds := [.data, .data, .data, .pinned], laidTests := true, laidLooks := .later }
def JournalReadsCardSaid : Prop := Claim7.holds Tryz.pinned (.plain (OpenSpec.ofChange journalReadsSpec)) journalReadsCard

/-- THE TIED CARD OF 'pannierlaw41.JournalAppends'. -/
def journalAppendsCard : Claim7 := { stood := { row := journalAppendsRow, standIns := [], harness := (true, "bcb8963e32070d1b8b072a12d44010d2716c0ef5e4fda3554114d1dbe7bd0c44"), looks := true }, kinds := [], alts := [], laidByText := true, laidKinds := [.data, .data, .data, .pinned], laidTests := true, laidLooks := .later }
def JournalAppendsCardSaid : Prop := Claim7.holds Tryz.pinned (.plain (OpenSpec.ofChange journalAppendsSpec)) journalAppendsCard

/-- THE SECOND FORM's CARD OF 'pannierlaw41.JournalFulls'. -/
def journalFullsUptoCard : Claim7 := { stood := { row := journalFullsUptoRow, standIns := [], harness := (true, "bcb8963e32070d1b8b072a12d44010d2716c0ef5e4fda3554114d1dbe7bd0c44"), looks := true }, kinds := [], alts := [], laidByText := true, laidKinds := [.data, .data, .data, .pinned], laidTests := true, laidLooks := .later }
def JournalFullsUptoCardSaid : Prop := Claim7.holds Tryz.pinned (.plain (OpenSpec.upto journalFullsSpec)) journalFullsUptoCard

/-- THE SECOND FORM's CARD OF 'pannierlaw41.JournalReads'. -/
def journalReadsUptoCard : Claim7 := { stood := { row := journalReadsUptoRow, standIns := [], harness := (true, "bcb8963e32070d1b8b072a12d44010d2716c0ef5e4fda3554114d1dbe7bd0c44"), looks := true }, kinds := [], alts := [], laidByText := true, laidKinds := [.data, .data, .data, .pinned], laidTests := true, laidLooks := .later }
def JournalReadsUptoCardSaid : Prop := Claim7.holds Tryz.pinned (.plain (OpenSpec.upto journalReadsSpec)) journalReadsUptoCard

/-- THE SECOND FORM's CARD OF 'pannierlaw41.JournalAppends'. -/
def journalAppendsUptoCard : Claim7 := { stood := { row := journalAppendsUptoRow, standIns := [], harness := (true, "bcb8963e32070d1b8b072a12d44010d2716c0ef5e4fda3554114d1dbe7bd0c44"), looks := true }, kinds := [], alts := [], laidByText := true, laidKinds := [.data, .data, .data, .pinned], laidTests := true, laidLooks := .later }
def JournalAppendsUptoCardSaid : Prop := Claim7.holds Tryz.pinned (.plain (OpenSpec.upto journalAppendsSpec)) journalAppendsUptoCard
end Rows
end Go.Proofs.YtgjbnebmcmoilaaGreatDoor
