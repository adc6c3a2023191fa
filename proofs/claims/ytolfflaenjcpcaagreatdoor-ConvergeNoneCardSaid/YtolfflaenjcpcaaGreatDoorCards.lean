/-
  DERIVED. GIVEN WITH THE SEED: THE CARDS: each row of YtolfflaenjcpcaaGreatDoorRows.lean that lists a variable, with what it lists TIED to the program's text (the seventh form; the later family's looks); each row that meets fmt, with fmt's text TOLD by the authors' own Lean function (tested against real Go, not proved from fmt's source: count such statements apart). THE CARD IS WHAT COUNTS. Prove the row's statement (the work); the ties are given (YtolfflaenjcpcaaGreatDoorTie.lean); close each card by the builder's one call (the guide's Derived/Test/ToyasCard.lean, 'card_holds'). Laid BY PROGRAM, IN A SANDBOX (cutbox-door.mjs). By AI agents, Wed Nov 11 2026. No macro, syntax, notation, axiom, sorry.
-/
import Derived.Test.YtolfflaenjcpcaaGreatDoorRows
import GoSem.ClaimSeven
namespace Go.Proofs.YtolfflaenjcpcaaGreatDoor
namespace Rows

/-- THE TIED CARD OF 'pannierlaw23.ReplicaNil'. -/
def replicaNilCard : Claim7 := { stood := { row := replicaNilRow, standIns := [], harness := (true, "c11a753f19773fe3b2c917d48e1606459cd077ec3397987bfe98812685ba79fa"), looks := true }, kinds := [], alts := [], laidByText := true, laidKinds := [.data, .data, .pinned], laidTests := true, laidLooks := .later }
def ReplicaNilCardSaid : Prop := Claim7.holds Tryz.pinned (.plain (OpenSpec.ofChange replicaNilSpec)) replicaNilCard

/-- THE TIED CARD OF 'pannierlaw37.NetNone'. -/
def netNoneCard : Claim7 := { stood := { row := netNoneRow, standIns := [], harness := (true, "c11a753f19773fe3b2c917d48e1606459cd077ec3397987bfe98812685ba79fa"), looks := true }, kinds := [], alts := [], laidByText := true, laidKinds := [.data, .data, .pinned], laidTests := true, laidLooks := .later }
def NetNoneCardSaid : Prop := Claim7.holds Tryz.pinned (.plain (OpenSpec.ofChange netNoneSpec)) netNoneCard

/-- THE TIED CARD OF 'pannierlaw41.JournalNone'. -/
def journalNoneCard : Claim7 := { stood := { row := journalNoneRow, standIns := [], harness := (true, "c11a753f19773fe3b2c917d48e1606459cd077ec3397987bfe98812685ba79fa"), looks := true }, kinds := [], alts := [], laidByText := true, laidKinds := [.data, .data, .data, .pinned], laidTests := true, laidLooks := .later }
def JournalNoneCardSaid : Prop := Claim7.holds Tryz.pinned (.plain (OpenSpec.ofChange journalNoneSpec)) journalNoneCard

/-- THE TIED CARD OF 'pannierlaw38.ConvergeNone'. -/
def convergeNoneCard : Claim7 := { stood := { row := convergeNoneRow, standIns := [], harness := (true, "c11a753f19773fe3b2c917d48e1606459cd077ec3397987bfe98812685ba79fa"), looks := true }, kinds := [], alts := [], laidByText := true, laidKinds := [.data, .data, .pinned], laidTests := true, laidLooks := .later }
def ConvergeNoneCardSaid : Prop := Claim7.holds Tryz.pinned (.plain (OpenSpec.ofChange convergeNoneSpec)) convergeNoneCard

/-- THE SECOND FORM's CARD OF 'pannierlaw23.ReplicaNil'. -/
def replicaNilUptoCard : Claim7 := { stood := { row := replicaNilUptoRow, standIns := [], harness := (true, "c11a753f19773fe3b2c917d48e1606459cd077ec3397987bfe98812685ba79fa"), looks := true }, kinds := [], alts := [], laidByText := true, laidKinds := [.data, .data, .pinned], laidTests := true, laidLooks := .later }
def ReplicaNilUptoCardSaid : Prop := Claim7.holds Tryz.pinned (.plain (OpenSpec.upto replicaNilSpec)) replicaNilUptoCard

/-- THE SECOND FORM's CARD OF 'pannierlaw37.NetNone'. -/
def netNoneUptoCard : Claim7 := { stood := { row := netNoneUptoRow, standIns := [], harness := (true, "c11a753f19773fe3b2c917d48e1606459cd077ec3397987bfe98812685ba79fa"), looks := true }, kinds := [], alts := [], laidByText := true, laidKinds := [.data, .data, .pinned], laidTests := true, laidLooks := .later }
def NetNoneUptoCardSaid : Prop := Claim7.holds Tryz.pinned (.plain (OpenSpec.upto netNoneSpec)) netNoneUptoCard

/-- THE SECOND FORM's CARD OF 'pannierlaw41.JournalNone'. -/
def journalNoneUptoCard : Claim7 := { stood := { row := journalNoneUptoRow, standIns := [], harness := (true, "c11a753f19773fe3b2c917d48e1606459cd077ec3397987bfe98812685ba79fa"), looks := true }, kinds := [], alts := [], laidByText := true, laidKinds := [.data, .data, .data, .pinned], laidTests := true, laidLooks := .later }
def JournalNoneUptoCardSaid : Prop := Claim7.holds Tryz.pinned (.plain (OpenSpec.upto journalNoneSpec)) journalNoneUptoCard

/-- THE SECOND FORM's CARD OF 'pannierlaw38.ConvergeNone'. -/
def convergeNoneUptoCard : Claim7 := { stood := { row := convergeNoneUptoRow, standIns := [], harness := (true, "c11a753f19773fe3b2c917d48e1606459cd077ec3397987bfe98812685ba79fa"), looks := true }, kinds := [], alts := [], laidByText := true, laidKinds := [.data, .data, .pinned], laidTests := true, laidLooks := .later }
def ConvergeNoneUptoCardSaid : Prop := Claim7.holds Tryz.pinned (.plain (OpenSpec.upto convergeNoneSpec)) convergeNoneUptoCard
end Rows
end Go.Proofs.YtolfflaenjcpcaaGreatDoor
