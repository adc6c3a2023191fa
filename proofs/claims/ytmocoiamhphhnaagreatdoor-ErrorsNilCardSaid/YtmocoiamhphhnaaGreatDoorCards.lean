/-
  DERIVED. GIVEN WITH THE SEED: THE CARDS: each row of YtmocoiamhphhnaaGreatDoorRows.lean that lists a variable, with what it lists TIED to the program's text (the seventh form; the later family's looks); each row that meets fmt, with fmt's text TOLD by the authors' own Lean function (tested against real Go, not proved from fmt's source: count such statements apart). THE CARD IS WHAT COUNTS. Prove the row's statement (the work); the ties are given (YtmocoiamhphhnaaGreatDoorTie.lean); close each card by the builder's one call (the guide's Derived/Test/ToyasCard.lean, 'card_holds'). Laid BY PROGRAM, IN A SANDBOX (cutbox-door.mjs). By AI agents, Wed Nov 11 2026. No macro, syntax, notation, axiom, sorry.
-/
import Derived.Test.YtmocoiamhphhnaaGreatDoorRows
import GoSem.ClaimSeven
namespace Go.Proofs.YtmocoiamhphhnaaGreatDoor
namespace Rows

/-- THE TIED CARD OF 'pannierlaw24.ErrorsWords'. -/
def errorsWordsCard : Claim7 := { stood := { row := errorsWordsRow, standIns := [], harness := (true, "b7d2baf7549146ffa763f40c992ef1047bd8d2b15d1b7c11e7637634d91bd5eb"), looks := true }, kinds := [], alts := [], laidByText := true, laidKinds := [.data, .data, .data, .data, .pinned], laidTests := true, laidLooks := .later }
def ErrorsWordsCardSaid : Prop := Claim7.holds Tryz.pinned (.plain (OpenSpec.ofChange errorsWordsSpec)) errorsWordsCard

/-- THE TIED CARD OF 'pannierlaw24.ErrorsNil'. -/
def errorsNilCard : Claim7 := { stood := { row := errorsNilRow, standIns := [], harness := (true, "b7d2baf7549146ffa763f40c992ef1047bd8d2b15d1b7c11e7637634d91bd5eb"), looks := true }, kinds := [], alts := [], laidByText := true, laidKinds := [.data, .data, .data, .data, .pinned], laidTests := true, laidLooks := .later }
def ErrorsNilCardSaid : Prop := Claim7.holds Tryz.pinned (.plain (OpenSpec.ofChange errorsNilSpec)) errorsNilCard

/-- THE SECOND FORM's CARD OF 'pannierlaw24.ErrorsWords'. -/
def errorsWordsUptoCard : Claim7 := { stood := { row := errorsWordsUptoRow, standIns := [], harness := (true, "b7d2baf7549146ffa763f40c992ef1047bd8d2b15d1b7c11e7637634d91bd5eb"), looks := true }, kinds := [], alts := [], laidByText := true, laidKinds := [.data, .data, .data, .data, .pinned], laidTests := true, laidLooks := .later }
def ErrorsWordsUptoCardSaid : Prop := Claim7.holds Tryz.pinned (.plain (OpenSpec.upto errorsWordsSpec)) errorsWordsUptoCard

/-- THE SECOND FORM's CARD OF 'pannierlaw24.ErrorsNil'. -/
def errorsNilUptoCard : Claim7 := { stood := { row := errorsNilUptoRow, standIns := [], harness := (true, "b7d2baf7549146ffa763f40c992ef1047bd8d2b15d1b7c11e7637634d91bd5eb"), looks := true }, kinds := [], alts := [], laidByText := true, laidKinds := [.data, .data, .data, .data, .pinned], laidTests := true, laidLooks := .later }
def ErrorsNilUptoCardSaid : Prop := Claim7.holds Tryz.pinned (.plain (OpenSpec.upto errorsNilSpec)) errorsNilUptoCard
end Rows
end Go.Proofs.YtmocoiamhphhnaaGreatDoor
