/-
  DERIVED. GIVEN WITH THE SEED: THE CARDS: each row of YtfddpmnbbjofnaaGreatDoorRows.lean that lists a variable, with what it lists TIED to the program's text (the seventh form; the later family's looks); each row that meets fmt, with fmt's text TOLD by the authors' own Lean function (tested against real Go, not proved from fmt's source: count such statements apart). THE CARD IS WHAT COUNTS. Prove the row's statement (the work); the ties are given (YtfddpmnbbjofnaaGreatDoorTie.lean); close each card by the builder's one call (the guide's Derived/Test/ToyasCard.lean, 'card_holds'). Laid BY PROGRAM, IN A SANDBOX (cutbox-door.mjs). By AI agents, Wed Nov 11 2026. No macro, syntax, notation, axiom, sorry.
-/
import Derived.Test.YtfddpmnbbjofnaaGreatDoorRows
import GoSem.ClaimSeven
namespace Go.Proofs.YtfddpmnbbjofnaaGreatDoor
namespace Rows

/-- THE TIED CARD OF 'pannierlaw37.NetFulls'. -/
def netFullsCard : Claim7 := { stood := { row := netFullsRow, standIns := [], harness := (true, "37962155f72d30fc2d532d6f339d8a0046c69f33ac979652784aa7d1fd197b92"), looks := true }, kinds := [], alts := [], laidByText := true, laidKinds := [.data, .data, .pinned], laidTests := true, laidLooks := .later }
def NetFullsCardSaid : Prop := Claim7.holds Tryz.pinned (.plain (OpenSpec.ofChange netFullsSpec)) netFullsCard

/-- THE SECOND FORM's CARD OF 'pannierlaw37.NetFulls'. -/
def netFullsUptoCard : Claim7 := { stood := { row := netFullsUptoRow, standIns := [], harness := (true, "37962155f72d30fc2d532d6f339d8a0046c69f33ac979652784aa7d1fd197b92"), looks := true }, kinds := [], alts := [], laidByText := true, laidKinds := [.data, .data, .pinned], laidTests := true, laidLooks := .later }
def NetFullsUptoCardSaid : Prop := Claim7.holds Tryz.pinned (.plain (OpenSpec.upto netFullsSpec)) netFullsUptoCard
end Rows
end Go.Proofs.YtfddpmnbbjofnaaGreatDoor
