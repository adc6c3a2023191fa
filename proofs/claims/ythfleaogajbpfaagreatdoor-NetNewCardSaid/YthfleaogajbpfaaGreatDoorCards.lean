/-
  DERIVED. GIVEN WITH THE SEED: THE CARDS: each row of YthfleaogajbpfaaGreatDoorRows.lean that lists a variable, with what it lists TIED to the program's text (the seventh form; the later family's looks); each row that meets fmt, with fmt's text TOLD by the authors' own Lean function (tested against real Go, not proved from fmt's source: count such statements apart). THE CARD IS WHAT COUNTS. Prove the row's statement (the work); the ties are given (YthfleaogajbpfaaGreatDoorTie.lean); close each card by the builder's one call (the guide's Derived/Test/ToyasCard.lean, 'card_holds'). Laid BY PROGRAM, IN A SANDBOX (cutbox-door.mjs). By AI agents, Wed Nov 11 2026. No macro, syntax, notation, axiom, sorry.
-/
import Derived.Test.YthfleaogajbpfaaGreatDoorRows
import GoSem.ClaimSeven
namespace Go.Proofs.YthfleaogajbpfaaGreatDoor
namespace Rows

/-- THE TIED CARD OF 'pannierlaw23.ReplicaNew'. -/
def replicaNewCard : Claim7 := { stood := { row := replicaNewRow, standIns := [], harness := (true, "c777d7ce183d355c80d8a3ec4219a4f5fc1447dcb7aadd22a26bd6f562efb65c"), looks := true }, kinds := [], alts := [], laidByText := true, laidKinds := [.data, .data, .pinned], laidTests := true, laidLooks := .later }
def ReplicaNewCardSaid : Prop := Claim7.holds Tryz.pinned (.plain (OpenSpec.ofChange replicaNewSpec)) replicaNewCard

/-- THE TIED CARD OF 'pannierlaw37.NetNew'. -/
def netNewCard : Claim7 := { stood := { row := netNewRow, standIns := [], harness := (true, "c777d7ce183d355c80d8a3ec4219a4f5fc1447dcb7aadd22a26bd6f562efb65c"), looks := true }, kinds := [], alts := [], laidByText := true, laidKinds := [.data, .data, .pinned], laidTests := true, laidLooks := .later }
def NetNewCardSaid : Prop := Claim7.holds Tryz.pinned (.plain (OpenSpec.ofChange netNewSpec)) netNewCard

/-- THE SECOND FORM's CARD OF 'pannierlaw23.ReplicaNew'. -/
def replicaNewUptoCard : Claim7 := { stood := { row := replicaNewUptoRow, standIns := [], harness := (true, "c777d7ce183d355c80d8a3ec4219a4f5fc1447dcb7aadd22a26bd6f562efb65c"), looks := true }, kinds := [], alts := [], laidByText := true, laidKinds := [.data, .data, .pinned], laidTests := true, laidLooks := .later }
def ReplicaNewUptoCardSaid : Prop := Claim7.holds Tryz.pinned (.plain (OpenSpec.upto replicaNewSpec)) replicaNewUptoCard

/-- THE SECOND FORM's CARD OF 'pannierlaw37.NetNew'. -/
def netNewUptoCard : Claim7 := { stood := { row := netNewUptoRow, standIns := [], harness := (true, "c777d7ce183d355c80d8a3ec4219a4f5fc1447dcb7aadd22a26bd6f562efb65c"), looks := true }, kinds := [], alts := [], laidByText := true, laidKinds := [.data, .data, .pinned], laidTests := true, laidLooks := .later }
def NetNewUptoCardSaid : Prop := Claim7.holds Tryz.pinned (.plain (OpenSpec.upto netNewSpec)) netNewUptoCard
end Rows
end Go.Proofs.YthfleaogajbpfaaGreatDoor
