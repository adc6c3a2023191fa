/-
  DERIVED. GIVEN WITH THE SEED: THE CARDS: each row of YtecnchmcdbcofaaGreatDoorRows.lean that lists a variable, with what it lists TIED to the program's text (the seventh form; the later family's looks); each row that meets fmt, with fmt's text TOLD by the authors' own Lean function (tested against real Go, not proved from fmt's source: count such statements apart). THE CARD IS WHAT COUNTS. Prove the row's statement (the work); the ties are given (YtecnchmcdbcofaaGreatDoorTie.lean); close each card by the builder's one call (the guide's Derived/Test/ToyasCard.lean, 'card_holds'). Laid BY PROGRAM, IN A SANDBOX (cutbox-door.mjs). By AI agents, Wed Nov 11 2026. No macro, syntax, notation, axiom, sorry.
-/
import Derived.Test.YtecnchmcdbcofaaGreatDoorRows
import GoSem.ClaimSeven
namespace Go.Proofs.YtecnchmcdbcofaaGreatDoor
namespace Rows

/-- THE TIED CARD OF 'pannierlaw51.LoadUses'. -/
def loadUsesCard : Claim7 := { stood := { row := loadUsesRow, standIns := [], harness := (true, "117c18e5fd9128c3446f4bc58c585fc1560415884037b41db078a317d4c0a9c3"), looks := true }, kinds := [], alts := [], laidByText := true, laidKinds := [.data, .data, .data, .data, .data, .data, .pinned], laidTests := true, laidLooks := .later }
def LoadUsesCardSaid : Prop := Claim7.holds Tryz.pinned (.plain (OpenSpec.ofChange loadUsesSpec)) loadUsesCard

/-- THE TIED CARD OF 'pannierlaw51.LoadSkews'. -/
def loadSkewsCard : Claim7 := { stood := { row := loadSkewsRow, standIns := [], harness := (true, "117c18e5fd9128c3446f4bc58c585fc1560415884037b41db078a317d4c0a9c3"), looks := true }, kinds := [], alts := [], laidByText := true, laidKinds := [.data, .data, .data, .data, .data, .data, .pinned], laidTests := true, laidLooks := .later }
def LoadSkewsCardSaid : Prop := Claim7.holds Tryz.pinned (.plain (OpenSpec.ofChange loadSkewsSpec)) loadSkewsCard

/-- THE TIED CARD OF 'pannierlaw51.LoadTallies'. -/
def loadTalliesCard : Claim7 := { stood := { row := loadTalliesRow, standIns := [], harness := (true, "117c18e5fd9128c3446f4bc58c585fc1560415884037b41db078a317d4c0a9c3"), looks := true }, kinds := [], alts := [], laidByText := true, laidKinds := [.data, .data, .data, .data, .data, .data, .pinned], laidTests := true, laidLooks := .later }
def LoadTalliesCardSaid : Prop := Claim7.holds Tryz.pinned (.plain (OpenSpec.ofChange loadTalliesSpec)) loadTalliesCard

/-- THE TIED CARD OF 'pannierlaw51.LoadLongs'. -/
def loadLongsCard : Claim7 := { stood := { row := loadLongsRow, standIns := [], harness := (true, "117c18e5fd9128c3446f4bc58c585fc1560415884037b41db078a317d4c0a9c3"), looks := true }, kinds := [], alts := [], laidByText := true, laidKinds := [.data, .data, .data, .data, .data, .data, .pinned], laidTests := true, laidLooks := .later }
def LoadLongsCardSaid : Prop := Claim7.holds Tryz.pinned (.plain (OpenSpec.ofChange loadLongsSpec)) loadLongsCard

/-- THE TIED CARD OF 'pannierlaw51.LoadHolds'. -/
def loadHoldsCard : Claim7 := { stood := { row := loadHoldsRow, standIns := [], harness := (true, "117c18e5fd9128c3446f4bc58c585fc1560415884037b41db078a317d4c0a9c3"), looks := true }, kinds := [], alts := [], laidByText := true, laidKinds := [.data, .data, .data, .data, .data, .data, .pinned], laidTests := true, laidLooks := .later }
def LoadHoldsCardSaid : Prop := Claim7.holds Tryz.pinned (.plain (OpenSpec.ofChange loadHoldsSpec)) loadHoldsCard

/-- THE TIED CARD OF 'pannierlaw51.LoadMakes'. -/
def loadMakesCard : Claim7 := { stood := { row := loadMakesRow, standIns := [], harness := (true, "117c18e5fd9128c3446f4bc58c585fc1560415884037b41db078a317d4c0a9c3"), looks := true }, kinds := [], alts := [], laidByText := true, laidKinds := [.data, .data, .data, .data, .data, .data, .pinned], laidTests := true, laidLooks := .later }
def LoadMakesCardSaid : Prop := Claim7.holds Tryz.pinned (.plain (OpenSpec.ofChange loadMakesSpec)) loadMakesCard

/-- THE SECOND FORM's CARD OF 'pannierlaw51.LoadUses'. -/
def loadUsesUptoCard : Claim7 := { stood := { row := loadUsesUptoRow, standIns := [], harness := (true, "117c18e5fd9128c3446f4bc58c585fc1560415884037b41db078a317d4c0a9c3"), looks := true }, kinds := [], alts := [], laidByText := true, laidKinds := [.data, .data, .data, .data, .data, .data, .pinned], laidTests := true, laidLooks := .later }
def LoadUsesUptoCardSaid : Prop := Claim7.holds Tryz.pinned (.plain (OpenSpec.upto loadUsesSpec)) loadUsesUptoCard

/-- THE SECOND FORM's CARD OF 'pannierlaw51.LoadSkews'. -/
def loadSkewsUptoCard : Claim7 := { stood := { row := loadSkewsUptoRow, standIns := [], harness := (true, "117c18e5fd9128c3446f4bc58c585fc1560415884037b41db078a317d4c0a9c3"), looks := true }, kinds := [], alts := [], laidByText := true, laidKinds := [.data, .data, .data, .data, .data, .data, .pinned], laidTests := true, laidLooks := .later }
def LoadSkewsUptoCardSaid : Prop := Claim7.holds Tryz.pinned (.plain (OpenSpec.upto loadSkewsSpec)) loadSkewsUptoCard

/-- THE SECOND FORM's CARD OF 'pannierlaw51.LoadTallies'. -/
def loadTalliesUptoCard : Claim7 := { stood := { row := loadTalliesUptoRow, standIns := [], harness := (true, "117c18e5fd9128c3446f4bc58c585fc1560415884037b41db078a317d4c0a9c3"), looks := true }, kinds := [], alts := [], laidByText := true, laidKinds := [.data, .data, .data, .data, .data, .data, .pinned], laidTests := true, laidLooks := .later }
def LoadTalliesUptoCardSaid : Prop := Claim7.holds Tryz.pinned (.plain (OpenSpec.upto loadTalliesSpec)) loadTalliesUptoCard

/-- THE SECOND FORM's CARD OF 'pannierlaw51.LoadLongs'. -/
def loadLongsUptoCard : Claim7 := { stood := { row := loadLongsUptoRow, standIns := [], harness := (true, "117c18e5fd9128c3446f4bc58c585fc1560415884037b41db078a317d4c0a9c3"), looks := true }, kinds := [], alts := [], laidByText := true, laidKinds := [.data, .data, .data, .data, .data, .data, .pinned], laidTests := true, laidLooks := .later }
def LoadLongsUptoCardSaid : Prop := Claim7.holds Tryz.pinned (.plain (OpenSpec.upto loadLongsSpec)) loadLongsUptoCard

/-- THE SECOND FORM's CARD OF 'pannierlaw51.LoadHolds'. -/
def loadHoldsUptoCard : Claim7 := { stood := { row := loadHoldsUptoRow, standIns := [], harness := (true, "117c18e5fd9128c3446f4bc58c585fc1560415884037b41db078a317d4c0a9c3"), looks := true }, kinds := [], alts := [], laidByText := true, laidKinds := [.data, .data, .data, .data, .data, .data, .pinned], laidTests := true, laidLooks := .later }
def LoadHoldsUptoCardSaid : Prop := Claim7.holds Tryz.pinned (.plain (OpenSpec.upto loadHoldsSpec)) loadHoldsUptoCard

/-- THE SECOND FORM's CARD OF 'pannierlaw51.LoadMakes'. -/
def loadMakesUptoCard : Claim7 := { stood := { row := loadMakesUptoRow, standIns := [], harness := (true, "117c18e5fd9128c3446f4bc58c585fc1560415884037b41db078a317d4c0a9c3"), looks := true }, kinds := [], alts := [], laidByText := true, laidKinds := [.data, .data, .data, .data, .data, .data, .pinned], laidTests := true, laidLooks := .later }
def LoadMakesUptoCardSaid : Prop := Claim7.holds Tryz.pinned (.plain (OpenSpec.upto loadMakesSpec)) loadMakesUptoCard
end Rows
end Go.Proofs.YtecnchmcdbcofaaGreatDoor
