/-
  DERIVED. GIVEN WITH THE SEED: THE CARDS: each row of YtahklchfchjmcaaDoorRows.lean that lists a variable, with what it lists TIED to the program's text (the seventh form; the later family's looks); each row that meets fmt, with fmt's text TOLD by the authors' own Lean function (tested against real Go, not proved from fmt's source: count such statements apart). THE CARD IS WHAT COUNTS. Prove the row's statement (the work); the ties are given (YtahklchfchjmcaaDoorTie.lean); close each card by the builder's one call (the guide's Derived/Test/ToyasCard.lean, 'card_holds'). Laid BY PROGRAM, IN A SANDBOX (cutbox-door.mjs). By AI agents, Wed Nov 11 2026. No macro, syntax, notation, axiom, sorry.
-/
import Derived.Test.YtahklchfchjmcaaDoorRows
import GoSem.ClaimSeven
namespace Go.Proofs.YtahklchfchjmcaaDoor
namespace Rows

/-- THE TIED CARD OF 'pannierlaw33.RaceOf'. -/
def raceOfCard : Claim7 := { stood := { row := raceOfRow, standIns := [], harness := (true, "05e3ff32662d679d125d166a183bf2c14851291c08a2fa858f598d18b4380699"), looks := false }, kinds := [], alts := [], laidByText := true, laidKinds := [.data, .data, .data], laidTests := true, laidLooks := .later }
def RaceOfCardSaid : Prop := Claim7.holds Tryd.pinned (.plain (OpenSpec.ofChange raceOfSpec)) raceOfCard

/-- THE TIED CARD OF 'pannierlaw33.RaceChecks'. -/
def raceChecksCard : Claim7 := { stood := { row := raceChecksRow, standIns := [], harness := (true, "05e3ff32662d679d125d166a183bf2c14851291c08a2fa858f598d18b4380699"), looks := false }, kinds := [], alts := [], laidByText := true, laidKinds := [.data, .data, .data], laidTests := true, laidLooks := .later }
def RaceChecksCardSaid : Prop := Claim7.holds Tryd.pinned (.plain (OpenSpec.ofChange raceChecksSpec)) raceChecksCard

/-- THE TIED CARD OF 'pannierlaw33.RaceOrders'. -/
def raceOrdersCard : Claim7 := { stood := { row := raceOrdersRow, standIns := [], harness := (true, "05e3ff32662d679d125d166a183bf2c14851291c08a2fa858f598d18b4380699"), looks := false }, kinds := [], alts := [], laidByText := true, laidKinds := [.data, .data, .data], laidTests := true, laidLooks := .later }
def RaceOrdersCardSaid : Prop := Claim7.holds Tryd.pinned (.plain (OpenSpec.ofChange raceOrdersSpec)) raceOrdersCard

/-- THE TIED CARD OF 'pannierlaw33.RaceLongs'. -/
def raceLongsCard : Claim7 := { stood := { row := raceLongsRow, standIns := [], harness := (true, "05e3ff32662d679d125d166a183bf2c14851291c08a2fa858f598d18b4380699"), looks := false }, kinds := [], alts := [], laidByText := true, laidKinds := [.data, .data, .data], laidTests := true, laidLooks := .later }
def RaceLongsCardSaid : Prop := Claim7.holds Tryd.pinned (.plain (OpenSpec.ofChange raceLongsSpec)) raceLongsCard

/-- THE TIED CARD OF 'pannierlaw33.RaceLocked'. -/
def raceLockedCard : Claim7 := { stood := { row := raceLockedRow, standIns := [], harness := (true, "05e3ff32662d679d125d166a183bf2c14851291c08a2fa858f598d18b4380699"), looks := false }, kinds := [], alts := [], laidByText := true, laidKinds := [.data, .data, .data], laidTests := true, laidLooks := .later }
def RaceLockedCardSaid : Prop := Claim7.holds Tryd.pinned (.plain (OpenSpec.ofChange raceLockedSpec)) raceLockedCard

/-- THE TIED CARD OF 'pannierlaw33.RaceHolds'. -/
def raceHoldsCard : Claim7 := { stood := { row := raceHoldsRow, standIns := [], harness := (true, "05e3ff32662d679d125d166a183bf2c14851291c08a2fa858f598d18b4380699"), looks := false }, kinds := [], alts := [], laidByText := true, laidKinds := [.data, .data, .data], laidTests := true, laidLooks := .later }
def RaceHoldsCardSaid : Prop := Claim7.holds Tryd.pinned (.plain (OpenSpec.ofChange raceHoldsSpec)) raceHoldsCard

/-- THE TIED CARD OF 'pannierlaw07.NamesKeys'. -/
def namesKeysCard : Claim7 := { stood := { row := namesKeysRow, standIns := [], harness := (true, "05e3ff32662d679d125d166a183bf2c14851291c08a2fa858f598d18b4380699"), looks := false }, kinds := [], alts := [], laidByText := true, laidKinds := [.data, .pinned], laidTests := true, laidLooks := .later }
def NamesKeysCardSaid : Prop := Claim7.holds Tryd.pinned (.plain (OpenSpec.ofChange namesKeysSpec)) namesKeysCard

/-- THE TIED CARD OF 'pannierlaw07.NamesBytes'. -/
def namesBytesCard : Claim7 := { stood := { row := namesBytesRow, standIns := [], harness := (true, "05e3ff32662d679d125d166a183bf2c14851291c08a2fa858f598d18b4380699"), looks := false }, kinds := [], alts := [], laidByText := true, laidKinds := [.data, .pinned], laidTests := true, laidLooks := .later }
def NamesBytesCardSaid : Prop := Claim7.holds Tryd.pinned (.plain (OpenSpec.ofChange namesBytesSpec)) namesBytesCard

/-- THE TIED CARD OF 'pannierlaw07.NamesQuotes'. -/
def namesQuotesCard : Claim7 := { stood := { row := namesQuotesRow, standIns := [], harness := (true, "05e3ff32662d679d125d166a183bf2c14851291c08a2fa858f598d18b4380699"), looks := false }, kinds := [], alts := [], laidByText := true, laidKinds := [.data, .pinned], laidTests := true, laidLooks := .later }
def NamesQuotesCardSaid : Prop := Claim7.holds Tryd.pinned (.plain (OpenSpec.ofChange namesQuotesSpec)) namesQuotesCard

/-- THE TIED CARD OF 'pannierlaw07.NamesFields'. -/
def namesFieldsCard : Claim7 := { stood := { row := namesFieldsRow, standIns := [], harness := (true, "05e3ff32662d679d125d166a183bf2c14851291c08a2fa858f598d18b4380699"), looks := false }, kinds := [], alts := [], laidByText := true, laidKinds := [.data, .pinned], laidTests := true, laidLooks := .later }
def NamesFieldsCardSaid : Prop := Claim7.holds Tryd.pinned (.plain (OpenSpec.ofChange namesFieldsSpec)) namesFieldsCard

/-- THE TIED CARD OF 'pannierlaw07.NamesHolds'. -/
def namesHoldsCard : Claim7 := { stood := { row := namesHoldsRow, standIns := [], harness := (true, "05e3ff32662d679d125d166a183bf2c14851291c08a2fa858f598d18b4380699"), looks := false }, kinds := [], alts := [], laidByText := true, laidKinds := [.data, .pinned], laidTests := true, laidLooks := .later }
def NamesHoldsCardSaid : Prop := Claim7.holds Tryd.pinned (.plain (OpenSpec.ofChange namesHoldsSpec)) namesHoldsCard

/-- THE SECOND FORM's CARD OF 'pannierlaw33.RaceOf'. -/
def raceOfUptoCard : Claim7 := { stood := { row := raceOfUptoRow, standIns := [], harness := (true, "05e3ff32662d679d125d166a183bf2c14851291c08a2fa858f598d18b4380699"), looks := false }, kinds := [], alts := [], laidByText := true, laidKinds := [.data, .data, .data], laidTests := true, laidLooks := .later }
def RaceOfUptoCardSaid : Prop := Claim7.holds Tryd.pinned (.plain (OpenSpec.upto raceOfSpec)) raceOfUptoCard

/-- THE SECOND FORM's CARD OF 'pannierlaw33.RaceChecks'. -/
def raceChecksUptoCard : Claim7 := { stood := { row := raceChecksUptoRow, standIns := [], harness := (true, "05e3ff32662d679d125d166a183bf2c14851291c08a2fa858f598d18b4380699"), looks := false }, kinds := [], alts := [], laidByText := true, laidKinds := [.data, .data, .data], laidTests := true, laidLooks := .later }
def RaceChecksUptoCardSaid : Prop := Claim7.holds Tryd.pinned (.plain (OpenSpec.upto raceChecksSpec)) raceChecksUptoCard

/-- THE SECOND FORM's CARD OF 'pannierlaw33.RaceOrders'. -/
def raceOrdersUptoCard : Claim7 := { stood := { row := raceOrdersUptoRow, standIns := [], harness := (true, "05e3ff32662d679d125d166a183bf2c14851291c08a2fa858f598d18b4380699"), looks := false }, kinds := [], alts := [], laidByText := true, laidKinds := [.data, .data, .data], laidTests := true, laidLooks := .later }
def RaceOrdersUptoCardSaid : Prop := Claim7.holds Tryd.pinned (.plain (OpenSpec.upto raceOrdersSpec)) raceOrdersUptoCard

/-- THE SECOND FORM's CARD OF 'pannierlaw33.RaceLongs'. -/
def raceLongsUptoCard : Claim7 := { stood := { row := raceLongsUptoRow, standIns := [], harness := (true, "05e3ff32662d679d125d166a183bf2c14851291c08a2fa858f598d18b4380699"), looks := false }, kinds := [], alts := [], laidByText := true, laidKinds := [.data, .data, .data], laidTests := true, laidLooks := .later }
def RaceLongsUptoCardSaid : Prop := Claim7.holds Tryd.pinned (.plain (OpenSpec.upto raceLongsSpec)) raceLongsUptoCard

/-- THE SECOND FORM's CARD OF 'pannierlaw33.RaceLocked'. -/
def raceLockedUptoCard : Claim7 := { stood := { row := raceLockedUptoRow, standIns := [], harness := (true, "05e3ff32662d679d125d166a183bf2c14851291c08a2fa858f598d18b4380699"), looks := false }, kinds := [], alts := [], laidByText := true, laidKinds := [.data, .data, .data], laidTests := true, laidLooks := .later }
def RaceLockedUptoCardSaid : Prop := Claim7.holds Tryd.pinned (.plain (OpenSpec.upto raceLockedSpec)) raceLockedUptoCard

/-- THE SECOND FORM's CARD OF 'pannierlaw33.RaceHolds'. -/
def raceHoldsUptoCard : Claim7 := { stood := { row := raceHoldsUptoRow, standIns := [], harness := (true, "05e3ff32662d679d125d166a183bf2c14851291c08a2fa858f598d18b4380699"), looks := false }, kinds := [], alts := [], laidByText := true, laidKinds := [.data, .data, .data], laidTests := true, laidLooks := .later }
def RaceHoldsUptoCardSaid : Prop := Claim7.holds Tryd.pinned (.plain (OpenSpec.upto raceHoldsSpec)) raceHoldsUptoCard

/-- THE SECOND FORM's CARD OF 'pannierlaw07.NamesKeys'. -/
def namesKeysUptoCard : Claim7 := { stood := { row := namesKeysUptoRow, standIns := [], harness := (true, "05e3ff32662d679d125d166a183bf2c14851291c08a2fa858f598d18b4380699"), looks := false }, kinds := [], alts := [], laidByText := true, laidKinds := [.data, .pinned], laidTests := true, laidLooks := .later }
def NamesKeysUptoCardSaid : Prop := Claim7.holds Tryd.pinned (.plain (OpenSpec.upto namesKeysSpec)) namesKeysUptoCard

/-- THE SECOND FORM's CARD OF 'pannierlaw07.NamesBytes'. -/
def namesBytesUptoCard : Claim7 := { stood := { row := namesBytesUptoRow, standIns := [], harness := (true, "05e3ff32662d679d125d166a183bf2c14851291c08a2fa858f598d18b4380699"), looks := false }, kinds := [], alts := [], laidByText := true, laidKinds := [.data, .pinned], laidTests := true, laidLooks := .later }
def NamesBytesUptoCardSaid : Prop := Claim7.holds Tryd.pinned (.plain (OpenSpec.upto namesBytesSpec)) namesBytesUptoCard

/-- THE SECOND FORM's CARD OF 'pannierlaw07.NamesQuotes'. -/
def namesQuotesUptoCard : Claim7 := { stood := { row := namesQuotesUptoRow, standIns := [], harness := (true, "05e3ff32662d679d125d166a183bf2c14851291c08a2fa858f598d18b4380699"), looks := false }, kinds := [], alts := [], laidByText := true, laidKinds := [.data, .pinned], laidTests := true, laidLooks := .later }
def NamesQuotesUptoCardSaid : Prop := Claim7.holds Tryd.pinned (.plain (OpenSpec.upto namesQuotesSpec)) namesQuotesUptoCard

/-- THE SECOND FORM's CARD OF 'pannierlaw07.NamesFields'. -/
def namesFieldsUptoCard : Claim7 := { stood := { row := namesFieldsUptoRow, standIns := [], harness := (true, "05e3ff32662d679d125d166a183bf2c14851291c08a2fa858f598d18b4380699"), looks := false }, kinds := [], alts := [], laidByText := true, laidKinds := [.data, .pinned], laidTests := true, laidLooks := .later }
def NamesFieldsUptoCardSaid : Prop := Claim7.holds Tryd.pinned (.plain (OpenSpec.upto namesFieldsSpec)) namesFieldsUptoCard

/-- THE SECOND FORM's CARD OF 'pannierlaw07.NamesHolds'. -/
def namesHoldsUptoCard : Claim7 := { stood := { row := namesHoldsUptoRow, standIns := [], harness := (true, "05e3ff32662d679d125d166a183bf2c14851291c08a2fa858f598d18b4380699"), looks := false }, kinds := [], alts := [], laidByText := true, laidKinds := [.data, .pinned], laidTests := true, laidLooks := .later }
def NamesHoldsUptoCardSaid : Prop := Claim7.holds Tryd.pinned (.plain (OpenSpec.upto namesHoldsSpec)) namesHoldsUptoCard
end Rows
end Go.Proofs.YtahklchfchjmcaaDoor
