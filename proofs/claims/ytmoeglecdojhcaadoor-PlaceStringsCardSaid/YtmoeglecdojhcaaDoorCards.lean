/-
  DERIVED. GIVEN WITH THE SEED: THE CARDS: each row of YtmoeglecdojhcaaDoorRows.lean that lists a variable, with what it lists TIED to the program's text (the seventh form; the later family's looks); each row that meets fmt, with fmt's text TOLD by the authors' own Lean function (tested against real Go, not proved from fmt's source: count such statements apart). THE CARD IS WHAT COUNTS. Prove the row's statement (the work); the ties are given (YtmoeglecdojhcaaDoorTie.lean); close each card by the builder's one call (the guide's Derived/Test/ToyasCard.lean, 'card_holds'). Laid BY PROGRAM, IN A SANDBOX (cutbox-door.mjs). By AI agents, Wed Nov 11 2026. No macro, syntax, notation, axiom, sorry.
-/
import Derived.Test.YtmoeglecdojhcaaDoorRows
import GoSem.ClaimSeven
namespace Go.Proofs.YtmoeglecdojhcaaDoor
namespace Rows

/-- THE TIED CARD OF 'rewindlaw01.PlaceTexts'. -/
def placeTextsCard : Claim7 := { stood := { row := placeTextsRow, standIns := [], harness := (true, "284ea2c6423cdb436ac2adfa6c56a21a84ac056a384f647312dd8a342de8e00e"), looks := true }, kinds := [], alts := [], laidByText := true, laidKinds := [.data, .data, .data, .data, .sentinel, .sentinel, .pinned], laidTests := true, laidLooks := .later }
def PlaceTextsCardSaid : Prop := Claim7.holds Tryd.pinned (.plain (OpenSpec.ofChange placeTextsSpec)) placeTextsCard

/-- THE TIED CARD OF 'rewindlaw01.PlaceFound'. -/
def placeFoundCard : Claim7 := { stood := { row := placeFoundRow, standIns := [], harness := (true, "284ea2c6423cdb436ac2adfa6c56a21a84ac056a384f647312dd8a342de8e00e"), looks := true }, kinds := [], alts := [], laidByText := true, laidKinds := [.data, .data, .data, .data, .sentinel, .sentinel, .pinned], laidTests := true, laidLooks := .later }
def PlaceFoundCardSaid : Prop := Claim7.holds Tryd.pinned (.plain (OpenSpec.ofChange placeFoundSpec)) placeFoundCard

/-- THE TIED CARD OF 'rewindlaw01.PlaceRefuses'. -/
def placeRefusesCard : Claim7 := { stood := { row := placeRefusesRow, standIns := [], harness := (true, "284ea2c6423cdb436ac2adfa6c56a21a84ac056a384f647312dd8a342de8e00e"), looks := true }, kinds := [], alts := [], laidByText := true, laidKinds := [.data, .data, .data, .data, .sentinel, .sentinel, .pinned], laidTests := true, laidLooks := .later }
def PlaceRefusesCardSaid : Prop := Claim7.holds Tryd.pinned (.plain (OpenSpec.ofChange placeRefusesSpec)) placeRefusesCard

/-- THE TIED CARD OF 'rewindlaw01.PlaceStrings'. -/
def placeStringsCard : Claim7 := { stood := { row := placeStringsRow, standIns := [], harness := (true, "284ea2c6423cdb436ac2adfa6c56a21a84ac056a384f647312dd8a342de8e00e"), looks := true }, kinds := [], alts := [], laidByText := true, laidKinds := [.data, .data, .data, .data, .sentinel, .sentinel, .pinned], laidTests := true, laidLooks := .later }
def PlaceStringsCardSaid : Prop := Claim7.holds Tryd.pinned (.plain (OpenSpec.ofChange placeStringsSpec)) placeStringsCard

/-- THE TIED CARD OF 'rewindlaw01.PlaceOrders'. -/
def placeOrdersCard : Claim7 := { stood := { row := placeOrdersRow, standIns := [], harness := (true, "284ea2c6423cdb436ac2adfa6c56a21a84ac056a384f647312dd8a342de8e00e"), looks := true }, kinds := [], alts := [], laidByText := true, laidKinds := [.data, .data, .data, .data, .sentinel, .sentinel, .pinned], laidTests := true, laidLooks := .later }
def PlaceOrdersCardSaid : Prop := Claim7.holds Tryd.pinned (.plain (OpenSpec.ofChange placeOrdersSpec)) placeOrdersCard

/-- THE TIED CARD OF 'rewindlaw01.PlaceBack'. -/
def placeBackCard : Claim7 := { stood := { row := placeBackRow, standIns := [], harness := (true, "284ea2c6423cdb436ac2adfa6c56a21a84ac056a384f647312dd8a342de8e00e"), looks := true }, kinds := [], alts := [], laidByText := true, laidKinds := [.data, .data, .data, .data, .sentinel, .sentinel, .pinned], laidTests := true, laidLooks := .later }
def PlaceBackCardSaid : Prop := Claim7.holds Tryd.pinned (.plain (OpenSpec.ofChange placeBackSpec)) placeBackCard

/-- THE TIED CARD OF 'rewindlaw01.PlaceLines'. -/
def placeLinesCard : Claim7 := { stood := { row := placeLinesRow, standIns := [], harness := (true, "284ea2c6423cdb436ac2adfa6c56a21a84ac056a384f647312dd8a342de8e00e"), looks := true }, kinds := [], alts := [], laidByText := true, laidKinds := [.data, .data, .data, .data, .sentinel, .sentinel, .pinned], laidTests := true, laidLooks := .later }
def PlaceLinesCardSaid : Prop := Claim7.holds Tryd.pinned (.plain (OpenSpec.ofChange placeLinesSpec)) placeLinesCard

/-- THE TIED CARD OF 'rewindlaw01.PlaceDecoded'. -/
def placeDecodedCard : Claim7 := { stood := { row := placeDecodedRow, standIns := [], harness := (true, "284ea2c6423cdb436ac2adfa6c56a21a84ac056a384f647312dd8a342de8e00e"), looks := true }, kinds := [], alts := [], laidByText := true, laidKinds := [.data, .data, .data, .data, .sentinel, .sentinel, .pinned], laidTests := true, laidLooks := .later }
def PlaceDecodedCardSaid : Prop := Claim7.holds Tryd.pinned (.plain (OpenSpec.ofChange placeDecodedSpec)) placeDecodedCard

/-- THE SECOND FORM's CARD OF 'rewindlaw01.PlaceTexts'. -/
def placeTextsUptoCard : Claim7 := { stood := { row := placeTextsUptoRow, standIns := [], harness := (true, "284ea2c6423cdb436ac2adfa6c56a21a84ac056a384f647312dd8a342de8e00e"), looks := true }, kinds := [], alts := [], laidByText := true, laidKinds := [.data, .data, .data, .data, .sentinel, .sentinel, .pinned], laidTests := true, laidLooks := .later }
def PlaceTextsUptoCardSaid : Prop := Claim7.holds Tryd.pinned (.plain (OpenSpec.upto placeTextsSpec)) placeTextsUptoCard

/-- THE SECOND FORM's CARD OF 'rewindlaw01.PlaceFound'. -/
def placeFoundUptoCard : Claim7 := { stood := { row := placeFoundUptoRow, standIns := [], harness := (true, "284ea2c6423cdb436ac2adfa6c56a21a84ac056a384f647312dd8a342de8e00e"), looks := true }, kinds := [], alts := [], laidByText := true, laidKinds := [.data, .data, .data, .data, .sentinel, .sentinel, .pinned], laidTests := true, laidLooks := .later }
def PlaceFoundUptoCardSaid : Prop := Claim7.holds Tryd.pinned (.plain (OpenSpec.upto placeFoundSpec)) placeFoundUptoCard

/-- THE SECOND FORM's CARD OF 'rewindlaw01.PlaceRefuses'. -/
def placeRefusesUptoCard : Claim7 := { stood := { row := placeRefusesUptoRow, standIns := [], harness := (true, "284ea2c6423cdb436ac2adfa6c56a21a84ac056a384f647312dd8a342de8e00e"), looks := true }, kinds := [], alts := [], laidByText := true, laidKinds := [.data, .data, .data, .data, .sentinel, .sentinel, .pinned], laidTests := true, laidLooks := .later }
def PlaceRefusesUptoCardSaid : Prop := Claim7.holds Tryd.pinned (.plain (OpenSpec.upto placeRefusesSpec)) placeRefusesUptoCard

/-- THE SECOND FORM's CARD OF 'rewindlaw01.PlaceStrings'. -/
def placeStringsUptoCard : Claim7 := { stood := { row := placeStringsUptoRow, standIns := [], harness := (true, "284ea2c6423cdb436ac2adfa6c56a21a84ac056a384f647312dd8a342de8e00e"), looks := true }, kinds := [], alts := [], laidByText := true, laidKinds := [.data, .data, .data, .data, .sentinel, .sentinel, .pinned], laidTests := true, laidLooks := .later }
def PlaceStringsUptoCardSaid : Prop := Claim7.holds Tryd.pinned (.plain (OpenSpec.upto placeStringsSpec)) placeStringsUptoCard

/-- THE SECOND FORM's CARD OF 'rewindlaw01.PlaceOrders'. -/
def placeOrdersUptoCard : Claim7 := { stood := { row := placeOrdersUptoRow, standIns := [], harness := (true, "284ea2c6423cdb436ac2adfa6c56a21a84ac056a384f647312dd8a342de8e00e"), looks := true }, kinds := [], alts := [], laidByText := true, laidKinds := [.data, .data, .data, .data, .sentinel, .sentinel, .pinned], laidTests := true, laidLooks := .later }
def PlaceOrdersUptoCardSaid : Prop := Claim7.holds Tryd.pinned (.plain (OpenSpec.upto placeOrdersSpec)) placeOrdersUptoCard

/-- THE SECOND FORM's CARD OF 'rewindlaw01.PlaceBack'. -/
def placeBackUptoCard : Claim7 := { stood := { row := placeBackUptoRow, standIns := [], harness := (true, "284ea2c6423cdb436ac2adfa6c56a21a84ac056a384f647312dd8a342de8e00e"), looks := true }, kinds := [], alts := [], laidByText := true, laidKinds := [.data, .data, .data, .data, .sentinel, .sentinel, .pinned], laidTests := true, laidLooks := .later }
def PlaceBackUptoCardSaid : Prop := Claim7.holds Tryd.pinned (.plain (OpenSpec.upto placeBackSpec)) placeBackUptoCard

/-- THE SECOND FORM's CARD OF 'rewindlaw01.PlaceLines'. -/
def placeLinesUptoCard : Claim7 := { stood := { row := placeLinesUptoRow, standIns := [], harness := (true, "284ea2c6423cdb436ac2adfa6c56a21a84ac056a384f647312dd8a342de8e00e"), looks := true }, kinds := [], alts := [], laidByText := true, laidKinds := [.data, .data, .data, .data, .sentinel, .sentinel, .pinned], laidTests := true, laidLooks := .later }
def PlaceLinesUptoCardSaid : Prop := Claim7.holds Tryd.pinned (.plain (OpenSpec.upto placeLinesSpec)) placeLinesUptoCard

/-- THE SECOND FORM's CARD OF 'rewindlaw01.PlaceDecoded'. -/
def placeDecodedUptoCard : Claim7 := { stood := { row := placeDecodedUptoRow, standIns := [], harness := (true, "284ea2c6423cdb436ac2adfa6c56a21a84ac056a384f647312dd8a342de8e00e"), looks := true }, kinds := [], alts := [], laidByText := true, laidKinds := [.data, .data, .data, .data, .sentinel, .sentinel, .pinned], laidTests := true, laidLooks := .later }
def PlaceDecodedUptoCardSaid : Prop := Claim7.holds Tryd.pinned (.plain (OpenSpec.upto placeDecodedSpec)) placeDecodedUptoCard
end Rows
end Go.Proofs.YtmoeglecdojhcaaDoor
