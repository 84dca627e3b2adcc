/-
  DERIVED. GIVEN WITH THE SEED: THE CARDS: each row of YtdogdpjgkhcndaaDoorRows.lean that lists a variable, with what it lists TIED to the program's text (the seventh form; the later family's looks); each row that meets fmt, with fmt's text TOLD by the authors' own Lean function (tested against real Go, not proved from fmt's source: count such statements apart). THE CARD IS WHAT COUNTS. Prove the row's statement (the work); the ties are given (YtdogdpjgkhcndaaDoorTie.lean); close each card by the builder's one call (the guide's Derived/Test/ToyasCard.lean, 'card_holds'). Laid BY PROGRAM, IN A SANDBOX (cutbox-door.mjs). By AI agents, Wed Nov 11 2026. No macro, syntax, notation, axiom, sorry.
-/
import Derived.Test.YtdogdpjgkhcndaaDoorRows
import GoSem.ClaimSeven
namespace Go.Proofs.YtdogdpjgkhcndaaDoor
namespace Rows

/-- THE TIED CARD OF 'rewindlaw02.NumberDoes'. -/
def numberDoesCard : Claim7 := { stood := { row := numberDoesRow, standIns := [], harness := (true, "cb645aa1633dfc66f44556c9f3875d8fb8b05014ba02e4d573c397c74b996564"), looks := true }, kinds := [], alts := [], laidByText := true, laidKinds := [.data, .data, .data, .data, .sentinel, .sentinel, .funcs, .pinned], laidTests := true, laidLooks := .later }
def NumberDoesCardSaid : Prop := Claim7.holds Tryd.pinned (.plain (OpenSpec.ofChange numberDoesSpec)) numberDoesCard

/-- THE TIED CARD OF 'rewindlaw02.NumberLaws'. -/
def numberLawsCard : Claim7 := { stood := { row := numberLawsRow, standIns := [], harness := (true, "cb645aa1633dfc66f44556c9f3875d8fb8b05014ba02e4d573c397c74b996564"), looks := true }, kinds := [], alts := [], laidByText := true, laidKinds := [.data, .data, .data, .data, .sentinel, .sentinel, .funcs, .pinned], laidTests := true, laidLooks := .later }
def NumberLawsCardSaid : Prop := Claim7.holds Tryd.pinned (.plain (OpenSpec.ofChange numberLawsSpec)) numberLawsCard

/-- THE TIED CARD OF 'rewindlaw02.NumberQuotients'. -/
def numberQuotientsCard : Claim7 := { stood := { row := numberQuotientsRow, standIns := [], harness := (true, "cb645aa1633dfc66f44556c9f3875d8fb8b05014ba02e4d573c397c74b996564"), looks := true }, kinds := [], alts := [], laidByText := true, laidKinds := [.data, .data, .data, .data, .sentinel, .sentinel, .funcs, .pinned], laidTests := true, laidLooks := .later }
def NumberQuotientsCardSaid : Prop := Claim7.holds Tryd.pinned (.plain (OpenSpec.ofChange numberQuotientsSpec)) numberQuotientsCard

/-- THE TIED CARD OF 'rewindlaw02.NumberOrder'. -/
def numberOrderCard : Claim7 := { stood := { row := numberOrderRow, standIns := [], harness := (true, "cb645aa1633dfc66f44556c9f3875d8fb8b05014ba02e4d573c397c74b996564"), looks := true }, kinds := [], alts := [], laidByText := true, laidKinds := [.data, .data, .data, .data, .sentinel, .sentinel, .funcs, .pinned], laidTests := true, laidLooks := .later }
def NumberOrderCardSaid : Prop := Claim7.holds Tryd.pinned (.plain (OpenSpec.ofChange numberOrderSpec)) numberOrderCard

/-- THE TIED CARD OF 'rewindlaw02.NumberTexts'. -/
def numberTextsCard : Claim7 := { stood := { row := numberTextsRow, standIns := [], harness := (true, "cb645aa1633dfc66f44556c9f3875d8fb8b05014ba02e4d573c397c74b996564"), looks := true }, kinds := [], alts := [], laidByText := true, laidKinds := [.data, .data, .data, .data, .sentinel, .sentinel, .funcs, .pinned], laidTests := true, laidLooks := .later }
def NumberTextsCardSaid : Prop := Claim7.holds Tryd.pinned (.plain (OpenSpec.ofChange numberTextsSpec)) numberTextsCard

/-- THE TIED CARD OF 'rewindlaw02.NumberBack'. -/
def numberBackCard : Claim7 := { stood := { row := numberBackRow, standIns := [], harness := (true, "cb645aa1633dfc66f44556c9f3875d8fb8b05014ba02e4d573c397c74b996564"), looks := true }, kinds := [], alts := [], laidByText := true, laidKinds := [.data, .data, .data, .data, .sentinel, .sentinel, .funcs, .pinned], laidTests := true, laidLooks := .later }
def NumberBackCardSaid : Prop := Claim7.holds Tryd.pinned (.plain (OpenSpec.ofChange numberBackSpec)) numberBackCard

/-- THE TIED CARD OF 'rewindlaw02.NumberReads'. -/
def numberReadsCard : Claim7 := { stood := { row := numberReadsRow, standIns := [], harness := (true, "cb645aa1633dfc66f44556c9f3875d8fb8b05014ba02e4d573c397c74b996564"), looks := true }, kinds := [], alts := [], laidByText := true, laidKinds := [.data, .data, .data, .data, .sentinel, .sentinel, .funcs, .pinned], laidTests := true, laidLooks := .later }
def NumberReadsCardSaid : Prop := Claim7.holds Tryd.pinned (.plain (OpenSpec.ofChange numberReadsSpec)) numberReadsCard

/-- THE TIED CARD OF 'rewindlaw02.NumberRefuses'. -/
def numberRefusesCard : Claim7 := { stood := { row := numberRefusesRow, standIns := [], harness := (true, "cb645aa1633dfc66f44556c9f3875d8fb8b05014ba02e4d573c397c74b996564"), looks := true }, kinds := [], alts := [], laidByText := true, laidKinds := [.data, .data, .data, .data, .sentinel, .sentinel, .funcs, .pinned], laidTests := true, laidLooks := .later }
def NumberRefusesCardSaid : Prop := Claim7.holds Tryd.pinned (.plain (OpenSpec.ofChange numberRefusesSpec)) numberRefusesCard

/-- THE SECOND FORM's CARD OF 'rewindlaw02.NumberDoes'. -/
def numberDoesUptoCard : Claim7 := { stood := { row := numberDoesUptoRow, standIns := [], harness := (true, "cb645aa1633dfc66f44556c9f3875d8fb8b05014ba02e4d573c397c74b996564"), looks := true }, kinds := [], alts := [], laidByText := true, laidKinds := [.data, .data, .data, .data, .sentinel, .sentinel, .funcs, .pinned], laidTests := true, laidLooks := .later }
def NumberDoesUptoCardSaid : Prop := Claim7.holds Tryd.pinned (.plain (OpenSpec.upto numberDoesSpec)) numberDoesUptoCard

/-- THE SECOND FORM's CARD OF 'rewindlaw02.NumberLaws'. -/
def numberLawsUptoCard : Claim7 := { stood := { row := numberLawsUptoRow, standIns := [], harness := (true, "cb645aa1633dfc66f44556c9f3875d8fb8b05014ba02e4d573c397c74b996564"), looks := true }, kinds := [], alts := [], laidByText := true, laidKinds := [.data, .data, .data, .data, .sentinel, .sentinel, .funcs, .pinned], laidTests := true, laidLooks := .later }
def NumberLawsUptoCardSaid : Prop := Claim7.holds Tryd.pinned (.plain (OpenSpec.upto numberLawsSpec)) numberLawsUptoCard

/-- THE SECOND FORM's CARD OF 'rewindlaw02.NumberQuotients'. -/
def numberQuotientsUptoCard : Claim7 := { stood := { row := numberQuotientsUptoRow, standIns := [], harness := (true, "cb645aa1633dfc66f44556c9f3875d8fb8b05014ba02e4d573c397c74b996564"), looks := true }, kinds := [], alts := [], laidByText := true, laidKinds := [.data, .data, .data, .data, .sentinel, .sentinel, .funcs, .pinned], laidTests := true, laidLooks := .later }
def NumberQuotientsUptoCardSaid : Prop := Claim7.holds Tryd.pinned (.plain (OpenSpec.upto numberQuotientsSpec)) numberQuotientsUptoCard

/-- THE SECOND FORM's CARD OF 'rewindlaw02.NumberOrder'. -/
def numberOrderUptoCard : Claim7 := { stood := { row := numberOrderUptoRow, standIns := [], harness := (true, "cb645aa1633dfc66f44556c9f3875d8fb8b05014ba02e4d573c397c74b996564"), looks := true }, kinds := [], alts := [], laidByText := true, laidKinds := [.data, .data, .data, .data, .sentinel, .sentinel, .funcs, .pinned], laidTests := true, laidLooks := .later }
def NumberOrderUptoCardSaid : Prop := Claim7.holds Tryd.pinned (.plain (OpenSpec.upto numberOrderSpec)) numberOrderUptoCard

/-- THE SECOND FORM's CARD OF 'rewindlaw02.NumberTexts'. -/
def numberTextsUptoCard : Claim7 := { stood := { row := numberTextsUptoRow, standIns := [], harness := (true, "cb645aa1633dfc66f44556c9f3875d8fb8b05014ba02e4d573c397c74b996564"), looks := true }, kinds := [], alts := [], laidByText := true, laidKinds := [.data, .data, .data, .data, .sentinel, .sentinel, .funcs, .pinned], laidTests := true, laidLooks := .later }
def NumberTextsUptoCardSaid : Prop := Claim7.holds Tryd.pinned (.plain (OpenSpec.upto numberTextsSpec)) numberTextsUptoCard

/-- THE SECOND FORM's CARD OF 'rewindlaw02.NumberBack'. -/
def numberBackUptoCard : Claim7 := { stood := { row := numberBackUptoRow, standIns := [], harness := (true, "cb645aa1633dfc66f44556c9f3875d8fb8b05014ba02e4d573c397c74b996564"), looks := true }, kinds := [], alts := [], laidByText := true, laidKinds := [.data, .data, .data, .data, .sentinel, .sentinel, .funcs, .pinned], laidTests := true, laidLooks := .later }
def NumberBackUptoCardSaid : Prop := Claim7.holds Tryd.pinned (.plain (OpenSpec.upto numberBackSpec)) numberBackUptoCard

/-- THE SECOND FORM's CARD OF 'rewindlaw02.NumberReads'. -/
def numberReadsUptoCard : Claim7 := { stood := { row := numberReadsUptoRow, standIns := [], harness := (true, "cb645aa1633dfc66f44556c9f3875d8fb8b05014ba02e4d573c397c74b996564"), looks := true }, kinds := [], alts := [], laidByText := true, laidKinds := [.data, .data, .data, .data, .sentinel, .sentinel, .funcs, .pinned], laidTests := true, laidLooks := .later }
def NumberReadsUptoCardSaid : Prop := Claim7.holds Tryd.pinned (.plain (OpenSpec.upto numberReadsSpec)) numberReadsUptoCard

/-- THE SECOND FORM's CARD OF 'rewindlaw02.NumberRefuses'. -/
def numberRefusesUptoCard : Claim7 := { stood := { row := numberRefusesUptoRow, standIns := [], harness := (true, "cb645aa1633dfc66f44556c9f3875d8fb8b05014ba02e4d573c397c74b996564"), looks := true }, kinds := [], alts := [], laidByText := true, laidKinds := [.data, .data, .data, .data, .sentinel, .sentinel, .funcs, .pinned], laidTests := true, laidLooks := .later }
def NumberRefusesUptoCardSaid : Prop := Claim7.holds Tryd.pinned (.plain (OpenSpec.upto numberRefusesSpec)) numberRefusesUptoCard
end Rows
end Go.Proofs.YtdogdpjgkhcndaaDoor
