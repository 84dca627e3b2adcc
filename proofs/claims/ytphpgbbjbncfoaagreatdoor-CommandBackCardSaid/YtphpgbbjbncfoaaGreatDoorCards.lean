/-
  DERIVED. GIVEN WITH THE SEED: THE CARDS: each row of YtphpgbbjbncfoaaGreatDoorRows.lean that lists a variable, with what it lists TIED to the program's text (the seventh form; the later family's looks); each row that meets fmt, with fmt's text TOLD by the authors' own Lean function (tested against real Go, not proved from fmt's source: count such statements apart). THE CARD IS WHAT COUNTS. Prove the row's statement (the work); the ties are given (YtphpgbbjbncfoaaGreatDoorTie.lean); close each card by the builder's one call (the guide's Derived/Test/ToyasCard.lean, 'card_holds'). Laid BY PROGRAM, IN A SANDBOX (cutbox-door.mjs). By AI agents, Wed Nov 11 2026. No macro, syntax, notation, axiom, sorry.
-/
import Derived.Test.YtphpgbbjbncfoaaGreatDoorRows
import GoSem.ClaimSeven
namespace Go.Proofs.YtphpgbbjbncfoaaGreatDoor
namespace Rows

/-- THE TIED CARD OF 'rewindlaw42.CommandMany'. -/
def commandManyCard : Claim7 := { stood := { row := commandManyRow, standIns := [], harness := (true, "ca68e3c3b100b15c12163309e6902040abd7c8f22ba610402c063c259cea1461"), looks := true }, kinds := [], alts := [], laidByText := true, laidKinds := [.data, .data, .data, .data, .sentinel, .sentinel, .listed, .data, .pinned], laidTests := true, laidLooks := .later }
def CommandManyCardSaid : Prop := Claim7.holds Tryz.pinned (.plain (OpenSpec.ofChange commandManySpec)) commandManyCard

/-- THE TIED CARD OF 'rewindlaw42.CommandRefuses'. -/
def commandRefusesCard : Claim7 := { stood := { row := commandRefusesRow, standIns := [], harness := (true, "ca68e3c3b100b15c12163309e6902040abd7c8f22ba610402c063c259cea1461"), looks := true }, kinds := [], alts := [], laidByText := true, laidKinds := [.data, .data, .data, .data, .sentinel, .sentinel, .listed, .data, .pinned], laidTests := true, laidLooks := .later }
def CommandRefusesCardSaid : Prop := Claim7.holds Tryz.pinned (.plain (OpenSpec.ofChange commandRefusesSpec)) commandRefusesCard

/-- THE TIED CARD OF 'rewindlaw42.CommandReads'. -/
def commandReadsCard : Claim7 := { stood := { row := commandReadsRow, standIns := [], harness := (true, "ca68e3c3b100b15c12163309e6902040abd7c8f22ba610402c063c259cea1461"), looks := true }, kinds := [], alts := [], laidByText := true, laidKinds := [.data, .data, .data, .data, .sentinel, .sentinel, .listed, .data, .pinned], laidTests := true, laidLooks := .later }
def CommandReadsCardSaid : Prop := Claim7.holds Tryz.pinned (.plain (OpenSpec.ofChange commandReadsSpec)) commandReadsCard

/-- THE TIED CARD OF 'rewindlaw42.CommandQuotes'. -/
def commandQuotesCard : Claim7 := { stood := { row := commandQuotesRow, standIns := [], harness := (true, "ca68e3c3b100b15c12163309e6902040abd7c8f22ba610402c063c259cea1461"), looks := true }, kinds := [], alts := [], laidByText := true, laidKinds := [.data, .data, .data, .data, .sentinel, .sentinel, .listed, .data, .pinned], laidTests := true, laidLooks := .later }
def CommandQuotesCardSaid : Prop := Claim7.holds Tryz.pinned (.plain (OpenSpec.ofChange commandQuotesSpec)) commandQuotesCard

/-- THE TIED CARD OF 'rewindlaw42.CommandWrong'. -/
def commandWrongCard : Claim7 := { stood := { row := commandWrongRow, standIns := [], harness := (true, "ca68e3c3b100b15c12163309e6902040abd7c8f22ba610402c063c259cea1461"), looks := true }, kinds := [], alts := [], laidByText := true, laidKinds := [.data, .data, .data, .data, .sentinel, .sentinel, .listed, .data, .pinned], laidTests := true, laidLooks := .later }
def CommandWrongCardSaid : Prop := Claim7.holds Tryz.pinned (.plain (OpenSpec.ofChange commandWrongSpec)) commandWrongCard

/-- THE TIED CARD OF 'rewindlaw42.CommandWords'. -/
def commandWordsCard : Claim7 := { stood := { row := commandWordsRow, standIns := [], harness := (true, "ca68e3c3b100b15c12163309e6902040abd7c8f22ba610402c063c259cea1461"), looks := true }, kinds := [], alts := [], laidByText := true, laidKinds := [.data, .data, .data, .data, .sentinel, .sentinel, .listed, .data, .pinned], laidTests := true, laidLooks := .later }
def CommandWordsCardSaid : Prop := Claim7.holds Tryz.pinned (.plain (OpenSpec.ofChange commandWordsSpec)) commandWordsCard

/-- THE TIED CARD OF 'rewindlaw42.CommandOnes'. -/
def commandOnesCard : Claim7 := { stood := { row := commandOnesRow, standIns := [], harness := (true, "ca68e3c3b100b15c12163309e6902040abd7c8f22ba610402c063c259cea1461"), looks := true }, kinds := [], alts := [], laidByText := true, laidKinds := [.data, .data, .data, .data, .sentinel, .sentinel, .listed, .data, .pinned], laidTests := true, laidLooks := .later }
def CommandOnesCardSaid : Prop := Claim7.holds Tryz.pinned (.plain (OpenSpec.ofChange commandOnesSpec)) commandOnesCard

/-- THE TIED CARD OF 'rewindlaw42.CommandBack'. -/
def commandBackCard : Claim7 := { stood := { row := commandBackRow, standIns := [], harness := (true, "ca68e3c3b100b15c12163309e6902040abd7c8f22ba610402c063c259cea1461"), looks := true }, kinds := [], alts := [], laidByText := true, laidKinds := [.data, .data, .data, .data, .sentinel, .sentinel, .listed, .data, .pinned], laidTests := true, laidLooks := .later }
def CommandBackCardSaid : Prop := Claim7.holds Tryz.pinned (.plain (OpenSpec.ofChange commandBackSpec)) commandBackCard

/-- THE TIED CARD OF 'rewindlaw42.CommandAlls'. -/
def commandAllsCard : Claim7 := { stood := { row := commandAllsRow, standIns := [], harness := (true, "ca68e3c3b100b15c12163309e6902040abd7c8f22ba610402c063c259cea1461"), looks := true }, kinds := [], alts := [], laidByText := true, laidKinds := [.data, .data, .data, .data, .sentinel, .sentinel, .listed, .data, .pinned], laidTests := true, laidLooks := .later }
def CommandAllsCardSaid : Prop := Claim7.holds Tryz.pinned (.plain (OpenSpec.ofChange commandAllsSpec)) commandAllsCard

/-- THE TIED CARD OF 'rewindlaw42.CommandLists'. -/
def commandListsCard : Claim7 := { stood := { row := commandListsRow, standIns := [], harness := (true, "ca68e3c3b100b15c12163309e6902040abd7c8f22ba610402c063c259cea1461"), looks := true }, kinds := [], alts := [], laidByText := true, laidKinds := [.data, .data, .data, .data, .sentinel, .sentinel, .listed, .data, .pinned], laidTests := true, laidLooks := .later }
def CommandListsCardSaid : Prop := Claim7.holds Tryz.pinned (.plain (OpenSpec.ofChange commandListsSpec)) commandListsCard

/-- THE SECOND FORM's CARD OF 'rewindlaw42.CommandMany'. -/
def commandManyUptoCard : Claim7 := { stood := { row := commandManyUptoRow, standIns := [], harness := (true, "ca68e3c3b100b15c12163309e6902040abd7c8f22ba610402c063c259cea1461"), looks := true }, kinds := [], alts := [], laidByText := true, laidKinds := [.data, .data, .data, .data, .sentinel, .sentinel, .listed, .data, .pinned], laidTests := true, laidLooks := .later }
def CommandManyUptoCardSaid : Prop := Claim7.holds Tryz.pinned (.plain (OpenSpec.upto commandManySpec)) commandManyUptoCard

/-- THE SECOND FORM's CARD OF 'rewindlaw42.CommandRefuses'. -/
def commandRefusesUptoCard : Claim7 := { stood := { row := commandRefusesUptoRow, standIns := [], harness := (true, "ca68e3c3b100b15c12163309e6902040abd7c8f22ba610402c063c259cea1461"), looks := true }, kinds := [], alts := [], laidByText := true, laidKinds := [.data, .data, .data, .data, .sentinel, .sentinel, .listed, .data, .pinned], laidTests := true, laidLooks := .later }
def CommandRefusesUptoCardSaid : Prop := Claim7.holds Tryz.pinned (.plain (OpenSpec.upto commandRefusesSpec)) commandRefusesUptoCard

/-- THE SECOND FORM's CARD OF 'rewindlaw42.CommandReads'. -/
def commandReadsUptoCard : Claim7 := { stood := { row := commandReadsUptoRow, standIns := [], harness := (true, "ca68e3c3b100b15c12163309e6902040abd7c8f22ba610402c063c259cea1461"), looks := true }, kinds := [], alts := [], laidByText := true, laidKinds := [.data, .data, .data, .data, .sentinel, .sentinel, .listed, .data, .pinned], laidTests := true, laidLooks := .later }
def CommandReadsUptoCardSaid : Prop := Claim7.holds Tryz.pinned (.plain (OpenSpec.upto commandReadsSpec)) commandReadsUptoCard

/-- THE SECOND FORM's CARD OF 'rewindlaw42.CommandQuotes'. -/
def commandQuotesUptoCard : Claim7 := { stood := { row := commandQuotesUptoRow, standIns := [], harness := (true, "ca68e3c3b100b15c12163309e6902040abd7c8f22ba610402c063c259cea1461"), looks := true }, kinds := [], alts := [], laidByText := true, laidKinds := [.data, .data, .data, .data, .sentinel, .sentinel, .listed, .data, .pinned], laidTests := true, laidLooks := .later }
def CommandQuotesUptoCardSaid : Prop := Claim7.holds Tryz.pinned (.plain (OpenSpec.upto commandQuotesSpec)) commandQuotesUptoCard

/-- THE SECOND FORM's CARD OF 'rewindlaw42.CommandWrong'. -/
def commandWrongUptoCard : Claim7 := { stood := { row := commandWrongUptoRow, standIns := [], harness := (true, "ca68e3c3b100b15c12163309e6902040abd7c8f22ba610402c063c259cea1461"), looks := true }, kinds := [], alts := [], laidByText := true, laidKinds := [.data, .data, .data, .data, .sentinel, .sentinel, .listed, .data, .pinned], laidTests := true, laidLooks := .later }
def CommandWrongUptoCardSaid : Prop := Claim7.holds Tryz.pinned (.plain (OpenSpec.upto commandWrongSpec)) commandWrongUptoCard

/-- THE SECOND FORM's CARD OF 'rewindlaw42.CommandWords'. -/
def commandWordsUptoCard : Claim7 := { stood := { row := commandWordsUptoRow, standIns := [], harness := (true, "ca68e3c3b100b15c12163309e6902040abd7c8f22ba610402c063c259cea1461"), looks := true }, kinds := [], alts := [], laidByText := true, laidKinds := [.data, .data, .data, .data, .sentinel, .sentinel, .listed, .data, .pinned], laidTests := true, laidLooks := .later }
def CommandWordsUptoCardSaid : Prop := Claim7.holds Tryz.pinned (.plain (OpenSpec.upto commandWordsSpec)) commandWordsUptoCard

/-- THE SECOND FORM's CARD OF 'rewindlaw42.CommandOnes'. -/
def commandOnesUptoCard : Claim7 := { stood := { row := commandOnesUptoRow, standIns := [], harness := (true, "ca68e3c3b100b15c12163309e6902040abd7c8f22ba610402c063c259cea1461"), looks := true }, kinds := [], alts := [], laidByText := true, laidKinds := [.data, .data, .data, .data, .sentinel, .sentinel, .listed, .data, .pinned], laidTests := true, laidLooks := .later }
def CommandOnesUptoCardSaid : Prop := Claim7.holds Tryz.pinned (.plain (OpenSpec.upto commandOnesSpec)) commandOnesUptoCard

/-- THE SECOND FORM's CARD OF 'rewindlaw42.CommandBack'. -/
def commandBackUptoCard : Claim7 := { stood := { row := commandBackUptoRow, standIns := [], harness := (true, "ca68e3c3b100b15c12163309e6902040abd7c8f22ba610402c063c259cea1461"), looks := true }, kinds := [], alts := [], laidByText := true, laidKinds := [.data, .data, .data, .data, .sentinel, .sentinel, .listed, .data, .pinned], laidTests := true, laidLooks := .later }
def CommandBackUptoCardSaid : Prop := Claim7.holds Tryz.pinned (.plain (OpenSpec.upto commandBackSpec)) commandBackUptoCard

/-- THE SECOND FORM's CARD OF 'rewindlaw42.CommandAlls'. -/
def commandAllsUptoCard : Claim7 := { stood := { row := commandAllsUptoRow, standIns := [], harness := (true, "ca68e3c3b100b15c12163309e6902040abd7c8f22ba610402c063c259cea1461"), looks := true }, kinds := [], alts := [], laidByText := true, laidKinds := [.data, .data, .data, .data, .sentinel, .sentinel, .listed, .data, .pinned], laidTests := true, laidLooks := .later }
def CommandAllsUptoCardSaid : Prop := Claim7.holds Tryz.pinned (.plain (OpenSpec.upto commandAllsSpec)) commandAllsUptoCard

/-- THE SECOND FORM's CARD OF 'rewindlaw42.CommandLists'. -/
def commandListsUptoCard : Claim7 := { stood := { row := commandListsUptoRow, standIns := [], harness := (true, "ca68e3c3b100b15c12163309e6902040abd7c8f22ba610402c063c259cea1461"), looks := true }, kinds := [], alts := [], laidByText := true, laidKinds := [.data, .data, .data, .data, .sentinel, .sentinel, .listed, .data, .pinned], laidTests := true, laidLooks := .later }
def CommandListsUptoCardSaid : Prop := Claim7.holds Tryz.pinned (.plain (OpenSpec.upto commandListsSpec)) commandListsUptoCard
end Rows
end Go.Proofs.YtphpgbbjbncfoaaGreatDoor
