/-
  DERIVED. GIVEN WITH THE SEED: THE CARDS: each row of YtkjpnciimabclaaDoorRows.lean that lists a variable, with what it lists TIED to the program's text (the seventh form; the later family's looks); each row that meets fmt, with fmt's text TOLD by the authors' own Lean function (tested against real Go, not proved from fmt's source: count such statements apart). THE CARD IS WHAT COUNTS. Prove the row's statement (the work); the ties are given (YtkjpnciimabclaaDoorTie.lean); close each card by the builder's one call (the guide's Derived/Test/ToyasCard.lean, 'card_holds'). Laid BY PROGRAM, IN A SANDBOX (cutbox-door.mjs). By AI agents, Wed Nov 11 2026. No macro, syntax, notation, axiom, sorry.
-/
import Derived.Test.YtkjpnciimabclaaDoorRows
import GoSem.ClaimSeven
namespace Go.Proofs.YtkjpnciimabclaaDoor
namespace Rows

/-- THE TIED CARD OF 'rewindlaw04.LexemeScans'. -/
def lexemeScansCard : Claim7 := { stood := { row := lexemeScansRow, standIns := [], harness := (true, "eb68f02cf082c438fe61a55048d4dfe83ffa97ba66c7c4110e0cc5347445d674"), looks := true }, kinds := [], alts := [], laidByText := true, laidKinds := [.data, .data, .data, .sentinel, .sentinel, .widerDeep, .widerDeep], laidTests := true, laidLooks := .later }
def LexemeScansCardSaid : Prop := Claim7.holds Tryd.pinned (.plain (OpenSpec.ofChange lexemeScansSpec)) lexemeScansCard

/-- THE TIED CARD OF 'rewindlaw04.LexemeOrder'. -/
def lexemeOrderCard : Claim7 := { stood := { row := lexemeOrderRow, standIns := [], harness := (true, "eb68f02cf082c438fe61a55048d4dfe83ffa97ba66c7c4110e0cc5347445d674"), looks := true }, kinds := [], alts := [], laidByText := true, laidKinds := [.data, .data, .data, .sentinel, .sentinel, .widerDeep, .widerDeep], laidTests := true, laidLooks := .later }
def LexemeOrderCardSaid : Prop := Claim7.holds Tryd.pinned (.plain (OpenSpec.ofChange lexemeOrderSpec)) lexemeOrderCard

/-- THE TIED CARD OF 'rewindlaw04.LexemeWords'. -/
def lexemeWordsCard : Claim7 := { stood := { row := lexemeWordsRow, standIns := [], harness := (true, "eb68f02cf082c438fe61a55048d4dfe83ffa97ba66c7c4110e0cc5347445d674"), looks := true }, kinds := [], alts := [], laidByText := true, laidKinds := [.data, .data, .data, .sentinel, .sentinel, .widerDeep, .widerDeep], laidTests := true, laidLooks := .later }
def LexemeWordsCardSaid : Prop := Claim7.holds Tryd.pinned (.plain (OpenSpec.ofChange lexemeWordsSpec)) lexemeWordsCard

/-- THE TIED CARD OF 'rewindlaw04.LexemeBack'. -/
def lexemeBackCard : Claim7 := { stood := { row := lexemeBackRow, standIns := [], harness := (true, "eb68f02cf082c438fe61a55048d4dfe83ffa97ba66c7c4110e0cc5347445d674"), looks := true }, kinds := [], alts := [], laidByText := true, laidKinds := [.data, .data, .data, .sentinel, .sentinel, .widerDeep, .widerDeep], laidTests := true, laidLooks := .later }
def LexemeBackCardSaid : Prop := Claim7.holds Tryd.pinned (.plain (OpenSpec.ofChange lexemeBackSpec)) lexemeBackCard

/-- THE TIED CARD OF 'rewindlaw04.LexemeWrong'. -/
def lexemeWrongCard : Claim7 := { stood := { row := lexemeWrongRow, standIns := [], harness := (true, "eb68f02cf082c438fe61a55048d4dfe83ffa97ba66c7c4110e0cc5347445d674"), looks := true }, kinds := [], alts := [], laidByText := true, laidKinds := [.data, .data, .data, .sentinel, .sentinel, .widerDeep, .widerDeep], laidTests := true, laidLooks := .later }
def LexemeWrongCardSaid : Prop := Claim7.holds Tryd.pinned (.plain (OpenSpec.ofChange lexemeWrongSpec)) lexemeWrongCard

/-- THE TIED CARD OF 'rewindlaw04.LexemeKnown'. -/
def lexemeKnownCard : Claim7 := { stood := { row := lexemeKnownRow, standIns := [], harness := (true, "eb68f02cf082c438fe61a55048d4dfe83ffa97ba66c7c4110e0cc5347445d674"), looks := true }, kinds := [], alts := [], laidByText := true, laidKinds := [.data, .data, .data, .sentinel, .sentinel, .widerDeep, .widerDeep], laidTests := true, laidLooks := .later }
def LexemeKnownCardSaid : Prop := Claim7.holds Tryd.pinned (.plain (OpenSpec.ofChange lexemeKnownSpec)) lexemeKnownCard

/-- THE SECOND FORM's CARD OF 'rewindlaw04.LexemeScans'. -/
def lexemeScansUptoCard : Claim7 := { stood := { row := lexemeScansUptoRow, standIns := [], harness := (true, "eb68f02cf082c438fe61a55048d4dfe83ffa97ba66c7c4110e0cc5347445d674"), looks := true }, kinds := [], alts := [], laidByText := true, laidKinds := [.data, .data, .data, .sentinel, .sentinel, .widerDeep, .widerDeep], laidTests := true, laidLooks := .later }
def LexemeScansUptoCardSaid : Prop := Claim7.holds Tryd.pinned (.plain (OpenSpec.upto lexemeScansSpec)) lexemeScansUptoCard

/-- THE SECOND FORM's CARD OF 'rewindlaw04.LexemeOrder'. -/
def lexemeOrderUptoCard : Claim7 := { stood := { row := lexemeOrderUptoRow, standIns := [], harness := (true, "eb68f02cf082c438fe61a55048d4dfe83ffa97ba66c7c4110e0cc5347445d674"), looks := true }, kinds := [], alts := [], laidByText := true, laidKinds := [.data, .data, .data, .sentinel, .sentinel, .widerDeep, .widerDeep], laidTests := true, laidLooks := .later }
def LexemeOrderUptoCardSaid : Prop := Claim7.holds Tryd.pinned (.plain (OpenSpec.upto lexemeOrderSpec)) lexemeOrderUptoCard

/-- THE SECOND FORM's CARD OF 'rewindlaw04.LexemeWords'. -/
def lexemeWordsUptoCard : Claim7 := { stood := { row := lexemeWordsUptoRow, standIns := [], harness := (true, "eb68f02cf082c438fe61a55048d4dfe83ffa97ba66c7c4110e0cc5347445d674"), looks := true }, kinds := [], alts := [], laidByText := true, laidKinds := [.data, .data, .data, .sentinel, .sentinel, .widerDeep, .widerDeep], laidTests := true, laidLooks := .later }
def LexemeWordsUptoCardSaid : Prop := Claim7.holds Tryd.pinned (.plain (OpenSpec.upto lexemeWordsSpec)) lexemeWordsUptoCard

/-- THE SECOND FORM's CARD OF 'rewindlaw04.LexemeBack'. -/
def lexemeBackUptoCard : Claim7 := { stood := { row := lexemeBackUptoRow, standIns := [], harness := (true, "eb68f02cf082c438fe61a55048d4dfe83ffa97ba66c7c4110e0cc5347445d674"), looks := true }, kinds := [], alts := [], laidByText := true, laidKinds := [.data, .data, .data, .sentinel, .sentinel, .widerDeep, .widerDeep], laidTests := true, laidLooks := .later }
def LexemeBackUptoCardSaid : Prop := Claim7.holds Tryd.pinned (.plain (OpenSpec.upto lexemeBackSpec)) lexemeBackUptoCard

/-- THE SECOND FORM's CARD OF 'rewindlaw04.LexemeWrong'. -/
def lexemeWrongUptoCard : Claim7 := { stood := { row := lexemeWrongUptoRow, standIns := [], harness := (true, "eb68f02cf082c438fe61a55048d4dfe83ffa97ba66c7c4110e0cc5347445d674"), looks := true }, kinds := [], alts := [], laidByText := true, laidKinds := [.data, .data, .data, .sentinel, .sentinel, .widerDeep, .widerDeep], laidTests := true, laidLooks := .later }
def LexemeWrongUptoCardSaid : Prop := Claim7.holds Tryd.pinned (.plain (OpenSpec.upto lexemeWrongSpec)) lexemeWrongUptoCard

/-- THE SECOND FORM's CARD OF 'rewindlaw04.LexemeKnown'. -/
def lexemeKnownUptoCard : Claim7 := { stood := { row := lexemeKnownUptoRow, standIns := [], harness := (true, "eb68f02cf082c438fe61a55048d4dfe83ffa97ba66c7c4110e0cc5347445d674"), looks := true }, kinds := [], alts := [], laidByText := true, laidKinds := [.data, .data, .data, .sentinel, .sentinel, .widerDeep, .widerDeep], laidTests := true, laidLooks := .later }
def LexemeKnownUptoCardSaid : Prop := Claim7.holds Tryd.pinned (.plain (OpenSpec.upto lexemeKnownSpec)) lexemeKnownUptoCard
end Rows
end Go.Proofs.YtkjpnciimabclaaDoor
