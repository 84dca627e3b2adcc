/-
  DERIVED. GIVEN WITH THE SEED: THE CARDS: each row of YtfghigioofaidaaDoorRows.lean that lists a variable, with what it lists TIED to the program's text (the seventh form; the later family's looks); each row that meets fmt, with fmt's text TOLD by the authors' own Lean function (tested against real Go, not proved from fmt's source: count such statements apart). THE CARD IS WHAT COUNTS. Prove the row's statement (the work); the ties are given (YtfghigioofaidaaDoorTie.lean); close each card by the builder's one call (the guide's Derived/Test/ToyasCard.lean, 'card_holds'). Laid BY PROGRAM, IN A SANDBOX (cutbox-door.mjs). By AI agents, Wed Nov 11 2026. No macro, syntax, notation, axiom, sorry.
-/
import Derived.Test.YtfghigioofaidaaDoorRows
import GoSem.ClaimSeven
namespace Go.Proofs.YtfghigioofaidaaDoor
namespace Rows

/-- THE TIED CARD OF 'rewindlaw16.ValueOnes'. -/
def valueOnesCard : Claim7 := { stood := { row := valueOnesRow, standIns := [], harness := (true, "63822477a423a266e6360e7265c8ba0092ac528f880772d5ec1702903caf4602"), looks := false }, kinds := [], alts := [], laidByText := true, laidKinds := [.data, .data, .data, .data], laidTests := true, laidLooks := .later }
def ValueOnesCardSaid : Prop := Claim7.holds Tryd.pinned (.plain (OpenSpec.ofChange valueOnesSpec)) valueOnesCard

/-- THE TIED CARD OF 'rewindlaw16.ValueLists'. -/
def valueListsCard : Claim7 := { stood := { row := valueListsRow, standIns := [], harness := (true, "63822477a423a266e6360e7265c8ba0092ac528f880772d5ec1702903caf4602"), looks := false }, kinds := [], alts := [], laidByText := true, laidKinds := [.data, .data, .data, .data], laidTests := true, laidLooks := .later }
def ValueListsCardSaid : Prop := Claim7.holds Tryd.pinned (.plain (OpenSpec.ofChange valueListsSpec)) valueListsCard

/-- THE TIED CARD OF 'rewindlaw16.ValueTexts'. -/
def valueTextsCard : Claim7 := { stood := { row := valueTextsRow, standIns := [], harness := (true, "63822477a423a266e6360e7265c8ba0092ac528f880772d5ec1702903caf4602"), looks := false }, kinds := [], alts := [], laidByText := true, laidKinds := [.data, .data, .data, .data], laidTests := true, laidLooks := .later }
def ValueTextsCardSaid : Prop := Claim7.holds Tryd.pinned (.plain (OpenSpec.ofChange valueTextsSpec)) valueTextsCard

/-- THE TIED CARD OF 'rewindlaw16.ValueRows'. -/
def valueRowsCard : Claim7 := { stood := { row := valueRowsRow, standIns := [], harness := (true, "63822477a423a266e6360e7265c8ba0092ac528f880772d5ec1702903caf4602"), looks := false }, kinds := [], alts := [], laidByText := true, laidKinds := [.data, .data, .data, .data], laidTests := true, laidLooks := .later }
def ValueRowsCardSaid : Prop := Claim7.holds Tryd.pinned (.plain (OpenSpec.ofChange valueRowsSpec)) valueRowsCard

/-- THE TIED CARD OF 'rewindlaw16.ValueRefuses'. -/
def valueRefusesCard : Claim7 := { stood := { row := valueRefusesRow, standIns := [], harness := (true, "63822477a423a266e6360e7265c8ba0092ac528f880772d5ec1702903caf4602"), looks := false }, kinds := [], alts := [], laidByText := true, laidKinds := [.data, .data, .data, .data], laidTests := true, laidLooks := .later }
def ValueRefusesCardSaid : Prop := Claim7.holds Tryd.pinned (.plain (OpenSpec.ofChange valueRefusesSpec)) valueRefusesCard

/-- THE SECOND FORM's CARD OF 'rewindlaw16.ValueOnes'. -/
def valueOnesUptoCard : Claim7 := { stood := { row := valueOnesUptoRow, standIns := [], harness := (true, "63822477a423a266e6360e7265c8ba0092ac528f880772d5ec1702903caf4602"), looks := false }, kinds := [], alts := [], laidByText := true, laidKinds := [.data, .data, .data, .data], laidTests := true, laidLooks := .later }
def ValueOnesUptoCardSaid : Prop := Claim7.holds Tryd.pinned (.plain (OpenSpec.upto valueOnesSpec)) valueOnesUptoCard

/-- THE SECOND FORM's CARD OF 'rewindlaw16.ValueLists'. -/
def valueListsUptoCard : Claim7 := { stood := { row := valueListsUptoRow, standIns := [], harness := (true, "63822477a423a266e6360e7265c8ba0092ac528f880772d5ec1702903caf4602"), looks := false }, kinds := [], alts := [], laidByText := true, laidKinds := [.data, .data, .data, .data], laidTests := true, laidLooks := .later }
def ValueListsUptoCardSaid : Prop := Claim7.holds Tryd.pinned (.plain (OpenSpec.upto valueListsSpec)) valueListsUptoCard

/-- THE SECOND FORM's CARD OF 'rewindlaw16.ValueTexts'. -/
def valueTextsUptoCard : Claim7 := { stood := { row := valueTextsUptoRow, standIns := [], harness := (true, "63822477a423a266e6360e7265c8ba0092ac528f880772d5ec1702903caf4602"), looks := false }, kinds := [], alts := [], laidByText := true, laidKinds := [.data, .data, .data, .data], laidTests := true, laidLooks := .later }
def ValueTextsUptoCardSaid : Prop := Claim7.holds Tryd.pinned (.plain (OpenSpec.upto valueTextsSpec)) valueTextsUptoCard

/-- THE SECOND FORM's CARD OF 'rewindlaw16.ValueRows'. -/
def valueRowsUptoCard : Claim7 := { stood := { row := valueRowsUptoRow, standIns := [], harness := (true, "63822477a423a266e6360e7265c8ba0092ac528f880772d5ec1702903caf4602"), looks := false }, kinds := [], alts := [], laidByText := true, laidKinds := [.data, .data, .data, .data], laidTests := true, laidLooks := .later }
def ValueRowsUptoCardSaid : Prop := Claim7.holds Tryd.pinned (.plain (OpenSpec.upto valueRowsSpec)) valueRowsUptoCard

/-- THE SECOND FORM's CARD OF 'rewindlaw16.ValueRefuses'. -/
def valueRefusesUptoCard : Claim7 := { stood := { row := valueRefusesUptoRow, standIns := [], harness := (true, "63822477a423a266e6360e7265c8ba0092ac528f880772d5ec1702903caf4602"), looks := false }, kinds := [], alts := [], laidByText := true, laidKinds := [.data, .data, .data, .data], laidTests := true, laidLooks := .later }
def ValueRefusesUptoCardSaid : Prop := Claim7.holds Tryd.pinned (.plain (OpenSpec.upto valueRefusesSpec)) valueRefusesUptoCard
end Rows
end Go.Proofs.YtfghigioofaidaaDoor
