/-
  DERIVED. GIVEN WITH THE SEED: THE CARDS: each row of YtnkiegafaiebiaaDoorRows.lean that lists a variable, with what it lists TIED to the program's text (the seventh form; the later family's looks); each row that meets fmt, with fmt's text TOLD by the authors' own Lean function (tested against real Go, not proved from fmt's source: count such statements apart). THE CARD IS WHAT COUNTS. Prove the row's statement (the work); the ties are given (YtnkiegafaiebiaaDoorTie.lean); close each card by the builder's one call (the guide's Derived/Test/ToyasCard.lean, 'card_holds'). Laid BY PROGRAM, IN A SANDBOX (cutbox-door.mjs). By AI agents, Wed Nov 11 2026. No macro, syntax, notation, axiom, sorry.
-/
import Derived.Test.YtnkiegafaiebiaaDoorRows
import GoSem.ClaimSeven
namespace Go.Proofs.YtnkiegafaiebiaaDoor
namespace Rows

/-- THE TIED CARD OF 'pentimentolaw31.ShowLines'. -/
def showLinesCard : Claim7 := { stood := { row := showLinesRow, standIns := [], harness := (true, "0ea57fb98f4e92ac93dc2a68d6da1d1d456267dff045098581c9e5d5921bc007"), looks := true }, kinds := [], alts := [], laidByText := true, laidKinds := [.data, .data, .data, .data, .sentinel, .sentinel, .pinned], laidTests := true, laidLooks := .later }
def ShowLinesCardSaid : Prop := Claim7.holds Tryd.pinned (.plain (OpenSpec.ofChange showLinesSpec)) showLinesCard

/-- THE TIED CARD OF 'pentimentolaw31.ShowParse'. -/
def showParseCard : Claim7 := { stood := { row := showParseRow, standIns := [], harness := (true, "0ea57fb98f4e92ac93dc2a68d6da1d1d456267dff045098581c9e5d5921bc007"), looks := true }, kinds := [], alts := [], laidByText := true, laidKinds := [.data, .data, .data, .data, .sentinel, .sentinel, .pinned], laidTests := true, laidLooks := .later }
def ShowParseCardSaid : Prop := Claim7.holds Tryd.pinned (.plain (OpenSpec.ofChange showParseSpec)) showParseCard

/-- THE SECOND FORM's CARD OF 'pentimentolaw31.ShowLines'. -/
def showLinesUptoCard : Claim7 := { stood := { row := showLinesUptoRow, standIns := [], harness := (true, "0ea57fb98f4e92ac93dc2a68d6da1d1d456267dff045098581c9e5d5921bc007"), looks := true }, kinds := [], alts := [], laidByText := true, laidKinds := [.data, .data, .data, .data, .sentinel, .sentinel, .pinned], laidTests := true, laidLooks := .later }
def ShowLinesUptoCardSaid : Prop := Claim7.holds Tryd.pinned (.plain (OpenSpec.upto showLinesSpec)) showLinesUptoCard

/-- THE SECOND FORM's CARD OF 'pentimentolaw31.ShowParse'. -/
def showParseUptoCard : Claim7 := { stood := { row := showParseUptoRow, standIns := [], harness := (true, "0ea57fb98f4e92ac93dc2a68d6da1d1d456267dff045098581c9e5d5921bc007"), looks := true }, kinds := [], alts := [], laidByText := true, laidKinds := [.data, .data, .data, .data, .sentinel, .sentinel, .pinned], laidTests := true, laidLooks := .later }
def ShowParseUptoCardSaid : Prop := Claim7.holds Tryd.pinned (.plain (OpenSpec.upto showParseSpec)) showParseUptoCard
end Rows
end Go.Proofs.YtnkiegafaiebiaaDoor
