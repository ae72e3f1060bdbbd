/-
  DERIVED. GIVEN WITH THE SEED: THE CARDS: each row of YtkbbgehnooncoaaGreatDoorRows.lean that lists a variable, with what it lists TIED to the program's text (the seventh form; the later family's looks); each row that meets fmt, with fmt's text TOLD by the authors' own Lean function (tested against real Go, not proved from fmt's source: count such statements apart). THE CARD IS WHAT COUNTS. Prove the row's statement (the work); the ties are given (YtkbbgehnooncoaaGreatDoorTie.lean); close each card by the builder's one call (the guide's Derived/Test/ToyasCard.lean, 'card_holds'). Laid BY PROGRAM, IN A SANDBOX (cutbox-door.mjs). By AI agents, Wed Nov 11 2026. No macro, syntax, notation, axiom, sorry.
-/
import Derived.Test.YtkbbgehnooncoaaGreatDoorRows
import GoSem.ClaimSeven
namespace Go.Proofs.YtkbbgehnooncoaaGreatDoor
namespace Rows

/-- THE TIED CARD OF 'pentimentolaw30.WordsLines'. -/
def wordsLinesCard : Claim7 := { stood := { row := wordsLinesRow, standIns := [], harness := (true, "d97b006e4a863ce82e386467def652e0e87e92a4bf101d7bb1e868bf2de1ee5d"), looks := true }, kinds := [], alts := [], laidByText := true, laidKinds := [.data, .data, .data, .data, .sentinel, .sentinel, .pinned], laidTests := true, laidLooks := .later }
def WordsLinesCardSaid : Prop := Claim7.holds Tryz.pinned (.plain (OpenSpec.ofChange wordsLinesSpec)) wordsLinesCard

/-- THE TIED CARD OF 'pentimentolaw30.WordsParse'. -/
def wordsParseCard : Claim7 := { stood := { row := wordsParseRow, standIns := [], harness := (true, "d97b006e4a863ce82e386467def652e0e87e92a4bf101d7bb1e868bf2de1ee5d"), looks := true }, kinds := [], alts := [], laidByText := true, laidKinds := [.data, .data, .data, .data, .sentinel, .sentinel, .pinned], laidTests := true, laidLooks := .later }
def WordsParseCardSaid : Prop := Claim7.holds Tryz.pinned (.plain (OpenSpec.ofChange wordsParseSpec)) wordsParseCard

/-- THE TIED CARD OF 'pentimentolaw30.WordsKeep'. -/
def wordsKeepCard : Claim7 := { stood := { row := wordsKeepRow, standIns := [], harness := (true, "d97b006e4a863ce82e386467def652e0e87e92a4bf101d7bb1e868bf2de1ee5d"), looks := true }, kinds := [], alts := [], laidByText := true, laidKinds := [.data, .data, .data, .data, .sentinel, .sentinel, .pinned], laidTests := true, laidLooks := .later }
def WordsKeepCardSaid : Prop := Claim7.holds Tryz.pinned (.plain (OpenSpec.ofChange wordsKeepSpec)) wordsKeepCard

/-- THE SECOND FORM's CARD OF 'pentimentolaw30.WordsLines'. -/
def wordsLinesUptoCard : Claim7 := { stood := { row := wordsLinesUptoRow, standIns := [], harness := (true, "d97b006e4a863ce82e386467def652e0e87e92a4bf101d7bb1e868bf2de1ee5d"), looks := true }, kinds := [], alts := [], laidByText := true, laidKinds := [.data, .data, .data, .data, .sentinel, .sentinel, .pinned], laidTests := true, laidLooks := .later }
def WordsLinesUptoCardSaid : Prop := Claim7.holds Tryz.pinned (.plain (OpenSpec.upto wordsLinesSpec)) wordsLinesUptoCard

/-- THE SECOND FORM's CARD OF 'pentimentolaw30.WordsParse'. -/
def wordsParseUptoCard : Claim7 := { stood := { row := wordsParseUptoRow, standIns := [], harness := (true, "d97b006e4a863ce82e386467def652e0e87e92a4bf101d7bb1e868bf2de1ee5d"), looks := true }, kinds := [], alts := [], laidByText := true, laidKinds := [.data, .data, .data, .data, .sentinel, .sentinel, .pinned], laidTests := true, laidLooks := .later }
def WordsParseUptoCardSaid : Prop := Claim7.holds Tryz.pinned (.plain (OpenSpec.upto wordsParseSpec)) wordsParseUptoCard

/-- THE SECOND FORM's CARD OF 'pentimentolaw30.WordsKeep'. -/
def wordsKeepUptoCard : Claim7 := { stood := { row := wordsKeepUptoRow, standIns := [], harness := (true, "d97b006e4a863ce82e386467def652e0e87e92a4bf101d7bb1e868bf2de1ee5d"), looks := true }, kinds := [], alts := [], laidByText := true, laidKinds := [.data, .data, .data, .data, .sentinel, .sentinel, .pinned], laidTests := true, laidLooks := .later }
def WordsKeepUptoCardSaid : Prop := Claim7.holds Tryz.pinned (.plain (OpenSpec.upto wordsKeepSpec)) wordsKeepUptoCard
end Rows
end Go.Proofs.YtkbbgehnooncoaaGreatDoor
