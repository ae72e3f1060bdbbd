/-
  DERIVED. GIVEN WITH THE SEED: THE CARDS: each row of YtablkigmdginoaaDoorRows.lean that lists a variable, with what it lists TIED to the program's text (the seventh form; the later family's looks); each row that meets fmt, with fmt's text TOLD by the authors' own Lean function (tested against real Go, not proved from fmt's source: count such statements apart). THE CARD IS WHAT COUNTS. Prove the row's statement (the work); the ties are given (YtablkigmdginoaaDoorTie.lean); close each card by the builder's one call (the guide's Derived/Test/ToyasCard.lean, 'card_holds'). Laid BY PROGRAM, IN A SANDBOX (cutbox-door.mjs). By AI agents, Wed Nov 11 2026. No macro, syntax, notation, axiom, sorry.
-/
import Derived.Test.YtablkigmdginoaaDoorRows
import GoSem.ClaimSeven
namespace Go.Proofs.YtablkigmdginoaaDoor
namespace Rows

/-- THE TIED CARD OF 'pentimentolaw34.RunsSet'. -/
def runsSetCard : Claim7 := { stood := { row := runsSetRow, standIns := [], harness := (true, "bdea5b3025d37e4821780f449ae8c6e3379c284ce98a57c194e159f97faee809"), looks := true }, kinds := [], alts := [], laidByText := true, laidKinds := [.data, .data, .data, .data, .sentinel, .sentinel, .pinned], laidTests := true, laidLooks := .later }
def RunsSetCardSaid : Prop := Claim7.holds Tryd.pinned (.plain (OpenSpec.ofChange runsSetSpec)) runsSetCard

/-- THE TIED CARD OF 'pentimentolaw34.RunsParse'. -/
def runsParseCard : Claim7 := { stood := { row := runsParseRow, standIns := [], harness := (true, "bdea5b3025d37e4821780f449ae8c6e3379c284ce98a57c194e159f97faee809"), looks := true }, kinds := [], alts := [], laidByText := true, laidKinds := [.data, .data, .data, .data, .sentinel, .sentinel, .pinned], laidTests := true, laidLooks := .later }
def RunsParseCardSaid : Prop := Claim7.holds Tryd.pinned (.plain (OpenSpec.ofChange runsParseSpec)) runsParseCard

/-- THE TIED CARD OF 'pentimentolaw34.RunsOf'. -/
def runsOfCard : Claim7 := { stood := { row := runsOfRow, standIns := [], harness := (true, "bdea5b3025d37e4821780f449ae8c6e3379c284ce98a57c194e159f97faee809"), looks := true }, kinds := [], alts := [], laidByText := true, laidKinds := [.data, .data, .data, .data, .sentinel, .sentinel, .pinned], laidTests := true, laidLooks := .later }
def RunsOfCardSaid : Prop := Claim7.holds Tryd.pinned (.plain (OpenSpec.ofChange runsOfSpec)) runsOfCard

/-- THE SECOND FORM's CARD OF 'pentimentolaw34.RunsSet'. -/
def runsSetUptoCard : Claim7 := { stood := { row := runsSetUptoRow, standIns := [], harness := (true, "bdea5b3025d37e4821780f449ae8c6e3379c284ce98a57c194e159f97faee809"), looks := true }, kinds := [], alts := [], laidByText := true, laidKinds := [.data, .data, .data, .data, .sentinel, .sentinel, .pinned], laidTests := true, laidLooks := .later }
def RunsSetUptoCardSaid : Prop := Claim7.holds Tryd.pinned (.plain (OpenSpec.upto runsSetSpec)) runsSetUptoCard

/-- THE SECOND FORM's CARD OF 'pentimentolaw34.RunsParse'. -/
def runsParseUptoCard : Claim7 := { stood := { row := runsParseUptoRow, standIns := [], harness := (true, "bdea5b3025d37e4821780f449ae8c6e3379c284ce98a57c194e159f97faee809"), looks := true }, kinds := [], alts := [], laidByText := true, laidKinds := [.data, .data, .data, .data, .sentinel, .sentinel, .pinned], laidTests := true, laidLooks := .later }
def RunsParseUptoCardSaid : Prop := Claim7.holds Tryd.pinned (.plain (OpenSpec.upto runsParseSpec)) runsParseUptoCard

/-- THE SECOND FORM's CARD OF 'pentimentolaw34.RunsOf'. -/
def runsOfUptoCard : Claim7 := { stood := { row := runsOfUptoRow, standIns := [], harness := (true, "bdea5b3025d37e4821780f449ae8c6e3379c284ce98a57c194e159f97faee809"), looks := true }, kinds := [], alts := [], laidByText := true, laidKinds := [.data, .data, .data, .data, .sentinel, .sentinel, .pinned], laidTests := true, laidLooks := .later }
def RunsOfUptoCardSaid : Prop := Claim7.holds Tryd.pinned (.plain (OpenSpec.upto runsOfSpec)) runsOfUptoCard
end Rows
end Go.Proofs.YtablkigmdginoaaDoor
