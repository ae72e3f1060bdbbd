/-
  DERIVED. GIVEN WITH THE SEED: THE CARDS: each row of YtnbdibeainhnhaaDoorRows.lean that lists a variable, with what it lists TIED to the program's text (the seventh form; the later family's looks); each row that meets fmt, with fmt's text TOLD by the authors' own Lean function (tested against real Go, not proved from fmt's source: count such statements apart). THE CARD IS WHAT COUNTS. Prove the row's statement (the work); the ties are given (YtnbdibeainhnhaaDoorTie.lean); close each card by the builder's one call (the guide's Derived/Test/ToyasCard.lean, 'card_holds'). Laid BY PROGRAM, IN A SANDBOX (cutbox-door.mjs). By AI agents, Wed Nov 11 2026. No macro, syntax, notation, axiom, sorry.
-/
import Derived.Test.YtnbdibeainhnhaaDoorRows
import GoSem.ClaimSeven
namespace Go.Proofs.YtnbdibeainhnhaaDoor
namespace Rows

/-- THE TIED CARD OF 'pentimentolaw05.SectorShorts'. -/
def sectorShortsCard : Claim7 := { stood := { row := sectorShortsRow, standIns := [], harness := (true, "60e2e7e09b6cc6f553914a6b7ae05fc52ae995787144df4cf471bc64dad5831c"), looks := true }, kinds := [], alts := [], laidByText := true, laidKinds := [.data, .data, .data, .data, .sentinel, .sentinel, .pinned], laidTests := true, laidLooks := .later }
def SectorShortsCardSaid : Prop := Claim7.holds Tryd.pinned (.plain (OpenSpec.ofChange sectorShortsSpec)) sectorShortsCard

/-- THE TIED CARD OF 'pentimentolaw05.SectorMakes'. -/
def sectorMakesCard : Claim7 := { stood := { row := sectorMakesRow, standIns := [], harness := (true, "60e2e7e09b6cc6f553914a6b7ae05fc52ae995787144df4cf471bc64dad5831c"), looks := true }, kinds := [], alts := [], laidByText := true, laidKinds := [.data, .data, .data, .data, .sentinel, .sentinel, .pinned], laidTests := true, laidLooks := .later }
def SectorMakesCardSaid : Prop := Claim7.holds Tryd.pinned (.plain (OpenSpec.ofChange sectorMakesSpec)) sectorMakesCard

/-- THE TIED CARD OF 'pentimentolaw05.SectorDiffers'. -/
def sectorDiffersCard : Claim7 := { stood := { row := sectorDiffersRow, standIns := [], harness := (true, "60e2e7e09b6cc6f553914a6b7ae05fc52ae995787144df4cf471bc64dad5831c"), looks := true }, kinds := [], alts := [], laidByText := true, laidKinds := [.data, .data, .data, .data, .sentinel, .sentinel, .pinned], laidTests := true, laidLooks := .later }
def SectorDiffersCardSaid : Prop := Claim7.holds Tryd.pinned (.plain (OpenSpec.ofChange sectorDiffersSpec)) sectorDiffersCard

/-- THE SECOND FORM's CARD OF 'pentimentolaw05.SectorShorts'. -/
def sectorShortsUptoCard : Claim7 := { stood := { row := sectorShortsUptoRow, standIns := [], harness := (true, "60e2e7e09b6cc6f553914a6b7ae05fc52ae995787144df4cf471bc64dad5831c"), looks := true }, kinds := [], alts := [], laidByText := true, laidKinds := [.data, .data, .data, .data, .sentinel, .sentinel, .pinned], laidTests := true, laidLooks := .later }
def SectorShortsUptoCardSaid : Prop := Claim7.holds Tryd.pinned (.plain (OpenSpec.upto sectorShortsSpec)) sectorShortsUptoCard

/-- THE SECOND FORM's CARD OF 'pentimentolaw05.SectorMakes'. -/
def sectorMakesUptoCard : Claim7 := { stood := { row := sectorMakesUptoRow, standIns := [], harness := (true, "60e2e7e09b6cc6f553914a6b7ae05fc52ae995787144df4cf471bc64dad5831c"), looks := true }, kinds := [], alts := [], laidByText := true, laidKinds := [.data, .data, .data, .data, .sentinel, .sentinel, .pinned], laidTests := true, laidLooks := .later }
def SectorMakesUptoCardSaid : Prop := Claim7.holds Tryd.pinned (.plain (OpenSpec.upto sectorMakesSpec)) sectorMakesUptoCard

/-- THE SECOND FORM's CARD OF 'pentimentolaw05.SectorDiffers'. -/
def sectorDiffersUptoCard : Claim7 := { stood := { row := sectorDiffersUptoRow, standIns := [], harness := (true, "60e2e7e09b6cc6f553914a6b7ae05fc52ae995787144df4cf471bc64dad5831c"), looks := true }, kinds := [], alts := [], laidByText := true, laidKinds := [.data, .data, .data, .data, .sentinel, .sentinel, .pinned], laidTests := true, laidLooks := .later }
def SectorDiffersUptoCardSaid : Prop := Claim7.holds Tryd.pinned (.plain (OpenSpec.upto sectorDiffersSpec)) sectorDiffersUptoCard
end Rows
end Go.Proofs.YtnbdibeainhnhaaDoor
