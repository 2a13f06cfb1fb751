/-
  DERIVED. GIVEN WITH THE SEED: THE CARDS: each row of YtjlfgmhmalbiiaaGreatDoorRows.lean that lists a variable, with what it lists TIED to the program's text (the seventh form; the later family's looks); each row that meets fmt, with fmt's text TOLD by the authors' own Lean function (tested against real Go, not proved from fmt's source: count such statements apart). THE CARD IS WHAT COUNTS. Prove the row's statement (the work); the ties are given (YtjlfgmhmalbiiaaGreatDoorTie.lean); close each card by the builder's one call (the guide's Derived/Test/ToyasCard.lean, 'card_holds'). Laid BY PROGRAM, IN A SANDBOX (cutbox-door.mjs). By AI agents, Wed Nov 11 2026. No macro, syntax, notation, axiom, sorry.
-/
import Derived.Test.YtjlfgmhmalbiiaaGreatDoorRows
import GoSem.ClaimSeven
namespace Go.Proofs.YtjlfgmhmalbiiaaGreatDoor
namespace Rows

/-- THE TIED CARD OF 'voussoirlaw09.CellSplitVolumes'. -/
def cellSplitVolumesCard : Claim7 := { stood := { row := cellSplitVolumesRow, standIns := [], harness := (true, "0db640cacd3e2513037d21af5e10ff83a19336d09181d6a154418af0a36e3750"), looks := false }, kinds := [], alts := [], laidByText := true, laidKinds := [.data, .pinned], laidTests := true, laidLooks := .later }
def CellSplitVolumesCardSaid : Prop := Claim7.holds Tryz.pinned (.plain (OpenSpec.ofChange cellSplitVolumesSpec)) cellSplitVolumesCard

/-- THE TIED CARD OF 'voussoirlaw09.CellSplitOrder'. -/
def cellSplitOrderCard : Claim7 := { stood := { row := cellSplitOrderRow, standIns := [], harness := (true, "0db640cacd3e2513037d21af5e10ff83a19336d09181d6a154418af0a36e3750"), looks := false }, kinds := [], alts := [], laidByText := true, laidKinds := [.data, .pinned], laidTests := true, laidLooks := .later }
def CellSplitOrderCardSaid : Prop := Claim7.holds Tryz.pinned (.plain (OpenSpec.ofChange cellSplitOrderSpec)) cellSplitOrderCard

/-- THE TIED CARD OF 'voussoirlaw09.CellClassification'. -/
def cellClassificationCard : Claim7 := { stood := { row := cellClassificationRow, standIns := [], harness := (true, "0db640cacd3e2513037d21af5e10ff83a19336d09181d6a154418af0a36e3750"), looks := false }, kinds := [], alts := [], laidByText := true, laidKinds := [.data, .pinned], laidTests := true, laidLooks := .later }
def CellClassificationCardSaid : Prop := Claim7.holds Tryz.pinned (.plain (OpenSpec.ofChange cellClassificationSpec)) cellClassificationCard

/-- THE TIED CARD OF 'voussoirlaw09.CellVertices'. -/
def cellVerticesCard : Claim7 := { stood := { row := cellVerticesRow, standIns := [], harness := (true, "0db640cacd3e2513037d21af5e10ff83a19336d09181d6a154418af0a36e3750"), looks := false }, kinds := [], alts := [], laidByText := true, laidKinds := [.data, .pinned], laidTests := true, laidLooks := .later }
def CellVerticesCardSaid : Prop := Claim7.holds Tryz.pinned (.plain (OpenSpec.ofChange cellVerticesSpec)) cellVerticesCard

/-- THE TIED CARD OF 'voussoirlaw10.BspValidity'. -/
def bspValidityCard : Claim7 := { stood := { row := bspValidityRow, standIns := [], harness := (true, "0db640cacd3e2513037d21af5e10ff83a19336d09181d6a154418af0a36e3750"), looks := false }, kinds := [], alts := [], laidByText := true, laidKinds := [.data, .pinned], laidTests := true, laidLooks := .later }
def BspValidityCardSaid : Prop := Claim7.holds Tryz.pinned (.plain (OpenSpec.ofChange bspValiditySpec)) bspValidityCard

/-- THE TIED CARD OF 'voussoirlaw10.BspClassification'. -/
def bspClassificationCard : Claim7 := { stood := { row := bspClassificationRow, standIns := [], harness := (true, "0db640cacd3e2513037d21af5e10ff83a19336d09181d6a154418af0a36e3750"), looks := false }, kinds := [], alts := [], laidByText := true, laidKinds := [.data, .pinned], laidTests := true, laidLooks := .later }
def BspClassificationCardSaid : Prop := Claim7.holds Tryz.pinned (.plain (OpenSpec.ofChange bspClassificationSpec)) bspClassificationCard

/-- THE TIED CARD OF 'voussoirlaw10.BspHalfSpace'. -/
def bspHalfSpaceCard : Claim7 := { stood := { row := bspHalfSpaceRow, standIns := [], harness := (true, "0db640cacd3e2513037d21af5e10ff83a19336d09181d6a154418af0a36e3750"), looks := false }, kinds := [], alts := [], laidByText := true, laidKinds := [.data, .pinned], laidTests := true, laidLooks := .later }
def BspHalfSpaceCardSaid : Prop := Claim7.holds Tryz.pinned (.plain (OpenSpec.ofChange bspHalfSpaceSpec)) bspHalfSpaceCard

/-- THE TIED CARD OF 'voussoirlaw10.BspFlipped'. -/
def bspFlippedCard : Claim7 := { stood := { row := bspFlippedRow, standIns := [], harness := (true, "0db640cacd3e2513037d21af5e10ff83a19336d09181d6a154418af0a36e3750"), looks := false }, kinds := [], alts := [], laidByText := true, laidKinds := [.data, .pinned], laidTests := true, laidLooks := .later }
def BspFlippedCardSaid : Prop := Claim7.holds Tryz.pinned (.plain (OpenSpec.ofChange bspFlippedSpec)) bspFlippedCard

/-- THE TIED CARD OF 'voussoirlaw10.BspRegularity'. -/
def bspRegularityCard : Claim7 := { stood := { row := bspRegularityRow, standIns := [], harness := (true, "0db640cacd3e2513037d21af5e10ff83a19336d09181d6a154418af0a36e3750"), looks := false }, kinds := [], alts := [], laidByText := true, laidKinds := [.data, .pinned], laidTests := true, laidLooks := .later }
def BspRegularityCardSaid : Prop := Claim7.holds Tryz.pinned (.plain (OpenSpec.ofChange bspRegularitySpec)) bspRegularityCard

/-- THE TIED CARD OF 'voussoirlaw09.CellValidity'. -/
def cellValidityCard : Claim7 := { stood := { row := cellValidityRow, standIns := [], harness := (true, "0db640cacd3e2513037d21af5e10ff83a19336d09181d6a154418af0a36e3750"), looks := false }, kinds := [], alts := [], laidByText := true, laidKinds := [.data, .pinned], laidTests := true, laidLooks := .later }
def CellValidityCardSaid : Prop := Claim7.holds Tryz.pinned (.plain (OpenSpec.ofChange cellValiditySpec)) cellValidityCard

/-- THE TIED CARD OF 'voussoirlaw10.BspPlanes'. -/
def bspPlanesCard : Claim7 := { stood := { row := bspPlanesRow, standIns := [], harness := (true, "0db640cacd3e2513037d21af5e10ff83a19336d09181d6a154418af0a36e3750"), looks := false }, kinds := [], alts := [], laidByText := true, laidKinds := [.data, .pinned], laidTests := true, laidLooks := .later }
def BspPlanesCardSaid : Prop := Claim7.holds Tryz.pinned (.plain (OpenSpec.ofChange bspPlanesSpec)) bspPlanesCard

/-- THE TIED CARD OF 'voussoirlaw09.CellSplitPoints'. -/
def cellSplitPointsCard : Claim7 := { stood := { row := cellSplitPointsRow, standIns := [], harness := (true, "0db640cacd3e2513037d21af5e10ff83a19336d09181d6a154418af0a36e3750"), looks := false }, kinds := [], alts := [], laidByText := true, laidKinds := [.data, .pinned], laidTests := true, laidLooks := .later }
def CellSplitPointsCardSaid : Prop := Claim7.holds Tryz.pinned (.plain (OpenSpec.ofChange cellSplitPointsSpec)) cellSplitPointsCard

/-- THE TIED CARD OF 'voussoirlaw09.CellSplitting'. -/
def cellSplittingCard : Claim7 := { stood := { row := cellSplittingRow, standIns := [], harness := (true, "0db640cacd3e2513037d21af5e10ff83a19336d09181d6a154418af0a36e3750"), looks := false }, kinds := [], alts := [], laidByText := true, laidKinds := [.data, .pinned], laidTests := true, laidLooks := .later }
def CellSplittingCardSaid : Prop := Claim7.holds Tryz.pinned (.plain (OpenSpec.ofChange cellSplittingSpec)) cellSplittingCard

/-- THE TIED CARD OF 'voussoirlaw10.BspVolume'. -/
def bspVolumeCard : Claim7 := { stood := { row := bspVolumeRow, standIns := [], harness := (true, "0db640cacd3e2513037d21af5e10ff83a19336d09181d6a154418af0a36e3750"), looks := false }, kinds := [], alts := [], laidByText := true, laidKinds := [.data, .pinned], laidTests := true, laidLooks := .later }
def BspVolumeCardSaid : Prop := Claim7.holds Tryz.pinned (.plain (OpenSpec.ofChange bspVolumeSpec)) bspVolumeCard

/-- THE TIED CARD OF 'voussoirlaw10.BspCells'. -/
def bspCellsCard : Claim7 := { stood := { row := bspCellsRow, standIns := [], harness := (true, "0db640cacd3e2513037d21af5e10ff83a19336d09181d6a154418af0a36e3750"), looks := false }, kinds := [], alts := [], laidByText := true, laidKinds := [.data, .pinned], laidTests := true, laidLooks := .later }
def BspCellsCardSaid : Prop := Claim7.holds Tryz.pinned (.plain (OpenSpec.ofChange bspCellsSpec)) bspCellsCard

/-- THE SECOND FORM's CARD OF 'voussoirlaw09.CellSplitVolumes'. -/
def cellSplitVolumesUptoCard : Claim7 := { stood := { row := cellSplitVolumesUptoRow, standIns := [], harness := (true, "0db640cacd3e2513037d21af5e10ff83a19336d09181d6a154418af0a36e3750"), looks := false }, kinds := [], alts := [], laidByText := true, laidKinds := [.data, .pinned], laidTests := true, laidLooks := .later }
def CellSplitVolumesUptoCardSaid : Prop := Claim7.holds Tryz.pinned (.plain (OpenSpec.upto cellSplitVolumesSpec)) cellSplitVolumesUptoCard

/-- THE SECOND FORM's CARD OF 'voussoirlaw09.CellSplitOrder'. -/
def cellSplitOrderUptoCard : Claim7 := { stood := { row := cellSplitOrderUptoRow, standIns := [], harness := (true, "0db640cacd3e2513037d21af5e10ff83a19336d09181d6a154418af0a36e3750"), looks := false }, kinds := [], alts := [], laidByText := true, laidKinds := [.data, .pinned], laidTests := true, laidLooks := .later }
def CellSplitOrderUptoCardSaid : Prop := Claim7.holds Tryz.pinned (.plain (OpenSpec.upto cellSplitOrderSpec)) cellSplitOrderUptoCard

/-- THE SECOND FORM's CARD OF 'voussoirlaw09.CellClassification'. -/
def cellClassificationUptoCard : Claim7 := { stood := { row := cellClassificationUptoRow, standIns := [], harness := (true, "0db640cacd3e2513037d21af5e10ff83a19336d09181d6a154418af0a36e3750"), looks := false }, kinds := [], alts := [], laidByText := true, laidKinds := [.data, .pinned], laidTests := true, laidLooks := .later }
def CellClassificationUptoCardSaid : Prop := Claim7.holds Tryz.pinned (.plain (OpenSpec.upto cellClassificationSpec)) cellClassificationUptoCard

/-- THE SECOND FORM's CARD OF 'voussoirlaw09.CellVertices'. -/
def cellVerticesUptoCard : Claim7 := { stood := { row := cellVerticesUptoRow, standIns := [], harness := (true, "0db640cacd3e2513037d21af5e10ff83a19336d09181d6a154418af0a36e3750"), looks := false }, kinds := [], alts := [], laidByText := true, laidKinds := [.data, .pinned], laidTests := true, laidLooks := .later }
def CellVerticesUptoCardSaid : Prop := Claim7.holds Tryz.pinned (.plain (OpenSpec.upto cellVerticesSpec)) cellVerticesUptoCard

/-- THE SECOND FORM's CARD OF 'voussoirlaw10.BspValidity'. -/
def bspValidityUptoCard : Claim7 := { stood := { row := bspValidityUptoRow, standIns := [], harness := (true, "0db640cacd3e2513037d21af5e10ff83a19336d09181d6a154418af0a36e3750"), looks := false }, kinds := [], alts := [], laidByText := true, laidKinds := [.data, .pinned], laidTests := true, laidLooks := .later }
def BspValidityUptoCardSaid : Prop := Claim7.holds Tryz.pinned (.plain (OpenSpec.upto bspValiditySpec)) bspValidityUptoCard

/-- THE SECOND FORM's CARD OF 'voussoirlaw10.BspClassification'. -/
def bspClassificationUptoCard : Claim7 := { stood := { row := bspClassificationUptoRow, standIns := [], harness := (true, "0db640cacd3e2513037d21af5e10ff83a19336d09181d6a154418af0a36e3750"), looks := false }, kinds := [], alts := [], laidByText := true, laidKinds := [.data, .pinned], laidTests := true, laidLooks := .later }
def BspClassificationUptoCardSaid : Prop := Claim7.holds Tryz.pinned (.plain (OpenSpec.upto bspClassificationSpec)) bspClassificationUptoCard

/-- THE SECOND FORM's CARD OF 'voussoirlaw10.BspHalfSpace'. -/
def bspHalfSpaceUptoCard : Claim7 := { stood := { row := bspHalfSpaceUptoRow, standIns := [], harness := (true, "0db640cacd3e2513037d21af5e10ff83a19336d09181d6a154418af0a36e3750"), looks := false }, kinds := [], alts := [], laidByText := true, laidKinds := [.data, .pinned], laidTests := true, laidLooks := .later }
def BspHalfSpaceUptoCardSaid : Prop := Claim7.holds Tryz.pinned (.plain (OpenSpec.upto bspHalfSpaceSpec)) bspHalfSpaceUptoCard

/-- THE SECOND FORM's CARD OF 'voussoirlaw10.BspFlipped'. -/
def bspFlippedUptoCard : Claim7 := { stood := { row := bspFlippedUptoRow, standIns := [], harness := (true, "0db640cacd3e2513037d21af5e10ff83a19336d09181d6a154418af0a36e3750"), looks := false }, kinds := [], alts := [], laidByText := true, laidKinds := [.data, .pinned], laidTests := true, laidLooks := .later }
def BspFlippedUptoCardSaid : Prop := Claim7.holds Tryz.pinned (.plain (OpenSpec.upto bspFlippedSpec)) bspFlippedUptoCard

/-- THE SECOND FORM's CARD OF 'voussoirlaw10.BspRegularity'. -/
def bspRegularityUptoCard : Claim7 := { stood := { row := bspRegularityUptoRow, standIns := [], harness := (true, "0db640cacd3e2513037d21af5e10ff83a19336d09181d6a154418af0a36e3750"), looks := false }, kinds := [], alts := [], laidByText := true, laidKinds := [.data, .pinned], laidTests := true, laidLooks := .later }
def BspRegularityUptoCardSaid : Prop := Claim7.holds Tryz.pinned (.plain (OpenSpec.upto bspRegularitySpec)) bspRegularityUptoCard

/-- THE SECOND FORM's CARD OF 'voussoirlaw09.CellValidity'. -/
def cellValidityUptoCard : Claim7 := { stood := { row := cellValidityUptoRow, standIns := [], harness := (true, "0db640cacd3e2513037d21af5e10ff83a19336d09181d6a154418af0a36e3750"), looks := false }, kinds := [], alts := [], laidByText := true, laidKinds := [.data, .pinned], laidTests := true, laidLooks := .later }
def CellValidityUptoCardSaid : Prop := Claim7.holds Tryz.pinned (.plain (OpenSpec.upto cellValiditySpec)) cellValidityUptoCard

/-- THE SECOND FORM's CARD OF 'voussoirlaw10.BspPlanes'. -/
def bspPlanesUptoCard : Claim7 := { stood := { row := bspPlanesUptoRow, standIns := [], harness := (true, "0db640cacd3e2513037d21af5e10ff83a19336d09181d6a154418af0a36e3750"), looks := false }, kinds := [], alts := [], laidByText := true, laidKinds := [.data, .pinned], laidTests := true, laidLooks := .later }
def BspPlanesUptoCardSaid : Prop := Claim7.holds Tryz.pinned (.plain (OpenSpec.upto bspPlanesSpec)) bspPlanesUptoCard

/-- THE SECOND FORM's CARD OF 'voussoirlaw09.CellSplitPoints'. -/
def cellSplitPointsUptoCard : Claim7 := { stood := { row := cellSplitPointsUptoRow, standIns := [], harness := (true, "0db640cacd3e2513037d21af5e10ff83a19336d09181d6a154418af0a36e3750"), looks := false }, kinds := [], alts := [], laidByText := true, laidKinds := [.data, .pinned], laidTests := true, laidLooks := .later }
def CellSplitPointsUptoCardSaid : Prop := Claim7.holds Tryz.pinned (.plain (OpenSpec.upto cellSplitPointsSpec)) cellSplitPointsUptoCard

/-- THE SECOND FORM's CARD OF 'voussoirlaw09.CellSplitting'. -/
def cellSplittingUptoCard : Claim7 := { stood := { row := cellSplittingUptoRow, standIns := [], harness := (true, "0db640cacd3e2513037d21af5e10ff83a19336d09181d6a154418af0a36e3750"), looks := false }, kinds := [], alts := [], laidByText := true, laidKinds := [.data, .pinned], laidTests := true, laidLooks := .later }
def CellSplittingUptoCardSaid : Prop := Claim7.holds Tryz.pinned (.plain (OpenSpec.upto cellSplittingSpec)) cellSplittingUptoCard

/-- THE SECOND FORM's CARD OF 'voussoirlaw10.BspVolume'. -/
def bspVolumeUptoCard : Claim7 := { stood := { row := bspVolumeUptoRow, standIns := [], harness := (true, "0db640cacd3e2513037d21af5e10ff83a19336d09181d6a154418af0a36e3750"), looks := false }, kinds := [], alts := [], laidByText := true, laidKinds := [.data, .pinned], laidTests := true, laidLooks := .later }
def BspVolumeUptoCardSaid : Prop := Claim7.holds Tryz.pinned (.plain (OpenSpec.upto bspVolumeSpec)) bspVolumeUptoCard

/-- THE SECOND FORM's CARD OF 'voussoirlaw10.BspCells'. -/
def bspCellsUptoCard : Claim7 := { stood := { row := bspCellsUptoRow, standIns := [], harness := (true, "0db640cacd3e2513037d21af5e10ff83a19336d09181d6a154418af0a36e3750"), looks := false }, kinds := [], alts := [], laidByText := true, laidKinds := [.data, .pinned], laidTests := true, laidLooks := .later }
def BspCellsUptoCardSaid : Prop := Claim7.holds Tryz.pinned (.plain (OpenSpec.upto bspCellsSpec)) bspCellsUptoCard
end Rows
end Go.Proofs.YtjlfgmhmalbiiaaGreatDoor
