/-
  NARROWER THAN 'FOR EVERY INPUT', by the rows' own cells (each row's printed sentence says how): CellSplitVolumes: laid · CellSplitOrder: laid · CellClassification: laid · CellVertices: laid · BspValidity: laid · BspClassification: laid · BspHalfSpace: laid · BspFlipped: laid · BspRegularity: laid · CellValidity: laid · BspPlanes: laid · CellSplitPoints: laid · CellSplitting: laid · BspVolume: laid · BspCells: laid.
  DERIVED. THE GIVEN ROWS OF THIS SEAT. 15 by the template 'for every input the law returns true; each argument reads behind the call as it read before'; 0 by the template 'total and deterministic' (their statements: YtjlfgmhmalbiiaaGreatDoorTotals.lean).
  GIVEN WITH THE SEED: the statements are not yours to turn. If you find one false, say at which input.
  Laid BY PROGRAM, IN A SANDBOX (cutbox-rows.mjs): the forced cells as the released guide's own fill.sh prints them over the translation 6bd0ba27a7ffe054… (all of the seat's roots in one cut). By AI agents, Wed Nov 11 2026. No macro, syntax, notation, axiom, sorry.
-/
import Derived.Test.YtjlfgmhmalbiiaaGreatDoorChecked
import GoSem.PinnedTables
import GoSem.Claim
import GoSem.ClaimJoined
import GoSem.ClaimMapViews
import Derived.JoinedTies
import Derived.KernelRfl
namespace Go.Proofs.YtjlfgmhmalbiiaaGreatDoor
/- THE CELL 'sum', in the pinned program and in every row, IS THE sha256 OF THE DUMP (.gsa) THAT YtjlfgmhmalbiiaaGreatDoorProg.lean LOADS. Nothing in Lean hashes anything: it is a label: what it is worth is what the hold of that sum in a sandbox is worth. -/
noncomputable def Tryz.pinned : Pinned := { name := "ytjlfgmhmalbiiaagreatdoor", sum := "6bd0ba27a7ffe054c9803ccc0ee5a5c0db7b3c853959d3ba290cf7361eeb5e1c", checked := Tryz.checked }
namespace Rows
def none {H : Type} : Left H := { results := [], args := [] }

/- WHAT THE LISTED PACKAGE-LEVEL VARIABLES READ AS WHEN THE CALL BEGINS. Each datum BY PROGRAM (the guide's laid-datum.mjs) off the statement by which the dump's own 'gosem.cut.vars' lays the variable. In a bare row this is a premise. The card (YtjlfgmhmalbiiaaGreatDoorCards.lean) ties it to the program's text. -/
def laid_unicode_utf8_acceptRanges {H : Type} : DataW H := .agg [.agg [.lit (.int .u8 128), .lit (.int .u8 191)], .agg [.lit (.int .u8 160), .lit (.int .u8 191)], .agg [.lit (.int .u8 128), .lit (.int .u8 159)], .agg [.lit (.int .u8 144), .lit (.int .u8 191)], .agg [.lit (.int .u8 128), .lit (.int .u8 143)], .agg [.lit (.int .u8 0), .lit (.int .u8 0)], .agg [.lit (.int .u8 0), .lit (.int .u8 0)], .agg [.lit (.int .u8 0), .lit (.int .u8 0)], .agg [.lit (.int .u8 0), .lit (.int .u8 0)], .agg [.lit (.int .u8 0), .lit (.int .u8 0)], .agg [.lit (.int .u8 0), .lit (.int .u8 0)], .agg [.lit (.int .u8 0), .lit (.int .u8 0)], .agg [.lit (.int .u8 0), .lit (.int .u8 0)], .agg [.lit (.int .u8 0), .lit (.int .u8 0)], .agg [.lit (.int .u8 0), .lit (.int .u8 0)], .agg [.lit (.int .u8 0), .lit (.int .u8 0)]]
/-- One of Go's own tables, pinned by name: the form's constant. -/
def laid_unicode_utf8_first : DataW Unit := Go.Pinned.utf8First

/-- 'voussoirlaw09.CellSplitVolumes': WHATEVER THE INPUT: true; the input reads as it did. -/
def cellSplitVolumesSpec : ChangeSpec := { name := "cellSplitVolumes", fn := fun _ => fun
  | [d1, d2] => { results := [.lit (.bool true)], args := [d1, d2] }
  | _ => none }
def cellSplitVolumesRow : OpenClaim := { program := "ytjlfgmhmalbiiaagreatdoor", sum := "6bd0ba27a7ffe054c9803ccc0ee5a5c0db7b3c853959d3ba290cf7361eeb5e1c", func := "voussoir/voussoirlaw09.CellSplitVolumes", spec := "cellSplitVolumes", inPlace := ["internal/bytealg.IndexByteString", "internal/bytealg.IndexString"], unfollowed := true, recurses := true, named := ["unicode/utf8.first", "unicode/utf8.acceptRanges", "math/bits.overflowError", "internal/bytealg.MaxLen"], plainKeys := false, apart := false, laid := [("unicode/utf8.acceptRanges", laid_unicode_utf8_acceptRanges), ("unicode/utf8.first", laid_unicode_utf8_first)] }
def CellSplitVolumesSaid : Prop := cellSplitVolumesRow.holds Tryz.pinned (OpenSpec.ofChange cellSplitVolumesSpec)

/-- ITS FALSE NEIGHBOUR: 'it returns false'. Refute it at one input. -/
def cellSplitVolumesWrong : ChangeSpec := { name := "cellSplitVolumes", fn := fun _ => fun
  | [d1, d2] => { results := [.lit (.bool false)], args := [d1, d2] }
  | _ => none }
def CellSplitVolumesWrongFalsely : Prop := cellSplitVolumesRow.holds Tryz.pinned (OpenSpec.ofChange cellSplitVolumesWrong)

/-- 'voussoirlaw09.CellSplitOrder': WHATEVER THE INPUT: true; the input reads as it did. -/
def cellSplitOrderSpec : ChangeSpec := { name := "cellSplitOrder", fn := fun _ => fun
  | [d1, d2] => { results := [.lit (.bool true)], args := [d1, d2] }
  | _ => none }
def cellSplitOrderRow : OpenClaim := { program := "ytjlfgmhmalbiiaagreatdoor", sum := "6bd0ba27a7ffe054c9803ccc0ee5a5c0db7b3c853959d3ba290cf7361eeb5e1c", func := "voussoir/voussoirlaw09.CellSplitOrder", spec := "cellSplitOrder", inPlace := ["internal/bytealg.IndexByteString", "internal/bytealg.IndexString"], unfollowed := true, recurses := true, named := ["unicode/utf8.first", "unicode/utf8.acceptRanges", "math/bits.overflowError", "internal/bytealg.MaxLen"], plainKeys := false, apart := false, laid := [("unicode/utf8.acceptRanges", laid_unicode_utf8_acceptRanges), ("unicode/utf8.first", laid_unicode_utf8_first)] }
def CellSplitOrderSaid : Prop := cellSplitOrderRow.holds Tryz.pinned (OpenSpec.ofChange cellSplitOrderSpec)

/-- ITS FALSE NEIGHBOUR: 'it returns false'. Refute it at one input. -/
def cellSplitOrderWrong : ChangeSpec := { name := "cellSplitOrder", fn := fun _ => fun
  | [d1, d2] => { results := [.lit (.bool false)], args := [d1, d2] }
  | _ => none }
def CellSplitOrderWrongFalsely : Prop := cellSplitOrderRow.holds Tryz.pinned (OpenSpec.ofChange cellSplitOrderWrong)

/-- 'voussoirlaw09.CellClassification': WHATEVER THE INPUT: true; the input reads as it did. -/
def cellClassificationSpec : ChangeSpec := { name := "cellClassification", fn := fun _ => fun
  | [d1, d2] => { results := [.lit (.bool true)], args := [d1, d2] }
  | _ => none }
def cellClassificationRow : OpenClaim := { program := "ytjlfgmhmalbiiaagreatdoor", sum := "6bd0ba27a7ffe054c9803ccc0ee5a5c0db7b3c853959d3ba290cf7361eeb5e1c", func := "voussoir/voussoirlaw09.CellClassification", spec := "cellClassification", inPlace := ["internal/bytealg.IndexByteString", "internal/bytealg.IndexString"], unfollowed := true, recurses := true, named := ["unicode/utf8.first", "unicode/utf8.acceptRanges", "math/bits.overflowError", "internal/bytealg.MaxLen"], plainKeys := false, apart := false, laid := [("unicode/utf8.acceptRanges", laid_unicode_utf8_acceptRanges), ("unicode/utf8.first", laid_unicode_utf8_first)] }
def CellClassificationSaid : Prop := cellClassificationRow.holds Tryz.pinned (OpenSpec.ofChange cellClassificationSpec)

/-- ITS FALSE NEIGHBOUR: 'it returns false'. Refute it at one input. -/
def cellClassificationWrong : ChangeSpec := { name := "cellClassification", fn := fun _ => fun
  | [d1, d2] => { results := [.lit (.bool false)], args := [d1, d2] }
  | _ => none }
def CellClassificationWrongFalsely : Prop := cellClassificationRow.holds Tryz.pinned (OpenSpec.ofChange cellClassificationWrong)

/-- 'voussoirlaw09.CellVertices': WHATEVER THE INPUT: true; the input reads as it did. -/
def cellVerticesSpec : ChangeSpec := { name := "cellVertices", fn := fun _ => fun
  | [d] => { results := [.lit (.bool true)], args := [d] }
  | _ => none }
def cellVerticesRow : OpenClaim := { program := "ytjlfgmhmalbiiaagreatdoor", sum := "6bd0ba27a7ffe054c9803ccc0ee5a5c0db7b3c853959d3ba290cf7361eeb5e1c", func := "voussoir/voussoirlaw09.CellVertices", spec := "cellVertices", inPlace := ["internal/bytealg.IndexByteString", "internal/bytealg.IndexString"], unfollowed := true, recurses := true, named := ["unicode/utf8.first", "unicode/utf8.acceptRanges", "math/bits.overflowError", "internal/bytealg.MaxLen"], plainKeys := false, apart := false, laid := [("unicode/utf8.acceptRanges", laid_unicode_utf8_acceptRanges), ("unicode/utf8.first", laid_unicode_utf8_first)] }
def CellVerticesSaid : Prop := cellVerticesRow.holds Tryz.pinned (OpenSpec.ofChange cellVerticesSpec)

/-- ITS FALSE NEIGHBOUR: 'it returns false'. Refute it at one input. -/
def cellVerticesWrong : ChangeSpec := { name := "cellVertices", fn := fun _ => fun
  | [d] => { results := [.lit (.bool false)], args := [d] }
  | _ => none }
def CellVerticesWrongFalsely : Prop := cellVerticesRow.holds Tryz.pinned (OpenSpec.ofChange cellVerticesWrong)

/-- 'voussoirlaw10.BspValidity': WHATEVER THE INPUT: true; the input reads as it did. -/
def bspValiditySpec : ChangeSpec := { name := "bspValidity", fn := fun _ => fun
  | [d] => { results := [.lit (.bool true)], args := [d] }
  | _ => none }
def bspValidityRow : OpenClaim := { program := "ytjlfgmhmalbiiaagreatdoor", sum := "6bd0ba27a7ffe054c9803ccc0ee5a5c0db7b3c853959d3ba290cf7361eeb5e1c", func := "voussoir/voussoirlaw10.BspValidity", spec := "bspValidity", inPlace := ["internal/bytealg.IndexByteString", "internal/bytealg.IndexString"], unfollowed := true, recurses := true, named := ["unicode/utf8.first", "unicode/utf8.acceptRanges", "math/bits.overflowError", "internal/bytealg.MaxLen"], plainKeys := false, apart := false, laid := [("unicode/utf8.acceptRanges", laid_unicode_utf8_acceptRanges), ("unicode/utf8.first", laid_unicode_utf8_first)] }
def BspValiditySaid : Prop := bspValidityRow.holds Tryz.pinned (OpenSpec.ofChange bspValiditySpec)

/-- ITS FALSE NEIGHBOUR: 'it returns false'. Refute it at one input. -/
def bspValidityWrong : ChangeSpec := { name := "bspValidity", fn := fun _ => fun
  | [d] => { results := [.lit (.bool false)], args := [d] }
  | _ => none }
def BspValidityWrongFalsely : Prop := bspValidityRow.holds Tryz.pinned (OpenSpec.ofChange bspValidityWrong)

/-- 'voussoirlaw10.BspClassification': WHATEVER THE INPUT: true; the input reads as it did. -/
def bspClassificationSpec : ChangeSpec := { name := "bspClassification", fn := fun _ => fun
  | [d1, d2] => { results := [.lit (.bool true)], args := [d1, d2] }
  | _ => none }
def bspClassificationRow : OpenClaim := { program := "ytjlfgmhmalbiiaagreatdoor", sum := "6bd0ba27a7ffe054c9803ccc0ee5a5c0db7b3c853959d3ba290cf7361eeb5e1c", func := "voussoir/voussoirlaw10.BspClassification", spec := "bspClassification", inPlace := ["internal/bytealg.IndexByteString", "internal/bytealg.IndexString"], unfollowed := true, recurses := true, named := ["unicode/utf8.first", "unicode/utf8.acceptRanges", "math/bits.overflowError", "internal/bytealg.MaxLen"], plainKeys := false, apart := false, laid := [("unicode/utf8.acceptRanges", laid_unicode_utf8_acceptRanges), ("unicode/utf8.first", laid_unicode_utf8_first)] }
def BspClassificationSaid : Prop := bspClassificationRow.holds Tryz.pinned (OpenSpec.ofChange bspClassificationSpec)

/-- ITS FALSE NEIGHBOUR: 'it returns false'. Refute it at one input. -/
def bspClassificationWrong : ChangeSpec := { name := "bspClassification", fn := fun _ => fun
  | [d1, d2] => { results := [.lit (.bool false)], args := [d1, d2] }
  | _ => none }
def BspClassificationWrongFalsely : Prop := bspClassificationRow.holds Tryz.pinned (OpenSpec.ofChange bspClassificationWrong)

/-- 'voussoirlaw10.BspHalfSpace': WHATEVER THE INPUT: true; the input reads as it did. -/
def bspHalfSpaceSpec : ChangeSpec := { name := "bspHalfSpace", fn := fun _ => fun
  | [d1, d2] => { results := [.lit (.bool true)], args := [d1, d2] }
  | _ => none }
def bspHalfSpaceRow : OpenClaim := { program := "ytjlfgmhmalbiiaagreatdoor", sum := "6bd0ba27a7ffe054c9803ccc0ee5a5c0db7b3c853959d3ba290cf7361eeb5e1c", func := "voussoir/voussoirlaw10.BspHalfSpace", spec := "bspHalfSpace", inPlace := ["internal/bytealg.IndexByteString", "internal/bytealg.IndexString"], unfollowed := true, recurses := true, named := ["unicode/utf8.first", "unicode/utf8.acceptRanges", "math/bits.overflowError", "internal/bytealg.MaxLen"], plainKeys := false, apart := false, laid := [("unicode/utf8.acceptRanges", laid_unicode_utf8_acceptRanges), ("unicode/utf8.first", laid_unicode_utf8_first)] }
def BspHalfSpaceSaid : Prop := bspHalfSpaceRow.holds Tryz.pinned (OpenSpec.ofChange bspHalfSpaceSpec)

/-- ITS FALSE NEIGHBOUR: 'it returns false'. Refute it at one input. -/
def bspHalfSpaceWrong : ChangeSpec := { name := "bspHalfSpace", fn := fun _ => fun
  | [d1, d2] => { results := [.lit (.bool false)], args := [d1, d2] }
  | _ => none }
def BspHalfSpaceWrongFalsely : Prop := bspHalfSpaceRow.holds Tryz.pinned (OpenSpec.ofChange bspHalfSpaceWrong)

/-- 'voussoirlaw10.BspFlipped': WHATEVER THE INPUT: true; the input reads as it did. -/
def bspFlippedSpec : ChangeSpec := { name := "bspFlipped", fn := fun _ => fun
  | [d1, d2] => { results := [.lit (.bool true)], args := [d1, d2] }
  | _ => none }
def bspFlippedRow : OpenClaim := { program := "ytjlfgmhmalbiiaagreatdoor", sum := "6bd0ba27a7ffe054c9803ccc0ee5a5c0db7b3c853959d3ba290cf7361eeb5e1c", func := "voussoir/voussoirlaw10.BspFlipped", spec := "bspFlipped", inPlace := ["internal/bytealg.IndexByteString", "internal/bytealg.IndexString"], unfollowed := true, recurses := true, named := ["unicode/utf8.first", "unicode/utf8.acceptRanges", "math/bits.overflowError", "internal/bytealg.MaxLen"], plainKeys := false, apart := false, laid := [("unicode/utf8.acceptRanges", laid_unicode_utf8_acceptRanges), ("unicode/utf8.first", laid_unicode_utf8_first)] }
def BspFlippedSaid : Prop := bspFlippedRow.holds Tryz.pinned (OpenSpec.ofChange bspFlippedSpec)

/-- ITS FALSE NEIGHBOUR: 'it returns false'. Refute it at one input. -/
def bspFlippedWrong : ChangeSpec := { name := "bspFlipped", fn := fun _ => fun
  | [d1, d2] => { results := [.lit (.bool false)], args := [d1, d2] }
  | _ => none }
def BspFlippedWrongFalsely : Prop := bspFlippedRow.holds Tryz.pinned (OpenSpec.ofChange bspFlippedWrong)

/-- 'voussoirlaw10.BspRegularity': WHATEVER THE INPUT: true; the input reads as it did. -/
def bspRegularitySpec : ChangeSpec := { name := "bspRegularity", fn := fun _ => fun
  | [d1, d2] => { results := [.lit (.bool true)], args := [d1, d2] }
  | _ => none }
def bspRegularityRow : OpenClaim := { program := "ytjlfgmhmalbiiaagreatdoor", sum := "6bd0ba27a7ffe054c9803ccc0ee5a5c0db7b3c853959d3ba290cf7361eeb5e1c", func := "voussoir/voussoirlaw10.BspRegularity", spec := "bspRegularity", inPlace := ["internal/bytealg.IndexByteString", "internal/bytealg.IndexString"], unfollowed := true, recurses := true, named := ["unicode/utf8.first", "unicode/utf8.acceptRanges", "math/bits.overflowError", "internal/bytealg.MaxLen"], plainKeys := false, apart := false, laid := [("unicode/utf8.acceptRanges", laid_unicode_utf8_acceptRanges), ("unicode/utf8.first", laid_unicode_utf8_first)] }
def BspRegularitySaid : Prop := bspRegularityRow.holds Tryz.pinned (OpenSpec.ofChange bspRegularitySpec)

/-- ITS FALSE NEIGHBOUR: 'it returns false'. Refute it at one input. -/
def bspRegularityWrong : ChangeSpec := { name := "bspRegularity", fn := fun _ => fun
  | [d1, d2] => { results := [.lit (.bool false)], args := [d1, d2] }
  | _ => none }
def BspRegularityWrongFalsely : Prop := bspRegularityRow.holds Tryz.pinned (OpenSpec.ofChange bspRegularityWrong)

/-- 'voussoirlaw09.CellValidity': WHATEVER THE INPUT: true; the input reads as it did. -/
def cellValiditySpec : ChangeSpec := { name := "cellValidity", fn := fun _ => fun
  | [d] => { results := [.lit (.bool true)], args := [d] }
  | _ => none }
def cellValidityRow : OpenClaim := { program := "ytjlfgmhmalbiiaagreatdoor", sum := "6bd0ba27a7ffe054c9803ccc0ee5a5c0db7b3c853959d3ba290cf7361eeb5e1c", func := "voussoir/voussoirlaw09.CellValidity", spec := "cellValidity", inPlace := ["internal/bytealg.IndexByteString", "internal/bytealg.IndexString"], unfollowed := true, recurses := true, named := ["unicode/utf8.first", "unicode/utf8.acceptRanges", "math/bits.overflowError", "internal/bytealg.MaxLen"], plainKeys := false, apart := false, laid := [("unicode/utf8.acceptRanges", laid_unicode_utf8_acceptRanges), ("unicode/utf8.first", laid_unicode_utf8_first)] }
def CellValiditySaid : Prop := cellValidityRow.holds Tryz.pinned (OpenSpec.ofChange cellValiditySpec)

/-- ITS FALSE NEIGHBOUR: 'it returns false'. Refute it at one input. -/
def cellValidityWrong : ChangeSpec := { name := "cellValidity", fn := fun _ => fun
  | [d] => { results := [.lit (.bool false)], args := [d] }
  | _ => none }
def CellValidityWrongFalsely : Prop := cellValidityRow.holds Tryz.pinned (OpenSpec.ofChange cellValidityWrong)

/-- 'voussoirlaw10.BspPlanes': WHATEVER THE INPUT: true; the input reads as it did. -/
def bspPlanesSpec : ChangeSpec := { name := "bspPlanes", fn := fun _ => fun
  | [d] => { results := [.lit (.bool true)], args := [d] }
  | _ => none }
def bspPlanesRow : OpenClaim := { program := "ytjlfgmhmalbiiaagreatdoor", sum := "6bd0ba27a7ffe054c9803ccc0ee5a5c0db7b3c853959d3ba290cf7361eeb5e1c", func := "voussoir/voussoirlaw10.BspPlanes", spec := "bspPlanes", inPlace := ["internal/bytealg.IndexByteString", "internal/bytealg.IndexString"], unfollowed := true, recurses := true, named := ["unicode/utf8.first", "unicode/utf8.acceptRanges", "math/bits.overflowError", "internal/bytealg.MaxLen"], plainKeys := false, apart := false, laid := [("unicode/utf8.acceptRanges", laid_unicode_utf8_acceptRanges), ("unicode/utf8.first", laid_unicode_utf8_first)] }
def BspPlanesSaid : Prop := bspPlanesRow.holds Tryz.pinned (OpenSpec.ofChange bspPlanesSpec)

/-- ITS FALSE NEIGHBOUR: 'it returns false'. Refute it at one input. -/
def bspPlanesWrong : ChangeSpec := { name := "bspPlanes", fn := fun _ => fun
  | [d] => { results := [.lit (.bool false)], args := [d] }
  | _ => none }
def BspPlanesWrongFalsely : Prop := bspPlanesRow.holds Tryz.pinned (OpenSpec.ofChange bspPlanesWrong)

/-- 'voussoirlaw09.CellSplitPoints': WHATEVER THE INPUT: true; the input reads as it did. -/
def cellSplitPointsSpec : ChangeSpec := { name := "cellSplitPoints", fn := fun _ => fun
  | [d1, d2, d3] => { results := [.lit (.bool true)], args := [d1, d2, d3] }
  | _ => none }
def cellSplitPointsRow : OpenClaim := { program := "ytjlfgmhmalbiiaagreatdoor", sum := "6bd0ba27a7ffe054c9803ccc0ee5a5c0db7b3c853959d3ba290cf7361eeb5e1c", func := "voussoir/voussoirlaw09.CellSplitPoints", spec := "cellSplitPoints", inPlace := ["internal/bytealg.IndexByteString", "internal/bytealg.IndexString"], unfollowed := true, recurses := true, named := ["unicode/utf8.first", "unicode/utf8.acceptRanges", "math/bits.overflowError", "internal/bytealg.MaxLen"], plainKeys := false, apart := false, laid := [("unicode/utf8.acceptRanges", laid_unicode_utf8_acceptRanges), ("unicode/utf8.first", laid_unicode_utf8_first)] }
def CellSplitPointsSaid : Prop := cellSplitPointsRow.holds Tryz.pinned (OpenSpec.ofChange cellSplitPointsSpec)

/-- ITS FALSE NEIGHBOUR: 'it returns false'. Refute it at one input. -/
def cellSplitPointsWrong : ChangeSpec := { name := "cellSplitPoints", fn := fun _ => fun
  | [d1, d2, d3] => { results := [.lit (.bool false)], args := [d1, d2, d3] }
  | _ => none }
def CellSplitPointsWrongFalsely : Prop := cellSplitPointsRow.holds Tryz.pinned (OpenSpec.ofChange cellSplitPointsWrong)

/-- 'voussoirlaw09.CellSplitting': WHATEVER THE INPUT: true; the input reads as it did. -/
def cellSplittingSpec : ChangeSpec := { name := "cellSplitting", fn := fun _ => fun
  | [d] => { results := [.lit (.bool true)], args := [d] }
  | _ => none }
def cellSplittingRow : OpenClaim := { program := "ytjlfgmhmalbiiaagreatdoor", sum := "6bd0ba27a7ffe054c9803ccc0ee5a5c0db7b3c853959d3ba290cf7361eeb5e1c", func := "voussoir/voussoirlaw09.CellSplitting", spec := "cellSplitting", inPlace := ["internal/bytealg.IndexByteString", "internal/bytealg.IndexString"], unfollowed := true, recurses := true, named := ["unicode/utf8.first", "unicode/utf8.acceptRanges", "math/bits.overflowError", "internal/bytealg.MaxLen"], plainKeys := false, apart := false, laid := [("unicode/utf8.acceptRanges", laid_unicode_utf8_acceptRanges), ("unicode/utf8.first", laid_unicode_utf8_first)] }
def CellSplittingSaid : Prop := cellSplittingRow.holds Tryz.pinned (OpenSpec.ofChange cellSplittingSpec)

/-- ITS FALSE NEIGHBOUR: 'it returns false'. Refute it at one input. -/
def cellSplittingWrong : ChangeSpec := { name := "cellSplitting", fn := fun _ => fun
  | [d] => { results := [.lit (.bool false)], args := [d] }
  | _ => none }
def CellSplittingWrongFalsely : Prop := cellSplittingRow.holds Tryz.pinned (OpenSpec.ofChange cellSplittingWrong)

/-- 'voussoirlaw10.BspVolume': WHATEVER THE INPUT: true; the input reads as it did. -/
def bspVolumeSpec : ChangeSpec := { name := "bspVolume", fn := fun _ => fun
  | [d] => { results := [.lit (.bool true)], args := [d] }
  | _ => none }
def bspVolumeRow : OpenClaim := { program := "ytjlfgmhmalbiiaagreatdoor", sum := "6bd0ba27a7ffe054c9803ccc0ee5a5c0db7b3c853959d3ba290cf7361eeb5e1c", func := "voussoir/voussoirlaw10.BspVolume", spec := "bspVolume", inPlace := ["internal/bytealg.IndexByteString", "internal/bytealg.IndexString"], unfollowed := true, recurses := true, named := ["unicode/utf8.first", "unicode/utf8.acceptRanges", "math/bits.overflowError", "internal/bytealg.MaxLen"], plainKeys := false, apart := false, laid := [("unicode/utf8.acceptRanges", laid_unicode_utf8_acceptRanges), ("unicode/utf8.first", laid_unicode_utf8_first)] }
def BspVolumeSaid : Prop := bspVolumeRow.holds Tryz.pinned (OpenSpec.ofChange bspVolumeSpec)

/-- ITS FALSE NEIGHBOUR: 'it returns false'. Refute it at one input. -/
def bspVolumeWrong : ChangeSpec := { name := "bspVolume", fn := fun _ => fun
  | [d] => { results := [.lit (.bool false)], args := [d] }
  | _ => none }
def BspVolumeWrongFalsely : Prop := bspVolumeRow.holds Tryz.pinned (OpenSpec.ofChange bspVolumeWrong)

/-- 'voussoirlaw10.BspCells': WHATEVER THE INPUT: true; the input reads as it did. -/
def bspCellsSpec : ChangeSpec := { name := "bspCells", fn := fun _ => fun
  | [d1, d2] => { results := [.lit (.bool true)], args := [d1, d2] }
  | _ => none }
def bspCellsRow : OpenClaim := { program := "ytjlfgmhmalbiiaagreatdoor", sum := "6bd0ba27a7ffe054c9803ccc0ee5a5c0db7b3c853959d3ba290cf7361eeb5e1c", func := "voussoir/voussoirlaw10.BspCells", spec := "bspCells", inPlace := ["internal/bytealg.IndexByteString", "internal/bytealg.IndexString"], unfollowed := true, recurses := true, named := ["unicode/utf8.first", "unicode/utf8.acceptRanges", "math/bits.overflowError", "internal/bytealg.MaxLen"], plainKeys := false, apart := false, laid := [("unicode/utf8.acceptRanges", laid_unicode_utf8_acceptRanges), ("unicode/utf8.first", laid_unicode_utf8_first)] }
def BspCellsSaid : Prop := bspCellsRow.holds Tryz.pinned (OpenSpec.ofChange bspCellsSpec)

/-- ITS FALSE NEIGHBOUR: 'it returns false'. Refute it at one input. -/
def bspCellsWrong : ChangeSpec := { name := "bspCells", fn := fun _ => fun
  | [d1, d2] => { results := [.lit (.bool false)], args := [d1, d2] }
  | _ => none }
def BspCellsWrongFalsely : Prop := bspCellsRow.holds Tryz.pinned (OpenSpec.ofChange bspCellsWrong)

/- THE SECOND FORM. 'bulk': how many values and letters a reading holds, each counted each time it is reached (what is shared counts as often as it is met; a slice's spare places count too). A statement '..UptoSaid' is the law's where the arguments, and the package variables that the reading takes, are together of bulk at most 1048576: NARROWER than '..Said'. Prove '..Said' where nothing that the law and all that it calls make is longer than what came in: it says more and counts as full. Else prove '..UptoSaid'. A law counts once. -/
mutual
def uptoBulk {H : Type} : DataW H → Nat
  | .lit (.string bytes) => bytes.length + 1
  | .lit _ => 1
  | .nil => 1
  | .ptr d => uptoBulk d + 1
  | .slice elems spare => uptoBulkAll elems + uptoBulkAll spare + 1
  | .agg parts => uptoBulkAll parts + 1
  | .iface _ d => uptoBulk d + 1
  | .map entries => uptoBulkEntries entries + 1
  | .held _ => 1
def uptoBulkAll {H : Type} : List (DataW H) → Nat
  | [] => 0
  | d :: r => uptoBulk d + uptoBulkAll r
def uptoBulkEntries {H : Type} : List (Lit × DataW H) → Nat
  | [] => 0
  | x :: r => uptoBulkEntry x + uptoBulkEntries r
def uptoBulkEntry {H : Type} : Lit × DataW H → Nat
  | (.string bytes, d) => bytes.length + uptoBulk d + 1
  | (_, d) => uptoBulk d + 1
 end
def uptoSmall : (H : Type) → List (DataW H) → Bool := fun _ ds => decide (uptoBulkAll ds ≤ 1048576)
def OpenSpec.upto (s : _root_.Go.ChangeSpec) : _root_.Go.OpenSpec := { _root_.Go.OpenSpec.ofChange s with cond := some uptoSmall }

/-- 'voussoirlaw09.CellSplitVolumes', WHERE WHAT IT READS IS OF BULK AT MOST 1048576: true; the input reads as it did. -/
def cellSplitVolumesUptoRow : OpenClaim := { program := "ytjlfgmhmalbiiaagreatdoor", sum := "6bd0ba27a7ffe054c9803ccc0ee5a5c0db7b3c853959d3ba290cf7361eeb5e1c", func := "voussoir/voussoirlaw09.CellSplitVolumes", spec := "cellSplitVolumes", inPlace := ["internal/bytealg.IndexByteString", "internal/bytealg.IndexString"], unfollowed := true, recurses := true, named := ["unicode/utf8.first", "unicode/utf8.acceptRanges", "math/bits.overflowError", "internal/bytealg.MaxLen"], plainKeys := false, apart := false, laid := [("unicode/utf8.acceptRanges", laid_unicode_utf8_acceptRanges), ("unicode/utf8.first", laid_unicode_utf8_first)], narrowed := true }
def CellSplitVolumesUptoSaid : Prop := cellSplitVolumesUptoRow.holds Tryz.pinned (OpenSpec.upto cellSplitVolumesSpec)

/-- 'voussoirlaw09.CellSplitOrder', WHERE WHAT IT READS IS OF BULK AT MOST 1048576: true; the input reads as it did. -/
def cellSplitOrderUptoRow : OpenClaim := { program := "ytjlfgmhmalbiiaagreatdoor", sum := "6bd0ba27a7ffe054c9803ccc0ee5a5c0db7b3c853959d3ba290cf7361eeb5e1c", func := "voussoir/voussoirlaw09.CellSplitOrder", spec := "cellSplitOrder", inPlace := ["internal/bytealg.IndexByteString", "internal/bytealg.IndexString"], unfollowed := true, recurses := true, named := ["unicode/utf8.first", "unicode/utf8.acceptRanges", "math/bits.overflowError", "internal/bytealg.MaxLen"], plainKeys := false, apart := false, laid := [("unicode/utf8.acceptRanges", laid_unicode_utf8_acceptRanges), ("unicode/utf8.first", laid_unicode_utf8_first)], narrowed := true }
def CellSplitOrderUptoSaid : Prop := cellSplitOrderUptoRow.holds Tryz.pinned (OpenSpec.upto cellSplitOrderSpec)

/-- 'voussoirlaw09.CellClassification', WHERE WHAT IT READS IS OF BULK AT MOST 1048576: true; the input reads as it did. -/
def cellClassificationUptoRow : OpenClaim := { program := "ytjlfgmhmalbiiaagreatdoor", sum := "6bd0ba27a7ffe054c9803ccc0ee5a5c0db7b3c853959d3ba290cf7361eeb5e1c", func := "voussoir/voussoirlaw09.CellClassification", spec := "cellClassification", inPlace := ["internal/bytealg.IndexByteString", "internal/bytealg.IndexString"], unfollowed := true, recurses := true, named := ["unicode/utf8.first", "unicode/utf8.acceptRanges", "math/bits.overflowError", "internal/bytealg.MaxLen"], plainKeys := false, apart := false, laid := [("unicode/utf8.acceptRanges", laid_unicode_utf8_acceptRanges), ("unicode/utf8.first", laid_unicode_utf8_first)], narrowed := true }
def CellClassificationUptoSaid : Prop := cellClassificationUptoRow.holds Tryz.pinned (OpenSpec.upto cellClassificationSpec)

/-- 'voussoirlaw09.CellVertices', WHERE WHAT IT READS IS OF BULK AT MOST 1048576: true; the input reads as it did. -/
def cellVerticesUptoRow : OpenClaim := { program := "ytjlfgmhmalbiiaagreatdoor", sum := "6bd0ba27a7ffe054c9803ccc0ee5a5c0db7b3c853959d3ba290cf7361eeb5e1c", func := "voussoir/voussoirlaw09.CellVertices", spec := "cellVertices", inPlace := ["internal/bytealg.IndexByteString", "internal/bytealg.IndexString"], unfollowed := true, recurses := true, named := ["unicode/utf8.first", "unicode/utf8.acceptRanges", "math/bits.overflowError", "internal/bytealg.MaxLen"], plainKeys := false, apart := false, laid := [("unicode/utf8.acceptRanges", laid_unicode_utf8_acceptRanges), ("unicode/utf8.first", laid_unicode_utf8_first)], narrowed := true }
def CellVerticesUptoSaid : Prop := cellVerticesUptoRow.holds Tryz.pinned (OpenSpec.upto cellVerticesSpec)

/-- 'voussoirlaw10.BspValidity', WHERE WHAT IT READS IS OF BULK AT MOST 1048576: true; the input reads as it did. -/
def bspValidityUptoRow : OpenClaim := { program := "ytjlfgmhmalbiiaagreatdoor", sum := "6bd0ba27a7ffe054c9803ccc0ee5a5c0db7b3c853959d3ba290cf7361eeb5e1c", func := "voussoir/voussoirlaw10.BspValidity", spec := "bspValidity", inPlace := ["internal/bytealg.IndexByteString", "internal/bytealg.IndexString"], unfollowed := true, recurses := true, named := ["unicode/utf8.first", "unicode/utf8.acceptRanges", "math/bits.overflowError", "internal/bytealg.MaxLen"], plainKeys := false, apart := false, laid := [("unicode/utf8.acceptRanges", laid_unicode_utf8_acceptRanges), ("unicode/utf8.first", laid_unicode_utf8_first)], narrowed := true }
def BspValidityUptoSaid : Prop := bspValidityUptoRow.holds Tryz.pinned (OpenSpec.upto bspValiditySpec)

/-- 'voussoirlaw10.BspClassification', WHERE WHAT IT READS IS OF BULK AT MOST 1048576: true; the input reads as it did. -/
def bspClassificationUptoRow : OpenClaim := { program := "ytjlfgmhmalbiiaagreatdoor", sum := "6bd0ba27a7ffe054c9803ccc0ee5a5c0db7b3c853959d3ba290cf7361eeb5e1c", func := "voussoir/voussoirlaw10.BspClassification", spec := "bspClassification", inPlace := ["internal/bytealg.IndexByteString", "internal/bytealg.IndexString"], unfollowed := true, recurses := true, named := ["unicode/utf8.first", "unicode/utf8.acceptRanges", "math/bits.overflowError", "internal/bytealg.MaxLen"], plainKeys := false, apart := false, laid := [("unicode/utf8.acceptRanges", laid_unicode_utf8_acceptRanges), ("unicode/utf8.first", laid_unicode_utf8_first)], narrowed := true }
def BspClassificationUptoSaid : Prop := bspClassificationUptoRow.holds Tryz.pinned (OpenSpec.upto bspClassificationSpec)

/-- 'voussoirlaw10.BspHalfSpace', WHERE WHAT IT READS IS OF BULK AT MOST 1048576: true; the input reads as it did. -/
def bspHalfSpaceUptoRow : OpenClaim := { program := "ytjlfgmhmalbiiaagreatdoor", sum := "6bd0ba27a7ffe054c9803ccc0ee5a5c0db7b3c853959d3ba290cf7361eeb5e1c", func := "voussoir/voussoirlaw10.BspHalfSpace", spec := "bspHalfSpace", inPlace := ["internal/bytealg.IndexByteString", "internal/bytealg.IndexString"], unfollowed := true, recurses := true, named := ["unicode/utf8.first", "unicode/utf8.acceptRanges", "math/bits.overflowError", "internal/bytealg.MaxLen"], plainKeys := false, apart := false, laid := [("unicode/utf8.acceptRanges", laid_unicode_utf8_acceptRanges), ("unicode/utf8.first", laid_unicode_utf8_first)], narrowed := true }
def BspHalfSpaceUptoSaid : Prop := bspHalfSpaceUptoRow.holds Tryz.pinned (OpenSpec.upto bspHalfSpaceSpec)

/-- 'voussoirlaw10.BspFlipped', WHERE WHAT IT READS IS OF BULK AT MOST 1048576: true; the input reads as it did. -/
def bspFlippedUptoRow : OpenClaim := { program := "ytjlfgmhmalbiiaagreatdoor", sum := "6bd0ba27a7ffe054c9803ccc0ee5a5c0db7b3c853959d3ba290cf7361eeb5e1c", func := "voussoir/voussoirlaw10.BspFlipped", spec := "bspFlipped", inPlace := ["internal/bytealg.IndexByteString", "internal/bytealg.IndexString"], unfollowed := true, recurses := true, named := ["unicode/utf8.first", "unicode/utf8.acceptRanges", "math/bits.overflowError", "internal/bytealg.MaxLen"], plainKeys := false, apart := false, laid := [("unicode/utf8.acceptRanges", laid_unicode_utf8_acceptRanges), ("unicode/utf8.first", laid_unicode_utf8_first)], narrowed := true }
def BspFlippedUptoSaid : Prop := bspFlippedUptoRow.holds Tryz.pinned (OpenSpec.upto bspFlippedSpec)

/-- 'voussoirlaw10.BspRegularity', WHERE WHAT IT READS IS OF BULK AT MOST 1048576: true; the input reads as it did. -/
def bspRegularityUptoRow : OpenClaim := { program := "ytjlfgmhmalbiiaagreatdoor", sum := "6bd0ba27a7ffe054c9803ccc0ee5a5c0db7b3c853959d3ba290cf7361eeb5e1c", func := "voussoir/voussoirlaw10.BspRegularity", spec := "bspRegularity", inPlace := ["internal/bytealg.IndexByteString", "internal/bytealg.IndexString"], unfollowed := true, recurses := true, named := ["unicode/utf8.first", "unicode/utf8.acceptRanges", "math/bits.overflowError", "internal/bytealg.MaxLen"], plainKeys := false, apart := false, laid := [("unicode/utf8.acceptRanges", laid_unicode_utf8_acceptRanges), ("unicode/utf8.first", laid_unicode_utf8_first)], narrowed := true }
def BspRegularityUptoSaid : Prop := bspRegularityUptoRow.holds Tryz.pinned (OpenSpec.upto bspRegularitySpec)

/-- 'voussoirlaw09.CellValidity', WHERE WHAT IT READS IS OF BULK AT MOST 1048576: true; the input reads as it did. -/
def cellValidityUptoRow : OpenClaim := { program := "ytjlfgmhmalbiiaagreatdoor", sum := "6bd0ba27a7ffe054c9803ccc0ee5a5c0db7b3c853959d3ba290cf7361eeb5e1c", func := "voussoir/voussoirlaw09.CellValidity", spec := "cellValidity", inPlace := ["internal/bytealg.IndexByteString", "internal/bytealg.IndexString"], unfollowed := true, recurses := true, named := ["unicode/utf8.first", "unicode/utf8.acceptRanges", "math/bits.overflowError", "internal/bytealg.MaxLen"], plainKeys := false, apart := false, laid := [("unicode/utf8.acceptRanges", laid_unicode_utf8_acceptRanges), ("unicode/utf8.first", laid_unicode_utf8_first)], narrowed := true }
def CellValidityUptoSaid : Prop := cellValidityUptoRow.holds Tryz.pinned (OpenSpec.upto cellValiditySpec)

/-- 'voussoirlaw10.BspPlanes', WHERE WHAT IT READS IS OF BULK AT MOST 1048576: true; the input reads as it did. -/
def bspPlanesUptoRow : OpenClaim := { program := "ytjlfgmhmalbiiaagreatdoor", sum := "6bd0ba27a7ffe054c9803ccc0ee5a5c0db7b3c853959d3ba290cf7361eeb5e1c", func := "voussoir/voussoirlaw10.BspPlanes", spec := "bspPlanes", inPlace := ["internal/bytealg.IndexByteString", "internal/bytealg.IndexString"], unfollowed := true, recurses := true, named := ["unicode/utf8.first", "unicode/utf8.acceptRanges", "math/bits.overflowError", "internal/bytealg.MaxLen"], plainKeys := false, apart := false, laid := [("unicode/utf8.acceptRanges", laid_unicode_utf8_acceptRanges), ("unicode/utf8.first", laid_unicode_utf8_first)], narrowed := true }
def BspPlanesUptoSaid : Prop := bspPlanesUptoRow.holds Tryz.pinned (OpenSpec.upto bspPlanesSpec)

/-- 'voussoirlaw09.CellSplitPoints', WHERE WHAT IT READS IS OF BULK AT MOST 1048576: true; the input reads as it did. -/
def cellSplitPointsUptoRow : OpenClaim := { program := "ytjlfgmhmalbiiaagreatdoor", sum := "6bd0ba27a7ffe054c9803ccc0ee5a5c0db7b3c853959d3ba290cf7361eeb5e1c", func := "voussoir/voussoirlaw09.CellSplitPoints", spec := "cellSplitPoints", inPlace := ["internal/bytealg.IndexByteString", "internal/bytealg.IndexString"], unfollowed := true, recurses := true, named := ["unicode/utf8.first", "unicode/utf8.acceptRanges", "math/bits.overflowError", "internal/bytealg.MaxLen"], plainKeys := false, apart := false, laid := [("unicode/utf8.acceptRanges", laid_unicode_utf8_acceptRanges), ("unicode/utf8.first", laid_unicode_utf8_first)], narrowed := true }
def CellSplitPointsUptoSaid : Prop := cellSplitPointsUptoRow.holds Tryz.pinned (OpenSpec.upto cellSplitPointsSpec)

/-- 'voussoirlaw09.CellSplitting', WHERE WHAT IT READS IS OF BULK AT MOST 1048576: true; the input reads as it did. -/
def cellSplittingUptoRow : OpenClaim := { program := "ytjlfgmhmalbiiaagreatdoor", sum := "6bd0ba27a7ffe054c9803ccc0ee5a5c0db7b3c853959d3ba290cf7361eeb5e1c", func := "voussoir/voussoirlaw09.CellSplitting", spec := "cellSplitting", inPlace := ["internal/bytealg.IndexByteString", "internal/bytealg.IndexString"], unfollowed := true, recurses := true, named := ["unicode/utf8.first", "unicode/utf8.acceptRanges", "math/bits.overflowError", "internal/bytealg.MaxLen"], plainKeys := false, apart := false, laid := [("unicode/utf8.acceptRanges", laid_unicode_utf8_acceptRanges), ("unicode/utf8.first", laid_unicode_utf8_first)], narrowed := true }
def CellSplittingUptoSaid : Prop := cellSplittingUptoRow.holds Tryz.pinned (OpenSpec.upto cellSplittingSpec)

/-- 'voussoirlaw10.BspVolume', WHERE WHAT IT READS IS OF BULK AT MOST 1048576: true; the input reads as it did. -/
def bspVolumeUptoRow : OpenClaim := { program := "ytjlfgmhmalbiiaagreatdoor", sum := "6bd0ba27a7ffe054c9803ccc0ee5a5c0db7b3c853959d3ba290cf7361eeb5e1c", func := "voussoir/voussoirlaw10.BspVolume", spec := "bspVolume", inPlace := ["internal/bytealg.IndexByteString", "internal/bytealg.IndexString"], unfollowed := true, recurses := true, named := ["unicode/utf8.first", "unicode/utf8.acceptRanges", "math/bits.overflowError", "internal/bytealg.MaxLen"], plainKeys := false, apart := false, laid := [("unicode/utf8.acceptRanges", laid_unicode_utf8_acceptRanges), ("unicode/utf8.first", laid_unicode_utf8_first)], narrowed := true }
def BspVolumeUptoSaid : Prop := bspVolumeUptoRow.holds Tryz.pinned (OpenSpec.upto bspVolumeSpec)

/-- 'voussoirlaw10.BspCells', WHERE WHAT IT READS IS OF BULK AT MOST 1048576: true; the input reads as it did. -/
def bspCellsUptoRow : OpenClaim := { program := "ytjlfgmhmalbiiaagreatdoor", sum := "6bd0ba27a7ffe054c9803ccc0ee5a5c0db7b3c853959d3ba290cf7361eeb5e1c", func := "voussoir/voussoirlaw10.BspCells", spec := "bspCells", inPlace := ["internal/bytealg.IndexByteString", "internal/bytealg.IndexString"], unfollowed := true, recurses := true, named := ["unicode/utf8.first", "unicode/utf8.acceptRanges", "math/bits.overflowError", "internal/bytealg.MaxLen"], plainKeys := false, apart := false, laid := [("unicode/utf8.acceptRanges", laid_unicode_utf8_acceptRanges), ("unicode/utf8.first", laid_unicode_utf8_first)], narrowed := true }
def BspCellsUptoSaid : Prop := bspCellsUptoRow.holds Tryz.pinned (OpenSpec.upto bspCellsSpec)

end Rows
end Go.Proofs.YtjlfgmhmalbiiaaGreatDoor
