/-
  DERIVED. GIVEN WITH THE SEED: THE CARDS: each row of YtjoonfegjobgbaaGreatDoorRows.lean that lists a variable, with what it lists TIED to the program's text (the seventh form; the later family's looks); each row that meets fmt, with fmt's text TOLD by the authors' own Lean function (tested against real Go, not proved from fmt's source: count such statements apart). THE CARD IS WHAT COUNTS. Prove the row's statement (the work); the ties are given (YtjoonfegjobgbaaGreatDoorTie.lean); close each card by the builder's one call (the guide's Derived/Test/ToyasCard.lean, 'card_holds'). Laid BY PROGRAM, IN A SANDBOX (cutbox-door.mjs). By AI agents, Wed Nov 11 2026. No macro, syntax, notation, axiom, sorry.
-/
import Derived.Test.YtjoonfegjobgbaaGreatDoorRows
import GoSem.ClaimSeven
namespace Go.Proofs.YtjoonfegjobgbaaGreatDoor
namespace Rows

/-- THE TIED CARD OF 'slackwaterlaw03.RatioField'. -/
def ratioFieldCard : Claim7 := { stood := { row := ratioFieldRow, standIns := [], harness := (true, "a5f7933bf5ed4971141a24428d3e9c517af3e008dad7c32cc612c47e415c1851"), looks := true }, kinds := [], alts := [], laidByText := true, laidKinds := [.data, .data, .data, .data, .sentinel, .sentinel, .pinned], laidTests := true, laidLooks := .later }
def RatioFieldCardSaid : Prop := Claim7.holds Tryz.pinned (.plain (OpenSpec.ofChange ratioFieldSpec)) ratioFieldCard

/-- THE TIED CARD OF 'slackwaterlaw03.RatioOrder'. -/
def ratioOrderCard : Claim7 := { stood := { row := ratioOrderRow, standIns := [], harness := (true, "a5f7933bf5ed4971141a24428d3e9c517af3e008dad7c32cc612c47e415c1851"), looks := true }, kinds := [], alts := [], laidByText := true, laidKinds := [.data, .data, .data, .data, .sentinel, .sentinel, .pinned], laidTests := true, laidLooks := .later }
def RatioOrderCardSaid : Prop := Claim7.holds Tryz.pinned (.plain (OpenSpec.ofChange ratioOrderSpec)) ratioOrderCard

/-- THE TIED CARD OF 'slackwaterlaw24.InferWhole'. -/
def inferWholeCard : Claim7 := { stood := { row := inferWholeRow, standIns := [], harness := (true, "a5f7933bf5ed4971141a24428d3e9c517af3e008dad7c32cc612c47e415c1851"), looks := true }, kinds := [], alts := [], laidByText := true, laidKinds := [.data, .data, .data, .data, .sentinel, .sentinel, .pinned], laidTests := true, laidLooks := .later }
def InferWholeCardSaid : Prop := Claim7.holds Tryz.pinned (.plain (OpenSpec.ofChange inferWholeSpec)) inferWholeCard

/-- THE TIED CARD OF 'slackwaterlaw24.InferParts'. -/
def inferPartsCard : Claim7 := { stood := { row := inferPartsRow, standIns := [], harness := (true, "a5f7933bf5ed4971141a24428d3e9c517af3e008dad7c32cc612c47e415c1851"), looks := true }, kinds := [], alts := [], laidByText := true, laidKinds := [.data, .data, .data, .data, .sentinel, .sentinel, .pinned], laidTests := true, laidLooks := .later }
def InferPartsCardSaid : Prop := Claim7.holds Tryz.pinned (.plain (OpenSpec.ofChange inferPartsSpec)) inferPartsCard

/-- THE TIED CARD OF 'slackwaterlaw04.GaussTexts'. -/
def gaussTextsCard : Claim7 := { stood := { row := gaussTextsRow, standIns := [], harness := (true, "a5f7933bf5ed4971141a24428d3e9c517af3e008dad7c32cc612c47e415c1851"), looks := true }, kinds := [], alts := [], laidByText := true, laidKinds := [.data, .data, .data, .data, .sentinel, .sentinel, .pinned], laidTests := true, laidLooks := .later }
def GaussTextsCardSaid : Prop := Claim7.holds Tryz.pinned (.plain (OpenSpec.ofChange gaussTextsSpec)) gaussTextsCard

/-- THE TIED CARD OF 'slackwaterlaw04.GaussBack'. -/
def gaussBackCard : Claim7 := { stood := { row := gaussBackRow, standIns := [], harness := (true, "a5f7933bf5ed4971141a24428d3e9c517af3e008dad7c32cc612c47e415c1851"), looks := true }, kinds := [], alts := [], laidByText := true, laidKinds := [.data, .data, .data, .data, .sentinel, .sentinel, .pinned], laidTests := true, laidLooks := .later }
def GaussBackCardSaid : Prop := Claim7.holds Tryz.pinned (.plain (OpenSpec.ofChange gaussBackSpec)) gaussBackCard

/-- THE TIED CARD OF 'slackwaterlaw04.GaussKnown'. -/
def gaussKnownCard : Claim7 := { stood := { row := gaussKnownRow, standIns := [], harness := (true, "a5f7933bf5ed4971141a24428d3e9c517af3e008dad7c32cc612c47e415c1851"), looks := true }, kinds := [], alts := [], laidByText := true, laidKinds := [.data, .data, .data, .data, .sentinel, .sentinel, .pinned], laidTests := true, laidLooks := .later }
def GaussKnownCardSaid : Prop := Claim7.holds Tryz.pinned (.plain (OpenSpec.ofChange gaussKnownSpec)) gaussKnownCard

/-- THE TIED CARD OF 'slackwaterlaw13.TideTexts'. -/
def tideTextsCard : Claim7 := { stood := { row := tideTextsRow, standIns := [], harness := (true, "a5f7933bf5ed4971141a24428d3e9c517af3e008dad7c32cc612c47e415c1851"), looks := true }, kinds := [], alts := [], laidByText := true, laidKinds := [.data, .data, .data, .data, .sentinel, .sentinel, .pinned], laidTests := true, laidLooks := .later }
def TideTextsCardSaid : Prop := Claim7.holds Tryz.pinned (.plain (OpenSpec.ofChange tideTextsSpec)) tideTextsCard

/-- THE TIED CARD OF 'slackwaterlaw13.TideBack'. -/
def tideBackCard : Claim7 := { stood := { row := tideBackRow, standIns := [], harness := (true, "a5f7933bf5ed4971141a24428d3e9c517af3e008dad7c32cc612c47e415c1851"), looks := true }, kinds := [], alts := [], laidByText := true, laidKinds := [.data, .data, .data, .data, .sentinel, .sentinel, .pinned], laidTests := true, laidLooks := .later }
def TideBackCardSaid : Prop := Claim7.holds Tryz.pinned (.plain (OpenSpec.ofChange tideBackSpec)) tideBackCard

/-- THE TIED CARD OF 'slackwaterlaw13.TideKnown'. -/
def tideKnownCard : Claim7 := { stood := { row := tideKnownRow, standIns := [], harness := (true, "a5f7933bf5ed4971141a24428d3e9c517af3e008dad7c32cc612c47e415c1851"), looks := true }, kinds := [], alts := [], laidByText := true, laidKinds := [.data, .data, .data, .data, .sentinel, .sentinel, .pinned], laidTests := true, laidLooks := .later }
def TideKnownCardSaid : Prop := Claim7.holds Tryz.pinned (.plain (OpenSpec.ofChange tideKnownSpec)) tideKnownCard

/-- THE SECOND FORM's CARD OF 'slackwaterlaw03.RatioField'. -/
def ratioFieldUptoCard : Claim7 := { stood := { row := ratioFieldUptoRow, standIns := [], harness := (true, "a5f7933bf5ed4971141a24428d3e9c517af3e008dad7c32cc612c47e415c1851"), looks := true }, kinds := [], alts := [], laidByText := true, laidKinds := [.data, .data, .data, .data, .sentinel, .sentinel, .pinned], laidTests := true, laidLooks := .later }
def RatioFieldUptoCardSaid : Prop := Claim7.holds Tryz.pinned (.plain (OpenSpec.upto ratioFieldSpec)) ratioFieldUptoCard

/-- THE SECOND FORM's CARD OF 'slackwaterlaw03.RatioOrder'. -/
def ratioOrderUptoCard : Claim7 := { stood := { row := ratioOrderUptoRow, standIns := [], harness := (true, "a5f7933bf5ed4971141a24428d3e9c517af3e008dad7c32cc612c47e415c1851"), looks := true }, kinds := [], alts := [], laidByText := true, laidKinds := [.data, .data, .data, .data, .sentinel, .sentinel, .pinned], laidTests := true, laidLooks := .later }
def RatioOrderUptoCardSaid : Prop := Claim7.holds Tryz.pinned (.plain (OpenSpec.upto ratioOrderSpec)) ratioOrderUptoCard

/-- THE SECOND FORM's CARD OF 'slackwaterlaw24.InferWhole'. -/
def inferWholeUptoCard : Claim7 := { stood := { row := inferWholeUptoRow, standIns := [], harness := (true, "a5f7933bf5ed4971141a24428d3e9c517af3e008dad7c32cc612c47e415c1851"), looks := true }, kinds := [], alts := [], laidByText := true, laidKinds := [.data, .data, .data, .data, .sentinel, .sentinel, .pinned], laidTests := true, laidLooks := .later }
def InferWholeUptoCardSaid : Prop := Claim7.holds Tryz.pinned (.plain (OpenSpec.upto inferWholeSpec)) inferWholeUptoCard

/-- THE SECOND FORM's CARD OF 'slackwaterlaw24.InferParts'. -/
def inferPartsUptoCard : Claim7 := { stood := { row := inferPartsUptoRow, standIns := [], harness := (true, "a5f7933bf5ed4971141a24428d3e9c517af3e008dad7c32cc612c47e415c1851"), looks := true }, kinds := [], alts := [], laidByText := true, laidKinds := [.data, .data, .data, .data, .sentinel, .sentinel, .pinned], laidTests := true, laidLooks := .later }
def InferPartsUptoCardSaid : Prop := Claim7.holds Tryz.pinned (.plain (OpenSpec.upto inferPartsSpec)) inferPartsUptoCard

/-- THE SECOND FORM's CARD OF 'slackwaterlaw04.GaussTexts'. -/
def gaussTextsUptoCard : Claim7 := { stood := { row := gaussTextsUptoRow, standIns := [], harness := (true, "a5f7933bf5ed4971141a24428d3e9c517af3e008dad7c32cc612c47e415c1851"), looks := true }, kinds := [], alts := [], laidByText := true, laidKinds := [.data, .data, .data, .data, .sentinel, .sentinel, .pinned], laidTests := true, laidLooks := .later }
def GaussTextsUptoCardSaid : Prop := Claim7.holds Tryz.pinned (.plain (OpenSpec.upto gaussTextsSpec)) gaussTextsUptoCard

/-- THE SECOND FORM's CARD OF 'slackwaterlaw04.GaussBack'. -/
def gaussBackUptoCard : Claim7 := { stood := { row := gaussBackUptoRow, standIns := [], harness := (true, "a5f7933bf5ed4971141a24428d3e9c517af3e008dad7c32cc612c47e415c1851"), looks := true }, kinds := [], alts := [], laidByText := true, laidKinds := [.data, .data, .data, .data, .sentinel, .sentinel, .pinned], laidTests := true, laidLooks := .later }
def GaussBackUptoCardSaid : Prop := Claim7.holds Tryz.pinned (.plain (OpenSpec.upto gaussBackSpec)) gaussBackUptoCard

/-- THE SECOND FORM's CARD OF 'slackwaterlaw04.GaussKnown'. -/
def gaussKnownUptoCard : Claim7 := { stood := { row := gaussKnownUptoRow, standIns := [], harness := (true, "a5f7933bf5ed4971141a24428d3e9c517af3e008dad7c32cc612c47e415c1851"), looks := true }, kinds := [], alts := [], laidByText := true, laidKinds := [.data, .data, .data, .data, .sentinel, .sentinel, .pinned], laidTests := true, laidLooks := .later }
def GaussKnownUptoCardSaid : Prop := Claim7.holds Tryz.pinned (.plain (OpenSpec.upto gaussKnownSpec)) gaussKnownUptoCard

/-- THE SECOND FORM's CARD OF 'slackwaterlaw13.TideTexts'. -/
def tideTextsUptoCard : Claim7 := { stood := { row := tideTextsUptoRow, standIns := [], harness := (true, "a5f7933bf5ed4971141a24428d3e9c517af3e008dad7c32cc612c47e415c1851"), looks := true }, kinds := [], alts := [], laidByText := true, laidKinds := [.data, .data, .data, .data, .sentinel, .sentinel, .pinned], laidTests := true, laidLooks := .later }
def TideTextsUptoCardSaid : Prop := Claim7.holds Tryz.pinned (.plain (OpenSpec.upto tideTextsSpec)) tideTextsUptoCard

/-- THE SECOND FORM's CARD OF 'slackwaterlaw13.TideBack'. -/
def tideBackUptoCard : Claim7 := { stood := { row := tideBackUptoRow, standIns := [], harness := (true, "a5f7933bf5ed4971141a24428d3e9c517af3e008dad7c32cc612c47e415c1851"), looks := true }, kinds := [], alts := [], laidByText := true, laidKinds := [.data, .data, .data, .data, .sentinel, .sentinel, .pinned], laidTests := true, laidLooks := .later }
def TideBackUptoCardSaid : Prop := Claim7.holds Tryz.pinned (.plain (OpenSpec.upto tideBackSpec)) tideBackUptoCard

/-- THE SECOND FORM's CARD OF 'slackwaterlaw13.TideKnown'. -/
def tideKnownUptoCard : Claim7 := { stood := { row := tideKnownUptoRow, standIns := [], harness := (true, "a5f7933bf5ed4971141a24428d3e9c517af3e008dad7c32cc612c47e415c1851"), looks := true }, kinds := [], alts := [], laidByText := true, laidKinds := [.data, .data, .data, .data, .sentinel, .sentinel, .pinned], laidTests := true, laidLooks := .later }
def TideKnownUptoCardSaid : Prop := Claim7.holds Tryz.pinned (.plain (OpenSpec.upto tideKnownSpec)) tideKnownUptoCard
end Rows
end Go.Proofs.YtjoonfegjobgbaaGreatDoor
