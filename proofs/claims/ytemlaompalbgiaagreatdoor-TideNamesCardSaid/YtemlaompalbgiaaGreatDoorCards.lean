/-
  DERIVED. GIVEN WITH THE SEED: THE CARDS: each row of YtemlaompalbgiaaGreatDoorRows.lean that lists a variable, with what it lists TIED to the program's text (the seventh form; the later family's looks); each row that meets fmt, with fmt's text TOLD by the authors' own Lean function (tested against real Go, not proved from fmt's source: count such statements apart). THE CARD IS WHAT COUNTS. Prove the row's statement (the work); the ties are given (YtemlaompalbgiaaGreatDoorTie.lean); close each card by the builder's one call (the guide's Derived/Test/ToyasCard.lean, 'card_holds'). Laid BY PROGRAM, IN A SANDBOX (cutbox-door.mjs). By AI agents, Wed Nov 11 2026. No macro, syntax, notation, axiom, sorry.
-/
import Derived.Test.YtemlaompalbgiaaGreatDoorRows
import GoSem.ClaimSeven
namespace Go.Proofs.YtemlaompalbgiaaGreatDoor
namespace Rows

/-- THE TIED CARD OF 'slackwaterlaw15.ExactNames'. -/
def exactNamesCard : Claim7 := { stood := { row := exactNamesRow, standIns := [], harness := (true, "05a1859375b30b081f981c0e49b8b1657ba40693999192a16e8a08265a0dbd36"), looks := true }, kinds := [], alts := [], laidByText := true, laidKinds := [.data, .data, .data, .data, .sentinel, .sentinel, .pinned], laidTests := true, laidLooks := .later }
def ExactNamesCardSaid : Prop := Claim7.holds Tryz.pinned (.plain (OpenSpec.ofChange exactNamesSpec)) exactNamesCard

/-- THE TIED CARD OF 'slackwaterlaw24.InferApplies'. -/
def inferAppliesCard : Claim7 := { stood := { row := inferAppliesRow, standIns := [], harness := (true, "05a1859375b30b081f981c0e49b8b1657ba40693999192a16e8a08265a0dbd36"), looks := true }, kinds := [], alts := [], laidByText := true, laidKinds := [.data, .data, .data, .data, .sentinel, .sentinel, .pinned], laidTests := true, laidLooks := .later }
def InferAppliesCardSaid : Prop := Claim7.holds Tryz.pinned (.plain (OpenSpec.ofChange inferAppliesSpec)) inferAppliesCard

/-- THE TIED CARD OF 'slackwaterlaw24.InferKeeps'. -/
def inferKeepsCard : Claim7 := { stood := { row := inferKeepsRow, standIns := [], harness := (true, "05a1859375b30b081f981c0e49b8b1657ba40693999192a16e8a08265a0dbd36"), looks := true }, kinds := [], alts := [], laidByText := true, laidKinds := [.data, .data, .data, .data, .sentinel, .sentinel, .pinned], laidTests := true, laidLooks := .later }
def InferKeepsCardSaid : Prop := Claim7.holds Tryz.pinned (.plain (OpenSpec.ofChange inferKeepsSpec)) inferKeepsCard

/-- THE TIED CARD OF 'slackwaterlaw24.InferNames'. -/
def inferNamesCard : Claim7 := { stood := { row := inferNamesRow, standIns := [], harness := (true, "05a1859375b30b081f981c0e49b8b1657ba40693999192a16e8a08265a0dbd36"), looks := true }, kinds := [], alts := [], laidByText := true, laidKinds := [.data, .data, .data, .data, .sentinel, .sentinel, .pinned], laidTests := true, laidLooks := .later }
def InferNamesCardSaid : Prop := Claim7.holds Tryz.pinned (.plain (OpenSpec.ofChange inferNamesSpec)) inferNamesCard

/-- THE TIED CARD OF 'slackwaterlaw13.TideNames'. -/
def tideNamesCard : Claim7 := { stood := { row := tideNamesRow, standIns := [], harness := (true, "05a1859375b30b081f981c0e49b8b1657ba40693999192a16e8a08265a0dbd36"), looks := true }, kinds := [], alts := [], laidByText := true, laidKinds := [.data, .data, .data, .data, .sentinel, .sentinel, .pinned], laidTests := true, laidLooks := .later }
def TideNamesCardSaid : Prop := Claim7.holds Tryz.pinned (.plain (OpenSpec.ofChange tideNamesSpec)) tideNamesCard

/-- THE TIED CARD OF 'slackwaterlaw03.RatioTexts'. -/
def ratioTextsCard : Claim7 := { stood := { row := ratioTextsRow, standIns := [], harness := (true, "05a1859375b30b081f981c0e49b8b1657ba40693999192a16e8a08265a0dbd36"), looks := true }, kinds := [], alts := [], laidByText := true, laidKinds := [.data, .data, .data, .data, .sentinel, .sentinel, .pinned], laidTests := true, laidLooks := .later }
def RatioTextsCardSaid : Prop := Claim7.holds Tryz.pinned (.plain (OpenSpec.ofChange ratioTextsSpec)) ratioTextsCard

/-- THE TIED CARD OF 'slackwaterlaw03.RatioBack'. -/
def ratioBackCard : Claim7 := { stood := { row := ratioBackRow, standIns := [], harness := (true, "05a1859375b30b081f981c0e49b8b1657ba40693999192a16e8a08265a0dbd36"), looks := true }, kinds := [], alts := [], laidByText := true, laidKinds := [.data, .data, .data, .data, .sentinel, .sentinel, .pinned], laidTests := true, laidLooks := .later }
def RatioBackCardSaid : Prop := Claim7.holds Tryz.pinned (.plain (OpenSpec.ofChange ratioBackSpec)) ratioBackCard

/-- THE TIED CARD OF 'slackwaterlaw03.RatioNames'. -/
def ratioNamesCard : Claim7 := { stood := { row := ratioNamesRow, standIns := [], harness := (true, "05a1859375b30b081f981c0e49b8b1657ba40693999192a16e8a08265a0dbd36"), looks := true }, kinds := [], alts := [], laidByText := true, laidKinds := [.data, .data, .data, .data, .sentinel, .sentinel, .pinned], laidTests := true, laidLooks := .later }
def RatioNamesCardSaid : Prop := Claim7.holds Tryz.pinned (.plain (OpenSpec.ofChange ratioNamesSpec)) ratioNamesCard

/-- THE TIED CARD OF 'slackwaterlaw14.PortMoves'. -/
def portMovesCard : Claim7 := { stood := { row := portMovesRow, standIns := [], harness := (true, "05a1859375b30b081f981c0e49b8b1657ba40693999192a16e8a08265a0dbd36"), looks := true }, kinds := [], alts := [], laidByText := true, laidKinds := [.data, .data, .data], laidTests := true, laidLooks := .later }
def PortMovesCardSaid : Prop := Claim7.holds Tryz.pinned (.plain (OpenSpec.ofChange portMovesSpec)) portMovesCard

/-- THE TIED CARD OF 'slackwaterlaw18.ShallowOf'. -/
def shallowOfCard : Claim7 := { stood := { row := shallowOfRow, standIns := [], harness := (true, "05a1859375b30b081f981c0e49b8b1657ba40693999192a16e8a08265a0dbd36"), looks := true }, kinds := [], alts := [], laidByText := true, laidKinds := [.data, .data, .data, .data, .sentinel, .sentinel, .pinned], laidTests := true, laidLooks := .later }
def ShallowOfCardSaid : Prop := Claim7.holds Tryz.pinned (.plain (OpenSpec.ofChange shallowOfSpec)) shallowOfCard

/-- THE SECOND FORM's CARD OF 'slackwaterlaw15.ExactNames'. -/
def exactNamesUptoCard : Claim7 := { stood := { row := exactNamesUptoRow, standIns := [], harness := (true, "05a1859375b30b081f981c0e49b8b1657ba40693999192a16e8a08265a0dbd36"), looks := true }, kinds := [], alts := [], laidByText := true, laidKinds := [.data, .data, .data, .data, .sentinel, .sentinel, .pinned], laidTests := true, laidLooks := .later }
def ExactNamesUptoCardSaid : Prop := Claim7.holds Tryz.pinned (.plain (OpenSpec.upto exactNamesSpec)) exactNamesUptoCard

/-- THE SECOND FORM's CARD OF 'slackwaterlaw24.InferApplies'. -/
def inferAppliesUptoCard : Claim7 := { stood := { row := inferAppliesUptoRow, standIns := [], harness := (true, "05a1859375b30b081f981c0e49b8b1657ba40693999192a16e8a08265a0dbd36"), looks := true }, kinds := [], alts := [], laidByText := true, laidKinds := [.data, .data, .data, .data, .sentinel, .sentinel, .pinned], laidTests := true, laidLooks := .later }
def InferAppliesUptoCardSaid : Prop := Claim7.holds Tryz.pinned (.plain (OpenSpec.upto inferAppliesSpec)) inferAppliesUptoCard

/-- THE SECOND FORM's CARD OF 'slackwaterlaw24.InferKeeps'. -/
def inferKeepsUptoCard : Claim7 := { stood := { row := inferKeepsUptoRow, standIns := [], harness := (true, "05a1859375b30b081f981c0e49b8b1657ba40693999192a16e8a08265a0dbd36"), looks := true }, kinds := [], alts := [], laidByText := true, laidKinds := [.data, .data, .data, .data, .sentinel, .sentinel, .pinned], laidTests := true, laidLooks := .later }
def InferKeepsUptoCardSaid : Prop := Claim7.holds Tryz.pinned (.plain (OpenSpec.upto inferKeepsSpec)) inferKeepsUptoCard

/-- THE SECOND FORM's CARD OF 'slackwaterlaw24.InferNames'. -/
def inferNamesUptoCard : Claim7 := { stood := { row := inferNamesUptoRow, standIns := [], harness := (true, "05a1859375b30b081f981c0e49b8b1657ba40693999192a16e8a08265a0dbd36"), looks := true }, kinds := [], alts := [], laidByText := true, laidKinds := [.data, .data, .data, .data, .sentinel, .sentinel, .pinned], laidTests := true, laidLooks := .later }
def InferNamesUptoCardSaid : Prop := Claim7.holds Tryz.pinned (.plain (OpenSpec.upto inferNamesSpec)) inferNamesUptoCard

/-- THE SECOND FORM's CARD OF 'slackwaterlaw13.TideNames'. -/
def tideNamesUptoCard : Claim7 := { stood := { row := tideNamesUptoRow, standIns := [], harness := (true, "05a1859375b30b081f981c0e49b8b1657ba40693999192a16e8a08265a0dbd36"), looks := true }, kinds := [], alts := [], laidByText := true, laidKinds := [.data, .data, .data, .data, .sentinel, .sentinel, .pinned], laidTests := true, laidLooks := .later }
def TideNamesUptoCardSaid : Prop := Claim7.holds Tryz.pinned (.plain (OpenSpec.upto tideNamesSpec)) tideNamesUptoCard

/-- THE SECOND FORM's CARD OF 'slackwaterlaw03.RatioTexts'. -/
def ratioTextsUptoCard : Claim7 := { stood := { row := ratioTextsUptoRow, standIns := [], harness := (true, "05a1859375b30b081f981c0e49b8b1657ba40693999192a16e8a08265a0dbd36"), looks := true }, kinds := [], alts := [], laidByText := true, laidKinds := [.data, .data, .data, .data, .sentinel, .sentinel, .pinned], laidTests := true, laidLooks := .later }
def RatioTextsUptoCardSaid : Prop := Claim7.holds Tryz.pinned (.plain (OpenSpec.upto ratioTextsSpec)) ratioTextsUptoCard

/-- THE SECOND FORM's CARD OF 'slackwaterlaw03.RatioBack'. -/
def ratioBackUptoCard : Claim7 := { stood := { row := ratioBackUptoRow, standIns := [], harness := (true, "05a1859375b30b081f981c0e49b8b1657ba40693999192a16e8a08265a0dbd36"), looks := true }, kinds := [], alts := [], laidByText := true, laidKinds := [.data, .data, .data, .data, .sentinel, .sentinel, .pinned], laidTests := true, laidLooks := .later }
def RatioBackUptoCardSaid : Prop := Claim7.holds Tryz.pinned (.plain (OpenSpec.upto ratioBackSpec)) ratioBackUptoCard

/-- THE SECOND FORM's CARD OF 'slackwaterlaw03.RatioNames'. -/
def ratioNamesUptoCard : Claim7 := { stood := { row := ratioNamesUptoRow, standIns := [], harness := (true, "05a1859375b30b081f981c0e49b8b1657ba40693999192a16e8a08265a0dbd36"), looks := true }, kinds := [], alts := [], laidByText := true, laidKinds := [.data, .data, .data, .data, .sentinel, .sentinel, .pinned], laidTests := true, laidLooks := .later }
def RatioNamesUptoCardSaid : Prop := Claim7.holds Tryz.pinned (.plain (OpenSpec.upto ratioNamesSpec)) ratioNamesUptoCard

/-- THE SECOND FORM's CARD OF 'slackwaterlaw14.PortMoves'. -/
def portMovesUptoCard : Claim7 := { stood := { row := portMovesUptoRow, standIns := [], harness := (true, "05a1859375b30b081f981c0e49b8b1657ba40693999192a16e8a08265a0dbd36"), looks := true }, kinds := [], alts := [], laidByText := true, laidKinds := [.data, .data, .data], laidTests := true, laidLooks := .later }
def PortMovesUptoCardSaid : Prop := Claim7.holds Tryz.pinned (.plain (OpenSpec.upto portMovesSpec)) portMovesUptoCard

/-- THE SECOND FORM's CARD OF 'slackwaterlaw18.ShallowOf'. -/
def shallowOfUptoCard : Claim7 := { stood := { row := shallowOfUptoRow, standIns := [], harness := (true, "05a1859375b30b081f981c0e49b8b1657ba40693999192a16e8a08265a0dbd36"), looks := true }, kinds := [], alts := [], laidByText := true, laidKinds := [.data, .data, .data, .data, .sentinel, .sentinel, .pinned], laidTests := true, laidLooks := .later }
def ShallowOfUptoCardSaid : Prop := Claim7.holds Tryz.pinned (.plain (OpenSpec.upto shallowOfSpec)) shallowOfUptoCard
end Rows
end Go.Proofs.YtemlaompalbgiaaGreatDoor
