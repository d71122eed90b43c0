/-
  DERIVED. GIVEN WITH THE SEED: THE CARDS: each row of YtakaehdolpmelaaGreatDoorRows.lean that lists a variable, with what it lists TIED to the program's text (the seventh form; the later family's looks); each row that meets fmt, with fmt's text TOLD by the authors' own Lean function (tested against real Go, not proved from fmt's source: count such statements apart). THE CARD IS WHAT COUNTS. Prove the row's statement (the work); the ties are given (YtakaehdolpmelaaGreatDoorTie.lean); close each card by the builder's one call (the guide's Derived/Test/ToyasCard.lean, 'card_holds'). Laid BY PROGRAM, IN A SANDBOX (cutbox-door.mjs). By AI agents, Wed Nov 11 2026. No macro, syntax, notation, axiom, sorry.
-/
import Derived.Test.YtakaehdolpmelaaGreatDoorRows
import GoSem.ClaimSeven
namespace Go.Proofs.YtakaehdolpmelaaGreatDoor
namespace Rows

/-- THE TIED CARD OF 'slackwaterlaw04.GaussField'. -/
def gaussFieldCard : Claim7 := { stood := { row := gaussFieldRow, standIns := [], harness := (true, "2e16a26bbbf521ee2e256150f706cb23e3f5d458c8b6fe65d62a27bed621bf45"), looks := true }, kinds := [], alts := [], laidByText := true, laidKinds := [.data, .data, .data], laidTests := true, laidLooks := .later }
def GaussFieldCardSaid : Prop := Claim7.holds Tryz.pinned (.plain (OpenSpec.ofChange gaussFieldSpec)) gaussFieldCard

/-- THE TIED CARD OF 'slackwaterlaw04.GaussConj'. -/
def gaussConjCard : Claim7 := { stood := { row := gaussConjRow, standIns := [], harness := (true, "2e16a26bbbf521ee2e256150f706cb23e3f5d458c8b6fe65d62a27bed621bf45"), looks := true }, kinds := [], alts := [], laidByText := true, laidKinds := [.data, .data, .data], laidTests := true, laidLooks := .later }
def GaussConjCardSaid : Prop := Claim7.holds Tryz.pinned (.plain (OpenSpec.ofChange gaussConjSpec)) gaussConjCard

/-- THE TIED CARD OF 'slackwaterlaw03.RatioTexts'. -/
def ratioTextsCard : Claim7 := { stood := { row := ratioTextsRow, standIns := [], harness := (true, "2e16a26bbbf521ee2e256150f706cb23e3f5d458c8b6fe65d62a27bed621bf45"), looks := true }, kinds := [], alts := [], laidByText := true, laidKinds := [.data, .data, .data, .data, .sentinel, .sentinel, .pinned], laidTests := true, laidLooks := .later }
def RatioTextsCardSaid : Prop := Claim7.holds Tryz.pinned (.plain (OpenSpec.ofChange ratioTextsSpec)) ratioTextsCard

/-- THE TIED CARD OF 'slackwaterlaw03.RatioBack'. -/
def ratioBackCard : Claim7 := { stood := { row := ratioBackRow, standIns := [], harness := (true, "2e16a26bbbf521ee2e256150f706cb23e3f5d458c8b6fe65d62a27bed621bf45"), looks := true }, kinds := [], alts := [], laidByText := true, laidKinds := [.data, .data, .data, .data, .sentinel, .sentinel, .pinned], laidTests := true, laidLooks := .later }
def RatioBackCardSaid : Prop := Claim7.holds Tryz.pinned (.plain (OpenSpec.ofChange ratioBackSpec)) ratioBackCard

/-- THE TIED CARD OF 'slackwaterlaw03.RatioField'. -/
def ratioFieldCard : Claim7 := { stood := { row := ratioFieldRow, standIns := [], harness := (true, "2e16a26bbbf521ee2e256150f706cb23e3f5d458c8b6fe65d62a27bed621bf45"), looks := true }, kinds := [], alts := [], laidByText := true, laidKinds := [.data, .data, .data, .data, .sentinel, .sentinel, .pinned], laidTests := true, laidLooks := .later }
def RatioFieldCardSaid : Prop := Claim7.holds Tryz.pinned (.plain (OpenSpec.ofChange ratioFieldSpec)) ratioFieldCard

/-- THE TIED CARD OF 'slackwaterlaw03.RatioNames'. -/
def ratioNamesCard : Claim7 := { stood := { row := ratioNamesRow, standIns := [], harness := (true, "2e16a26bbbf521ee2e256150f706cb23e3f5d458c8b6fe65d62a27bed621bf45"), looks := true }, kinds := [], alts := [], laidByText := true, laidKinds := [.data, .data, .data, .data, .sentinel, .sentinel, .pinned], laidTests := true, laidLooks := .later }
def RatioNamesCardSaid : Prop := Claim7.holds Tryz.pinned (.plain (OpenSpec.ofChange ratioNamesSpec)) ratioNamesCard

/-- THE TIED CARD OF 'slackwaterlaw03.RatioOrder'. -/
def ratioOrderCard : Claim7 := { stood := { row := ratioOrderRow, standIns := [], harness := (true, "2e16a26bbbf521ee2e256150f706cb23e3f5d458c8b6fe65d62a27bed621bf45"), looks := true }, kinds := [], alts := [], laidByText := true, laidKinds := [.data, .data, .data, .data, .sentinel, .sentinel, .pinned], laidTests := true, laidLooks := .later }
def RatioOrderCardSaid : Prop := Claim7.holds Tryz.pinned (.plain (OpenSpec.ofChange ratioOrderSpec)) ratioOrderCard

/-- THE SECOND FORM's CARD OF 'slackwaterlaw04.GaussField'. -/
def gaussFieldUptoCard : Claim7 := { stood := { row := gaussFieldUptoRow, standIns := [], harness := (true, "2e16a26bbbf521ee2e256150f706cb23e3f5d458c8b6fe65d62a27bed621bf45"), looks := true }, kinds := [], alts := [], laidByText := true, laidKinds := [.data, .data, .data], laidTests := true, laidLooks := .later }
def GaussFieldUptoCardSaid : Prop := Claim7.holds Tryz.pinned (.plain (OpenSpec.upto gaussFieldSpec)) gaussFieldUptoCard

/-- THE SECOND FORM's CARD OF 'slackwaterlaw04.GaussConj'. -/
def gaussConjUptoCard : Claim7 := { stood := { row := gaussConjUptoRow, standIns := [], harness := (true, "2e16a26bbbf521ee2e256150f706cb23e3f5d458c8b6fe65d62a27bed621bf45"), looks := true }, kinds := [], alts := [], laidByText := true, laidKinds := [.data, .data, .data], laidTests := true, laidLooks := .later }
def GaussConjUptoCardSaid : Prop := Claim7.holds Tryz.pinned (.plain (OpenSpec.upto gaussConjSpec)) gaussConjUptoCard

/-- THE SECOND FORM's CARD OF 'slackwaterlaw03.RatioTexts'. -/
def ratioTextsUptoCard : Claim7 := { stood := { row := ratioTextsUptoRow, standIns := [], harness := (true, "2e16a26bbbf521ee2e256150f706cb23e3f5d458c8b6fe65d62a27bed621bf45"), looks := true }, kinds := [], alts := [], laidByText := true, laidKinds := [.data, .data, .data, .data, .sentinel, .sentinel, .pinned], laidTests := true, laidLooks := .later }
def RatioTextsUptoCardSaid : Prop := Claim7.holds Tryz.pinned (.plain (OpenSpec.upto ratioTextsSpec)) ratioTextsUptoCard

/-- THE SECOND FORM's CARD OF 'slackwaterlaw03.RatioBack'. -/
def ratioBackUptoCard : Claim7 := { stood := { row := ratioBackUptoRow, standIns := [], harness := (true, "2e16a26bbbf521ee2e256150f706cb23e3f5d458c8b6fe65d62a27bed621bf45"), looks := true }, kinds := [], alts := [], laidByText := true, laidKinds := [.data, .data, .data, .data, .sentinel, .sentinel, .pinned], laidTests := true, laidLooks := .later }
def RatioBackUptoCardSaid : Prop := Claim7.holds Tryz.pinned (.plain (OpenSpec.upto ratioBackSpec)) ratioBackUptoCard

/-- THE SECOND FORM's CARD OF 'slackwaterlaw03.RatioField'. -/
def ratioFieldUptoCard : Claim7 := { stood := { row := ratioFieldUptoRow, standIns := [], harness := (true, "2e16a26bbbf521ee2e256150f706cb23e3f5d458c8b6fe65d62a27bed621bf45"), looks := true }, kinds := [], alts := [], laidByText := true, laidKinds := [.data, .data, .data, .data, .sentinel, .sentinel, .pinned], laidTests := true, laidLooks := .later }
def RatioFieldUptoCardSaid : Prop := Claim7.holds Tryz.pinned (.plain (OpenSpec.upto ratioFieldSpec)) ratioFieldUptoCard

/-- THE SECOND FORM's CARD OF 'slackwaterlaw03.RatioNames'. -/
def ratioNamesUptoCard : Claim7 := { stood := { row := ratioNamesUptoRow, standIns := [], harness := (true, "2e16a26bbbf521ee2e256150f706cb23e3f5d458c8b6fe65d62a27bed621bf45"), looks := true }, kinds := [], alts := [], laidByText := true, laidKinds := [.data, .data, .data, .data, .sentinel, .sentinel, .pinned], laidTests := true, laidLooks := .later }
def RatioNamesUptoCardSaid : Prop := Claim7.holds Tryz.pinned (.plain (OpenSpec.upto ratioNamesSpec)) ratioNamesUptoCard

/-- THE SECOND FORM's CARD OF 'slackwaterlaw03.RatioOrder'. -/
def ratioOrderUptoCard : Claim7 := { stood := { row := ratioOrderUptoRow, standIns := [], harness := (true, "2e16a26bbbf521ee2e256150f706cb23e3f5d458c8b6fe65d62a27bed621bf45"), looks := true }, kinds := [], alts := [], laidByText := true, laidKinds := [.data, .data, .data, .data, .sentinel, .sentinel, .pinned], laidTests := true, laidLooks := .later }
def RatioOrderUptoCardSaid : Prop := Claim7.holds Tryz.pinned (.plain (OpenSpec.upto ratioOrderSpec)) ratioOrderUptoCard
end Rows
end Go.Proofs.YtakaehdolpmelaaGreatDoor
