/-
  DERIVED. GIVEN WITH THE SEED: THE CARDS: each row of YtagipdcmjphbiaaGreatDoorRows.lean that lists a variable, with what it lists TIED to the program's text (the seventh form; the later family's looks); each row that meets fmt, with fmt's text TOLD by the authors' own Lean function (tested against real Go, not proved from fmt's source: count such statements apart). THE CARD IS WHAT COUNTS. Prove the row's statement (the work); the ties are given (YtagipdcmjphbiaaGreatDoorTie.lean); close each card by the builder's one call (the guide's Derived/Test/ToyasCard.lean, 'card_holds'). Laid BY PROGRAM, IN A SANDBOX (cutbox-door.mjs). By AI agents, Wed Nov 11 2026. No macro, syntax, notation, axiom, sorry.
-/
import Derived.Test.YtagipdcmjphbiaaGreatDoorRows
import GoSem.ClaimSeven
namespace Go.Proofs.YtagipdcmjphbiaaGreatDoor
namespace Rows

/-- THE TIED CARD OF 'slackwaterlaw24.InferParts'. -/
def inferPartsCard : Claim7 := { stood := { row := inferPartsRow, standIns := [], harness := (true, "9232b44876953b646f317e71ad266b0b886132769cd9d78f4d8bf63683fc39da"), looks := true }, kinds := [], alts := [], laidByText := true, laidKinds := [.data, .data, .data, .data, .sentinel, .sentinel, .pinned], laidTests := true, laidLooks := .later }
def InferPartsCardSaid : Prop := Claim7.holds Tryz.pinned (.plain (OpenSpec.ofChange inferPartsSpec)) inferPartsCard

/-- THE TIED CARD OF 'slackwaterlaw24.InferWhole'. -/
def inferWholeCard : Claim7 := { stood := { row := inferWholeRow, standIns := [], harness := (true, "9232b44876953b646f317e71ad266b0b886132769cd9d78f4d8bf63683fc39da"), looks := true }, kinds := [], alts := [], laidByText := true, laidKinds := [.data, .data, .data, .data, .sentinel, .sentinel, .pinned], laidTests := true, laidLooks := .later }
def InferWholeCardSaid : Prop := Claim7.holds Tryz.pinned (.plain (OpenSpec.ofChange inferWholeSpec)) inferWholeCard

/-- THE SECOND FORM's CARD OF 'slackwaterlaw24.InferParts'. -/
def inferPartsUptoCard : Claim7 := { stood := { row := inferPartsUptoRow, standIns := [], harness := (true, "9232b44876953b646f317e71ad266b0b886132769cd9d78f4d8bf63683fc39da"), looks := true }, kinds := [], alts := [], laidByText := true, laidKinds := [.data, .data, .data, .data, .sentinel, .sentinel, .pinned], laidTests := true, laidLooks := .later }
def InferPartsUptoCardSaid : Prop := Claim7.holds Tryz.pinned (.plain (OpenSpec.upto inferPartsSpec)) inferPartsUptoCard

/-- THE SECOND FORM's CARD OF 'slackwaterlaw24.InferWhole'. -/
def inferWholeUptoCard : Claim7 := { stood := { row := inferWholeUptoRow, standIns := [], harness := (true, "9232b44876953b646f317e71ad266b0b886132769cd9d78f4d8bf63683fc39da"), looks := true }, kinds := [], alts := [], laidByText := true, laidKinds := [.data, .data, .data, .data, .sentinel, .sentinel, .pinned], laidTests := true, laidLooks := .later }
def InferWholeUptoCardSaid : Prop := Claim7.holds Tryz.pinned (.plain (OpenSpec.upto inferWholeSpec)) inferWholeUptoCard
end Rows
end Go.Proofs.YtagipdcmjphbiaaGreatDoor
