/- It is proved here that ExactPieces returns true for every input, and that every argument reads behind the call as it read ahead of it; there is no condition. -/
import Derived.Test.YtifonmdcicegdaaRows
import Derived.ProofKit
import Derived.OpenShut
import Derived.ChangeOld
import Derived.Below
import Derived.Lib.SmallJoins
import Derived.Test.YtifonmdcicegdaaQv
namespace Go.Proofs.Ytifonmdcicegdaa
open Go.ChangeShapes Go.WideShapes Go.ChangeAt Go.RowKit Go.Joins
set_option linter.unusedVariables false

theorem mk_1 : (Try.pinned).checked.prog.funcNamed Rows.exactPiecesRow.func = some 3 := by kernel_rfl
theorem mk_2 : joinedFacts (Try.pinned).checked.prog 3 Try.f3 Rows.exactPiecesSpec Rows.exactPiecesRow = true := by kernel_rfl
theorem mk_3 : (Try.f3).isInstance (Try.pinned).checked.prog Rows.exactPiecesRow.origin Rows.exactPiecesRow.targs := of_decide_eq_true (by kernel_rfl)
theorem mk_4 : (Try.f3).isWrapper (Try.pinned).checked.prog Rows.exactPiecesRow.wrapper Rows.exactPiecesRow.mainSum := by unfold Func.isWrapper; first | (rw [if_pos (by decide +kernel)]; kernel_rfl) | (rw [if_neg (by decide +kernel)]; exact ⟨rfl, rfl⟩)
set_option maxRecDepth 100000 in
theorem mk_over : Rows.exactPiecesRow.holds Try.pinned (OpenSpec.ofChange Rows.exactPiecesSpec) :=
  OpenClaim.holds_of_wide 3 Try.f3 rfl rfl rfl rfl rfl rfl rfl ⟨rfl, rfl, rfl, rfl, rfl⟩ rfl rfl rfl rfl rfl mk_1 Try.func3 mk_2 mk_3 mk_4 (fun os started H enc _ => mk_lifted os started H enc)

/-- the statement -/
theorem exactPieces_proved : Rows.ExactPiecesSaid := mk_over
#print axioms exactPieces_proved
end Go.Proofs.Ytifonmdcicegdaa

