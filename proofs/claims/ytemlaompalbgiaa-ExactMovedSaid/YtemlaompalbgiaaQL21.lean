/- It is proved here that ExactMoved returns true for every input, and that every argument reads behind the call as it read ahead of it; there is no condition. -/
import Derived.Test.YtemlaompalbgiaaRows
import Derived.ProofKit
import Derived.OpenShut
import Derived.ChangeOld
import Derived.Below
import Derived.Lib.SmallJoins
import Derived.Test.YtemlaompalbgiaaQw
namespace Go.Proofs.Ytemlaompalbgiaa
open Go.ChangeShapes Go.WideShapes Go.ChangeAt Go.RowKit Go.Joins
set_option linter.unusedVariables false
theorem mk_1 : (Try.pinned).checked.prog.funcNamed Rows.exactMovedRow.func = some 3 := by kernel_rfl
theorem mk_2 : joinedFacts (Try.pinned).checked.prog 3 Try.f3 Rows.exactMovedSpec Rows.exactMovedRow = true := by kernel_rfl
theorem mk_3 : (Try.f3).isInstance (Try.pinned).checked.prog Rows.exactMovedRow.origin Rows.exactMovedRow.targs := of_decide_eq_true (by kernel_rfl)
theorem mk_4 : (Try.f3).isWrapper (Try.pinned).checked.prog Rows.exactMovedRow.wrapper Rows.exactMovedRow.mainSum := by unfold Func.isWrapper; first | (rw [if_pos (by decide +kernel)]; kernel_rfl) | (rw [if_neg (by decide +kernel)]; exact ⟨rfl, rfl⟩)
set_option maxRecDepth 100000 in
theorem mk_over : Rows.exactMovedRow.holds Try.pinned (OpenSpec.ofChange Rows.exactMovedSpec) :=
  OpenClaim.holds_of_wide 3 Try.f3 rfl rfl rfl rfl rfl rfl rfl ⟨rfl, rfl, rfl, rfl, rfl⟩ rfl rfl rfl rfl rfl mk_1 Try.func3 mk_2 mk_3 mk_4 (fun os started H enc _ => mk_lifted os started H enc)
theorem exactMoved_proved : Rows.ExactMovedSaid := mk_over
#print axioms exactMoved_proved
end Go.Proofs.Ytemlaompalbgiaa
