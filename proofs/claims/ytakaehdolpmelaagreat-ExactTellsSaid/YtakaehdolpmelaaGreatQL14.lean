/- It is proved here that ExactTells returns true for every input, and that every argument reads behind the call as it read ahead of it; there is no condition. -/
import Derived.Test.YtakaehdolpmelaaGreatRows
import Derived.ProofKit
import Derived.OpenShut
import Derived.ChangeOld
import Derived.Below
import Derived.Lib.SmallJoins
import Derived.Test.YtakaehdolpmelaaGreatQbe
namespace Go.Proofs.YtakaehdolpmelaaGreat
open Go.ChangeShapes Go.WideShapes Go.ChangeAt Go.RowKit Go.Joins
set_option linter.unusedVariables false
theorem mk_1 : (Tryz.pinned).checked.prog.funcNamed Rows.exactTellsRow.func = some 3 := by kernel_rfl
theorem mk_2 : joinedFacts (Tryz.pinned).checked.prog 3 Tryz.f3 Rows.exactTellsSpec Rows.exactTellsRow = true := by kernel_rfl
theorem mk_3 : (Tryz.f3).isInstance (Tryz.pinned).checked.prog Rows.exactTellsRow.origin Rows.exactTellsRow.targs := of_decide_eq_true (by kernel_rfl)
theorem mk_4 : (Tryz.f3).isWrapper (Tryz.pinned).checked.prog Rows.exactTellsRow.wrapper Rows.exactTellsRow.mainSum := by unfold Func.isWrapper; first | (rw [if_pos (by decide +kernel)]; kernel_rfl) | (rw [if_neg (by decide +kernel)]; exact ⟨rfl, rfl⟩)
set_option maxRecDepth 100000 in
theorem mk_over : Rows.exactTellsRow.holds Tryz.pinned (OpenSpec.ofChange Rows.exactTellsSpec) :=
  OpenClaim.holds_of_wide 3 Tryz.f3 rfl rfl rfl rfl rfl rfl rfl ⟨rfl, rfl, rfl, rfl, rfl⟩ rfl rfl rfl rfl rfl mk_1 Tryz.func3 mk_2 mk_3 mk_4 (fun os started H enc _ => mk_lifted os started H enc)
theorem exactTells_proved : Rows.ExactTellsSaid := mk_over
#print axioms exactTells_proved
end Go.Proofs.YtakaehdolpmelaaGreat
