/- It is proved here that InferNear returns true for every input, and that every argument reads behind the call as it read ahead of it; there is no condition. -/
import Derived.Test.YtifonmdcicegdaaGreatRows
import Derived.ProofKit
import Derived.OpenShut
import Derived.ChangeOld
import Derived.Below
import Derived.Lib.SmallJoins
import Derived.Test.YtifonmdcicegdaaGreatQbb
namespace Go.Proofs.YtifonmdcicegdaaGreat
open Go.ChangeShapes Go.WideShapes Go.ChangeAt Go.RowKit Go.Joins
set_option linter.unusedVariables false

theorem mk_1 : (Tryz.pinned).checked.prog.funcNamed Rows.inferNearRow.func = some 8 := by kernel_rfl
theorem mk_2 : joinedFacts (Tryz.pinned).checked.prog 8 Tryz.f8 Rows.inferNearSpec Rows.inferNearRow = true := by kernel_rfl
theorem mk_3 : (Tryz.f8).isInstance (Tryz.pinned).checked.prog Rows.inferNearRow.origin Rows.inferNearRow.targs := of_decide_eq_true (by kernel_rfl)
theorem mk_4 : (Tryz.f8).isWrapper (Tryz.pinned).checked.prog Rows.inferNearRow.wrapper Rows.inferNearRow.mainSum := by unfold Func.isWrapper; first | (rw [if_pos (by decide +kernel)]; kernel_rfl) | (rw [if_neg (by decide +kernel)]; exact ⟨rfl, rfl⟩)
set_option maxRecDepth 100000 in
theorem mk_over : Rows.inferNearRow.holds Tryz.pinned (OpenSpec.ofChange Rows.inferNearSpec) :=
  OpenClaim.holds_of_wide 8 Tryz.f8 rfl rfl rfl rfl rfl rfl rfl ⟨rfl, rfl, rfl, rfl, rfl⟩ rfl rfl rfl rfl rfl mk_1 Tryz.func8 mk_2 mk_3 mk_4 (fun os started H enc _ => mk_lifted os started H enc)

/-- the statement -/
theorem inferNear_proved : Rows.InferNearSaid := mk_over
#print axioms inferNear_proved
end Go.Proofs.YtifonmdcicegdaaGreat

