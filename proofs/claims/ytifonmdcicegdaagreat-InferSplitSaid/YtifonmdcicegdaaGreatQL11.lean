/- It is proved here that InferSplit returns true for every input, and that every argument reads behind the call as it read ahead of it; there is no condition. -/
import Derived.Test.YtifonmdcicegdaaGreatRows
import Derived.ProofKit
import Derived.OpenShut
import Derived.ChangeOld
import Derived.Below
import Derived.Lib.SmallJoins
import Derived.Test.YtifonmdcicegdaaGreatQbb
namespace Go.Proofs.YtifonmdcicegdaaGreat
open Go.ChangeShapes Go.WideShapes Go.ChangeAt Go.RowKit Go.Joins
set_option linter.unusedVariables false

theorem mk_1 : (Tryz.pinned).checked.prog.funcNamed Rows.inferSplitRow.func = some 7 := by kernel_rfl
theorem mk_2 : joinedFacts (Tryz.pinned).checked.prog 7 Tryz.f7 Rows.inferSplitSpec Rows.inferSplitRow = true := by kernel_rfl
theorem mk_3 : (Tryz.f7).isInstance (Tryz.pinned).checked.prog Rows.inferSplitRow.origin Rows.inferSplitRow.targs := of_decide_eq_true (by kernel_rfl)
theorem mk_4 : (Tryz.f7).isWrapper (Tryz.pinned).checked.prog Rows.inferSplitRow.wrapper Rows.inferSplitRow.mainSum := by unfold Func.isWrapper; first | (rw [if_pos (by decide +kernel)]; kernel_rfl) | (rw [if_neg (by decide +kernel)]; exact ⟨rfl, rfl⟩)
set_option maxRecDepth 100000 in
theorem mk_over : Rows.inferSplitRow.holds Tryz.pinned (OpenSpec.ofChange Rows.inferSplitSpec) :=
  OpenClaim.holds_of_wide 7 Tryz.f7 rfl rfl rfl rfl rfl rfl rfl ⟨rfl, rfl, rfl, rfl, rfl⟩ rfl rfl rfl rfl rfl mk_1 Tryz.func7 mk_2 mk_3 mk_4 (fun os started H enc _ => mk_lifted os started H enc)

/-- the statement -/
theorem inferSplit_proved : Rows.InferSplitSaid := mk_over
#print axioms inferSplit_proved
end Go.Proofs.YtifonmdcicegdaaGreat

