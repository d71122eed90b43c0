/- It is proved here that RatioOrder returns true for every input that meets the row (the listed variables of the library are laid as the text lays them), and that every argument reads behind the call as it read ahead of it. -/
import Derived.Test.YtakaehdolpmelaaGreatDoorRows
import Derived.Test.YtakaehdolpmelaaGreatDoorTie
import Derived.Test.YtakaehdolpmelaaGreatDoorCards
import Derived.ProofKit
import Derived.OpenShut
import Derived.ChangeOld
import Derived.Below
import Derived.Lib.SmallJoins
import Derived.SevenTiedAt
import Derived.Test.YtakaehdolpmelaaGreatDoorQs
namespace Go.Proofs.YtakaehdolpmelaaGreatDoor
open Go.ChangeShapes Go.WideShapes Go.ChangeAt Go.RowKit Go.Joins
set_option linter.unusedVariables false
theorem mk_1 : (Tryz.pinned).checked.prog.funcNamed Rows.ratioOrderRow.func = some 9 := by kernel_rfl
theorem mk_2 : joinedFacts (Tryz.pinned).checked.prog 9 Tryz.f9 Rows.ratioOrderSpec Rows.ratioOrderRow = true := by kernel_rfl
theorem mk_3 : (Tryz.f9).isInstance (Tryz.pinned).checked.prog Rows.ratioOrderRow.origin Rows.ratioOrderRow.targs := of_decide_eq_true (by kernel_rfl)
theorem mk_4 : (Tryz.f9).isWrapper (Tryz.pinned).checked.prog Rows.ratioOrderRow.wrapper Rows.ratioOrderRow.mainSum := by unfold Func.isWrapper; first | (rw [if_pos (by decide +kernel)]; kernel_rfl) | (rw [if_neg (by decide +kernel)]; exact ⟨rfl, rfl⟩)
set_option maxRecDepth 100000 in
theorem mk_over : Rows.ratioOrderRow.holds Tryz.pinned (OpenSpec.ofChange Rows.ratioOrderSpec) :=
  OpenClaim.holds_of_wide 9 Tryz.f9 rfl rfl rfl rfl rfl rfl rfl ⟨rfl, rfl, rfl, rfl, rfl⟩ rfl rfl rfl rfl rfl mk_1 Tryz.func9 mk_2 mk_3 mk_4 (fun os started H enc _ => mk_lifted os started H enc)
theorem mk_5 : Rows.ratioOrderRow.wfByText (OpenSpec.ofChange Rows.ratioOrderSpec) = true := by kernel_rfl
theorem mk_6 : (Tryz.pinned).checked.prog.mainIs = some (true, "2e16a26bbbf521ee2e256150f706cb23e3f5d458c8b6fe65d62a27bed621bf45".toList) := by kernel_rfl
theorem mk_7 : true = (Tryz.pinned).checked.prog.looks [] := by kernel_rfl
theorem mk_8 : (Tryz.f9.params.toList.all fun t => !(Tryz.pinned).checked.prog.wantsStandIn t) = true := by kernel_rfl
theorem mk_9 : false = Rows.ratioOrderRow.goesBy (Tryz.pinned).checked.prog := by kernel_rfl
theorem ratioOrder_proved : Rows.RatioOrderCardSaid :=
  Claim7.holds_tied_plain_at .later [] [.data, .data, .data, .data, .sentinel, .sentinel, .pinned] true (true, "2e16a26bbbf521ee2e256150f706cb23e3f5d458c8b6fe65d62a27bed621bf45") true mk_over (fun _ h => by cases h) mk_5 (fun _ h => by cases h) ratioOrder_row_tie rfl ⟨rfl, rfl⟩ mk_6 rfl
    (fun f fn hf hfn => by
      obtain rfl : f = 9 := (Option.some.inj (mk_1.symm.trans hf)).symm
      obtain rfl : fn = Tryz.f9 := (Option.some.inj ((Tryz.func9).symm.trans hfn)).symm
      refine ⟨mk_7, fun j t ht => ?_⟩
      have hm : t ∈ (Tryz.f9).params.toList := List.mem_of_getElem? (by simpa using ht)
      have := List.all_eq_true.1 mk_8 t hm
      simpa using this)
    mk_9
#print axioms ratioOrder_proved
end Go.Proofs.YtakaehdolpmelaaGreatDoor
