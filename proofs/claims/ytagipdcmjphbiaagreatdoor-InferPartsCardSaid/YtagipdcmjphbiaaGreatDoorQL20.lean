/- It is proved here that InferParts returns true for every input that meets the row (the listed variables of the library are laid as the text lays them), and that every argument reads behind the call as it read ahead of it. -/
import Derived.Test.YtagipdcmjphbiaaGreatDoorRows
import Derived.Test.YtagipdcmjphbiaaGreatDoorTie
import Derived.Test.YtagipdcmjphbiaaGreatDoorCards
import Derived.ProofKit
import Derived.OpenShut
import Derived.ChangeOld
import Derived.Below
import Derived.Lib.SmallJoins
import Derived.SevenTiedAt
import Derived.Test.YtagipdcmjphbiaaGreatDoorQv
namespace Go.Proofs.YtagipdcmjphbiaaGreatDoor
open Go.ChangeShapes Go.WideShapes Go.ChangeAt Go.RowKit Go.Joins
set_option linter.unusedVariables false
theorem mk_1 : (Tryz.pinned).checked.prog.funcNamed Rows.inferPartsRow.func = some 3 := by kernel_rfl
theorem mk_2 : joinedFacts (Tryz.pinned).checked.prog 3 Tryz.f3 Rows.inferPartsSpec Rows.inferPartsRow = true := by kernel_rfl
theorem mk_3 : (Tryz.f3).isInstance (Tryz.pinned).checked.prog Rows.inferPartsRow.origin Rows.inferPartsRow.targs := of_decide_eq_true (by kernel_rfl)
theorem mk_4 : (Tryz.f3).isWrapper (Tryz.pinned).checked.prog Rows.inferPartsRow.wrapper Rows.inferPartsRow.mainSum := by unfold Func.isWrapper; first | (rw [if_pos (by decide +kernel)]; kernel_rfl) | (rw [if_neg (by decide +kernel)]; exact ⟨rfl, rfl⟩)
set_option maxRecDepth 100000 in
theorem mk_over : Rows.inferPartsRow.holds Tryz.pinned (OpenSpec.ofChange Rows.inferPartsSpec) :=
  OpenClaim.holds_of_wide 3 Tryz.f3 rfl rfl rfl rfl rfl rfl rfl ⟨rfl, rfl, rfl, rfl, rfl⟩ rfl rfl rfl rfl rfl mk_1 Tryz.func3 mk_2 mk_3 mk_4 (fun os started H enc _ => mk_lifted os started H enc)
theorem mk_5 : Rows.inferPartsRow.wfByText (OpenSpec.ofChange Rows.inferPartsSpec) = true := by kernel_rfl
theorem mk_6 : (Tryz.pinned).checked.prog.mainIs = some (true, "9232b44876953b646f317e71ad266b0b886132769cd9d78f4d8bf63683fc39da".toList) := by kernel_rfl
theorem mk_7 : true = (Tryz.pinned).checked.prog.looks [] := by kernel_rfl
theorem mk_8 : (Tryz.f3.params.toList.all fun t => !(Tryz.pinned).checked.prog.wantsStandIn t) = true := by kernel_rfl
theorem mk_9 : false = Rows.inferPartsRow.goesBy (Tryz.pinned).checked.prog := by kernel_rfl
theorem inferParts_proved : Rows.InferPartsCardSaid :=
  Claim7.holds_tied_plain_at .later [] [.data, .data, .data, .data, .sentinel, .sentinel, .pinned] true (true, "9232b44876953b646f317e71ad266b0b886132769cd9d78f4d8bf63683fc39da") true mk_over (fun _ h => by cases h) mk_5 (fun _ h => by cases h) inferParts_row_tie rfl ⟨rfl, rfl⟩ mk_6 rfl
    (fun f fn hf hfn => by
      obtain rfl : f = 3 := (Option.some.inj (mk_1.symm.trans hf)).symm
      obtain rfl : fn = Tryz.f3 := (Option.some.inj ((Tryz.func3).symm.trans hfn)).symm
      refine ⟨mk_7, fun j t ht => ?_⟩
      have hm : t ∈ (Tryz.f3).params.toList := List.mem_of_getElem? (by simpa using ht)
      have := List.all_eq_true.1 mk_8 t hm
      simpa using this)
    mk_9
#print axioms inferParts_proved
end Go.Proofs.YtagipdcmjphbiaaGreatDoor
