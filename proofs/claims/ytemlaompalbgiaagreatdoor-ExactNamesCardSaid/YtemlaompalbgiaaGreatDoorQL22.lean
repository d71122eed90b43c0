/- It is proved here that ExactNames returns true for every input that meets the row (the listed variables of the library are laid as the text lays them), and that every argument reads behind the call as it read ahead of it. -/
import Derived.Test.YtemlaompalbgiaaGreatDoorRows
import Derived.Test.YtemlaompalbgiaaGreatDoorTie
import Derived.Test.YtemlaompalbgiaaGreatDoorCards
import Derived.ProofKit
import Derived.OpenShut
import Derived.ChangeOld
import Derived.Below
import Derived.Lib.SmallJoins
import Derived.SevenTiedAt
import Derived.Test.YtemlaompalbgiaaGreatDoorQv
namespace Go.Proofs.YtemlaompalbgiaaGreatDoor
open Go.ChangeShapes Go.WideShapes Go.ChangeAt Go.RowKit Go.Joins
set_option linter.unusedVariables false
theorem mk_1 : (Tryz.pinned).checked.prog.funcNamed Rows.exactNamesRow.func = some 3 := by kernel_rfl
set_option maxRecDepth 100000 in
theorem mk_2 : joinedFacts (Tryz.pinned).checked.prog 3 Tryz.f3 Rows.exactNamesSpec Rows.exactNamesRow = true := (and_tt (and_tt (and_tt (and_tt (and_tt (and_tt (and_tt (and_tt (and_tt (and_tt (and_tt (and_tt (and_tt (and_tt (and_tt (and_tt (and_tt (and_tt (and_tt (and_tt (and_tt (and_tt (and_tt (and_tt (and_tt (and_tt (and_tt (and_tt (and_tt (and_tt (and_tt jo_0 jo_1) jo_2) jo_3) jo_4) jo_5) jo_6) jo_7) jo_8) jo_9) jo_10) jo_11) jo_12) jo_13) jo_14) jo_15) jo_16) jo_17) jo_18) jo_19) jo_20) jo_21) jo_22) jo_23) jo_24) jo_25) jo_26) jo_27) jo_28) jo_29) jo_30) jo_31)
theorem mk_3 : (Tryz.f3).isInstance (Tryz.pinned).checked.prog Rows.exactNamesRow.origin Rows.exactNamesRow.targs := of_decide_eq_true (by kernel_rfl)
theorem mk_4 : (Tryz.f3).isWrapper (Tryz.pinned).checked.prog Rows.exactNamesRow.wrapper Rows.exactNamesRow.mainSum := by unfold Func.isWrapper; first | (rw [if_pos (by decide +kernel)]; kernel_rfl) | (rw [if_neg (by decide +kernel)]; exact ⟨rfl, rfl⟩)
set_option maxRecDepth 100000 in
theorem mk_over : Rows.exactNamesRow.holds Tryz.pinned (OpenSpec.ofChange Rows.exactNamesSpec) :=
  OpenClaim.holds_of_wide 3 Tryz.f3 rfl rfl rfl rfl rfl rfl rfl ⟨rfl, rfl, rfl, rfl, rfl⟩ rfl rfl rfl rfl rfl mk_1 Tryz.func3 mk_2 mk_3 mk_4 (fun os started H enc _ => mk_lifted os started H enc)
theorem mk_5 : Rows.exactNamesRow.wfByText (OpenSpec.ofChange Rows.exactNamesSpec) = true := by kernel_rfl
theorem mk_6 : (Tryz.pinned).checked.prog.mainIs = some (true, "05a1859375b30b081f981c0e49b8b1657ba40693999192a16e8a08265a0dbd36".toList) := by kernel_rfl
theorem mk_7 : true = (Tryz.pinned).checked.prog.looks [] := by kernel_rfl
theorem mk_8 : (Tryz.f3.params.toList.all fun t => !(Tryz.pinned).checked.prog.wantsStandIn t) = true := by kernel_rfl
theorem mk_9 : false = Rows.exactNamesRow.goesBy (Tryz.pinned).checked.prog := by kernel_rfl
theorem exactNames_proved : Rows.ExactNamesCardSaid :=
  Claim7.holds_tied_plain_at .later [] [.data, .data, .data, .data, .sentinel, .sentinel, .pinned] true (true, "05a1859375b30b081f981c0e49b8b1657ba40693999192a16e8a08265a0dbd36") true mk_over (fun _ h => by cases h) mk_5 (fun _ h => by cases h) exactNames_row_tie rfl ⟨rfl, rfl⟩ mk_6 rfl
    (fun f fn hf hfn => by
      obtain rfl : f = 3 := (Option.some.inj (mk_1.symm.trans hf)).symm
      obtain rfl : fn = Tryz.f3 := (Option.some.inj ((Tryz.func3).symm.trans hfn)).symm
      refine ⟨mk_7, fun j t ht => ?_⟩
      rw [Tryz.params3] at ht
      simp at ht)
    mk_9
#print axioms exactNames_proved
end Go.Proofs.YtemlaompalbgiaaGreatDoor
