/- It is proved here that TideKnown returns true for every input that meets the row (the listed variables of the library are laid as the text lays them), and that every argument reads behind the call as it read ahead of it. -/
import Derived.Test.YtjoonfegjobgbaaGreatDoorRows
import Derived.Test.YtjoonfegjobgbaaGreatDoorTie
import Derived.Test.YtjoonfegjobgbaaGreatDoorCards
import Derived.ProofKit
import Derived.OpenShut
import Derived.ChangeOld
import Derived.Below
import Derived.Lib.SmallJoins
import Derived.SevenTiedAt
import Derived.Test.YtjoonfegjobgbaaGreatDoorQL27p26
namespace Go.Proofs.YtjoonfegjobgbaaGreatDoor
open Go.ChangeShapes Go.WideShapes Go.ChangeAt Go.RowKit Go.Joins
set_option linter.unusedVariables false
theorem mk_1 : (Tryz.pinned).checked.prog.funcNamed Rows.tideKnownRow.func = some 12 := by kernel_rfl
set_option maxRecDepth 100000 in
theorem mk_2 : joinedFacts (Tryz.pinned).checked.prog 12 Tryz.f12 Rows.tideKnownSpec Rows.tideKnownRow = true := (and_tt (and_tt (and_tt (and_tt (and_tt (and_tt (and_tt (and_tt (and_tt (and_tt (and_tt (and_tt (and_tt (and_tt (and_tt (and_tt (and_tt (and_tt (and_tt (and_tt (and_tt (and_tt (and_tt (and_tt (and_tt (and_tt (and_tt (and_tt (and_tt (and_tt (and_tt jo_0 jo_1) jo_2) jo_3) jo_4) jo_5) jo_6) jo_7) jo_8) jo_9) jo_10) jo_11) jo_12) jo_13) jo_14) jo_15) jo_16) jo_17) jo_18) jo_19) jo_20) jo_21) jo_22) jo_23) jo_24) jo_25) jo_26) jo_27) jo_28) jo_29) jo_30) jo_31)
theorem mk_3 : (Tryz.f12).isInstance (Tryz.pinned).checked.prog Rows.tideKnownRow.origin Rows.tideKnownRow.targs := of_decide_eq_true (by kernel_rfl)
theorem mk_4 : (Tryz.f12).isWrapper (Tryz.pinned).checked.prog Rows.tideKnownRow.wrapper Rows.tideKnownRow.mainSum := by unfold Func.isWrapper; first | (rw [if_pos (by decide +kernel)]; kernel_rfl) | (rw [if_neg (by decide +kernel)]; exact ⟨rfl, rfl⟩)
set_option maxRecDepth 100000 in
theorem mk_over : Rows.tideKnownRow.holds Tryz.pinned (OpenSpec.ofChange Rows.tideKnownSpec) :=
  OpenClaim.holds_of_wide 12 Tryz.f12 rfl rfl rfl rfl rfl rfl rfl ⟨rfl, rfl, rfl, rfl, rfl⟩ rfl rfl rfl rfl rfl mk_1 Tryz.func12 mk_2 mk_3 mk_4 (fun os started H enc _ => mk_lifted os started H enc)
theorem mk_5 : Rows.tideKnownRow.wfByText (OpenSpec.ofChange Rows.tideKnownSpec) = true := by kernel_rfl
theorem mk_6 : (Tryz.pinned).checked.prog.mainIs = some (true, "a5f7933bf5ed4971141a24428d3e9c517af3e008dad7c32cc612c47e415c1851".toList) := by kernel_rfl
theorem mk_7 : true = (Tryz.pinned).checked.prog.looks [] := by kernel_rfl
theorem mk_8 : (Tryz.f12.params.toList.all fun t => !(Tryz.pinned).checked.prog.wantsStandIn t) = true := by kernel_rfl
theorem mk_9 : false = Rows.tideKnownRow.goesBy (Tryz.pinned).checked.prog := by kernel_rfl
theorem tideKnown_proved : Rows.TideKnownCardSaid :=
  Claim7.holds_tied_plain_at .later [] [.data, .data, .data, .data, .sentinel, .sentinel, .pinned] true (true, "a5f7933bf5ed4971141a24428d3e9c517af3e008dad7c32cc612c47e415c1851") true mk_over (fun _ h => by cases h) mk_5 (fun _ h => by cases h) tideKnown_row_tie rfl ⟨rfl, rfl⟩ mk_6 rfl
    (fun f fn hf hfn => by
      obtain rfl : f = 12 := (Option.some.inj (mk_1.symm.trans hf)).symm
      obtain rfl : fn = Tryz.f12 := (Option.some.inj ((Tryz.func12).symm.trans hfn)).symm
      refine ⟨mk_7, fun j t ht => ?_⟩
      rw [Tryz.params12] at ht
      simp at ht)
    mk_9
#print axioms tideKnown_proved
end Go.Proofs.YtjoonfegjobgbaaGreatDoor
