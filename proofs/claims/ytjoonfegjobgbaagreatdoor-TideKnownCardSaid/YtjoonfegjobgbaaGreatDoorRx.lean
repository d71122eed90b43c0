/- Texts of this claim, joined: E3 Q4 O1 O3 O5 Sh4 H8. -/
import Derived.ProofKit
import Derived.OpenShut
import Derived.ChangeOld
import Derived.Below
import Derived.Lib.SmallJoins
import Derived.Deep.Slices
import Derived.Deep.Fields
import Derived.ChangeSame
import Derived.ChangeMaps5
import Derived.Lib.LaidTab
import Derived.LaidSub
import Derived.Stop.LaidErr
import Derived.MakeChecks
import Derived.KernelRfl
import Derived.Shelf.Strconv.AtoiAll
import Derived.Ground.NamesProg
import Derived.Test.YtjoonfegjobgbaaGreatDoorProg
import Derived.Test.YtjoonfegjobgbaaGreatDoorRw
set_option linter.unusedVariables false
set_option linter.unusedSimpArgs false
set_option maxRecDepth 100000
namespace Go.Proofs.YtjoonfegjobgbaaGreatDoor
open Go Go.RowKit
theorem fs_1 : fsmall 1 1 = (enc 1, 0) := fsmall_s (by decide) (by decide +kernel) (by decide +kernel)
theorem fs_2 : fsmall 2 1 = (enc 2, 0) := fsmall_s (by decide) (by decide +kernel) (by decide +kernel)
theorem fs_3 : fsmall 3 1 = (enc 3, 0) := fsmall_s (by decide) (by decide +kernel) (by decide +kernel)
theorem fs_m1 : fsmall (-1) 1 = (enc (-1), 0) := fsmall_s (by decide) (by decide +kernel) (by decide +kernel)
theorem fs_5 : fsmall 5 1 = (enc 5, 0) := fsmall_s (by decide) (by decide +kernel) (by decide +kernel)
theorem fs_35 : fsmall 3 5 = (enc (3/5), 0) := fsmall_s (by decide) (by decide +kernel) (by decide +kernel)
theorem fs_45 : fsmall 4 5 = (enc (4/5), 0) := fsmall_s (by decide) (by decide +kernel) (by decide +kernel)
theorem fs_m45 : fsmall (-4) 5 = (enc (-4/5), 0) := fsmall_s (by decide) (by decide +kernel) (by decide +kernel)
theorem gm_1 : gmul (ge 1 2) (ge 3 (-1)) = (ge 5 5, 0) := gmul_s (u := 3) (v := -2) (x := -1) (y := 6) (by decide +kernel) (by decide +kernel) (by decide +kernel) (by decide +kernel) (by decide +kernel) (by decide +kernel) (by decide +kernel)
theorem szw_1 {q : Rat} (h : sm q = true) : szw 1 q := by
  unfold sm at h
  simp only [Bool.and_eq_true, decide_eq_true_eq] at h
  exact ⟨wd_one_len h.1, wd_one_len h.2⟩
theorem gq_1 : gquo (ge 5 5) (ge 3 (-1)) = (ge 1 2, 0) := by
  rw [gquo_w (m := 1) (n := 1) (szw_1 (by decide +kernel)) (szw_1 (by decide +kernel)) (szw_1 (by decide +kernel)) (szw_1 (by decide +kernel)) (by decide) (by decide +kernel), show ((5 : Rat) * 3 + 5 * -1) / (3 * 3 + -1 * -1) = 1 by decide +kernel, show ((5 : Rat) * 3 - 5 * -1) / (3 * 3 + -1 * -1) = 2 by decide +kernel]
theorem gn_1 : gnorm (ge (3/5) (4/5)) = (enc 1, 0) := by
  rw [gnorm_w (m := 1) (szw_1 (by decide +kernel)) (szw_1 (by decide +kernel)) (by decide), show ((3/5 : Rat) * (3/5) + 4/5 * (4/5)) = 1 by decide +kernel]
theorem sP_s {q : Rat} (h : sm q = true) (h1 : q.num.natAbs < 100) (h2 : q.den < 100) : sP (enc q) := ⟨fchk_s h, by show toN (wd _) < _; rw [toN_wd]; exact h1, by show toN (wd _) < _; rw [toN_wd]; exact h2⟩
theorem tx_1 : txR (enc (3/5)) ++ ⟨#[32]⟩ ++ txR (enc (-4/5)) = ⟨#[51, 47, 53, 32, 45, 52, 47, 53]⟩ := by decide +kernel
theorem gi_12 : (⟨(fsmall 1 1).1, (fsmall 2 1).1⟩ : Ga) = ge 1 2 := by rw [fs_1, fs_2]; rfl
theorem gi_31 : (⟨(fsmall 3 1).1, (fsmall (-1) 1).1⟩ : Ga) = ge 3 (-1) := by rw [fs_3, fs_m1]; rfl
theorem gi_55 : (⟨(fsmall 5 1).1, (fsmall 5 1).1⟩ : Ga) = ge 5 5 := by rw [fs_5]; rfl
noncomputable def sp_gawake : Spec := { q := .un, ps := [], rs := [.bo], fresh := true, pre := fun _ _ => none, post := fun _ x => ((), (true, ())) }
noncomputable def iv_gawake (y : El sp_gawake.q) (x : Els sp_gawake.ps) : Nat → Option Inv := fun _ => none
noncomputable abbrev c_gawake : Cfg := cfgS (Tryz.f46).ntmps false [(50, sp_gInt.prim), (32, sp_gMul.prim), (49, sp_gQuo.prim), (52, sp_ffrac.prim), (101, sp_gNorm.prim), (39, sp_gPrint.prim), (48, p_sure (sp_kSameGauss.prim)), (73, p_sure (sp_kSameRatio.prim))]
def F_gawake (y : El sp_gawake.q) (x : Els sp_gawake.ps) : Prop :=
  ∀ (r : Ro [tG]), r = ((), ofGa { re := (fsmall (1 : Int) (1 : Int)).1, im := (fsmall (2 : Int) (1 : Int)).1 }, ()) → ∀ (r_1 : Ro [tG]), r_1 = ((), ofGa { re := (fsmall (3 : Int) (1 : Int)).1, im := (fsmall (-1 : Int) (1 : Int)).1 }, ()) → ∀ (r_2 : Ro [tG, Ty.it IntKind.i64]), r_2 = pG (gmul (toGa r.2.1) (toGa r_1.2.1)) → ∀ (r : Ro [tG]), r = ((), ofGa { re := (fsmall (5 : Int) (1 : Int)).1, im := (fsmall (5 : Int) (1 : Int)).1 }, ()) → ∀ (r_3 : Ro [tG]), r_3 = ((), ofGa { re := (fsmall (3 : Int) (1 : Int)).1, im := (fsmall (-1 : Int) (1 : Int)).1 }, ()) → ∀ (r_4 : Ro [tG, Ty.it IntKind.i64]), r_4 = pG (gquo (toGa r.2.1) (toGa r_3.2.1)) → ∀ (r : Ro [tR]), r = ((), ofFr (fsmall (3 : Int) (5 : Int)).1, ()) → ∀ (r_5 : Ro [tR]), r_5 = ((), ofFr (fsmall (4 : Int) (5 : Int)).1, ()) → ∀ (r_6 : Ro [tR, Ty.it IntKind.i64]), r_6 = pR (gnorm (toGa (r.2.1, r_5.2))) → ∀ (r : Ro [tR]), r = ((), ofFr (fsmall (3 : Int) (5 : Int)).1, ()) → ∀ (r_7 : Ro [tR]), r_7 = ((), ofFr (fsmall (-4 : Int) (5 : Int)).1, ()) → ((fchk (toFr r.2.1) = (0 : Int) ∧ toN (toFr r.2.1).num < (100 : Nat) ∧ toN (toFr r.2.1).den < (100 : Nat)) ∧ fchk (toFr r_7.2.1) = (0 : Int) ∧ toN (toFr r_7.2.1).num < (100 : Nat) ∧ toN (toFr r_7.2.1).den < (100 : Nat)) ∧ ∀ (r_8 : Ro [Ty.st, Ty.it IntKind.i64]), r_8 = ((), txR (toFr r.2.1) ++ (⟨#[(32 : UInt8)]⟩ : ByteArray) ++ txR (toFr r_7.2.1), (0 : El (Ty.it IntKind.i64)), ()) → ((r_2.2.2.1 == (0 : Int)) = true → ((r_4.2.2.1 == (0 : Int)) = true → ((r_6.2.2.1 == (0 : Int)) = true → ((r_8.2.2.1 == (0 : Int)) = true → ∀ (r : Ro [tG]), r = ((), ofGa { re := (fsmall (5 : Int) (1 : Int)).1, im := (fsmall (5 : Int) (1 : Int)).1 }, ()) → decide (toGa r_2.2.1 = toGa r.2.1) = true ∧ ∀ (r : Ro [tG]), r = ((), ofGa { re := (fsmall (1 : Int) (1 : Int)).1, im := (fsmall (2 : Int) (1 : Int)).1 }, ()) → decide (toGa r_4.2.1 = toGa r.2.1) = true ∧ ∀ (r : Ro [tR]), r = ((), ofFr (fsmall (1 : Int) (1 : Int)).1, ()) → decide (toFr r_6.2.1 = toFr r.2.1) = true ∧ (ByteArray.toList r_8.2.1 == (⟨#[(51 : UInt8), (47 : UInt8), (53 : UInt8), (32 : UInt8), (45 : UInt8), (52 : UInt8), (47 : UInt8), (53 : UInt8)]⟩ : ByteArray).toList, ()) = (true, ())) ∧ ((r_8.2.2.1 == (0 : Int)) = false → (false, ()) = (true, ()))) ∧ ((r_6.2.2.1 == (0 : Int)) = false → (false, ()) = (true, ()))) ∧ ((r_4.2.2.1 == (0 : Int)) = false → (false, ()) = (true, ()))) ∧ ((r_2.2.2.1 == (0 : Int)) = false → (false, ()) = (true, ()))
theorem w_gawake (y : El sp_gawake.q) (x : Els sp_gawake.ps) : aW c_gawake (iv_gawake y x) Tryz.f46 sp_gawake y x = F_gawake y x := by kernel_rfl
theorem m_gawake (y : El (.un)) (x : Els []) (h2 : wfE (.un) y) (h3 : wfEs [] x) : F_gawake y x := by
  unfold F_gawake
  rw [gi_12, gi_31, gi_55, fs_35, fs_45, fs_m45, fs_1]
  rintro _ rfl _ rfl _ hr
  obtain rfl := hr.trans (congrArg pG gm_1)
  rintro _ rfl _ rfl _ hr
  obtain rfl := hr.trans (congrArg pG gq_1)
  rintro _ rfl _ rfl _ hr
  obtain rfl := hr.trans (congrArg pR gn_1)
  rintro _ rfl _ rfl
  refine ⟨⟨sP_s (q := 3/5) (by decide +kernel) (by decide +kernel) (by decide +kernel), sP_s (q := -4/5) (by decide +kernel) (by decide +kernel) (by decide +kernel)⟩, ?_⟩
  intro r hr
  obtain rfl := hr.trans (congrArg (fun s => (((), s, (0 : Int), ()) : El .un × Els [.st, .it .i64])) tx_1)
  refine ⟨fun _ => ⟨fun _ => ⟨fun _ => ⟨fun _ => ?_, fun h => Bool.noConfusion (show true = false from h)⟩, fun h => Bool.noConfusion (show true = false from h)⟩, fun h => Bool.noConfusion (show true = false from h)⟩, fun h => Bool.noConfusion (show true = false from h)⟩
  rintro _ rfl
  refine ⟨decide_eq_true rfl, ?_⟩
  rintro _ rfl
  refine ⟨decide_eq_true rfl, ?_⟩
  rintro _ rfl
  exact ⟨decide_eq_true rfl, congrArg (fun b => (b, ())) (beq_self_eq_true _)⟩
theorem fo_gawake : FnOk Tryz.prog 46 sp_gawake := fnOk_of (C := c_gawake) iv_gawake Tryz.func46 rfl (by kernel_rfl) tys_ok (prims_cons (spec_prim fo_gInt) (prims_cons (spec_prim fo_gMul) (prims_cons (spec_prim fo_gQuo) (prims_cons (spec_prim fo_ffrac) (prims_cons (spec_prim fo_gNorm) (prims_cons (spec_prim fo_gPrint) (prims_cons (pr_sure (spec_prim fo_kSameGauss)) (prims_cons (pr_sure (spec_prim fo_kSameRatio)) prims_nil)))))))) mixed_ (Nat.le_refl _) rfl fun y x h1 h2 h3 h4 =>
  Eq.mpr (w_gawake y x) (m_gawake y x h2 h3)
abbrev stE (t : ByteArray × Int × Unit) : El .un × Els [.st, .it .i64] := ((), t)
theorem gpr_par {s : ByteArray} (h3 : s.size ≤ 3000) (ho : okGG s = true) : prG ⟨frG (cutB s b_sp).1, frG (cutB s b_sp).2.1⟩ = (s, 0, ()) := by
  obtain ⟨t1, t2⟩ := gtext_of h3 ho
  rw [prG_ok t1 (by rw [t2]; omega), t2]
theorem toGa_of4 (a : Ga) : toGa (ofGa a) = a := rfl
noncomputable def sp_lawGaussBack : Spec := { q := .un, ps := [tG, .st], rs := [.bo], fresh := true, pre := fun _ _ => none, post := fun _ _ => ((), (true, ())) }
noncomputable def iv_lawGaussBack (y : El sp_lawGaussBack.q) (x : Els sp_lawGaussBack.ps) : Nat → Option Inv := fun _ => none
noncomputable abbrev c_lawGaussBack : Cfg := cfgS (Tryz.f8).ntmps false [(46, p_sure (sp_gawake.prim)), (47, sp_gfit.prim), (39, sp_gPrintG.prim), (41, sp_gParseG.prim), (33, p_sure (sp_gSame.prim)), (48, p_sure (sp_kSameGauss.prim))]
def F_lawGaussBack (y : El sp_lawGaussBack.q) (x : Els sp_lawGaussBack.ps) : Prop :=
  true = true ∧ ∀ (r : Ro [Ty.bo]), r = ((), fitG (toGa x.1), ()) → (r.2.1 = true → ∀ (r : Ro [Ty.st, Ty.it IntKind.i64]), r = ((), prG (toGa x.1)) → (ByteArray.size r.2.1 ≤ (3000 : Nat) ∨ (65536 : Nat) < ByteArray.size r.2.1) ∧ ∀ (r_1 : Ro [tG, Ty.it IntKind.i64]), r_1 = pG (parGG r.2.1) → ((r.2.2.1 != (0 : Int)) = true → (false, ()) = (true, ())) ∧ ((r.2.2.1 != (0 : Int)) = false → ((r_1.2.2.1 != (0 : Int)) = true → (false, ()) = (true, ())) ∧ ((r_1.2.2.1 != (0 : Int)) = false → gsame (toGa x.1) (toGa r_1.2.1) = true ∧ (decide ((↑(ByteArray.size x.2.1) : Int) > (2000 : Int)) = true → ((0 : Int) ≤ (0 : Int) ∧ (0 : Int) ≤ (2000 : Int) ∧ (2000 : Int) ≤ (↑(ByteArray.size x.2.1) : Int)) ∧ ((ByteArray.extract x.2.1 (Int.toNat (0 : Int)) (Int.toNat (2000 : Int))).size ≤ (3000 : Nat) ∨ (65536 : Nat) < (ByteArray.extract x.2.1 (Int.toNat (0 : Int)) (Int.toNat (2000 : Int))).size) ∧ ∀ (r : Ro [tG, Ty.it IntKind.i64]), r = pG (parGG (ByteArray.extract x.2.1 (Int.toNat (0 : Int)) (Int.toNat (2000 : Int)))) → ((r.2.2.1 != (0 : Int)) = true → decide (toGa r.2.1 = toGa ((false, [], [], ()), (false, [], [], ()), ())) = true ∧ (true, ()) = (true, ())) ∧ ((r.2.2.1 != (0 : Int)) = false → ∀ (r_2 : Ro [Ty.st, Ty.it IntKind.i64]), r_2 = ((), prG (toGa r.2.1)) → ((r_2.2.2.1 == (0 : Int)) = true → (ByteArray.toList r_2.2.1 == (ByteArray.extract x.2.1 (Int.toNat (0 : Int)) (Int.toNat (2000 : Int))).toList, ()) = (true, ())) ∧ ((r_2.2.2.1 == (0 : Int)) = false → (false, ()) = (true, ())))) ∧ (decide ((↑(ByteArray.size x.2.1) : Int) > (2000 : Int)) = false → (ByteArray.size x.2.1 ≤ (3000 : Nat) ∨ (65536 : Nat) < ByteArray.size x.2.1) ∧ ∀ (r : Ro [tG, Ty.it IntKind.i64]), r = pG (parGG x.2.1) → ((r.2.2.1 != (0 : Int)) = true → decide (toGa r.2.1 = toGa ((false, [], [], ()), (false, [], [], ()), ())) = true ∧ (true, ()) = (true, ())) ∧ ((r.2.2.1 != (0 : Int)) = false → ∀ (r_2 : Ro [Ty.st, Ty.it IntKind.i64]), r_2 = ((), prG (toGa r.2.1)) → ((r_2.2.2.1 == (0 : Int)) = true → (ByteArray.toList r_2.2.1 == ByteArray.toList x.2.1, ()) = (true, ())) ∧ ((r_2.2.2.1 == (0 : Int)) = false → (false, ()) = (true, ()))))))) ∧ (r.2.1 = false → (decide ((↑(ByteArray.size x.2.1) : Int) > (2000 : Int)) = true → ((0 : Int) ≤ (0 : Int) ∧ (0 : Int) ≤ (2000 : Int) ∧ (2000 : Int) ≤ (↑(ByteArray.size x.2.1) : Int)) ∧ ((ByteArray.extract x.2.1 (Int.toNat (0 : Int)) (Int.toNat (2000 : Int))).size ≤ (3000 : Nat) ∨ (65536 : Nat) < (ByteArray.extract x.2.1 (Int.toNat (0 : Int)) (Int.toNat (2000 : Int))).size) ∧ ∀ (r : Ro [tG, Ty.it IntKind.i64]), r = pG (parGG (ByteArray.extract x.2.1 (Int.toNat (0 : Int)) (Int.toNat (2000 : Int)))) → ((r.2.2.1 != (0 : Int)) = true → decide (toGa r.2.1 = toGa ((false, [], [], ()), (false, [], [], ()), ())) = true ∧ (true, ()) = (true, ())) ∧ ((r.2.2.1 != (0 : Int)) = false → ∀ (r_1 : Ro [Ty.st, Ty.it IntKind.i64]), r_1 = ((), prG (toGa r.2.1)) → ((r_1.2.2.1 == (0 : Int)) = true → (ByteArray.toList r_1.2.1 == (ByteArray.extract x.2.1 (Int.toNat (0 : Int)) (Int.toNat (2000 : Int))).toList, ()) = (true, ())) ∧ ((r_1.2.2.1 == (0 : Int)) = false → (false, ()) = (true, ())))) ∧ (decide ((↑(ByteArray.size x.2.1) : Int) > (2000 : Int)) = false → (ByteArray.size x.2.1 ≤ (3000 : Nat) ∨ (65536 : Nat) < ByteArray.size x.2.1) ∧ ∀ (r : Ro [tG, Ty.it IntKind.i64]), r = pG (parGG x.2.1) → ((r.2.2.1 != (0 : Int)) = true → decide (toGa r.2.1 = toGa ((false, [], [], ()), (false, [], [], ()), ())) = true ∧ (true, ()) = (true, ())) ∧ ((r.2.2.1 != (0 : Int)) = false → ∀ (r_1 : Ro [Ty.st, Ty.it IntKind.i64]), r_1 = ((), prG (toGa r.2.1)) → ((r_1.2.2.1 == (0 : Int)) = true → (ByteArray.toList r_1.2.1 == ByteArray.toList x.2.1, ()) = (true, ())) ∧ ((r_1.2.2.1 == (0 : Int)) = false → (false, ()) = (true, ())))))
theorem w_lawGaussBack (y : El sp_lawGaussBack.q) (x : Els sp_lawGaussBack.ps) : aW c_lawGaussBack (iv_lawGaussBack y x) Tryz.f8 sp_lawGaussBack y x = F_lawGaussBack y x := by kernel_rfl
theorem m_lawGaussBack (y : El (.un)) (x : Els [tG, .st]) (h2 : wfE (.un) y) (h3 : wfEs [tG, .st] x) : F_lawGaussBack y x := by
  unfold F_lawGaussBack
  refine ⟨rfl, ?_⟩
  rintro _ rfl
  refine ⟨fun hf => ?_, fun hf => ⟨fun hs => ?_, fun hs => ?_⟩⟩
  · have hf : fitG (toGa x.1) = true := hf
    unfold fitG at hf
    obtain ⟨g0, l1, l2, l3, l4⟩ := of_decide_eq_true hf
    obtain ⟨b1, b2, b3⟩ := gback_of (wf_ga h3.1) g0 ⟨l1, l2⟩ ⟨l3, l4⟩
    intro r hr
    obtain rfl := hr.trans (congrArg stE (prG_ok g0 (by omega)))
    refine ⟨.inl (show (txGa (toGa x.1)).size ≤ 3000 by omega), ?_⟩
    intro r hr
    obtain rfl := hr.trans (congrArg pG b3)
    refine ⟨fun h => Bool.noConfusion (show false = true from h), fun _ => ⟨fun h => Bool.noConfusion (show false = true from h), fun _ => ⟨(gsame_dec g0).trans (decide_eq_true rfl), fun hs => ?_, fun hs => ?_⟩⟩⟩
    · have hs := gtT hs
      have hs3 : (ByteArray.extract x.2.1 0 2000).size ≤ 3000 := by
        rw [ByteArray.size_extract]
        omega
      refine ⟨⟨Int.le_refl 0, by decide, Int.le_of_lt hs⟩, ?_⟩
      refine ⟨.inl hs3, ?_⟩
      intro r hr
      by_cases ho : okGG (ByteArray.extract x.2.1 0 2000) = true
      · obtain rfl := hr.trans (congrArg pG (pgg_ok hs3 ho))
        refine ⟨fun h => Bool.noConfusion (show false = true from h), fun _ => ?_⟩
        intro r hr
        have hr : r = stE (prG (toGa (ofGa ⟨frG (cutB (ByteArray.extract x.2.1 0 2000) b_sp).1, frG (cutB (ByteArray.extract x.2.1 0 2000) b_sp).2.1⟩))) := hr
        rw [toGa_of4, gpr_par hs3 ho] at hr
        obtain rfl := hr
        exact ⟨fun _ => congrArg (fun b => (b, ())) (beq_self_eq_true _), fun h => Bool.noConfusion (show true = false from h)⟩
      · obtain rfl := hr.trans (congrArg pG (pgg_bad hs3 ho))
        exact ⟨fun _ => ⟨decide_eq_true rfl, rfl⟩, fun h => Bool.noConfusion (show true = false from h)⟩
    · have hs3 : (ByteArray.size x.2.1) ≤ 3000 := by
        have : ByteArray.size x.2.1 ≤ 2000 := Int.ofNat_le.1 (gtF hs)
        omega
      refine ⟨.inl hs3, ?_⟩
      intro r hr
      by_cases ho : okGG x.2.1 = true
      · obtain rfl := hr.trans (congrArg pG (pgg_ok hs3 ho))
        refine ⟨fun h => Bool.noConfusion (show false = true from h), fun _ => ?_⟩
        intro r hr
        have hr : r = stE (prG (toGa (ofGa ⟨frG (cutB x.2.1 b_sp).1, frG (cutB x.2.1 b_sp).2.1⟩))) := hr
        rw [toGa_of4, gpr_par hs3 ho] at hr
        obtain rfl := hr
        exact ⟨fun _ => congrArg (fun b => (b, ())) (beq_self_eq_true _), fun h => Bool.noConfusion (show true = false from h)⟩
      · obtain rfl := hr.trans (congrArg pG (pgg_bad hs3 ho))
        exact ⟨fun _ => ⟨decide_eq_true rfl, rfl⟩, fun h => Bool.noConfusion (show true = false from h)⟩
  · have hs := gtT hs
    have hs3 : (ByteArray.extract x.2.1 0 2000).size ≤ 3000 := by
      rw [ByteArray.size_extract]
      omega
    refine ⟨⟨Int.le_refl 0, by decide, Int.le_of_lt hs⟩, ?_⟩
    refine ⟨.inl hs3, ?_⟩
    intro r hr
    by_cases ho : okGG (ByteArray.extract x.2.1 0 2000) = true
    · obtain rfl := hr.trans (congrArg pG (pgg_ok hs3 ho))
      refine ⟨fun h => Bool.noConfusion (show false = true from h), fun _ => ?_⟩
      intro r hr
      have hr : r = stE (prG (toGa (ofGa ⟨frG (cutB (ByteArray.extract x.2.1 0 2000) b_sp).1, frG (cutB (ByteArray.extract x.2.1 0 2000) b_sp).2.1⟩))) := hr
      rw [toGa_of4, gpr_par hs3 ho] at hr
      obtain rfl := hr
      exact ⟨fun _ => congrArg (fun b => (b, ())) (beq_self_eq_true _), fun h => Bool.noConfusion (show true = false from h)⟩
    · obtain rfl := hr.trans (congrArg pG (pgg_bad hs3 ho))
      exact ⟨fun _ => ⟨decide_eq_true rfl, rfl⟩, fun h => Bool.noConfusion (show true = false from h)⟩
  · have hs3 : (ByteArray.size x.2.1) ≤ 3000 := by
      have : ByteArray.size x.2.1 ≤ 2000 := Int.ofNat_le.1 (gtF hs)
      omega
    refine ⟨.inl hs3, ?_⟩
    intro r hr
    by_cases ho : okGG x.2.1 = true
    · obtain rfl := hr.trans (congrArg pG (pgg_ok hs3 ho))
      refine ⟨fun h => Bool.noConfusion (show false = true from h), fun _ => ?_⟩
      intro r hr
      have hr : r = stE (prG (toGa (ofGa ⟨frG (cutB x.2.1 b_sp).1, frG (cutB x.2.1 b_sp).2.1⟩))) := hr
      rw [toGa_of4, gpr_par hs3 ho] at hr
      obtain rfl := hr
      exact ⟨fun _ => congrArg (fun b => (b, ())) (beq_self_eq_true _), fun h => Bool.noConfusion (show true = false from h)⟩
    · obtain rfl := hr.trans (congrArg pG (pgg_bad hs3 ho))
      exact ⟨fun _ => ⟨decide_eq_true rfl, rfl⟩, fun h => Bool.noConfusion (show true = false from h)⟩
theorem fo_lawGaussBack : FnOk Tryz.prog 8 sp_lawGaussBack := fnOk_of (C := c_lawGaussBack) iv_lawGaussBack Tryz.func8 rfl (by kernel_rfl) tys_ok (prims_cons (pr_sure (spec_prim fo_gawake)) (prims_cons (spec_prim fo_gfit) (prims_cons (spec_prim fo_gPrintG) (prims_cons (spec_prim fo_gParseG) (prims_cons (pr_sure (spec_prim fo_gSame)) (prims_cons (pr_sure (spec_prim fo_kSameGauss)) prims_nil)))))) mixed_ (Nat.le_refl _) rfl fun y x h1 h2 h3 h4 =>
  Eq.mpr (w_lawGaussBack y x) (m_lawGaussBack y x h2 h3)
end Go.Proofs.YtjoonfegjobgbaaGreatDoor
namespace Go.Proofs.YtjoonfegjobgbaaGreatDoor
open Go.ChangeShapes Go.WideShapes Go.ChangeAt Go.RowKit Go.Joins Go.Deep
set_option linter.unusedVariables false
section
variable {H : Type} {enc : TypeId × Value → H} {P : Program} {w : World} {base : Nat} {spare : Nat → Bool} {held : Bool}
end
theorem mk_own : ownKnob Tryz.prog.godebug = none := by kernel_rfl
theorem mk_laidOut : laidOutB Tryz.prog = true := by kernel_rfl
end Go.Proofs.YtjoonfegjobgbaaGreatDoor
namespace Go.Proofs.YtjoonfegjobgbaaGreatDoor
open Go Go.RowKit Go.ChangeShapes Go.WideShapes Go.ChangeAt Go.Joins Go.Deep
def Ty.inn : Ty → Bool
  | .bo => true
  | .it _ => true
  | .st => true
  | .sl t => t.inn && !Nat.beq t.size 0
  | .pr a b => a.inn && b.inn
  | .un => true
  | _ => false
abbrev Zw (W : World) : Nat → Prop := fun g => g < W.heap.size
theorem lit_wf {k : IntKind} {n : Int} (h : (Lit.int k n).wf = true) : k.min ≤ n ∧ n ≤ k.max := by simpa [Lit.wf] using h
theorem inn_struct {P : Program} {tb : Tbl} {t e : Nat} {a b : Ty} (h : TyOk P tb t (.pr a b) e) : ∃ fs, P.underlying t = some (.struct fs) ∧ fsB tb (.pr a b) 0 fs.toList = true := by
  obtain ⟨d, h1, h2⟩ := h.und
  unfold dscB at h2
  split at h2 <;> first
    | (cases h2; done)
    | (rename_i e2; cases e2; done)
    | skip
  all_goals
    rename_i e2
    cases e2
    exact ⟨_, h1, h2⟩
theorem inn_slice {P : Program} {tb : Tbl} {t e : Nat} {u : Ty} (h : TyOk P tb t (.sl u) e) : P.underlying t = some (.slice e) ∧ ∃ e', look tb e = some (u, e') := by
  obtain ⟨d, h1, h2⟩ := h.und
  unfold dscB at h2
  split at h2 <;> first
    | (cases h2; done)
    | (rename_i e2; cases e2; done)
    | skip
  all_goals
    rename_i e2
    cases e2
    simp only [Bool.and_eq_true] at h2
    rw [Nat.eq_of_beq_eq_true h2.1] at h1
    exact ⟨h1, isT_look h2.2⟩
theorem size_of_ {P : Program} {tb : Tbl} {t e : Nat} {y : Ty} (h : TyOk P tb t y e) : P.cellsOf t = y.size := by
  obtain ⟨i, z, h1, h2, _⟩ := h.info
  simp [Program.cellsOf, h1, h2]
theorem rt_in {H : Type} {enc : TypeId × Value → H} {P : Program} {W : World} {tb : Tbl} (hT : tyB P tb tb = true) : ∀ (y : Ty), y.inn = true →
    (∀ {t e fuel : Nat} {cs : List Value} {x : DataW H × List MemPlace}, look tb t = some (y, e) → DataW.trod enc P W 0 (fun _ => true) true fuel t cs = some x → ∃ v : El y, RT (Zw W) W y v cs) ∧
    (∀ {o : Nat} {fs : List Field} {cs : List Value}, fsB tb y o fs = true → (∀ (i : Nat) (f : Field), fs[i]? = some f → ∃ (n : Nat) (x : DataW H × List MemPlace), DataW.trod enc P W 0 (fun _ => true) true n f.type ((cs.drop f.offset).take (P.cellsOf f.type)) = some x) → cs.length = o + y.size → ∃ v : El y, RT (Zw W) W y v (cs.drop o))
  | .bo, _ => by
    refine ⟨fun {t e fuel cs x} hl h => ?_, fun {o fs cs} h _ _ => by simp [fsB] at h⟩
    obtain ⟨d, h1, h2⟩ := (tyB_sound hT hl).und
    have : d = .bool := by cases d <;> simp [dscB] at h2; rfl
    subst this
    obtain ⟨b, rfl, _⟩ := DataW.trod_bool h1 h
    exact ⟨b, by rw [RT]⟩
  | .it k, _ => by
    refine ⟨fun {t e fuel cs x} hl h => ?_, fun {o fs cs} h _ _ => by simp [fsB] at h⟩
    obtain ⟨d, h1, h2⟩ := (tyB_sound hT hl).und
    have : d = .int k := by cases d <;> simp [dscB] at h2; rw [h2]
    subst this
    obtain ⟨n, rfl, _, hw⟩ := DataW.trod_int h1 h
    exact ⟨n, by rw [RT]; exact ⟨rfl, lit_wf hw⟩⟩
  | .st, _ => by
    refine ⟨fun {t e fuel cs x} hl h => ?_, fun {o fs cs} h _ _ => by simp [fsB] at h⟩
    obtain ⟨d, h1, h2⟩ := (tyB_sound hT hl).und
    have : d = .string := by cases d <;> simp [dscB] at h2; rfl
    subst this
    obtain ⟨s, rfl, _, hs⟩ := DataW.trod_string h1 h
    exact ⟨s, by rw [RT]; exact ⟨rfl, by simp only [maxLen] at hs; omega⟩⟩
  | .un, _ => by
    refine ⟨fun {t e fuel cs x} hl h => ?_, fun {o fs cs} _ _ hl => ⟨(), by rw [RT]; exact List.drop_of_length_le (by rw [hl]; exact Nat.le_refl _)⟩⟩
    obtain ⟨d, h1, h2⟩ := (tyB_sound hT hl).und
    cases d with
    | struct fs =>
      obtain ⟨xs, n, _, _, hl', _⟩ := DataW.trod_struct h1 h
      rw [size_of_ (tyB_sound hT hl)] at hl'
      exact ⟨(), by rw [RT]; exact List.eq_nil_of_length_eq_zero hl'⟩
    | _ => simp [dscB] at h2
  | .sl u, hy => by
    refine ⟨fun {t e fuel cs x} hl h => ?_, fun {o fs cs} h _ _ => by simp [fsB] at h⟩
    simp only [Ty.inn, Bool.and_eq_true, Bool.not_eq_true'] at hy
    have hu : u.size ≠ 0 := fun e0 => by rw [e0] at hy; exact absurd hy.2 (by decide)
    obtain ⟨h1, e', h2⟩ := inn_slice (tyB_sound hT hl)
    have hs := size_of_ (tyB_sound hT h2)
    rcases open_slice h1 h with ⟨rfl, _⟩ | ⟨a, len, cap, m, n, D, Pl, rfl, _, hl2, hm, rfl, _, hi⟩
    · exact ⟨[], RT.sl_nil _ _ _⟩
    · have hi : ∀ i, i < m → ∃ cs', W.cells? 0 (a.add (i * P.cellsOf e)) (P.cellsOf e) = some cs' ∧ DataW.trod enc P W 0 (fun _ => true) true n e cs' = some (D i, Pl i) := fun i hic => hi i hic
      simp only [maxLen] at hm
      have each : ∀ j, j < len → ∃ v : El u, ∃ us, RT (Zw W) W u v us ∧ us.length = u.size ∧ ∀ (i : Nat) (z : Value), us[i]? = some z → W.cell? ((a.add (j * u.size)).add i) = some z := fun j hj => by
        obtain ⟨us, k1, k2⟩ := hi j (by omega)
        obtain ⟨_, k3, k4⟩ := World.cells?_some k1
        obtain ⟨v, hv⟩ := (rt_in hT u hy.1).1 h2 k2
        rw [hs] at k3 k4
        refine ⟨v, us, hv, k3, fun i z hz => ?_⟩
        rw [k4 i (by rw [← k3]; exact (List.getElem?_eq_some_iff.1 hz).1)]
        exact hz
      haveI : Inhabited (El u) := ⟨dfl u⟩
      obtain ⟨f, hf⟩ := choose_lt each
      have hlen : ((List.range len).map f).length = len := by simp
      refine ⟨(List.range len).map f, ?_⟩
      rw [RT]
      refine ⟨some a, m, by rw [hlen], by rw [hlen]; exact hl2, by omega, (fun e => by cases e), fun j hj => ?_⟩
      rw [hlen] at hj
      obtain ⟨us, k1, k2, k3⟩ := hf j hj
      have e1 : ((List.range len).map f)[j]'(by rw [hlen]; exact hj) = f j := by simp
      rw [e1]
      have hpos : 0 < us.length := by omega
      obtain ⟨us0, _, l2, l3⟩ := hf 0 (by omega)
      have d0 := l3 0 _ (List.getElem?_eq_getElem (show 0 < us0.length by omega))
      have c0 := k3 0 _ (List.getElem?_eq_getElem hpos)
      obtain ⟨g, o, s⟩ := a
      cases s with
      | some s =>
        exfalso
        have e3 : ((⟨g, o, some s⟩ : Addr).add (0 * u.size)).add 0 = ⟨g, o, some s⟩ := by rw [Nat.zero_mul]; rfl
        rw [e3] at d0
        unfold World.cell? at d0
        split at d0 <;> simp at d0
      | none =>
        have e2 : ∀ i, ((⟨g, o, none⟩ : Addr).add (j * u.size)).add i = ⟨g, o + (j * u.size + i), none⟩ := fun i => by rw [add_plain, add_plain, Nat.add_assoc]
        refine ⟨g, o, us, rfl, ?_, k1, fun i z hz => ?_⟩
        · rw [e2] at c0
          exact World.block_lt_of_cell? W _ c0
        · have := k3 i z hz
          rw [e2] at this
          exact this
  | .pr a b, hy => by
    simp only [Ty.inn, Bool.and_eq_true] at hy
    have key : ∀ {o : Nat} {fs : List Field} {cs : List Value}, fsB tb (.pr a b) o fs = true → (∀ (i : Nat) (f : Field), fs[i]? = some f → ∃ (n : Nat) (x : DataW H × List MemPlace), DataW.trod enc P W 0 (fun _ => true) true n f.type ((cs.drop f.offset).take (P.cellsOf f.type)) = some x) → cs.length = o + (Ty.pr a b).size → ∃ v : El (.pr a b), RT (Zw W) W (.pr a b) v (cs.drop o) := fun {o fs cs} h hf hl => by
      cases fs with
      | nil => simp [fsB] at h
      | cons f fs =>
        simp only [fsB, Bool.and_eq_true] at h
        obtain ⟨⟨h1, h2⟩, h3⟩ := h
        obtain ⟨e, h2⟩ := isT_look h2
        obtain ⟨n, x, h4⟩ := hf 0 f rfl
        obtain ⟨v, hv⟩ := (rt_in hT a hy.1).1 h2 h4
        have hl' : cs.length = o + a.size + b.size := by rw [hl]; show o + (a.size + b.size) = _; omega
        obtain ⟨v', hv'⟩ := (rt_in hT b hy.2).2 h3 (fun i f' h => hf (i + 1) f' (by simpa using h)) hl'
        rw [Nat.eq_of_beq_eq_true h1, size_of_ (tyB_sound hT h2)] at hv
        refine ⟨(v, v'), ?_⟩
        rw [RT]
        refine ⟨_, _, ?_, hv, hv'⟩
        rw [← List.drop_drop, List.take_append_drop]
    refine ⟨fun {t e fuel cs x} hl h => ?_, key⟩
    obtain ⟨fs, h1, h2⟩ := inn_struct (tyB_sound hT hl)
    obtain ⟨xs, n, _, _, h3, h4, h5⟩ := DataW.trod_struct h1 h
    rw [size_of_ (tyB_sound hT hl)] at h3
    have := key (cs := cs) h2 (fun i f hf => by
      have hi := (List.getElem?_eq_some_iff.1 hf).1
      have h6 := h5 i f (by simpa using hf)
      have h7 : i < xs.length := by rw [h4]; simpa using hi
      exact ⟨n, xs[i], h6.trans (List.getElem?_eq_getElem h7)⟩) (by omega)
    simpa using this
  | .pt _, h => by cases h
  | .fn, h => by cases h
  | .lt _, h => by cases h
  | .lf _, h => by cases h
  | .oq, h => by cases h
theorem rv_in {H : Type} {enc : TypeId × Value → H} {P : Program} {W : World} {tb : Tbl} (hT : tyB P tb tb = true) {b0 t e : Nat} (y : Ty) (hy : y.inn = true) (hl : look tb t = some (y, e)) {v : Value} {d : DataW H} {p : List MemPlace} (hv : Value.okWide P W .any b0 t v) (h : DataW.Trod enc P W 0 (fun _ => true) true t v d p) : ∃ x : El y, RV (Zw W) W y x v := by
  obtain ⟨fuel, h⟩ := h
  have hty := tyB_sound hT hl
  obtain ⟨x, hx⟩ := (rt_in hT y hy).1 hl h
  refine ⟨x, ?_⟩
  unfold RV
  have one : v.cells.toList = [v] → y.agg = false → (if y.agg = true then ∃ us, v = .agg us ∧ RT (Zw W) W y x us.toList else RT (Zw W) W y x [v]) := fun h1 h2 => by
    rw [if_neg (by simp [h2]), ← h1]; exact hx
  obtain ⟨dsc, u1, u2⟩ := hty.und
  cases y with
  | bo =>
    have : dsc = .bool := by cases dsc <;> simp [dscB] at u2; rfl
    subst this
    obtain ⟨b, rfl⟩ := okWide_bool u1 hv
    exact one rfl rfl
  | it k =>
    have : dsc = .int k := by cases dsc <;> simp [dscB] at u2; rw [u2]
    subst this
    obtain ⟨n, rfl⟩ := okWide_int u1 hv
    exact one rfl rfl
  | st =>
    have : dsc = .string := by cases dsc <;> simp [dscB] at u2; rfl
    subst this
    obtain ⟨n, rfl⟩ := okWide_string u1 hv
    exact one rfl rfl
  | sl u =>
    obtain ⟨h1, _⟩ := inn_slice hty
    obtain ⟨A, l, c, rfl⟩ := okWide_slice h1 hv
    exact one rfl rfl
  | un =>
    cases dsc with
    | struct fs =>
      obtain ⟨cs, rfl, _⟩ := okWide_struct u1 hv
      rw [if_pos (show Ty.un.agg = true from rfl)]
      exact ⟨cs, rfl, hx⟩
    | _ => simp [dscB] at u2
  | pr a b =>
    obtain ⟨fs, h1, _⟩ := inn_struct hty
    obtain ⟨cs, rfl, _⟩ := okWide_struct h1 hv
    rw [if_pos (show (Ty.pr a b).agg = true from rfl)]
    exact ⟨cs, rfl, hx⟩
  | pt _ => cases hy
  | fn => cases hy
  | lt _ => cases hy
  | lf _ => cases hy
  | oq => cases hy
theorem law_calls {P : Program} {f : Nat} {ps : List Ty} (h : FnOk P f { q := .un, ps := ps, rs := [.bo], fresh := true, pre := fun _ _ => none, post := fun _ _ => ((), (true, ())) }) {W : World} {x : Els ps} {vs : List Value} (hg : Glob (Zw W) W) (hv : RVs (Zw W) W ps x vs) : Calls P f vs.toArray W fun e W' => e = .returned (.bool true) ∧ Below W.heap.size W W' := by
  refine (h.2 (Zw W) W 0 vs () x ⟨fun g hg => hg, hg⟩ hv trivial (fun e => by cases e) (fun _ => rfl)).mono ?_
  rintro e w' ⟨v, us, bs, Z', rfl, t1, t2, _, _, _, _, _, t8, _⟩
  have t8 : W.grownBy w' none := t8
  refine ⟨?_, t8.os, t8.tape, t8.output, t8.size, fun k hk => t8.block k hk (by simp)⟩
  match us, t2 with
  | [u], ⟨b, b', _, h1, h2⟩ =>
    have h1 : RT _ w' .bo true [u] ∧ b = [] := h1
    rw [RT] at h1
    have e1 : u = .bool true := by simpa using h1.1
    rcases t1 with ⟨u', e2, rfl⟩ | ⟨h3, _⟩
    · cases e2; rw [e1]
    · simp at h3
end Go.Proofs.YtjoonfegjobgbaaGreatDoor
namespace Go.Proofs.YtjoonfegjobgbaaGreatDoor
open Go Go.RowKit
theorem glob_tab {W : World} (h : Lib.TabIs Tryz.prog W "internal/strconv.uint64pow10" .u64 Lib.pow10Tab) : GlobT (Zw W) W := fun p hp => by
  have e : p = (1, IntKind.u64, Lib.pow10Tab) := by
    unfold globs at hp
    rw [List.nil_append] at hp
    exact List.mem_singleton.1 hp
  subst e
  unfold Lib.TabIs World.var? at h
  rw [show (Tryz.prog).globalNamed "internal/strconv.uint64pow10" = some 1 by kernel_rfl] at h
  have h : (match W.heap[1]? with
    | some (Obj.cells cs _ _) => some cs
    | _ => none) = some (Lib.pow10Tab.map fun z => Value.int .u64 z).toArray := h
  split at h
  · rename_i cs t z hc
    cases h
    exact ⟨(Array.getElem?_eq_some_iff.1 hc).1, t, z, hc⟩
  · cases h
theorem glob_laid {W : World} {L : List (String × DataW Unit)} (h : laidMetH Tryz.prog L W) (e : (L.filter fun x => x.1 == "internal/strconv.uint64pow10") = [("internal/strconv.uint64pow10", Lib.tabData .u64 Lib.pow10Tab)]) (k : GlobE (Zw W) W) : Glob (Zw W) W := by
  have h2 := h.filter fun x => x.1 == "internal/strconv.uint64pow10"
  rw [e, MakeChecks.laidMetH_plain _ _ _ (by kernel_rfl)] at h2
  refine ⟨?_, k⟩
  exact glob_tab (Lib.tabIs_of_head (g := 1) (t := 236) (e := 146) (n := 20) (by kernel_rfl) (by kernel_rfl) Tryz.underlying236 Tryz.underlying146 (by kernel_rfl) (by kernel_rfl) h2)
theorem err_row (u : TypeId) (h : (Tryz.prog).typeName? 3 u = some "*errors.errorString") : u = 247 := typeName_ptr_named (nm := "errors.errorString") (by rw [show "*" ++ "errors.errorString" = "*errors.errorString" by decide]; kernel_rfl) (by kernel_rfl) (by decide) u (by rw [show "*" ++ "errors.errorString" = "*errors.errorString" by decide]; exact h)
theorem ev_yntax {W : World} {L : List (String × DataW Unit)} {x : List UInt8} (h : laidMetH Tryz.prog L W) (e : (L.filter fun x => x.1 == "strconv.ErrSyntax") = [("strconv.ErrSyntax", .iface "*errors.errorString" (.ptr (.agg [.lit (.string x)])))]) : Zw W 2 ∧ ∃ te pe t z, W.heap[2]? = some (.cells #[.iface te pe] t z) := by
  have h2 := h.filter fun x => x.1 == "strconv.ErrSyntax"
  rw [e, MakeChecks.laidMetH_plain _ _ _ (by rfl)] at h2
  obtain ⟨a, s, hv, _⟩ := laid_sentinel (g := 2) (ti := 167) (tp := 247) (te := 249) (ts := 9) h2 (by kernel_rfl) (by kernel_rfl) Tryz.underlying167 err_row Tryz.underlying247 Tryz.underlying249 rfl rfl Tryz.underlying9 (by kernel_rfl) (by kernel_rfl)
  unfold World.var? at hv
  rw [show (Tryz.prog).globalNamed "strconv.ErrSyntax" = some 2 by kernel_rfl] at hv
  have hv : (match W.heap[2]? with
    | some (Obj.cells cs _ _) => some cs
    | _ => none) = some #[.iface 247 (.pointer (some a))] := hv
  split at hv
  · rename_i cs t z hc
    cases hv
    exact ⟨(Array.getElem?_eq_some_iff.1 hc).1, _, _, t, z, hc⟩
  · cases hv
theorem ev_Range {W : World} {L : List (String × DataW Unit)} {x : List UInt8} (h : laidMetH Tryz.prog L W) (e : (L.filter fun x => x.1 == "strconv.ErrRange") = [("strconv.ErrRange", .iface "*errors.errorString" (.ptr (.agg [.lit (.string x)])))]) : Zw W 3 ∧ ∃ te pe t z, W.heap[3]? = some (.cells #[.iface te pe] t z) := by
  have h2 := h.filter fun x => x.1 == "strconv.ErrRange"
  rw [e, MakeChecks.laidMetH_plain _ _ _ (by rfl)] at h2
  obtain ⟨a, s, hv, _⟩ := laid_sentinel (g := 3) (ti := 167) (tp := 247) (te := 249) (ts := 9) h2 (by kernel_rfl) (by kernel_rfl) Tryz.underlying167 err_row Tryz.underlying247 Tryz.underlying249 rfl rfl Tryz.underlying9 (by kernel_rfl) (by kernel_rfl)
  unfold World.var? at hv
  rw [show (Tryz.prog).globalNamed "strconv.ErrRange" = some 3 by kernel_rfl] at hv
  have hv : (match W.heap[3]? with
    | some (Obj.cells cs _ _) => some cs
    | _ => none) = some #[.iface 247 (.pointer (some a))] := hv
  split at hv
  · rename_i cs t z hc
    cases hv
    exact ⟨(Array.getElem?_eq_some_iff.1 hc).1, _, _, t, z, hc⟩
  · cases hv
theorem globE_laid {W : World} {L : List (String × DataW Unit)} (h : laidMetH Tryz.prog L W)
    (e1 : (L.filter fun x => x.1 == "strconv.ErrSyntax") = [("strconv.ErrSyntax", .iface "*errors.errorString" (.ptr (.agg [.lit (.string [105, 110, 118, 97, 108, 105, 100, 32, 115, 121, 110, 116, 97, 120])])))])
    (e2 : (L.filter fun x => x.1 == "strconv.ErrRange") = [("strconv.ErrRange", .iface "*errors.errorString" (.ptr (.agg [.lit (.string [118, 97, 108, 117, 101, 32, 111, 117, 116, 32, 111, 102, 32, 114, 97, 110, 103, 101])])))])
    : GlobE (Zw W) W := fun g hg => by
  unfold globsE at hg
  rw [List.nil_append] at hg
  rcases List.mem_cons.1 hg with rfl | hg
  · exact ev_yntax h e1
  · rcases List.mem_cons.1 hg with rfl | hg
    · exact ev_Range h e2
    · cases hg
end Go.Proofs.YtjoonfegjobgbaaGreatDoor
namespace Go.Proofs.YtjoonfegjobgbaaGreatDoor
open Go
open Go.Shelf
def Sh.laysC172_ren : Go.Shelf.Ren := ⟨fun | 172 => 166 | 244 => 202 | 245 => 203 | 247 => 233 | 279 => 234 | 280 => 235 | 281 => 236 | 282 => 237 | 287 => 212 | 316 => 259 | 171 => 118 | 205 => 260 | 321 => 242 | 322 => 243 | 243 => 165 | 246 => 201 | 283 => 229 | 284 => 230 | 285 => 231 | 286 => 232 | 129 => 255 | 317 => 254 | 318 => 256 | 319 => 257 | 320 => 258 | 337 => 267 | 338 => 268 | n => n, fun | 9 => 9 | 3 => 3 | 75 => 167 | 76 => 168 | 4 => 4 | 5 => 5 | 167 => 217 | 37 => 162 | 0 => 0 | 85 => 218 | 2 => 2 | 168 => 220 | 53 => 146 | 175 => 173 | 46 => 150 | 210 => 242 | 127 => 191 | 145 => 249 | 143 => 247 | 21 => 21 | 171 => 212 | 173 => 215 | 212 => 236 | 51 => 46 | 20 => 20 | 213 => 237 | 232 => 255 | 233 => 256 | 80 => 170 | n => n, fun | 15 => 2 | 16 => 3 | 17 => 1 | 18 => 6 | 19 => 7 | n => n⟩
theorem Sh.laysC172 : Go.Proofs.LaysC.n172 Tryz.prog Sh.laysC172_ren := {
  mixed := by kernel_rfl
  f129 := Tryz.func255.trans (congrArg some (by kernel_rfl))
  f171 := Tryz.func118.trans (congrArg some (by kernel_rfl))
  f172 := Tryz.func166.trans (congrArg some (by kernel_rfl))
  f205 := Tryz.func260.trans (congrArg some (by kernel_rfl))
  f243 := Tryz.func165.trans (congrArg some (by kernel_rfl))
  f244 := Tryz.func202.trans (congrArg some (by kernel_rfl))
  f245 := Tryz.func203.trans (congrArg some (by kernel_rfl))
  f246 := Tryz.func201.trans (congrArg some (by kernel_rfl))
  f247 := Tryz.func233.trans (congrArg some (by kernel_rfl))
  f279 := Tryz.func234.trans (congrArg some (by kernel_rfl))
  f280 := Tryz.func235.trans (congrArg some (by kernel_rfl))
  f281 := Tryz.func236.trans (congrArg some (by kernel_rfl))
  f282 := Tryz.func237.trans (congrArg some (by kernel_rfl))
  f283 := Tryz.func229.trans (congrArg some (by kernel_rfl))
  f284 := Tryz.func230.trans (congrArg some (by kernel_rfl))
  f285 := Tryz.func231.trans (congrArg some (by kernel_rfl))
  f286 := Tryz.func232.trans (congrArg some (by kernel_rfl))
  f287 := Tryz.func212.trans (congrArg some (by kernel_rfl))
  f316 := Tryz.func259.trans (congrArg some (by kernel_rfl))
  f317 := Tryz.func254.trans (congrArg some (by kernel_rfl))
  f318 := Tryz.func256.trans (congrArg some (by kernel_rfl))
  f319 := Tryz.func257.trans (congrArg some (by kernel_rfl))
  f320 := Tryz.func258.trans (congrArg some (by kernel_rfl))
  f321 := Tryz.func242.trans (congrArg some (by kernel_rfl))
  f322 := Tryz.func243.trans (congrArg some (by kernel_rfl))
  f337 := Tryz.func267.trans (congrArg some (by kernel_rfl))
  f338 := Tryz.func268.trans (congrArg some (by kernel_rfl))
  t0 := Tryz.underlying0
  a0 := Tryz.isAgg0
  z0 := Tryz.sizeOf0
  v0 := Tryz.zeroValue0
  t2 := Tryz.underlying2
  a2 := Tryz.isAgg2
  z2 := Tryz.sizeOf2
  v2 := Tryz.zeroValue2
  t3 := Tryz.underlying3
  a3 := Tryz.isAgg3
  z3 := Tryz.sizeOf3
  v3 := Tryz.zeroValue3
  t4 := Tryz.underlying4
  a4 := Tryz.isAgg4
  z4 := Tryz.sizeOf4
  v4 := Tryz.zeroValue4
  t5 := Tryz.underlying5
  a5 := Tryz.isAgg5
  z5 := Tryz.sizeOf5
  v5 := Tryz.zeroValue5
  t9 := Tryz.underlying9
  a9 := Tryz.isAgg9
  z9 := Tryz.sizeOf9
  v9 := Tryz.zeroValue9
  t20 := Tryz.underlying20
  a20 := Tryz.isAgg20
  z20 := Tryz.sizeOf20
  v20 := Tryz.zeroValue20
  t21 := Tryz.underlying21
  a21 := Tryz.isAgg21
  z21 := Tryz.sizeOf21
  v21 := Tryz.zeroValue21
  t37 := Tryz.underlying162
  a37 := Tryz.isAgg162
  z37 := Tryz.sizeOf162
  v37 := Tryz.zeroValue162
  t46 := Tryz.underlying150
  a46 := Tryz.isAgg150
  z46 := Tryz.sizeOf150
  v46 := Tryz.zeroValue150
  t51 := Tryz.underlying46
  a51 := Tryz.isAgg46
  z51 := Tryz.sizeOf46
  v51 := Tryz.zeroValue46
  t53 := Tryz.underlying146
  a53 := Tryz.isAgg146
  z53 := Tryz.sizeOf146
  v53 := Tryz.zeroValue146
  t75 := Tryz.underlying167
  a75 := Tryz.isAgg167
  z75 := Tryz.sizeOf167
  v75 := Tryz.zeroValue167
  t76 := Tryz.underlying168
  a76 := Tryz.isAgg168
  z76 := Tryz.sizeOf168
  v76 := Tryz.zeroValue168
  t85 := Tryz.underlying218
  a85 := Tryz.isAgg218
  z85 := Tryz.sizeOf218
  v85 := Tryz.zeroValue218
  t127 := Tryz.underlying191
  a127 := Tryz.isAgg191
  z127 := Tryz.sizeOf191
  v127 := Tryz.zeroValue191
  t143 := Tryz.underlying247
  a143 := Tryz.isAgg247
  z143 := Tryz.sizeOf247
  v143 := Tryz.zeroValue247
  t145 := Tryz.underlying249
  a145 := Tryz.isAgg249
  z145 := Tryz.sizeOf249
  v145 := Tryz.zeroValue249
  t167 := Tryz.underlying217
  a167 := Tryz.isAgg217
  z167 := Tryz.sizeOf217
  v167 := Tryz.zeroValue217
  t168 := Tryz.underlying220
  a168 := Tryz.isAgg220
  z168 := Tryz.sizeOf220
  v168 := Tryz.zeroValue220
  t171 := Tryz.underlying212
  a171 := Tryz.isAgg212
  z171 := Tryz.sizeOf212
  v171 := Tryz.zeroValue212
  t173 := Tryz.underlying215
  a173 := Tryz.isAgg215
  z173 := Tryz.sizeOf215
  v173 := Tryz.zeroValue215
  t175 := Tryz.underlying173
  a175 := Tryz.isAgg173
  z175 := Tryz.sizeOf173
  v175 := Tryz.zeroValue173
  t210 := Tryz.underlying242
  a210 := Tryz.isAgg242
  z210 := Tryz.sizeOf242
  v210 := Tryz.zeroValue242
  t212 := Tryz.underlying236
  a212 := Tryz.isAgg236
  z212 := Tryz.sizeOf236
  v212 := Tryz.zeroValue236
  t213 := Tryz.underlying237
  a213 := Tryz.isAgg237
  z213 := Tryz.sizeOf237
  t232 := Tryz.underlying255
  a232 := Tryz.isAgg255
  z232 := Tryz.sizeOf255
  v232 := Tryz.zeroValue255
  t233 := Tryz.underlying256
  a233 := Tryz.isAgg256
  z233 := Tryz.sizeOf256
  v233 := Tryz.zeroValue256
  g15 := by kernel_rfl
  g16 := by kernel_rfl
  g17 := by kernel_rfl
  g18 := by kernel_rfl
  g19 := by kernel_rfl
  t80 := Tryz.underlying170
  a80 := Tryz.isAgg170
  z80 := Tryz.sizeOf170
  v80 := Tryz.zeroValue170
  i0 := by kernel_rfl
  i2 := by kernel_rfl
  i3 := by kernel_rfl
  i4 := by kernel_rfl
  i5 := by kernel_rfl
  i9 := by kernel_rfl
  i20 := by kernel_rfl
  i21 := by kernel_rfl
  i37 := by kernel_rfl
  i46 := by kernel_rfl
  i51 := by kernel_rfl
  i53 := by kernel_rfl
  i75 := by kernel_rfl
  i76 := by kernel_rfl
  i80 := by kernel_rfl
  i85 := by kernel_rfl
  i127 := by kernel_rfl
  i143 := by kernel_rfl
  i145 := by kernel_rfl
  i167 := by kernel_rfl
  i168 := by kernel_rfl
  i171 := by kernel_rfl
  i173 := by kernel_rfl
  i175 := by kernel_rfl
  i210 := by kernel_rfl
  i212 := by kernel_rfl
  i232 := by kernel_rfl
  i233 := by kernel_rfl
  m15 := by kernel_rfl
  m16 := by kernel_rfl
  m17 := by kernel_rfl
  m18 := by kernel_rfl
  m19 := by kernel_rfl
  c0 := by kernel_rfl
  c2 := by kernel_rfl
  c3 := by kernel_rfl
  c4 := by kernel_rfl
  c5 := by kernel_rfl
  c9 := by kernel_rfl
  c20 := by kernel_rfl
  c21 := by kernel_rfl
  c37 := by kernel_rfl
  c46 := by kernel_rfl
  c51 := by kernel_rfl
  c53 := by kernel_rfl
  c75 := by kernel_rfl
  c76 := by kernel_rfl
  c80 := by kernel_rfl
  c85 := by kernel_rfl
  c127 := by kernel_rfl
  c143 := by kernel_rfl
  c145 := by kernel_rfl
  c167 := by kernel_rfl
  c168 := by kernel_rfl
  c171 := by kernel_rfl
  c173 := by kernel_rfl
  c175 := by kernel_rfl
  c210 := by kernel_rfl
  c212 := by kernel_rfl
  c213 := by kernel_rfl
  c232 := by kernel_rfl
  c233 := by kernel_rfl }
end Go.Proofs.YtjoonfegjobgbaaGreatDoor
namespace Go.Proofs.YtjoonfegjobgbaaGreatDoor
open Go Go.RowKit Go.Sort Go.Lib
def numN (s : ByteArray) : Int := match Lib.atoiAll s.data.toList with
  | .ok v => v
  | .range => Lib.atoiSat s.data.toList
  | _ => 0
def numK (s : ByteArray) : Bool := match Lib.atoiAll s.data.toList with
  | .ok _ => true
  | _ => false
theorem numN_bd (s : ByteArray) : -9223372036854775808 ≤ numN s ∧ numN s ≤ 9223372036854775807 := by
  unfold numN
  split
  · next v h => exact Lib.atoiAll_bounds h
  · exact Lib.atoiSat_bounds _
  · exact ⟨by decide, by decide⟩
theorem cell_one {w : World} {g : Nat} {v : Value} {t z} (h : w.heap[g]? = some (.cells #[v] t z)) : w.cell? ⟨g, 0, none⟩ = some v := by
  unfold World.cell?
  rw [h]
  rfl
theorem atoi_any (s : ByteArray) (w : World) (hs : s.size ≤ 281474976710656)
    (h1 : ∃ te pe t z, w.heap[2]? = some (.cells #[.iface te pe] t z)) (h2 : ∃ te pe t z, w.heap[3]? = some (.cells #[.iface te pe] t z)) :
    Calls Tryz.prog 166 #[.string s] w fun e w' => (∃ ev, e = .returned (.tuple #[.int .i64 (numN s), ev]) ∧ (numK s = true ∧ ev = .nilIface ∨ numK s = false ∧ ∃ t p, ev = .iface t p)) ∧ Ext w w' := by
  obtain ⟨te1, pe1, t1, z1, c1⟩ := h1
  obtain ⟨te2, pe2, t2, z2, c2⟩ := h2
  have eN : numN s = (match Lib.atoiAll s.data.toList with
    | .ok v => v
    | .range => Lib.atoiSat s.data.toList
    | _ => 0) := rfl
  have eK : numK s = (match Lib.atoiAll s.data.toList with
    | .ok _ => true
    | _ => false) := rfl
  cases hc : Lib.atoiAll s.data.toList
  case ok v =>
    rw [hc] at eN eK
    refine (Any.strconv_Atoi_ok Sh.laysC172 s (by omega) v hc w).mono ?_
    rintro e w' ⟨rfl, h⟩
    refine ⟨⟨_, by rw [eN], .inl ⟨eK, rfl⟩⟩, ?_⟩
    rcases h with rfl | ⟨t, rfl⟩
    · exact Ext.refl _
    · exact Lib.bytesWorld_below _ _ _
  case range =>
    rw [hc] at eN eK
    refine (Any.strconv_Atoi_range Sh.laysC172 s hs hc _ w (cell_one c2) (.inr ⟨_, _, rfl⟩)).mono ?_
    rintro e w' ⟨N, rfl, _, _, h⟩
    exact ⟨⟨_, by rw [eN], .inr ⟨eK, _, _, rfl⟩⟩, h⟩
  all_goals
    rw [hc] at eN eK
    refine (Any.strconv_Atoi_syntax Sh.laysC172 s hs hc _ w (cell_one c1) (.inr ⟨_, _, rfl⟩)).mono ?_
    rintro e w' ⟨N, rfl, _, _, h⟩
    exact ⟨⟨_, by rw [eN], .inr ⟨eK, _, _, rfl⟩⟩, h⟩
def itB (n : Int) : ByteArray := ⟨(Lib.itoa n).toArray⟩
theorem itoa_any (n : Int) (h0 : -9223372036854775808 ≤ n) (h1 : n ≤ 9223372036854775807) (w : World) (htab : Lib.TabIs Tryz.prog w "internal/strconv.uint64pow10" .u64 Lib.pow10Tab) :
    Calls Tryz.prog 118 #[.int .i64 n] w fun e w' => e = .returned (.string (itB n)) ∧ Ext w w' := by
  refine (Sh.strconv_Itoa n h0 h1 w htab).mono ?_
  rintro e w' ⟨rfl, k, os, rfl⟩
  exact ⟨rfl, Lib.below_grow w.heap.size w (Nat.le_refl _) k os⟩
def numB (s : ByteArray) : Bool := numK s && decide (s.size ≤ 5) && ((itB (numN s)).toList == s.toList)
set_option maxHeartbeats 3200000 in
theorem num_walk (s : ByteArray) (w : World) (hs : s.size ≤ 281474976710656) (Z : Nat → Prop) (hz : ZOk Z w) (hE : ((∃ te pe t z, w.heap[2]? = some (.cells #[.iface te pe] t z)) ∧ ∃ te pe t z, w.heap[3]? = some (.cells #[.iface te pe] t z))) :
    Calls Tryz.prog 121 #[.string s] w fun e w' => e = .returned (.tuple #[.int .i32 (RowKit.wrap32 (numN s)), .bool (numB s)]) ∧ Ext w w' := by
  obtain ⟨b0, b1⟩ := numN_bd s
  have HA := Lib.hid (atoi_any s w hs hE.1 hE.2)
  have HZ := Lib.hid hz
  clear hz hE
  have eB : numB s = (numK s && decide (s.size ≤ 5) && ((itB (numN s)).toList == s.toList)) := rfl
  generalize numB s = B at eB ⊢
  generalize numN s = n at *
  generalize numK s = k at *
  go_enter Tryz.func121, Tryz.ntmps121
  go_wp2_with fail
  go_at_call 166
  refine HA.out.mono ?_
  rintro e w1 ⟨⟨ev, rfl, hk⟩, hx⟩
  have HX := Lib.hid hx
  clear hx HA
  rcases hk with ⟨rfl, rfl⟩ | ⟨rfl, t, p, rfl⟩
  · have HT := Lib.hid (tab_of (Glob.mono (fun _ h => h) (fun g hg => HX.out.block g (HZ.out.lt g hg)) HZ.out.gl))
    by_cases hl : s.size ≤ 5
    · have hd : decide ((s.size : Int) ≤ 5) = true := decide_eq_true (by omega)
      go_wp2_with fail
      refine (itoa_any n b0 b1 _ HT.out).mono ?_
      rintro e w2 ⟨rfl, hy⟩
      have HY := Lib.hid ((HX.out).trans hy)
      clear hy
      go_wp2_with fail
      go_ret2
      rw [eB, decide_eq_true hl]
      exact ⟨rfl, HY.out⟩
    · have hd : decide ((s.size : Int) ≤ 5) = false := decide_eq_false (by omega)
      go_wp2_with fail
      go_ret2
      rw [eB, decide_eq_false hl]
      exact ⟨by rw [Bool.and_false, Bool.false_and]; rfl, HX.out⟩
  · go_wp2_with fail
    go_ret2
    rw [eB]
    exact ⟨by rw [Bool.false_and, Bool.false_and]; rfl, HX.out⟩
theorem rq_int32 {Z : Nat → Prop} {w : World} {base : Nat} {x : Int} : RQ true Z w base (.it .i32) (RowKit.wrap32 x) [.int .i32 (RowKit.wrap32 x)] [] := by
  refine ⟨?_, rfl⟩
  rw [RT]
  refine ⟨rfl, ?_, ?_⟩
  · show (-2147483648 : Int) ≤ RowKit.wrap32 x
    unfold RowKit.wrap32
    omega
  · show RowKit.wrap32 x ≤ 2147483647
    unfold RowKit.wrap32
    omega
def sp_sItoa : Spec := { q := .un, ps := [.it .i64], rs := [.st], fresh := true, pre := fun _ _ => none, post := fun _ x => ((), (itB x.1, ())) }
theorem itB_size {n : Int} (h0 : -9223372036854775808 ≤ n) (h1 : n ≤ 9223372036854775807) : (itB n).size ≤ 21 := by
  have e : (itB n).size = (Lib.itoa n).length := by simp [itB, ByteArray.size]
  rw [e]
  unfold Lib.itoa
  split
  · have := dec_len64 (n := n.natAbs) (by omega)
    rw [List.length_cons]
    omega
  · exact Nat.le_trans (dec_len64 (n := n.toNat) (by omega)) (by decide)
theorem fo_sItoa : FnOk Tryz.prog 118 sp_sItoa := by
  refine ⟨callFunc_enter Tryz.func118 (by kernel_rfl) rfl, fun Z w gv vs y x hZ hv hp _ _ => ?_⟩
  obtain ⟨n, u⟩ := x
  match vs, hv with
  | [v1], ⟨h1, _⟩ =>
    obtain ⟨rfl, q0, q1⟩ := rv_int h1
    have q0 : (-9223372036854775808 : Int) ≤ n := q0
    have q1 : (n : Int) ≤ 9223372036854775807 := q1
    refine (itoa_any n q0 q1 w (tab_of hZ.gl)).mono fun e w' ⟨e1, e2⟩ => ?_
    subst e1
    exact told_new (S := sp_sItoa) (r := (itB n, ())) (us := [_]) (bs := []) rfl rfl (.inl ⟨_, rfl, rfl⟩) hZ ⟨[], [], rfl, rq_str (base := w.heap.size) (x := itB n) (Nat.le_trans (itB_size q0 q1) (by decide)), rfl⟩ List.nodup_nil (fun g hg => by simp at hg) e2
theorem err_mem (g : Nat) (h : g = 2 ∨ g = 3) : g ∈ globsE := by
  unfold globsE
  rw [List.nil_append]
  rcases h with rfl | rfl
  · exact List.mem_cons_self
  · exact List.mem_cons_of_mem _ List.mem_cons_self
def sp_tnum : Spec := { q := .un, ps := [.st], rs := [.it .i32, .bo], fresh := true, pre := fun _ x => some (ByteArray.size x.1 ≤ 65536), post := fun _ x => ((), (RowKit.wrap32 (numN x.1), numB x.1, ())) }
theorem fo_tnum : FnOk Tryz.prog 121 sp_tnum := by
  refine ⟨callFunc_enter Tryz.func121 (by kernel_rfl) rfl, fun Z w gv vs y x hZ hv hp _ _ => ?_⟩
  obtain ⟨s, u⟩ := x
  match vs, hv with
  | [v1], ⟨h1, _⟩ =>
    have hp : s.size ≤ 65536 := hp
    obtain ⟨rfl, s1⟩ := rv_str h1
    refine (num_walk s w (by omega) Z hZ ⟨(hZ.gl.2 _ (err_mem _ (.inl rfl))).2, (hZ.gl.2 _ (err_mem _ (.inr rfl))).2⟩).mono fun e w' ⟨e1, e2⟩ => ?_
    subst e1
    exact told_new (S := sp_tnum) (r := (RowKit.wrap32 (numN s), numB s, ())) (us := [_, _]) (bs := []) rfl rfl (.inr ⟨by simp, rfl⟩) hZ ⟨[], [], rfl, rq_int32 (base := w.heap.size) (x := numN s), [], [], rfl, rq_bool (base := w.heap.size), rfl⟩ List.nodup_nil (fun g hg => by simp at hg) e2
end Go.Proofs.YtjoonfegjobgbaaGreatDoor
