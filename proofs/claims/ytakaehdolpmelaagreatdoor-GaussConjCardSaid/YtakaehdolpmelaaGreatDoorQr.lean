/- Texts of this claim, joined: B7 B8 B9 A26 Y2 U3 Y4 B10 B11 Y5 Y7 U15 B12 A27 B13 B14 B15 B16 B17 B18 H0 H1. -/
import Derived.Deep.AppendLies
import Derived.Deep.RegionHeldLaw
import Derived.Test.YtakaehdolpmelaaGreatDoorQq
set_option linter.unusedVariables false
set_option linter.unusedSimpArgs false
set_option maxRecDepth 100000
namespace Go.Proofs.YtakaehdolpmelaaGreatDoor
open Go Go.RowKit
theorem fneg_2 (a : Fr) : (fneg a).2 = fchk a := by
  unfold fneg
  by_cases h : fchk a = 0 <;> simp [h]
theorem gchk_0 {a : El tG} (h : gchk (toGa a) = 0) : fchk (toFr a.1) = 0 ∧ fchk (toFr a.2.1) = 0 := by
  unfold gchk fchk2 at h
  by_cases k : fchk (toFr a.1) = 0 <;> simp_all
noncomputable def sp_gNeg : Spec := spG1 gneg
noncomputable def iv_gNeg (y : El sp_gNeg.q) (x : Els sp_gNeg.ps) : Nat → Option Inv := fun _ => none
noncomputable abbrev c_gNeg : Cfg := cfgS (Tryz.f19).ntmps false [(53, sp_asked.prim), (38, sp_rNeg.prim), (62, p_made), (56, p_told)]
theorem w_gNeg (y : El sp_gNeg.q) (x : Els sp_gNeg.ps) : aW c_gNeg (iv_gNeg y x) Tryz.f19 sp_gNeg y x =
  (∀ (r : Ro [tW.pt]), r = ((), (gchks (0 : Int) [x.1], ()), ()) → ∀ (r_1 : Ro [tR, Ty.it IntKind.i64]), r_1 = ((), ((fneg (toFr x.1.1)).1.neg, (fneg (toFr x.1.1)).1.num, (fneg (toFr x.1.1)).1.den, ()), (fneg (toFr x.1.1)).2, ()) → ∀ (r_2 : Ro [tR, Ty.it IntKind.i64]), r_2 = ((), ((fneg (toFr x.1.2.1)).1.neg, (fneg (toFr x.1.2.1)).1.num, (fneg (toFr x.1.2.1)).1.den, ()), (fneg (toFr x.1.2.1)).2, ()) → (((bif decide ((if (if r.2.1.1 ≠ (0 : Int) then r.2.1.1 else r_1.2.2.1) ≠ (0 : Int) then if r.2.1.1 ≠ (0 : Int) then r.2.1.1 else r_1.2.2.1 else r_2.2.2.1) ≠ (0 : Int)) then false else bif decide (r.2.1.1 ≠ (0 : Int)) then false else r_1.2.1.1, bif decide ((if (if r.2.1.1 ≠ (0 : Int) then r.2.1.1 else r_1.2.2.1) ≠ (0 : Int) then if r.2.1.1 ≠ (0 : Int) then r.2.1.1 else r_1.2.2.1 else r_2.2.2.1) ≠ (0 : Int)) then [] else bif decide (r.2.1.1 ≠ (0 : Int)) then [] else r_1.2.1.2.1, bif decide ((if (if r.2.1.1 ≠ (0 : Int) then r.2.1.1 else r_1.2.2.1) ≠ (0 : Int) then if r.2.1.1 ≠ (0 : Int) then r.2.1.1 else r_1.2.2.1 else r_2.2.2.1) ≠ (0 : Int)) then [] else bif decide (r.2.1.1 ≠ (0 : Int)) then [] else r_1.2.1.2.2.1, ()), (bif decide ((if (if r.2.1.1 ≠ (0 : Int) then r.2.1.1 else r_1.2.2.1) ≠ (0 : Int) then if r.2.1.1 ≠ (0 : Int) then r.2.1.1 else r_1.2.2.1 else r_2.2.2.1) ≠ (0 : Int)) then false else bif decide ((if r.2.1.1 ≠ (0 : Int) then r.2.1.1 else r_1.2.2.1) ≠ (0 : Int)) then false else r_2.2.1.1, bif decide ((if (if r.2.1.1 ≠ (0 : Int) then r.2.1.1 else r_1.2.2.1) ≠ (0 : Int) then if r.2.1.1 ≠ (0 : Int) then r.2.1.1 else r_1.2.2.1 else r_2.2.2.1) ≠ (0 : Int)) then [] else bif decide ((if r.2.1.1 ≠ (0 : Int) then r.2.1.1 else r_1.2.2.1) ≠ (0 : Int)) then [] else r_2.2.1.2.1, bif decide ((if (if r.2.1.1 ≠ (0 : Int) then r.2.1.1 else r_1.2.2.1) ≠ (0 : Int) then if r.2.1.1 ≠ (0 : Int) then r.2.1.1 else r_1.2.2.1 else r_2.2.2.1) ≠ (0 : Int)) then [] else bif decide ((if r.2.1.1 ≠ (0 : Int) then r.2.1.1 else r_1.2.2.1) ≠ (0 : Int)) then [] else r_2.2.1.2.2.1, ()), ()), if (if r.2.1.1 ≠ (0 : Int) then r.2.1.1 else r_1.2.2.1) ≠ (0 : Int) then if r.2.1.1 ≠ (0 : Int) then r.2.1.1 else r_1.2.2.1 else r_2.2.2.1, ()) = ((((gneg (toGa x.1)).1.re.neg, (gneg (toGa x.1)).1.re.num, (gneg (toGa x.1)).1.re.den, ()), ((gneg (toGa x.1)).1.im.neg, (gneg (toGa x.1)).1.im.num, (gneg (toGa x.1)).1.im.den, ()), ()), (gneg (toGa x.1)).2, ())) := by kernel_rfl
theorem m_gNeg (y : El (.un)) (x : Els [tG]) (h2 : wfE (.un) y) (h3 : wfEs [tG] x) :
  (∀ (r : Ro [tW.pt]), r = ((), (gchks (0 : Int) [x.1], ()), ()) → ∀ (r_1 : Ro [tR, Ty.it IntKind.i64]), r_1 = ((), ((fneg (toFr x.1.1)).1.neg, (fneg (toFr x.1.1)).1.num, (fneg (toFr x.1.1)).1.den, ()), (fneg (toFr x.1.1)).2, ()) → ∀ (r_2 : Ro [tR, Ty.it IntKind.i64]), r_2 = ((), ((fneg (toFr x.1.2.1)).1.neg, (fneg (toFr x.1.2.1)).1.num, (fneg (toFr x.1.2.1)).1.den, ()), (fneg (toFr x.1.2.1)).2, ()) → (((bif decide ((if (if r.2.1.1 ≠ (0 : Int) then r.2.1.1 else r_1.2.2.1) ≠ (0 : Int) then if r.2.1.1 ≠ (0 : Int) then r.2.1.1 else r_1.2.2.1 else r_2.2.2.1) ≠ (0 : Int)) then false else bif decide (r.2.1.1 ≠ (0 : Int)) then false else r_1.2.1.1, bif decide ((if (if r.2.1.1 ≠ (0 : Int) then r.2.1.1 else r_1.2.2.1) ≠ (0 : Int) then if r.2.1.1 ≠ (0 : Int) then r.2.1.1 else r_1.2.2.1 else r_2.2.2.1) ≠ (0 : Int)) then [] else bif decide (r.2.1.1 ≠ (0 : Int)) then [] else r_1.2.1.2.1, bif decide ((if (if r.2.1.1 ≠ (0 : Int) then r.2.1.1 else r_1.2.2.1) ≠ (0 : Int) then if r.2.1.1 ≠ (0 : Int) then r.2.1.1 else r_1.2.2.1 else r_2.2.2.1) ≠ (0 : Int)) then [] else bif decide (r.2.1.1 ≠ (0 : Int)) then [] else r_1.2.1.2.2.1, ()), (bif decide ((if (if r.2.1.1 ≠ (0 : Int) then r.2.1.1 else r_1.2.2.1) ≠ (0 : Int) then if r.2.1.1 ≠ (0 : Int) then r.2.1.1 else r_1.2.2.1 else r_2.2.2.1) ≠ (0 : Int)) then false else bif decide ((if r.2.1.1 ≠ (0 : Int) then r.2.1.1 else r_1.2.2.1) ≠ (0 : Int)) then false else r_2.2.1.1, bif decide ((if (if r.2.1.1 ≠ (0 : Int) then r.2.1.1 else r_1.2.2.1) ≠ (0 : Int) then if r.2.1.1 ≠ (0 : Int) then r.2.1.1 else r_1.2.2.1 else r_2.2.2.1) ≠ (0 : Int)) then [] else bif decide ((if r.2.1.1 ≠ (0 : Int) then r.2.1.1 else r_1.2.2.1) ≠ (0 : Int)) then [] else r_2.2.1.2.1, bif decide ((if (if r.2.1.1 ≠ (0 : Int) then r.2.1.1 else r_1.2.2.1) ≠ (0 : Int) then if r.2.1.1 ≠ (0 : Int) then r.2.1.1 else r_1.2.2.1 else r_2.2.2.1) ≠ (0 : Int)) then [] else bif decide ((if r.2.1.1 ≠ (0 : Int) then r.2.1.1 else r_1.2.2.1) ≠ (0 : Int)) then [] else r_2.2.1.2.2.1, ()), ()), if (if r.2.1.1 ≠ (0 : Int) then r.2.1.1 else r_1.2.2.1) ≠ (0 : Int) then if r.2.1.1 ≠ (0 : Int) then r.2.1.1 else r_1.2.2.1 else r_2.2.2.1, ()) = ((((gneg (toGa x.1)).1.re.neg, (gneg (toGa x.1)).1.re.num, (gneg (toGa x.1)).1.re.den, ()), ((gneg (toGa x.1)).1.im.neg, (gneg (toGa x.1)).1.im.num, (gneg (toGa x.1)).1.im.den, ()), ()), (gneg (toGa x.1)).2, ())) := by
  rintro _ rfl _ rfl _ rfl
  have e : gchks 0 [x.1] = gchk (toGa x.1) := gchks1 _
  simp only [e, gneg, fneg_2]
  by_cases h : gchk (toGa x.1) = 0
  · obtain ⟨p, q⟩ := gchk_0 h
    simp [h, p, q]
  · simp [h, Ga.zero, Fr.zero]
theorem fo_gNeg : FnOk Tryz.prog 19 sp_gNeg := fnOk_of (C := c_gNeg) iv_gNeg Tryz.func19 rfl (by kernel_rfl) tys_ok (prims_cons (spec_prim fo_asked) (prims_cons (spec_prim fo_rNeg) (prims_cons pr_made (prims_cons pr_told prims_nil)))) mixed_ (Nat.le_refl _) rfl fun y x h1 h2 h3 h4 =>
  Eq.mpr (w_gNeg y x) (m_gNeg y x h2 h3)
noncomputable def sp_gQuo : Spec := spG2 gquo
noncomputable def iv_gQuo (y : El sp_gQuo.q) (x : Els sp_gQuo.ps) : Nat → Option Inv := fun _ => none
noncomputable abbrev c_gQuo : Cfg := cfgS (Tryz.f16).ntmps false [(53, sp_asked.prim), (17, sp_gZero.prim), (57, sp_norm.prim), (59, sp_turned.prim), (58, sp_product.prim), (60, sp_wquo.prim), (56, p_told)]
theorem w_gQuo (y : El sp_gQuo.q) (x : Els sp_gQuo.ps) : aW c_gQuo (iv_gQuo y x) Tryz.f16 sp_gQuo y x =
  (∀ (r : Ro [tW.pt]), r = ((), (gchks (0 : Int) [x.1, x.2.1], ()), ()) → ((r.2.1.1 == (0 : Int)) = true → ∀ (r_1 : Ro [Ty.bo]), r_1 = ((), gzero (toGa x.2.1), ()) → (r_1.2.1 = true → ∀ (r : El tW × Els [tR]), r = (((wnorm (7 : Int) (toGa x.2.1)).2, ()), ((wnorm (7 : Int) (toGa x.2.1)).1.neg, (wnorm (7 : Int) (toGa x.2.1)).1.num, (wnorm (7 : Int) (toGa x.2.1)).1.den, ()), ()) → ∀ (r_2 : Ro [tG]), r_2 = ((), (((toFr x.2.1.1).neg, (toFr x.2.1.1).num, (toFr x.2.1.1).den, ()), ((fneg (toFr x.2.1.2.1)).1.neg, (fneg (toFr x.2.1.2.1)).1.num, (fneg (toFr x.2.1.2.1)).1.den, ()), ()), ()) → ∀ (r_3 : El tW × Els [tR, tR]), r_3 = (((wprod r.1.1 (toGa x.1) (toGa r_2.2.1)).2.2, ()), ((wprod r.1.1 (toGa x.1) (toGa r_2.2.1)).1.neg, (wprod r.1.1 (toGa x.1) (toGa r_2.2.1)).1.num, (wprod r.1.1 (toGa x.1) (toGa r_2.2.1)).1.den, ()), ((wprod r.1.1 (toGa x.1) (toGa r_2.2.1)).2.1.neg, (wprod r.1.1 (toGa x.1) (toGa r_2.2.1)).2.1.num, (wprod r.1.1 (toGa x.1) (toGa r_2.2.1)).2.1.den, ()), ()) → ∀ (r_4 : El tW × Els [tR]), r_4 = (((wquo r_3.1.1 (toFr r_3.2.1) (toFr r.2.1)).2, ()), ((wquo r_3.1.1 (toFr r_3.2.1) (toFr r.2.1)).1.neg, (wquo r_3.1.1 (toFr r_3.2.1) (toFr r.2.1)).1.num, (wquo r_3.1.1 (toFr r_3.2.1) (toFr r.2.1)).1.den, ()), ()) → ∀ (r_5 : El tW × Els [tR]), r_5 = (((wquo r_4.1.1 (toFr r_3.2.2.1) (toFr r.2.1)).2, ()), ((wquo r_4.1.1 (toFr r_3.2.2.1) (toFr r.2.1)).1.neg, (wquo r_4.1.1 (toFr r_3.2.2.1) (toFr r.2.1)).1.num, (wquo r_4.1.1 (toFr r_3.2.2.1) (toFr r.2.1)).1.den, ()), ()) → (((bif decide (r_5.1.1 ≠ (0 : Int)) then false else r_4.2.1.1, bif decide (r_5.1.1 ≠ (0 : Int)) then [] else r_4.2.1.2.1, bif decide (r_5.1.1 ≠ (0 : Int)) then [] else r_4.2.1.2.2.1, ()), (bif decide (r_5.1.1 ≠ (0 : Int)) then false else r_5.2.1.1, bif decide (r_5.1.1 ≠ (0 : Int)) then [] else r_5.2.1.2.1, bif decide (r_5.1.1 ≠ (0 : Int)) then [] else r_5.2.1.2.2.1, ()), ()), r_5.1) = ((((gquo (toGa x.1) (toGa x.2.1)).1.re.neg, (gquo (toGa x.1) (toGa x.2.1)).1.re.num, (gquo (toGa x.1) (toGa x.2.1)).1.re.den, ()), ((gquo (toGa x.1) (toGa x.2.1)).1.im.neg, (gquo (toGa x.1) (toGa x.2.1)).1.im.num, (gquo (toGa x.1) (toGa x.2.1)).1.im.den, ()), ()), (gquo (toGa x.1) (toGa x.2.1)).2, ())) ∧ (r_1.2.1 = false → ∀ (r_2 : El tW × Els [tR]), r_2 = (((wnorm r.2.1.1 (toGa x.2.1)).2, ()), ((wnorm r.2.1.1 (toGa x.2.1)).1.neg, (wnorm r.2.1.1 (toGa x.2.1)).1.num, (wnorm r.2.1.1 (toGa x.2.1)).1.den, ()), ()) → ∀ (r : Ro [tG]), r = ((), (((toFr x.2.1.1).neg, (toFr x.2.1.1).num, (toFr x.2.1.1).den, ()), ((fneg (toFr x.2.1.2.1)).1.neg, (fneg (toFr x.2.1.2.1)).1.num, (fneg (toFr x.2.1.2.1)).1.den, ()), ()), ()) → ∀ (r_3 : El tW × Els [tR, tR]), r_3 = (((wprod r_2.1.1 (toGa x.1) (toGa r.2.1)).2.2, ()), ((wprod r_2.1.1 (toGa x.1) (toGa r.2.1)).1.neg, (wprod r_2.1.1 (toGa x.1) (toGa r.2.1)).1.num, (wprod r_2.1.1 (toGa x.1) (toGa r.2.1)).1.den, ()), ((wprod r_2.1.1 (toGa x.1) (toGa r.2.1)).2.1.neg, (wprod r_2.1.1 (toGa x.1) (toGa r.2.1)).2.1.num, (wprod r_2.1.1 (toGa x.1) (toGa r.2.1)).2.1.den, ()), ()) → ∀ (r : El tW × Els [tR]), r = (((wquo r_3.1.1 (toFr r_3.2.1) (toFr r_2.2.1)).2, ()), ((wquo r_3.1.1 (toFr r_3.2.1) (toFr r_2.2.1)).1.neg, (wquo r_3.1.1 (toFr r_3.2.1) (toFr r_2.2.1)).1.num, (wquo r_3.1.1 (toFr r_3.2.1) (toFr r_2.2.1)).1.den, ()), ()) → ∀ (r_4 : El tW × Els [tR]), r_4 = (((wquo r.1.1 (toFr r_3.2.2.1) (toFr r_2.2.1)).2, ()), ((wquo r.1.1 (toFr r_3.2.2.1) (toFr r_2.2.1)).1.neg, (wquo r.1.1 (toFr r_3.2.2.1) (toFr r_2.2.1)).1.num, (wquo r.1.1 (toFr r_3.2.2.1) (toFr r_2.2.1)).1.den, ()), ()) → (((bif decide (r_4.1.1 ≠ (0 : Int)) then false else r.2.1.1, bif decide (r_4.1.1 ≠ (0 : Int)) then [] else r.2.1.2.1, bif decide (r_4.1.1 ≠ (0 : Int)) then [] else r.2.1.2.2.1, ()), (bif decide (r_4.1.1 ≠ (0 : Int)) then false else r_4.2.1.1, bif decide (r_4.1.1 ≠ (0 : Int)) then [] else r_4.2.1.2.1, bif decide (r_4.1.1 ≠ (0 : Int)) then [] else r_4.2.1.2.2.1, ()), ()), r_4.1) = ((((gquo (toGa x.1) (toGa x.2.1)).1.re.neg, (gquo (toGa x.1) (toGa x.2.1)).1.re.num, (gquo (toGa x.1) (toGa x.2.1)).1.re.den, ()), ((gquo (toGa x.1) (toGa x.2.1)).1.im.neg, (gquo (toGa x.1) (toGa x.2.1)).1.im.num, (gquo (toGa x.1) (toGa x.2.1)).1.im.den, ()), ()), (gquo (toGa x.1) (toGa x.2.1)).2, ()))) ∧ ((r.2.1.1 == (0 : Int)) = false → ∀ (r_1 : El tW × Els [tR]), r_1 = (((wnorm r.2.1.1 (toGa x.2.1)).2, ()), ((wnorm r.2.1.1 (toGa x.2.1)).1.neg, (wnorm r.2.1.1 (toGa x.2.1)).1.num, (wnorm r.2.1.1 (toGa x.2.1)).1.den, ()), ()) → ∀ (r : Ro [tG]), r = ((), (((toFr x.2.1.1).neg, (toFr x.2.1.1).num, (toFr x.2.1.1).den, ()), ((fneg (toFr x.2.1.2.1)).1.neg, (fneg (toFr x.2.1.2.1)).1.num, (fneg (toFr x.2.1.2.1)).1.den, ()), ()), ()) → ∀ (r_2 : El tW × Els [tR, tR]), r_2 = (((wprod r_1.1.1 (toGa x.1) (toGa r.2.1)).2.2, ()), ((wprod r_1.1.1 (toGa x.1) (toGa r.2.1)).1.neg, (wprod r_1.1.1 (toGa x.1) (toGa r.2.1)).1.num, (wprod r_1.1.1 (toGa x.1) (toGa r.2.1)).1.den, ()), ((wprod r_1.1.1 (toGa x.1) (toGa r.2.1)).2.1.neg, (wprod r_1.1.1 (toGa x.1) (toGa r.2.1)).2.1.num, (wprod r_1.1.1 (toGa x.1) (toGa r.2.1)).2.1.den, ()), ()) → ∀ (r : El tW × Els [tR]), r = (((wquo r_2.1.1 (toFr r_2.2.1) (toFr r_1.2.1)).2, ()), ((wquo r_2.1.1 (toFr r_2.2.1) (toFr r_1.2.1)).1.neg, (wquo r_2.1.1 (toFr r_2.2.1) (toFr r_1.2.1)).1.num, (wquo r_2.1.1 (toFr r_2.2.1) (toFr r_1.2.1)).1.den, ()), ()) → ∀ (r_3 : El tW × Els [tR]), r_3 = (((wquo r.1.1 (toFr r_2.2.2.1) (toFr r_1.2.1)).2, ()), ((wquo r.1.1 (toFr r_2.2.2.1) (toFr r_1.2.1)).1.neg, (wquo r.1.1 (toFr r_2.2.2.1) (toFr r_1.2.1)).1.num, (wquo r.1.1 (toFr r_2.2.2.1) (toFr r_1.2.1)).1.den, ()), ()) → (((bif decide (r_3.1.1 ≠ (0 : Int)) then false else r.2.1.1, bif decide (r_3.1.1 ≠ (0 : Int)) then [] else r.2.1.2.1, bif decide (r_3.1.1 ≠ (0 : Int)) then [] else r.2.1.2.2.1, ()), (bif decide (r_3.1.1 ≠ (0 : Int)) then false else r_3.2.1.1, bif decide (r_3.1.1 ≠ (0 : Int)) then [] else r_3.2.1.2.1, bif decide (r_3.1.1 ≠ (0 : Int)) then [] else r_3.2.1.2.2.1, ()), ()), r_3.1) = ((((gquo (toGa x.1) (toGa x.2.1)).1.re.neg, (gquo (toGa x.1) (toGa x.2.1)).1.re.num, (gquo (toGa x.1) (toGa x.2.1)).1.re.den, ()), ((gquo (toGa x.1) (toGa x.2.1)).1.im.neg, (gquo (toGa x.1) (toGa x.2.1)).1.im.num, (gquo (toGa x.1) (toGa x.2.1)).1.im.den, ()), ()), (gquo (toGa x.1) (toGa x.2.1)).2, ()))) := by kernel_rfl
theorem m_gQuo (y : El (.un)) (x : Els [tG, tG]) (h2 : wfE (.un) y) (h3 : wfEs [tG, tG] x) :
  (∀ (r : Ro [tW.pt]), r = ((), (gchks (0 : Int) [x.1, x.2.1], ()), ()) → ((r.2.1.1 == (0 : Int)) = true → ∀ (r_1 : Ro [Ty.bo]), r_1 = ((), gzero (toGa x.2.1), ()) → (r_1.2.1 = true → ∀ (r : El tW × Els [tR]), r = (((wnorm (7 : Int) (toGa x.2.1)).2, ()), ((wnorm (7 : Int) (toGa x.2.1)).1.neg, (wnorm (7 : Int) (toGa x.2.1)).1.num, (wnorm (7 : Int) (toGa x.2.1)).1.den, ()), ()) → ∀ (r_2 : Ro [tG]), r_2 = ((), (((toFr x.2.1.1).neg, (toFr x.2.1.1).num, (toFr x.2.1.1).den, ()), ((fneg (toFr x.2.1.2.1)).1.neg, (fneg (toFr x.2.1.2.1)).1.num, (fneg (toFr x.2.1.2.1)).1.den, ()), ()), ()) → ∀ (r_3 : El tW × Els [tR, tR]), r_3 = (((wprod r.1.1 (toGa x.1) (toGa r_2.2.1)).2.2, ()), ((wprod r.1.1 (toGa x.1) (toGa r_2.2.1)).1.neg, (wprod r.1.1 (toGa x.1) (toGa r_2.2.1)).1.num, (wprod r.1.1 (toGa x.1) (toGa r_2.2.1)).1.den, ()), ((wprod r.1.1 (toGa x.1) (toGa r_2.2.1)).2.1.neg, (wprod r.1.1 (toGa x.1) (toGa r_2.2.1)).2.1.num, (wprod r.1.1 (toGa x.1) (toGa r_2.2.1)).2.1.den, ()), ()) → ∀ (r_4 : El tW × Els [tR]), r_4 = (((wquo r_3.1.1 (toFr r_3.2.1) (toFr r.2.1)).2, ()), ((wquo r_3.1.1 (toFr r_3.2.1) (toFr r.2.1)).1.neg, (wquo r_3.1.1 (toFr r_3.2.1) (toFr r.2.1)).1.num, (wquo r_3.1.1 (toFr r_3.2.1) (toFr r.2.1)).1.den, ()), ()) → ∀ (r_5 : El tW × Els [tR]), r_5 = (((wquo r_4.1.1 (toFr r_3.2.2.1) (toFr r.2.1)).2, ()), ((wquo r_4.1.1 (toFr r_3.2.2.1) (toFr r.2.1)).1.neg, (wquo r_4.1.1 (toFr r_3.2.2.1) (toFr r.2.1)).1.num, (wquo r_4.1.1 (toFr r_3.2.2.1) (toFr r.2.1)).1.den, ()), ()) → (((bif decide (r_5.1.1 ≠ (0 : Int)) then false else r_4.2.1.1, bif decide (r_5.1.1 ≠ (0 : Int)) then [] else r_4.2.1.2.1, bif decide (r_5.1.1 ≠ (0 : Int)) then [] else r_4.2.1.2.2.1, ()), (bif decide (r_5.1.1 ≠ (0 : Int)) then false else r_5.2.1.1, bif decide (r_5.1.1 ≠ (0 : Int)) then [] else r_5.2.1.2.1, bif decide (r_5.1.1 ≠ (0 : Int)) then [] else r_5.2.1.2.2.1, ()), ()), r_5.1) = ((((gquo (toGa x.1) (toGa x.2.1)).1.re.neg, (gquo (toGa x.1) (toGa x.2.1)).1.re.num, (gquo (toGa x.1) (toGa x.2.1)).1.re.den, ()), ((gquo (toGa x.1) (toGa x.2.1)).1.im.neg, (gquo (toGa x.1) (toGa x.2.1)).1.im.num, (gquo (toGa x.1) (toGa x.2.1)).1.im.den, ()), ()), (gquo (toGa x.1) (toGa x.2.1)).2, ())) ∧ (r_1.2.1 = false → ∀ (r_2 : El tW × Els [tR]), r_2 = (((wnorm r.2.1.1 (toGa x.2.1)).2, ()), ((wnorm r.2.1.1 (toGa x.2.1)).1.neg, (wnorm r.2.1.1 (toGa x.2.1)).1.num, (wnorm r.2.1.1 (toGa x.2.1)).1.den, ()), ()) → ∀ (r : Ro [tG]), r = ((), (((toFr x.2.1.1).neg, (toFr x.2.1.1).num, (toFr x.2.1.1).den, ()), ((fneg (toFr x.2.1.2.1)).1.neg, (fneg (toFr x.2.1.2.1)).1.num, (fneg (toFr x.2.1.2.1)).1.den, ()), ()), ()) → ∀ (r_3 : El tW × Els [tR, tR]), r_3 = (((wprod r_2.1.1 (toGa x.1) (toGa r.2.1)).2.2, ()), ((wprod r_2.1.1 (toGa x.1) (toGa r.2.1)).1.neg, (wprod r_2.1.1 (toGa x.1) (toGa r.2.1)).1.num, (wprod r_2.1.1 (toGa x.1) (toGa r.2.1)).1.den, ()), ((wprod r_2.1.1 (toGa x.1) (toGa r.2.1)).2.1.neg, (wprod r_2.1.1 (toGa x.1) (toGa r.2.1)).2.1.num, (wprod r_2.1.1 (toGa x.1) (toGa r.2.1)).2.1.den, ()), ()) → ∀ (r : El tW × Els [tR]), r = (((wquo r_3.1.1 (toFr r_3.2.1) (toFr r_2.2.1)).2, ()), ((wquo r_3.1.1 (toFr r_3.2.1) (toFr r_2.2.1)).1.neg, (wquo r_3.1.1 (toFr r_3.2.1) (toFr r_2.2.1)).1.num, (wquo r_3.1.1 (toFr r_3.2.1) (toFr r_2.2.1)).1.den, ()), ()) → ∀ (r_4 : El tW × Els [tR]), r_4 = (((wquo r.1.1 (toFr r_3.2.2.1) (toFr r_2.2.1)).2, ()), ((wquo r.1.1 (toFr r_3.2.2.1) (toFr r_2.2.1)).1.neg, (wquo r.1.1 (toFr r_3.2.2.1) (toFr r_2.2.1)).1.num, (wquo r.1.1 (toFr r_3.2.2.1) (toFr r_2.2.1)).1.den, ()), ()) → (((bif decide (r_4.1.1 ≠ (0 : Int)) then false else r.2.1.1, bif decide (r_4.1.1 ≠ (0 : Int)) then [] else r.2.1.2.1, bif decide (r_4.1.1 ≠ (0 : Int)) then [] else r.2.1.2.2.1, ()), (bif decide (r_4.1.1 ≠ (0 : Int)) then false else r_4.2.1.1, bif decide (r_4.1.1 ≠ (0 : Int)) then [] else r_4.2.1.2.1, bif decide (r_4.1.1 ≠ (0 : Int)) then [] else r_4.2.1.2.2.1, ()), ()), r_4.1) = ((((gquo (toGa x.1) (toGa x.2.1)).1.re.neg, (gquo (toGa x.1) (toGa x.2.1)).1.re.num, (gquo (toGa x.1) (toGa x.2.1)).1.re.den, ()), ((gquo (toGa x.1) (toGa x.2.1)).1.im.neg, (gquo (toGa x.1) (toGa x.2.1)).1.im.num, (gquo (toGa x.1) (toGa x.2.1)).1.im.den, ()), ()), (gquo (toGa x.1) (toGa x.2.1)).2, ()))) ∧ ((r.2.1.1 == (0 : Int)) = false → ∀ (r_1 : El tW × Els [tR]), r_1 = (((wnorm r.2.1.1 (toGa x.2.1)).2, ()), ((wnorm r.2.1.1 (toGa x.2.1)).1.neg, (wnorm r.2.1.1 (toGa x.2.1)).1.num, (wnorm r.2.1.1 (toGa x.2.1)).1.den, ()), ()) → ∀ (r : Ro [tG]), r = ((), (((toFr x.2.1.1).neg, (toFr x.2.1.1).num, (toFr x.2.1.1).den, ()), ((fneg (toFr x.2.1.2.1)).1.neg, (fneg (toFr x.2.1.2.1)).1.num, (fneg (toFr x.2.1.2.1)).1.den, ()), ()), ()) → ∀ (r_2 : El tW × Els [tR, tR]), r_2 = (((wprod r_1.1.1 (toGa x.1) (toGa r.2.1)).2.2, ()), ((wprod r_1.1.1 (toGa x.1) (toGa r.2.1)).1.neg, (wprod r_1.1.1 (toGa x.1) (toGa r.2.1)).1.num, (wprod r_1.1.1 (toGa x.1) (toGa r.2.1)).1.den, ()), ((wprod r_1.1.1 (toGa x.1) (toGa r.2.1)).2.1.neg, (wprod r_1.1.1 (toGa x.1) (toGa r.2.1)).2.1.num, (wprod r_1.1.1 (toGa x.1) (toGa r.2.1)).2.1.den, ()), ()) → ∀ (r : El tW × Els [tR]), r = (((wquo r_2.1.1 (toFr r_2.2.1) (toFr r_1.2.1)).2, ()), ((wquo r_2.1.1 (toFr r_2.2.1) (toFr r_1.2.1)).1.neg, (wquo r_2.1.1 (toFr r_2.2.1) (toFr r_1.2.1)).1.num, (wquo r_2.1.1 (toFr r_2.2.1) (toFr r_1.2.1)).1.den, ()), ()) → ∀ (r_3 : El tW × Els [tR]), r_3 = (((wquo r.1.1 (toFr r_2.2.2.1) (toFr r_1.2.1)).2, ()), ((wquo r.1.1 (toFr r_2.2.2.1) (toFr r_1.2.1)).1.neg, (wquo r.1.1 (toFr r_2.2.2.1) (toFr r_1.2.1)).1.num, (wquo r.1.1 (toFr r_2.2.2.1) (toFr r_1.2.1)).1.den, ()), ()) → (((bif decide (r_3.1.1 ≠ (0 : Int)) then false else r.2.1.1, bif decide (r_3.1.1 ≠ (0 : Int)) then [] else r.2.1.2.1, bif decide (r_3.1.1 ≠ (0 : Int)) then [] else r.2.1.2.2.1, ()), (bif decide (r_3.1.1 ≠ (0 : Int)) then false else r_3.2.1.1, bif decide (r_3.1.1 ≠ (0 : Int)) then [] else r_3.2.1.2.1, bif decide (r_3.1.1 ≠ (0 : Int)) then [] else r_3.2.1.2.2.1, ()), ()), r_3.1) = ((((gquo (toGa x.1) (toGa x.2.1)).1.re.neg, (gquo (toGa x.1) (toGa x.2.1)).1.re.num, (gquo (toGa x.1) (toGa x.2.1)).1.re.den, ()), ((gquo (toGa x.1) (toGa x.2.1)).1.im.neg, (gquo (toGa x.1) (toGa x.2.1)).1.im.num, (gquo (toGa x.1) (toGa x.2.1)).1.im.den, ()), ()), (gquo (toGa x.1) (toGa x.2.1)).2, ()))) := by
  rintro _ rfl
  have e : gchks 0 [x.1, x.2.1] = gchk2 (toGa x.1) (toGa x.2.1) := gchks2 _ _
  simp only [e]
  refine ⟨fun h => ?_, fun h => ?_⟩
  · rintro _ rfl
    have h := eq_of_beq h
    refine ⟨fun k => ?_, fun k => ?_⟩
    · have hE : (if gchk2 (toGa x.1) (toGa x.2.1) ≠ 0 then gchk2 (toGa x.1) (toGa x.2.1) else if gzero (toGa x.2.1) = true then (7 : Int) else 0) = 7 := by rw [if_neg (by simp [h]), if_pos k]
      rintro _ rfl _ rfl _ rfl _ rfl _ rfl
      simp only [gquo, gtell, hE]
      split <;> simp_all [Ga.zero, Fr.zero]
    · have hE : (if gchk2 (toGa x.1) (toGa x.2.1) ≠ 0 then gchk2 (toGa x.1) (toGa x.2.1) else if gzero (toGa x.2.1) = true then (7 : Int) else 0) = gchk2 (toGa x.1) (toGa x.2.1) := by rw [if_neg (by simp [h]), if_neg (by simpa using k), h]
      rintro _ rfl _ rfl _ rfl _ rfl _ rfl
      simp only [gquo, gtell, hE]
      split <;> simp_all [Ga.zero, Fr.zero]
  · have h : gchk2 (toGa x.1) (toGa x.2.1) ≠ 0 := by simpa using h
    have hE : (if gchk2 (toGa x.1) (toGa x.2.1) ≠ 0 then gchk2 (toGa x.1) (toGa x.2.1) else if gzero (toGa x.2.1) = true then (7 : Int) else 0) = gchk2 (toGa x.1) (toGa x.2.1) := if_pos h
    rintro _ rfl _ rfl _ rfl _ rfl _ rfl
    simp only [gquo, gtell, hE]
    split <;> simp_all [Ga.zero, Fr.zero]
theorem fo_gQuo : FnOk Tryz.prog 16 sp_gQuo := fnOk_of (C := c_gQuo) iv_gQuo Tryz.func16 rfl (by kernel_rfl) tys_ok (prims_cons (spec_prim fo_asked) (prims_cons (spec_prim fo_gZero) (prims_cons (spec_prim fo_norm) (prims_cons (spec_prim fo_turned) (prims_cons (spec_prim fo_product) (prims_cons (spec_prim fo_wquo) (prims_cons pr_told prims_nil))))))) mixed_ (Nat.le_refl _) rfl fun y x h1 h2 h3 h4 =>
  Eq.mpr (w_gQuo y x) (m_gQuo y x h2 h3)
theorem wf_i {l : List Int} (h : wfE tW32 l) : Wf l := fun x hx => ⟨(h.2 x hx).1, Int.lt_of_le_of_lt (h.2 x hx).2 (by decide)⟩
theorem wf_fr {a : El tR} (h : wfE tR a) : (toFr a).Wf := ⟨wf_i h.2.1, wf_i h.2.2.1⟩
theorem fsmall_nought_ : fsmall 0 1 = (enc 0, 0) := by
  unfold fsmall
  rw [if_neg (by decide), show (0 : Int).natAbs = 0 from rfl, sg_zero, show mkRat 0 (Int.natAbs 1) = 0 from rfl]
  exact tell_ok (lng_of (by rw [show (0 : Rat).num.natAbs = 0 from rfl, wd_zero]; decide) (by rw [show (0 : Rat).den = 1 from rfl, wd_one]; decide))
theorem wadd_nought {a : Fr} (wa : a.Wf) (h : fchk a = 0) : wadd 0 a (fsmall 0 1).1 = (a, 0) := by
  rw [fsmall_nought_]
  unfold wadd
  rw [stp_ok]
  exact fadd_nought wa h
noncomputable def sp_gConj : Spec := spG1 gconj
noncomputable def iv_gConj (y : El sp_gConj.q) (x : Els sp_gConj.ps) : Nat → Option Inv := fun _ => none
noncomputable abbrev c_gConj : Cfg := cfgS (Tryz.f18).ntmps false [(53, sp_asked.prim), (40, sp_rSmall.prim), (61, sp_wadd.prim), (38, sp_rNeg.prim), (62, p_made), (56, p_told)]
theorem w_gConj (y : El sp_gConj.q) (x : Els sp_gConj.ps) : aW c_gConj (iv_gConj y x) Tryz.f18 sp_gConj y x =
  (∀ (r : Ro [tW.pt]), r = ((), (gchks (0 : Int) [x.1], ()), ()) → ∀ (r_1 : Ro [tR, Ty.it IntKind.i64]), r_1 = ((), ((fsmall (0 : Int) (1 : Int)).1.neg, (fsmall (0 : Int) (1 : Int)).1.num, (fsmall (0 : Int) (1 : Int)).1.den, ()), (fsmall (0 : Int) (1 : Int)).2, ()) → ∀ (r_2 : El tW × Els [tR]), r_2 = (((wadd r.2.1.1 (toFr x.1.1) (toFr r_1.2.1)).2, ()), ((wadd r.2.1.1 (toFr x.1.1) (toFr r_1.2.1)).1.neg, (wadd r.2.1.1 (toFr x.1.1) (toFr r_1.2.1)).1.num, (wadd r.2.1.1 (toFr x.1.1) (toFr r_1.2.1)).1.den, ()), ()) → ∀ (r : Ro [tR, Ty.it IntKind.i64]), r = ((), ((fneg (toFr x.1.2.1)).1.neg, (fneg (toFr x.1.2.1)).1.num, (fneg (toFr x.1.2.1)).1.den, ()), (fneg (toFr x.1.2.1)).2, ()) → (((bif decide ((if r_2.1.1 ≠ (0 : Int) then r_2.1.1 else r.2.2.1) ≠ (0 : Int)) then false else r_2.2.1.1, bif decide ((if r_2.1.1 ≠ (0 : Int) then r_2.1.1 else r.2.2.1) ≠ (0 : Int)) then [] else r_2.2.1.2.1, bif decide ((if r_2.1.1 ≠ (0 : Int) then r_2.1.1 else r.2.2.1) ≠ (0 : Int)) then [] else r_2.2.1.2.2.1, ()), (bif decide ((if r_2.1.1 ≠ (0 : Int) then r_2.1.1 else r.2.2.1) ≠ (0 : Int)) then false else bif decide (r_2.1.1 ≠ (0 : Int)) then false else r.2.1.1, bif decide ((if r_2.1.1 ≠ (0 : Int) then r_2.1.1 else r.2.2.1) ≠ (0 : Int)) then [] else bif decide (r_2.1.1 ≠ (0 : Int)) then [] else r.2.1.2.1, bif decide ((if r_2.1.1 ≠ (0 : Int) then r_2.1.1 else r.2.2.1) ≠ (0 : Int)) then [] else bif decide (r_2.1.1 ≠ (0 : Int)) then [] else r.2.1.2.2.1, ()), ()), if r_2.1.1 ≠ (0 : Int) then r_2.1.1 else r.2.2.1, ()) = ((((gconj (toGa x.1)).1.re.neg, (gconj (toGa x.1)).1.re.num, (gconj (toGa x.1)).1.re.den, ()), ((gconj (toGa x.1)).1.im.neg, (gconj (toGa x.1)).1.im.num, (gconj (toGa x.1)).1.im.den, ()), ()), (gconj (toGa x.1)).2, ())) := by kernel_rfl
theorem m_gConj (y : El (.un)) (x : Els [tG]) (h2 : wfE (.un) y) (h3 : wfEs [tG] x) :
  (∀ (r : Ro [tW.pt]), r = ((), (gchks (0 : Int) [x.1], ()), ()) → ∀ (r_1 : Ro [tR, Ty.it IntKind.i64]), r_1 = ((), ((fsmall (0 : Int) (1 : Int)).1.neg, (fsmall (0 : Int) (1 : Int)).1.num, (fsmall (0 : Int) (1 : Int)).1.den, ()), (fsmall (0 : Int) (1 : Int)).2, ()) → ∀ (r_2 : El tW × Els [tR]), r_2 = (((wadd r.2.1.1 (toFr x.1.1) (toFr r_1.2.1)).2, ()), ((wadd r.2.1.1 (toFr x.1.1) (toFr r_1.2.1)).1.neg, (wadd r.2.1.1 (toFr x.1.1) (toFr r_1.2.1)).1.num, (wadd r.2.1.1 (toFr x.1.1) (toFr r_1.2.1)).1.den, ()), ()) → ∀ (r : Ro [tR, Ty.it IntKind.i64]), r = ((), ((fneg (toFr x.1.2.1)).1.neg, (fneg (toFr x.1.2.1)).1.num, (fneg (toFr x.1.2.1)).1.den, ()), (fneg (toFr x.1.2.1)).2, ()) → (((bif decide ((if r_2.1.1 ≠ (0 : Int) then r_2.1.1 else r.2.2.1) ≠ (0 : Int)) then false else r_2.2.1.1, bif decide ((if r_2.1.1 ≠ (0 : Int) then r_2.1.1 else r.2.2.1) ≠ (0 : Int)) then [] else r_2.2.1.2.1, bif decide ((if r_2.1.1 ≠ (0 : Int) then r_2.1.1 else r.2.2.1) ≠ (0 : Int)) then [] else r_2.2.1.2.2.1, ()), (bif decide ((if r_2.1.1 ≠ (0 : Int) then r_2.1.1 else r.2.2.1) ≠ (0 : Int)) then false else bif decide (r_2.1.1 ≠ (0 : Int)) then false else r.2.1.1, bif decide ((if r_2.1.1 ≠ (0 : Int) then r_2.1.1 else r.2.2.1) ≠ (0 : Int)) then [] else bif decide (r_2.1.1 ≠ (0 : Int)) then [] else r.2.1.2.1, bif decide ((if r_2.1.1 ≠ (0 : Int) then r_2.1.1 else r.2.2.1) ≠ (0 : Int)) then [] else bif decide (r_2.1.1 ≠ (0 : Int)) then [] else r.2.1.2.2.1, ()), ()), if r_2.1.1 ≠ (0 : Int) then r_2.1.1 else r.2.2.1, ()) = ((((gconj (toGa x.1)).1.re.neg, (gconj (toGa x.1)).1.re.num, (gconj (toGa x.1)).1.re.den, ()), ((gconj (toGa x.1)).1.im.neg, (gconj (toGa x.1)).1.im.num, (gconj (toGa x.1)).1.im.den, ()), ()), (gconj (toGa x.1)).2, ())) := by
  have wf : (toFr x.1.1).Wf := wf_fr h3.1.1
  rintro _ rfl _ rfl _ rfl _ rfl
  have e : gchks 0 [x.1] = gchk (toGa x.1) := gchks1 _
  simp only [e, gconj, fneg_2]
  by_cases h : gchk (toGa x.1) = 0
  · obtain ⟨p, q⟩ := gchk_0 h
    have hz : wadd 0 (toFr x.1.1) (fsmall 0 1).1 = (toFr x.1.1, 0) := wadd_nought wf p
    have hz' : wadd 0 (toFr x.1.1) ⟨(fsmall 0 1).1.neg, (fsmall 0 1).1.num, (fsmall 0 1).1.den⟩ = (toFr x.1.1, 0) := hz
    simp [h, p, q, hz]
  · have hw : ∀ b, wadd (gchk (toGa x.1)) (toFr x.1.1) b = (Fr.zero, gchk (toGa x.1)) := fun b => if_pos h
    simp [h, hw, Ga.zero, Fr.zero]
theorem fo_gConj : FnOk Tryz.prog 18 sp_gConj := fnOk_of (C := c_gConj) iv_gConj Tryz.func18 rfl (by kernel_rfl) tys_ok (prims_cons (spec_prim fo_asked) (prims_cons (spec_prim fo_rSmall) (prims_cons (spec_prim fo_wadd) (prims_cons (spec_prim fo_rNeg) (prims_cons pr_made (prims_cons pr_told prims_nil)))))) mixed_ (Nat.le_refl _) rfl fun y x h1 h2 h3 h4 =>
  Eq.mpr (w_gConj y x) (m_gConj y x h2 h3)
theorem wf_ga {a : El tG} (h : wfE tG a) : (toGa a).Wf := ⟨wf_fr h.1, wf_fr h.2.1⟩
noncomputable def sp_kSameWords : Spec := { q := .un, ps := [tW32, tW32], rs := [.bo], fresh := true, pre := fun _ _ => none, post := fun _ x => ((), (decide (x.1 = x.2.1), ())) }
noncomputable def iv_kSameWords (y : El sp_kSameWords.q) (x : Els sp_kSameWords.ps) : Nat → Option Inv := fun k => if k = 0 then some { X := Nat, tm := fun i => [(0, .c (.sl (.it .u32) x.1)), (1, .c (.sl (.it .u32) x.2.1)), (5, .c (.sc (.int .i64 i)))], ob := fun _ => [], n := 1, I := fun i => i ≤ x.1.length ∧ x.1.length = x.2.1.length ∧ x.1.take i = x.2.1.take i, μ := fun i => x.1.length - i } else none
noncomputable abbrev c_kSameWords : Cfg := cfgS (Tryz.f66).ntmps false []
theorem w_kSameWords (y : El sp_kSameWords.q) (x : Els sp_kSameWords.ps) : aW c_kSameWords (iv_kSameWords y x) Tryz.f66 sp_kSameWords y x =
  ((((x.1.length : Int) != (x.2.1.length : Int)) = true → (false, ()) = (decide (x.1 = x.2.1), ())) ∧ (((x.1.length : Int) != (x.2.1.length : Int)) = false → (∃ (x_1 : Nat), x.1 = x.1 ∧ x.2.1 = x.2.1 ∧ (↑x_1 : Int) = (0 : Int) ∧ x_1 ≤ List.length x.1 ∧ List.length x.1 = List.length x.2.1 ∧ List.take x_1 x.1 = List.take x_1 x.2.1) ∧ ∀ (x_1 : Nat), x_1 ≤ List.length x.1 ∧ List.length x.1 = List.length x.2.1 ∧ List.take x_1 x.1 = List.take x_1 x.2.1 → (decide ((↑x_1 : Int) < (x.1.length : Int)) = true → ((0 : Int) ≤ (↑x_1 : Int) ∧ (↑x_1 : Int) < (x.1.length : Int)) ∧ ((0 : Int) ≤ (↑x_1 : Int) ∧ (↑x_1 : Int) < (x.2.1.length : Int)) ∧ ((List.getD x.1 (↑x_1 : Int).toNat (dfl (Ty.it IntKind.u32)) != List.getD x.2.1 (↑x_1 : Int).toNat (dfl (Ty.it IntKind.u32))) = true → (false, ()) = (decide (x.1 = x.2.1), ())) ∧ ((List.getD x.1 (↑x_1 : Int).toNat (dfl (Ty.it IntKind.u32)) != List.getD x.2.1 (↑x_1 : Int).toNat (dfl (Ty.it IntKind.u32))) = false → ((-9223372036854775808 : Int) ≤ (↑x_1 : Int) + (1 : Int) ∧ (↑x_1 : Int) + (1 : Int) ≤ (9223372036854775807 : Int)) ∧ ∃ (x' : Nat), x.1 = x.1 ∧ x.2.1 = x.2.1 ∧ (↑x' : Int) = (↑x_1 : Int) + (1 : Int) ∧ (x' ≤ List.length x.1 ∧ List.length x.1 = List.length x.2.1 ∧ List.take x' x.1 = List.take x' x.2.1) ∧ List.length x.1 - x' < List.length x.1 - x_1)) ∧ (decide ((↑x_1 : Int) < (x.1.length : Int)) = false → (true, ()) = (decide (x.1 = x.2.1), ())))) := by kernel_rfl
theorem m_kSameWords (y : El (.un)) (x : Els [tW32, tW32]) (h2 : wfE (.un) y) (h3 : wfEs [tW32, tW32] x) :
  ((((x.1.length : Int) != (x.2.1.length : Int)) = true → (false, ()) = (decide (x.1 = x.2.1), ())) ∧ (((x.1.length : Int) != (x.2.1.length : Int)) = false → (∃ (x_1 : Nat), x.1 = x.1 ∧ x.2.1 = x.2.1 ∧ (↑x_1 : Int) = (0 : Int) ∧ x_1 ≤ List.length x.1 ∧ List.length x.1 = List.length x.2.1 ∧ List.take x_1 x.1 = List.take x_1 x.2.1) ∧ ∀ (x_1 : Nat), x_1 ≤ List.length x.1 ∧ List.length x.1 = List.length x.2.1 ∧ List.take x_1 x.1 = List.take x_1 x.2.1 → (decide ((↑x_1 : Int) < (x.1.length : Int)) = true → ((0 : Int) ≤ (↑x_1 : Int) ∧ (↑x_1 : Int) < (x.1.length : Int)) ∧ ((0 : Int) ≤ (↑x_1 : Int) ∧ (↑x_1 : Int) < (x.2.1.length : Int)) ∧ ((List.getD x.1 (↑x_1 : Int).toNat (dfl (Ty.it IntKind.u32)) != List.getD x.2.1 (↑x_1 : Int).toNat (dfl (Ty.it IntKind.u32))) = true → (false, ()) = (decide (x.1 = x.2.1), ())) ∧ ((List.getD x.1 (↑x_1 : Int).toNat (dfl (Ty.it IntKind.u32)) != List.getD x.2.1 (↑x_1 : Int).toNat (dfl (Ty.it IntKind.u32))) = false → ((-9223372036854775808 : Int) ≤ (↑x_1 : Int) + (1 : Int) ∧ (↑x_1 : Int) + (1 : Int) ≤ (9223372036854775807 : Int)) ∧ ∃ (x' : Nat), x.1 = x.1 ∧ x.2.1 = x.2.1 ∧ (↑x' : Int) = (↑x_1 : Int) + (1 : Int) ∧ (x' ≤ List.length x.1 ∧ List.length x.1 = List.length x.2.1 ∧ List.take x' x.1 = List.take x' x.2.1) ∧ List.length x.1 - x' < List.length x.1 - x_1)) ∧ (decide ((↑x_1 : Int) < (x.1.length : Int)) = false → (true, ()) = (decide (x.1 = x.2.1), ())))) := by
  have hL : x.1.length ≤ 9223372036854775807 := h3.1.1
  refine ⟨fun h => ?_, fun h => ⟨⟨0, rfl, rfl, rfl, Nat.zero_le _, by simpa [Int.ofNat_inj] using h, rfl⟩, fun i hi => ⟨fun hl => ?_, fun hl => ?_⟩⟩⟩
  · have : x.1 ≠ x.2.1 := fun e => by rw [e] at h; simp at h
    rw [decide_eq_false this]
  · obtain ⟨h0, h1, h2⟩ := hi
    have hl := of_decide_eq_true hl
    have a1 : i < x.1.length := by omega
    have a2 : i < x.2.1.length := by omega
    have g1 : x.1.getD ((i : Int)).toNat (dfl (Ty.it IntKind.u32)) = x.1[i] := by
      rw [Int.toNat_natCast, List.getD_eq_getElem?_getD, List.getElem?_eq_getElem a1]; rfl
    have g2 : x.2.1.getD ((i : Int)).toNat (dfl (Ty.it IntKind.u32)) = x.2.1[i] := by
      rw [Int.toNat_natCast, List.getD_eq_getElem?_getD, List.getElem?_eq_getElem a2]; rfl
    rw [g1, g2]
    refine ⟨⟨by omega, hl⟩, ⟨by omega, by omega⟩, fun k => ?_, fun k => ⟨by omega, i + 1, rfl, rfl, rfl, ⟨a1, h1, ?_⟩, by omega⟩⟩
    · have k := bne_iff_ne.1 k
      have : x.1 ≠ x.2.1 := fun e => k (by congr 1)
      rw [decide_eq_false this]
    · have k : x.1[i] = x.2.1[i] := by simpa using k
      rw [List.take_add_one, List.take_add_one, h2, List.getElem?_eq_getElem a1, List.getElem?_eq_getElem a2, k]
  · obtain ⟨h0, h1, h2⟩ := hi
    have hl := of_decide_eq_false hl
    rw [List.take_of_length_le (by omega), List.take_of_length_le (by omega)] at h2
    rw [decide_eq_true h2]
theorem fo_kSameWords : FnOk Tryz.prog 66 sp_kSameWords := fnOk_of (C := c_kSameWords) iv_kSameWords Tryz.func66 rfl (by kernel_rfl) tys_ok prims_nil mixed_ (Nat.le_refl _) rfl fun y x h1 h2 h3 h4 =>
  Eq.mpr (w_kSameWords y x) (m_kSameWords y x h2 h3)
noncomputable def sp_kSameRatio : Spec := { q := .un, ps := [tR, tR], rs := [.bo], fresh := true, pre := fun _ _ => none, post := fun _ x => ((), (decide (toFr x.1 = toFr x.2.1), ())) }
noncomputable def iv_kSameRatio (y : El sp_kSameRatio.q) (x : Els sp_kSameRatio.ps) : Nat → Option Inv := fun _ => none
noncomputable abbrev c_kSameRatio : Cfg := cfgS (Tryz.f22).ntmps false [(66, sp_kSameWords.prim)]
theorem w_kSameRatio (y : El sp_kSameRatio.q) (x : Els sp_kSameRatio.ps) : aW c_kSameRatio (iv_kSameRatio y x) Tryz.f22 sp_kSameRatio y x =
  (((x.1.1 == x.2.1.1) = true → ∀ (r : Ro [Ty.bo]), r = ((), decide (x.1.2.1 = x.2.1.2.1), ()) → (r.2.1 = true → ∀ (r : Ro [Ty.bo]), r = ((), decide (x.1.2.2.1 = x.2.1.2.2.1), ()) → r.2 = (decide (toFr x.1 = toFr x.2.1), ())) ∧ (r.2.1 = false → (false, ()) = (decide (toFr x.1 = toFr x.2.1), ()))) ∧ ((x.1.1 == x.2.1.1) = false → (false, ()) = (decide (toFr x.1 = toFr x.2.1), ()))) := by kernel_rfl
theorem m_kSameRatio (y : El (.un)) (x : Els [tR, tR]) (h2 : wfE (.un) y) (h3 : wfEs [tR, tR] x) :
  (((x.1.1 == x.2.1.1) = true → ∀ (r : Ro [Ty.bo]), r = ((), decide (x.1.2.1 = x.2.1.2.1), ()) → (r.2.1 = true → ∀ (r : Ro [Ty.bo]), r = ((), decide (x.1.2.2.1 = x.2.1.2.2.1), ()) → r.2 = (decide (toFr x.1 = toFr x.2.1), ())) ∧ (r.2.1 = false → (false, ()) = (decide (toFr x.1 = toFr x.2.1), ()))) ∧ ((x.1.1 == x.2.1.1) = false → (false, ()) = (decide (toFr x.1 = toFr x.2.1), ()))) := by
  obtain ⟨⟨s, a, b, _⟩, ⟨t, c, d, _⟩, _⟩ := x
  refine ⟨fun h => ?_, fun h => ?_⟩
  · rintro _ rfl
    refine ⟨fun k => ?_, fun k => ?_⟩
    · rintro _ rfl
      have hs : s = t := by simpa using h
      have hk : a = c := by simpa using k
      subst hs
      subst hk
      simp [toFr]
    · have k : a ≠ c := by simpa using k
      simp [toFr, k]
  · have h : s ≠ t := by simpa using h
    simp [toFr, h]
theorem fo_kSameRatio : FnOk Tryz.prog 22 sp_kSameRatio := fnOk_of (C := c_kSameRatio) iv_kSameRatio Tryz.func22 rfl (by kernel_rfl) tys_ok (prims_cons (spec_prim fo_kSameWords) prims_nil) mixed_ (Nat.le_refl _) rfl fun y x h1 h2 h3 h4 =>
  Eq.mpr (w_kSameRatio y x) (m_kSameRatio y x h2 h3)
noncomputable def sp_kSameGauss : Spec := { q := .un, ps := [tG, tG], rs := [.bo], fresh := true, pre := fun _ _ => none, post := fun _ x => ((), (decide (toGa x.1 = toGa x.2.1), ())) }
noncomputable def iv_kSameGauss (y : El sp_kSameGauss.q) (x : Els sp_kSameGauss.ps) : Nat → Option Inv := fun _ => none
noncomputable abbrev c_kSameGauss : Cfg := cfgS (Tryz.f51).ntmps false [(22, sp_kSameRatio.prim)]
theorem w_kSameGauss (y : El sp_kSameGauss.q) (x : Els sp_kSameGauss.ps) : aW c_kSameGauss (iv_kSameGauss y x) Tryz.f51 sp_kSameGauss y x =
  (∀ (r : Ro [Ty.bo]), r = ((), decide (toFr x.1.1 = toFr x.2.1.1), ()) → (r.2.1 = true → ∀ (r : Ro [Ty.bo]), r = ((), decide (toFr x.1.2.1 = toFr x.2.1.2.1), ()) → r.2 = (decide (toGa x.1 = toGa x.2.1), ())) ∧ (r.2.1 = false → (false, ()) = (decide (toGa x.1 = toGa x.2.1), ()))) := by kernel_rfl
theorem m_kSameGauss (y : El (.un)) (x : Els [tG, tG]) (h2 : wfE (.un) y) (h3 : wfEs [tG, tG] x) :
  (∀ (r : Ro [Ty.bo]), r = ((), decide (toFr x.1.1 = toFr x.2.1.1), ()) → (r.2.1 = true → ∀ (r : Ro [Ty.bo]), r = ((), decide (toFr x.1.2.1 = toFr x.2.1.2.1), ()) → r.2 = (decide (toGa x.1 = toGa x.2.1), ())) ∧ (r.2.1 = false → (false, ()) = (decide (toGa x.1 = toGa x.2.1), ()))) := by
  rintro _ rfl
  refine ⟨fun k => ?_, fun k => ?_⟩
  · rintro _ rfl
    simp_all
  · simp_all
theorem fo_kSameGauss : FnOk Tryz.prog 51 sp_kSameGauss := fnOk_of (C := c_kSameGauss) iv_kSameGauss Tryz.func51 rfl (by kernel_rfl) tys_ok (prims_cons (spec_prim fo_kSameRatio) prims_nil) mixed_ (Nat.le_refl _) rfl fun y x h1 h2 h3 h4 =>
  Eq.mpr (w_kSameGauss y x) (m_kSameGauss y x h2 h3)
section
variable {gp : Option Nat} {Z0 : Nat → Prop} {w0 w w' : World} {D : Nat → Prop} {c : Cf} {T : Nat → Option AV} {O : Store} {a : Act} {N : Nat}
end
section
variable {wb w0 w w' : World} {row : Option Nat} {V : List (Nat × List Value)} {R : List (Adr × Fr)}
end
def pick {α : Type} (R : List α) : List Nat → List α
  | [] => []
  | i :: I => match R[i]? with
    | some x => x :: pick R I
    | none => pick R I
section
variable {wb w0 w w' : World} {row : Option Nat} {V : List (Nat × List Value)} {R : List (Adr × Fr)}
end
section
variable {wb w0 w w' : World} {row : Option Nat} {V : List (Nat × List Value)} {R : List (Adr × Fr)}
end
section
variable {gp : Option Nat} {Z0 : Nat → Prop} {w0 w w' : World} {D : Nat → Prop} {c : Cf} {T : Nat → Option AV} {O : Store} {a : Act} {N : Nat}
end
def cut (w : World) (n : Nat) : World := { w with heap := w.heap.extract 0 n }
theorem nff {b : Bool} (h : (!b) = false) : b = true := by simpa using h
theorem ltT {a b : Int} (h : decide (a < b) = true) : a < b := of_decide_eq_true h
theorem ltF {a b : Int} (h : decide (a < b) = false) : b ≤ a := by have := of_decide_eq_false h; omega
theorem gtT {a b : Int} (h : decide (a > b) = true) : b < a := of_decide_eq_true h
theorem leT {a b : Int} (h : decide (a ≤ b) = true) : a ≤ b := of_decide_eq_true h
theorem leF {a b : Int} (h : decide (a ≤ b) = false) : b < a := by have := of_decide_eq_false h; omega
theorem eqT {a b : Int} (h : (a == b) = true) : a = b := eq_of_beq h
theorem eqF {a b : Int} (h : (a == b) = false) : a ≠ b := ne_of_beq_false h
theorem neT {a b : Int} (h : (a != b) = true) : a ≠ b := by simpa using h
theorem wrap64_32 {a : Int} (h : -2147483648 ≤ a ∧ a ≤ 2147483647) : IntKind.i64.wrap a = a := wrap_id (k := .i64) (by have : IntKind.i64.min = -9223372036854775808 := rfl; omega) (by have : IntKind.i64.max = 9223372036854775807 := rfl; omega)
def gint (a b : Int) : Ga := ⟨(fsmall a 1).1, (fsmall b 1).1⟩
section
variable {t r : Ga}
end
section
variable {r : El tRule}
end
def gone (r : Ga) : Ga × Int := if r = gint (-1) 0 then (Ga.zero, 7) else gadd (gint 1 0) r
def dg1 : ByteArray := ⟨#[48, 49, 50, 51, 52, 53, 54, 55, 56, 57, 97, 98, 99, 100, 101, 102, 103, 104, 105, 106, 107, 108, 109, 110, 111, 112, 113, 114, 115, 116, 117, 118, 119, 120, 121, 122]⟩
def dg2 : ByteArray := ⟨(([48, 48, 48, 49, 48, 50, 48, 51, 48, 52, 48, 53, 48, 54, 48, 55, 48, 56, 48, 57, 49, 48, 49, 49, 49, 50, 49, 51, 49, 52, 49, 53, 49, 54, 49, 55, 49, 56, 49, 57, 50, 48, 50, 49, 50, 50, 50, 51, 50, 52].append [50, 53, 50, 54, 50, 55, 50, 56, 50, 57, 51, 48, 51, 49, 51, 50, 51, 51, 51, 52, 51, 53, 51, 54, 51, 55, 51, 56, 51, 57, 52, 48, 52, 49, 52, 50, 52, 51, 52, 52, 52, 53, 52, 54, 52, 55, 52, 56, 52, 57]).append ([53, 48, 53, 49, 53, 50, 53, 51, 53, 52, 53, 53, 53, 54, 53, 55, 53, 56, 53, 57, 54, 48, 54, 49, 54, 50, 54, 51, 54, 52, 54, 53, 54, 54, 54, 55, 54, 56, 54, 57, 55, 48, 55, 49, 55, 50, 55, 51, 55, 52].append [55, 53, 55, 54, 55, 55, 55, 56, 55, 57, 56, 48, 56, 49, 56, 50, 56, 51, 56, 52, 56, 53, 56, 54, 56, 55, 56, 56, 56, 57, 57, 48, 57, 49, 57, 50, 57, 51, 57, 52, 57, 53, 57, 54, 57, 55, 57, 56, 57, 57])).toArray⟩
def dgB (n : Nat) : ByteArray := if n < 10 then dg1.extract n (n + 1) else dg2.extract (n * 2) (n * 2 + 2)
noncomputable def sp_ssmall : Spec := { q := .un, ps := [.it .i64], rs := [.st], fresh := true, pre := fun _ x => some ((0 : Int) ≤ (x.1 : Int) ∧ (x.1 : Int) < 100), post := fun _ x => ((), (dgB x.1.toNat, ())) }
noncomputable def iv_ssmall (y : El sp_ssmall.q) (x : Els sp_ssmall.ps) : Nat → Option Inv := fun _ => none
noncomputable abbrev c_ssmall : Cfg := cfgS (Tryz.f157).ntmps false []
def F_ssmall (y : El sp_ssmall.q) (x : Els sp_ssmall.ps) : Prop :=
  (fun (i1 : Int) => (decide (i1 < (10 : Int)) = true → ((-9223372036854775808 : Int) ≤ i1 + (1 : Int) ∧ i1 + (1 : Int) ≤ (9223372036854775807 : Int)) ∧ ((0 : Int) ≤ i1 ∧ i1 ≤ i1 + (1 : Int) ∧ i1 + (1 : Int) ≤ (dg1.size : Int)) ∧ (dg1.extract (Int.toNat i1) (i1 + (1 : Int)).toNat, ()) = (dgB (Int.toNat i1), ())) ∧ (decide (i1 < (10 : Int)) = false → ((-9223372036854775808 : Int) ≤ i1 * (2 : Int) ∧ i1 * (2 : Int) ≤ (9223372036854775807 : Int)) ∧ ((-9223372036854775808 : Int) ≤ i1 * (2 : Int) ∧ i1 * (2 : Int) ≤ (9223372036854775807 : Int)) ∧ ((-9223372036854775808 : Int) ≤ i1 * (2 : Int) + (2 : Int) ∧ i1 * (2 : Int) + (2 : Int) ≤ (9223372036854775807 : Int)) ∧ ((0 : Int) ≤ i1 * (2 : Int) ∧ i1 * (2 : Int) ≤ i1 * (2 : Int) + (2 : Int) ∧ i1 * (2 : Int) + (2 : Int) ≤ (↑dg2.size : Int)) ∧ (dg2.extract (i1 * (2 : Int)).toNat (i1 * (2 : Int) + (2 : Int)).toNat, ()) = (dgB (Int.toNat i1), ()))) x.1
theorem w_ssmall (y : El sp_ssmall.q) (x : Els sp_ssmall.ps) : aW c_ssmall (iv_ssmall y x) Tryz.f157 sp_ssmall y x = F_ssmall y x := by kernel_rfl
theorem m_ssmall (y : El (.un)) (x : Els [.it .i64]) (h2 : wfE (.un) y) (h3 : wfEs [.it .i64] x) (h4 : (0 : Int) ≤ (x.1 : Int) ∧ (x.1 : Int) < 100) : F_ssmall y x := by
  unfold F_ssmall
  dsimp only
  obtain ⟨p0, p1⟩ : @LE.le Int _ 0 x.1 ∧ @LT.lt Int _ x.1 100 := h4
  have s1 : dg1.size = 36 := by decide +kernel
  have s2 : dg2.size = 200 := by decide +kernel
  refine ⟨fun h => ?_, fun h => ?_⟩
  · have h := ltT h
    refine ⟨⟨by omega, by omega⟩, ⟨by omega, by omega, by rw [s1]; omega⟩, ?_⟩
    unfold dgB
    rw [if_pos (by omega), show ((x.1 : Int) + 1).toNat = Int.toNat x.1 + 1 by omega]
  · have h := ltF h
    refine ⟨⟨by omega, by omega⟩, ⟨by omega, by omega⟩, ⟨by omega, by omega⟩, ⟨by omega, by omega, by rw [s2]; omega⟩, ?_⟩
    unfold dgB
    rw [if_neg (by omega), show ((x.1 : Int) * 2 + 2).toNat = Int.toNat x.1 * 2 + 2 by omega, show ((x.1 : Int) * 2).toNat = Int.toNat x.1 * 2 by omega]
theorem fo_ssmall : FnOk Tryz.prog 157 sp_ssmall := fnOk_of (C := c_ssmall) iv_ssmall Tryz.func157 rfl (by kernel_rfl) tys_ok prims_nil mixed_ (Nat.le_refl _) rfl fun y x h1 h2 h3 h4 =>
  Eq.mpr (w_ssmall y x) (m_ssmall y x h2 h3 h4)
theorem wrap64_s {n : Int} (h0 : 0 ≤ n) (h1 : n < 100) : IntKind.i64.wrap n = n := by
  exact wrap64_32 ⟨by omega, by omega⟩
noncomputable def sp_sfmtI : Spec := { q := .un, ps := [.it .u64, .it .i64], rs := [.st], fresh := true, pre := fun _ x => some ((0 : Int) ≤ (x.1 : Int) ∧ (x.1 : Int) < 100 ∧ (x.2.1 : Int) = 10), post := fun _ x => ((), (dgB x.1.toNat, ())) }
noncomputable def iv_sfmtI (y : El sp_sfmtI.q) (x : Els sp_sfmtI.ps) : Nat → Option Inv := fun _ => none
noncomputable abbrev c_sfmtI : Cfg := cfgS (Tryz.f127).ntmps false [(157, sp_ssmall.prim)]
def F_sfmtI (y : El sp_sfmtI.q) (x : Els sp_sfmtI.ps) : Prop :=
  ((x.2.1 == (10 : Int)) = true → (decide (x.1 < (100 : Int)) = true → ((0 : Int) ≤ IntKind.i64.wrap x.1 ∧ IntKind.i64.wrap x.1 < (100 : El (Ty.it IntKind.i64))) ∧ ∀ (r : Ro [Ty.st]), r = ((), dgB (IntKind.i64.wrap x.1).toNat, ()) → r.2 = (dgB (Int.toNat x.1), ())) ∧ (decide (x.1 < (100 : Int)) = false → False)) ∧ ((x.2.1 == (10 : Int)) = false → False)
theorem w_sfmtI (y : El sp_sfmtI.q) (x : Els sp_sfmtI.ps) : aW c_sfmtI (iv_sfmtI y x) Tryz.f127 sp_sfmtI y x = F_sfmtI y x := by kernel_rfl
theorem m_sfmtI (y : El (.un)) (x : Els [.it .u64, .it .i64]) (h2 : wfE (.un) y) (h3 : wfEs [.it .u64, .it .i64] x) (h4 : (0 : Int) ≤ (x.1 : Int) ∧ (x.1 : Int) < 100 ∧ (x.2.1 : Int) = 10) : F_sfmtI y x := by
  unfold F_sfmtI
  obtain ⟨p0, p1, p2⟩ : @LE.le Int _ 0 x.1 ∧ @LT.lt Int _ x.1 100 ∧ @Eq Int x.2.1 10 := h4
  have e := wrap64_s p0 p1
  refine ⟨fun _ => ⟨fun _ => ?_, fun h => absurd (ltF h) (Int.not_le.2 p1)⟩, fun h => absurd p2 (neT (by simpa using h))⟩
  rw [e]
  refine ⟨⟨p0, p1⟩, ?_⟩
  rintro _ rfl
  rfl
theorem fo_sfmtI : FnOk Tryz.prog 127 sp_sfmtI := fnOk_of (C := c_sfmtI) iv_sfmtI Tryz.func127 rfl (by kernel_rfl) tys_ok (prims_cons (spec_prim fo_ssmall) prims_nil) mixed_ (Nat.le_refl _) rfl fun y x h1 h2 h3 h4 =>
  Eq.mpr (w_sfmtI y x) (m_sfmtI y x h2 h3 h4)
noncomputable def sp_sfmt : Spec := { q := .un, ps := [.it .u64, .it .i64], rs := [.st], fresh := true, pre := fun _ x => some ((0 : Int) ≤ (x.1 : Int) ∧ (x.1 : Int) < 100 ∧ (x.2.1 : Int) = 10), post := fun _ x => ((), (dgB x.1.toNat, ())) }
noncomputable def iv_sfmt (y : El sp_sfmt.q) (x : Els sp_sfmt.ps) : Nat → Option Inv := fun _ => none
noncomputable abbrev c_sfmt : Cfg := cfgS (Tryz.f101).ntmps false [(127, sp_sfmtI.prim)]
def F_sfmt (y : El sp_sfmt.q) (x : Els sp_sfmt.ps) : Prop :=
  ((0 : Int) ≤ x.1 ∧ x.1 < (100 : El (Ty.it IntKind.u64)) ∧ x.2.1 = (10 : El (Ty.it IntKind.i64))) ∧ ∀ (r : Ro [Ty.st]), r = ((), dgB (Int.toNat x.1), ()) → r.2 = (dgB (Int.toNat x.1), ())
theorem w_sfmt (y : El sp_sfmt.q) (x : Els sp_sfmt.ps) : aW c_sfmt (iv_sfmt y x) Tryz.f101 sp_sfmt y x = F_sfmt y x := by kernel_rfl
theorem m_sfmt (y : El (.un)) (x : Els [.it .u64, .it .i64]) (h2 : wfE (.un) y) (h3 : wfEs [.it .u64, .it .i64] x) (h4 : (0 : Int) ≤ (x.1 : Int) ∧ (x.1 : Int) < 100 ∧ (x.2.1 : Int) = 10) : F_sfmt y x := by
  unfold F_sfmt
  refine ⟨h4, ?_⟩
  rintro _ rfl
  rfl
theorem fo_sfmt : FnOk Tryz.prog 101 sp_sfmt := fnOk_of (C := c_sfmt) iv_sfmt Tryz.func101 rfl (by kernel_rfl) tys_ok (prims_cons (spec_prim fo_sfmtI) prims_nil) mixed_ (Nat.le_refl _) rfl fun y x h1 h2 h3 h4 =>
  Eq.mpr (w_sfmt y x) (m_sfmt y x h2 h3 h4)
theorem calls_st {P : Program} {f : Nat} {ts : List Ty} {pre : El .un → Els ts → Option Prop} {F : Els ts → ByteArray} {W : World} {Z : Nat → Prop} {x : Els ts} {vs : List Value} (h : FnOk P f { q := .un, ps := ts, rs := [.st], fresh := true, pre := pre, post := fun _ x => ((), (F x, ())) }) (hp : holds (pre () x)) (hz : ∀ g, Z g → g < W.heap.size) (hv : RVs Z W ts x vs) : Calls P f vs.toArray W fun e W' => e = .returned (.string (F x)) ∧ Ext W W' := by
  refine (h.2 Z W 0 vs () x hz hv hp (fun e => by cases e) (fun _ => rfl)).mono ?_
  rintro e w' ⟨v, us, bs, Z', rfl, t1, t2, _, _, _, _, _, t8, _⟩
  have t8 : W.grownBy w' none := t8
  refine ⟨?_, ⟨t8.os, t8.tape, t8.output, t8.size, fun k hk => t8.block k hk (by simp)⟩⟩
  match us, t2 with
  | [u], ⟨b, b', _, h1, h2⟩ =>
    have h1 : RT _ w' .st (F x) [u] ∧ b = [] := h1
    rw [RT] at h1
    have e1 : u = .string (F x) := by simpa using h1.1.1
    rcases t1 with ⟨u', e2, rfl⟩ | ⟨h3, _⟩
    · cases e2; rw [e1]
    · simp at h3
theorem fmt_any (n : Nat) (w : World) (hn : n < 100) : Calls Tryz.prog 101 #[.int .u64 (n : Int), .int .i64 10] w fun e w' => e = .returned (.string (dgB n)) ∧ Ext w w' := by
  refine (calls_st (Z := fun _ => False) (x := ((n : Int), (10 : Int), ())) (vs := [.int .u64 (n : Int), .int .i64 10]) fo_sfmt ?_ (fun g hg => hg.elim) ⟨?_, ?_, trivial⟩).mono ?_
  · show (0 : Int) ≤ (n : Int) ∧ (n : Int) < 100 ∧ (10 : Int) = 10
    omega
  · unfold RV
    rw [if_neg (by decide), RT]
    exact ⟨rfl, Int.le_trans (show IntKind.u64.min ≤ 0 by decide) (by omega), Int.le_trans (show (n : Int) ≤ 100 by omega) (by decide)⟩
  · unfold RV
    rw [if_neg (by decide), RT]
    exact ⟨rfl, show IntKind.i64.min ≤ 10 by decide, show (10 : Int) ≤ IntKind.i64.max by decide⟩
  · rintro e w' ⟨rfl, hx⟩
    exact ⟨rfl, hx⟩
theorem rev_one (A : Option Addr) (c : Nat) (w : World) : Calls Tryz.prog 103 #[.slice A 1 c] w fun e w' => (∃ v, e = .returned v) ∧ w' = w := by
  go_enter Tryz.func103, Tryz.ntmps103
  go_wp2_with fail
  go_loopw [2, 3] (fun i j wr => i = .int .i64 0 ∧ j = .int .i64 0 ∧ wr = w) (fun _ _ _ => 0)
  case atStart => exact ⟨rfl, rfl, rfl⟩
  case round =>
    obtain ⟨rfl, rfl, rfl⟩ := hrel
    go_wp2_with fail
    go_end0
    exact ⟨⟨_, rfl⟩, rfl⟩
theorem join_one (g c : Nat) (s p : ByteArray) (w : World) (hc : w.cell? ⟨g, 0, none⟩ = some (.string s)) : Calls Tryz.prog 104 #[.slice (some ⟨g, 0, none⟩) 1 c, .string p] w fun e w' => e = .returned (.string s) ∧ w' = w := by
  go_enter Tryz.func104, Tryz.ntmps104
  go_wp2_with fail
  go_ret
  exact ⟨rfl, rfl⟩
theorem info_str : (Tryz.prog.info? 9).map (fun i => (i.zero, i.size, i.bytes)) = some (some (.string ⟨#[]⟩), 1, 16) := by kernel_rfl
theorem wpList_appS {w : World} {ops : Array Oper} {rest : List Oper} {o : Oper} {a : Act} {Q : Exit → Act → World → Prop} (hgd : o.guard = none) (s x : Operand)
    (ho : o.op = .call { callee := .builtin .append, args := #[s, x], argTypes := #[61, 61] })
    (hs : a.eval s = .slice none 0 0) (b : Nat) (y : ByteArray) (hx : a.eval x = .slice (some ⟨b, 0, none⟩) 1 1) (hc : w.cell? ⟨b, 0, none⟩ = some (.string y))
    (h : ∀ g c' w', w'.cell? ⟨g, 0, none⟩ = some (.string y) → w.heap.size ≤ g → w.grownBy w' none → wpList Tryz.prog ops Q rest (a.put o.dst (.slice (some ⟨g, 0, none⟩) 1 c')) w') : wpList Tryz.prog ops Q (o :: rest) a w := by
  obtain ⟨i0, hi, hz0, hz1, hz2⟩ := info_parts info_str
  refine wpList_append_own w hgd s x 61 ho w.heap.size 9 i0 (.string ⟨#[]⟩) 1 16 Tryz.underlying61 hi hz0 hz1 hz2 rfl (by decide) _ _ _ hs (World.ownsRow_nil w w.heap.size _ 1) ⟨b, 0, none⟩ 1 1 [.string y] hx rfl
    (fun j u hu => ?_) (fun u hu => ?_) (by unfold maxLen; omega) (by omega) (Nat.le_refl _) ?_
  · match j, hu with
    | 0, hu => cases hu; exact hc
    | j + 1, hu => simp at hu
  · rw [List.mem_singleton] at hu
    subst hu
    rfl
  intro v' w' h2 h3 _
  have h4 := h2
  rcases h2.2 with ⟨_, h1⟩ | ⟨g, cap, cur, rfl, g1, g2, g3, g4, g5, g6⟩
  · simp at h1
  · exact h g cap w' (World.ownsRow.cells h4 (g := g) rfl 0 _ rfl) g1 h3
theorem wd_small {n : Nat} (h0 : n ≠ 0) (hn : n < 4294967296) : (wd n).length = 1 := by
  have h1 : (wd n).length ≤ 1 := wd_len_le n 1 (by show (n : Int) < 4294967296; omega)
  have h2 : (wd n).length ≠ 0 := fun e => h0 (wd_len_zero.1 e)
  omega
theorem nprint_small (A : Option Addr) (c n : Nat) (w : World) (ha : Rd w A c (wd n)) (hn : n < 100) :
    Calls Tryz.prog 69 #[.slice A (wd n).length c] w fun e w' => e = .returned (.tuple #[.string (dgB n), .int .i64 0]) ∧ Ext w w' := by
  have HA := Lib.hid ha
  have hl : (wd n).length ≤ 1 := wd_len_le n 1 (by show (n : Int) < 4294967296; omega)
  clear ha
  go_enter Tryz.func69, Tryz.ntmps69
  go_wp2_with fail
  refine (check_any A _ c w HA.out).mono ?_; rintro e w' ⟨rfl, rfl⟩
  rw [chk_wd n (by omega)]
  by_cases h0 : n = 0
  · subst h0
    have hb : (((wd 0).length : Int) == 0) = true := by rw [wd_zero]; rfl
    go_wp2_with fail
    go_ret2
    exact ⟨rfl, Ext.refl _⟩
  · have h1 := Lib.hid (wd_small h0 (by omega))
    have hb : (((wd n).length : Int) == 0) = false := beq_eq_false_iff_ne.2 (by have := h1.out; omega)
    go_wp2_with fail
    refine (clone_any A _ c _ HA.out (by omega)).mono ?_; rintro e w1 ⟨A1, c1, rfl, k1, k2⟩
    have H1 := Lib.hid k1
    have HX := Lib.hid k2
    clear k1 k2 hb
    go_wp2_with fail
    go_loopg [5, 6] 1 (fun k p x wr => (k = 1 ∧ p = .slice none 0 0 ∧ x = .slice A1 (wd n).length c1 ∧ Hid (Own wr w.heap.size A1 c1 (wd n)) ∧ Hid (Ext w wr)) ∨ (k = 0 ∧ ∃ g cp cx, p = .slice (some ⟨g, 0, none⟩) 1 cp ∧ x = .slice A1 0 cx ∧ Hid (wr.cell? ⟨g, 0, none⟩ = some (.string (dgB n))) ∧ Hid (Ext w wr)))
    case atStart => exact .inl ⟨rfl, rfl, rfl, H1.out, HX.out⟩
    case round =>
      clear H1 HX
      rcases hrel with ⟨hk, rfl, rfl, HO, HX⟩ | ⟨hk, g, cp, cx, rfl, rfl, HC, HX⟩
      · have hb : 0 < (wd n).length := by have := h1.out; omega
        go_wp2_with fail
        refine (small_any A1 n 1000000000 c1 w.heap.size _ HO.out (by omega) (by omega) (by omega) 0 n (Nat.div_eq_of_lt (by omega)) (Nat.mod_eq_of_lt (by omega))).mono ?_; rintro e w2 ⟨rfl, k1, k2⟩
        rw [wd_zero]
        have HX2 := Lib.hid (HX.out.grown k2 (fun b hb => by
          cases A1 with
          | none => cases hb
          | some a => cases hb; exact (HO.out.block).1))
        clear k1 k2
        go_wp2_with fail
        refine (fmt_any n _ hn).mono ?_; rintro e w3 ⟨rfl, hx⟩
        have HX3 := Lib.hid (HX2.out.trans hx)
        clear hx
        go_wp2_with (at_builtin; refine wpList_appS rfl _ _ rfl rfl _ (dgB n) rfl (by simp [go_sem]) ?_; intro g c' w4 hc hg hgr)
        have HX4 := Lib.hid ((HX3.out.alloc _).grownNone hgr)
        have HC := Lib.hid hc
        clear hc hgr
        go_roundg 0
        case measure => omega
        case rel => exact .inr ⟨rfl, g, c', c1, rfl, rfl, HC.out, HX4.out⟩
      · go_wp2_with fail
        refine (rev_one _ _ _).mono ?_; rintro e w5 ⟨⟨v, rfl⟩, rfl⟩
        go_wp2_with fail
        refine (join_one g cp (dgB n) _ _ HC.out).mono ?_; rintro e w6 ⟨rfl, rfl⟩
        go_wp2_with fail
        go_ret2
        exact ⟨rfl, HX.out⟩
def sp_aPrint : Spec := { q := .un, ps := [tW32], rs := [.st, .it .i64], fresh := true, pre := fun _ x => some (nrm x.1 ∧ toN x.1 < 100), post := fun _ x => ((), (dgB (toN x.1), 0, ())) }
theorem dgB_size : ∀ n, n < 100 → (dgB (n : Nat)).size ≤ 2 := by decide +kernel
theorem fo_aPrint : FnOk Tryz.prog 69 sp_aPrint := by
  refine ⟨callFunc_enter Tryz.func69 (by kernel_rfl) rfl, fun Z w gv vs y x hZ hv hp _ _ => ?_⟩
  obtain ⟨xs, u⟩ := x
  match vs, hv with
  | [u], ⟨h1, _⟩ =>
    obtain ⟨p1, p2⟩ : nrm xs ∧ toN xs < 100 := hp
    obtain ⟨n, rfl⟩ := nrm_ex p1
    rw [toN_wd] at p2
    obtain ⟨A, c, rfl, k1, _⟩ := rv_wd h1
    refine (nprint_small A c n w k1 p2).mono fun e w' ⟨e1, e2⟩ => ?_
    subst e1
    refine told_new (S := sp_aPrint) (r := (dgB (toN (wd n)), 0, ())) (us := [_, _]) (bs := []) rfl rfl (.inr ⟨by simp, rfl⟩) hZ ⟨[], [], rfl, ⟨?_, rfl⟩, [], [], rfl, rq_err (base := w.heap.size) Er.zero, rfl⟩ List.nodup_nil (fun g hg => by simp at hg) e2
    rw [RT, toN_wd]
    exact ⟨rfl, Nat.le_trans (dgB_size n p2) (by decide)⟩
end Go.Proofs.YtakaehdolpmelaaGreatDoor
