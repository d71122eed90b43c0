/- Texts of this claim, joined: B7 B8 B9 A26 Y2 U3 Y4 B10 B11 Y5 Y7 U15 B12 A27 B13 B14 B15 B16 B17 B18 H0. -/
import Derived.Deep.AppendLies
import Derived.Deep.RegionHeldLaw
import Derived.Test.YtjoonfegjobgbaaGreatDoorQr
set_option linter.unusedVariables false
set_option linter.unusedSimpArgs false
set_option maxRecDepth 100000
namespace Go.Proofs.YtjoonfegjobgbaaGreatDoor
open Go Go.RowKit
noncomputable def sp_gQuo : Spec := spG2 gquo
noncomputable def iv_gQuo (y : El sp_gQuo.q) (x : Els sp_gQuo.ps) : Nat → Option Inv := fun _ => none
noncomputable abbrev c_gQuo : Cfg := cfgS (Tryz.f49).ntmps false [(96, sp_asked.prim), (53, sp_gZero.prim), (114, sp_norm.prim), (115, sp_turned.prim), (99, sp_product.prim), (116, sp_wquo.prim), (98, p_told)]
theorem w_gQuo (y : El sp_gQuo.q) (x : Els sp_gQuo.ps) : aW c_gQuo (iv_gQuo y x) Tryz.f49 sp_gQuo y x =
  (∀ (r : Ro [tW.pt]), r = ((), (gchks (0 : Int) [x.1, x.2.1], ()), ()) → ((r.2.1.1 == (0 : Int)) = true → ∀ (r_1 : Ro [Ty.bo]), r_1 = ((), gzero (toGa x.2.1), ()) → (r_1.2.1 = true → ∀ (r : El tW × Els [tR]), r = (((wnorm (7 : Int) (toGa x.2.1)).2, ()), ((wnorm (7 : Int) (toGa x.2.1)).1.neg, (wnorm (7 : Int) (toGa x.2.1)).1.num, (wnorm (7 : Int) (toGa x.2.1)).1.den, ()), ()) → ∀ (r_2 : Ro [tG]), r_2 = ((), (((toFr x.2.1.1).neg, (toFr x.2.1.1).num, (toFr x.2.1.1).den, ()), ((fneg (toFr x.2.1.2.1)).1.neg, (fneg (toFr x.2.1.2.1)).1.num, (fneg (toFr x.2.1.2.1)).1.den, ()), ()), ()) → ∀ (r_3 : El tW × Els [tR, tR]), r_3 = (((wprod r.1.1 (toGa x.1) (toGa r_2.2.1)).2.2, ()), ((wprod r.1.1 (toGa x.1) (toGa r_2.2.1)).1.neg, (wprod r.1.1 (toGa x.1) (toGa r_2.2.1)).1.num, (wprod r.1.1 (toGa x.1) (toGa r_2.2.1)).1.den, ()), ((wprod r.1.1 (toGa x.1) (toGa r_2.2.1)).2.1.neg, (wprod r.1.1 (toGa x.1) (toGa r_2.2.1)).2.1.num, (wprod r.1.1 (toGa x.1) (toGa r_2.2.1)).2.1.den, ()), ()) → ∀ (r_4 : El tW × Els [tR]), r_4 = (((wquo r_3.1.1 (toFr r_3.2.1) (toFr r.2.1)).2, ()), ((wquo r_3.1.1 (toFr r_3.2.1) (toFr r.2.1)).1.neg, (wquo r_3.1.1 (toFr r_3.2.1) (toFr r.2.1)).1.num, (wquo r_3.1.1 (toFr r_3.2.1) (toFr r.2.1)).1.den, ()), ()) → ∀ (r_5 : El tW × Els [tR]), r_5 = (((wquo r_4.1.1 (toFr r_3.2.2.1) (toFr r.2.1)).2, ()), ((wquo r_4.1.1 (toFr r_3.2.2.1) (toFr r.2.1)).1.neg, (wquo r_4.1.1 (toFr r_3.2.2.1) (toFr r.2.1)).1.num, (wquo r_4.1.1 (toFr r_3.2.2.1) (toFr r.2.1)).1.den, ()), ()) → (((bif decide (r_5.1.1 ≠ (0 : Int)) then false else r_4.2.1.1, bif decide (r_5.1.1 ≠ (0 : Int)) then [] else r_4.2.1.2.1, bif decide (r_5.1.1 ≠ (0 : Int)) then [] else r_4.2.1.2.2.1, ()), (bif decide (r_5.1.1 ≠ (0 : Int)) then false else r_5.2.1.1, bif decide (r_5.1.1 ≠ (0 : Int)) then [] else r_5.2.1.2.1, bif decide (r_5.1.1 ≠ (0 : Int)) then [] else r_5.2.1.2.2.1, ()), ()), r_5.1) = ((((gquo (toGa x.1) (toGa x.2.1)).1.re.neg, (gquo (toGa x.1) (toGa x.2.1)).1.re.num, (gquo (toGa x.1) (toGa x.2.1)).1.re.den, ()), ((gquo (toGa x.1) (toGa x.2.1)).1.im.neg, (gquo (toGa x.1) (toGa x.2.1)).1.im.num, (gquo (toGa x.1) (toGa x.2.1)).1.im.den, ()), ()), (gquo (toGa x.1) (toGa x.2.1)).2, ())) ∧ (r_1.2.1 = false → ∀ (r_2 : El tW × Els [tR]), r_2 = (((wnorm r.2.1.1 (toGa x.2.1)).2, ()), ((wnorm r.2.1.1 (toGa x.2.1)).1.neg, (wnorm r.2.1.1 (toGa x.2.1)).1.num, (wnorm r.2.1.1 (toGa x.2.1)).1.den, ()), ()) → ∀ (r : Ro [tG]), r = ((), (((toFr x.2.1.1).neg, (toFr x.2.1.1).num, (toFr x.2.1.1).den, ()), ((fneg (toFr x.2.1.2.1)).1.neg, (fneg (toFr x.2.1.2.1)).1.num, (fneg (toFr x.2.1.2.1)).1.den, ()), ()), ()) → ∀ (r_3 : El tW × Els [tR, tR]), r_3 = (((wprod r_2.1.1 (toGa x.1) (toGa r.2.1)).2.2, ()), ((wprod r_2.1.1 (toGa x.1) (toGa r.2.1)).1.neg, (wprod r_2.1.1 (toGa x.1) (toGa r.2.1)).1.num, (wprod r_2.1.1 (toGa x.1) (toGa r.2.1)).1.den, ()), ((wprod r_2.1.1 (toGa x.1) (toGa r.2.1)).2.1.neg, (wprod r_2.1.1 (toGa x.1) (toGa r.2.1)).2.1.num, (wprod r_2.1.1 (toGa x.1) (toGa r.2.1)).2.1.den, ()), ()) → ∀ (r : El tW × Els [tR]), r = (((wquo r_3.1.1 (toFr r_3.2.1) (toFr r_2.2.1)).2, ()), ((wquo r_3.1.1 (toFr r_3.2.1) (toFr r_2.2.1)).1.neg, (wquo r_3.1.1 (toFr r_3.2.1) (toFr r_2.2.1)).1.num, (wquo r_3.1.1 (toFr r_3.2.1) (toFr r_2.2.1)).1.den, ()), ()) → ∀ (r_4 : El tW × Els [tR]), r_4 = (((wquo r.1.1 (toFr r_3.2.2.1) (toFr r_2.2.1)).2, ()), ((wquo r.1.1 (toFr r_3.2.2.1) (toFr r_2.2.1)).1.neg, (wquo r.1.1 (toFr r_3.2.2.1) (toFr r_2.2.1)).1.num, (wquo r.1.1 (toFr r_3.2.2.1) (toFr r_2.2.1)).1.den, ()), ()) → (((bif decide (r_4.1.1 ≠ (0 : Int)) then false else r.2.1.1, bif decide (r_4.1.1 ≠ (0 : Int)) then [] else r.2.1.2.1, bif decide (r_4.1.1 ≠ (0 : Int)) then [] else r.2.1.2.2.1, ()), (bif decide (r_4.1.1 ≠ (0 : Int)) then false else r_4.2.1.1, bif decide (r_4.1.1 ≠ (0 : Int)) then [] else r_4.2.1.2.1, bif decide (r_4.1.1 ≠ (0 : Int)) then [] else r_4.2.1.2.2.1, ()), ()), r_4.1) = ((((gquo (toGa x.1) (toGa x.2.1)).1.re.neg, (gquo (toGa x.1) (toGa x.2.1)).1.re.num, (gquo (toGa x.1) (toGa x.2.1)).1.re.den, ()), ((gquo (toGa x.1) (toGa x.2.1)).1.im.neg, (gquo (toGa x.1) (toGa x.2.1)).1.im.num, (gquo (toGa x.1) (toGa x.2.1)).1.im.den, ()), ()), (gquo (toGa x.1) (toGa x.2.1)).2, ()))) ∧ ((r.2.1.1 == (0 : Int)) = false → ∀ (r_1 : El tW × Els [tR]), r_1 = (((wnorm r.2.1.1 (toGa x.2.1)).2, ()), ((wnorm r.2.1.1 (toGa x.2.1)).1.neg, (wnorm r.2.1.1 (toGa x.2.1)).1.num, (wnorm r.2.1.1 (toGa x.2.1)).1.den, ()), ()) → ∀ (r : Ro [tG]), r = ((), (((toFr x.2.1.1).neg, (toFr x.2.1.1).num, (toFr x.2.1.1).den, ()), ((fneg (toFr x.2.1.2.1)).1.neg, (fneg (toFr x.2.1.2.1)).1.num, (fneg (toFr x.2.1.2.1)).1.den, ()), ()), ()) → ∀ (r_2 : El tW × Els [tR, tR]), r_2 = (((wprod r_1.1.1 (toGa x.1) (toGa r.2.1)).2.2, ()), ((wprod r_1.1.1 (toGa x.1) (toGa r.2.1)).1.neg, (wprod r_1.1.1 (toGa x.1) (toGa r.2.1)).1.num, (wprod r_1.1.1 (toGa x.1) (toGa r.2.1)).1.den, ()), ((wprod r_1.1.1 (toGa x.1) (toGa r.2.1)).2.1.neg, (wprod r_1.1.1 (toGa x.1) (toGa r.2.1)).2.1.num, (wprod r_1.1.1 (toGa x.1) (toGa r.2.1)).2.1.den, ()), ()) → ∀ (r : El tW × Els [tR]), r = (((wquo r_2.1.1 (toFr r_2.2.1) (toFr r_1.2.1)).2, ()), ((wquo r_2.1.1 (toFr r_2.2.1) (toFr r_1.2.1)).1.neg, (wquo r_2.1.1 (toFr r_2.2.1) (toFr r_1.2.1)).1.num, (wquo r_2.1.1 (toFr r_2.2.1) (toFr r_1.2.1)).1.den, ()), ()) → ∀ (r_3 : El tW × Els [tR]), r_3 = (((wquo r.1.1 (toFr r_2.2.2.1) (toFr r_1.2.1)).2, ()), ((wquo r.1.1 (toFr r_2.2.2.1) (toFr r_1.2.1)).1.neg, (wquo r.1.1 (toFr r_2.2.2.1) (toFr r_1.2.1)).1.num, (wquo r.1.1 (toFr r_2.2.2.1) (toFr r_1.2.1)).1.den, ()), ()) → (((bif decide (r_3.1.1 ≠ (0 : Int)) then false else r.2.1.1, bif decide (r_3.1.1 ≠ (0 : Int)) then [] else r.2.1.2.1, bif decide (r_3.1.1 ≠ (0 : Int)) then [] else r.2.1.2.2.1, ()), (bif decide (r_3.1.1 ≠ (0 : Int)) then false else r_3.2.1.1, bif decide (r_3.1.1 ≠ (0 : Int)) then [] else r_3.2.1.2.1, bif decide (r_3.1.1 ≠ (0 : Int)) then [] else r_3.2.1.2.2.1, ()), ()), r_3.1) = ((((gquo (toGa x.1) (toGa x.2.1)).1.re.neg, (gquo (toGa x.1) (toGa x.2.1)).1.re.num, (gquo (toGa x.1) (toGa x.2.1)).1.re.den, ()), ((gquo (toGa x.1) (toGa x.2.1)).1.im.neg, (gquo (toGa x.1) (toGa x.2.1)).1.im.num, (gquo (toGa x.1) (toGa x.2.1)).1.im.den, ()), ()), (gquo (toGa x.1) (toGa x.2.1)).2, ()))) := by kernel_rfl
theorem m_gQuo (y : El (.un)) (x : Els [tG, tG]) (h2 : wfE (.un) y) (h3 : wfEs [tG, tG] x) :
  (∀ (r : Ro [tW.pt]), r = ((), (gchks (0 : Int) [x.1, x.2.1], ()), ()) → ((r.2.1.1 == (0 : Int)) = true → ∀ (r_1 : Ro [Ty.bo]), r_1 = ((), gzero (toGa x.2.1), ()) → (r_1.2.1 = true → ∀ (r : El tW × Els [tR]), r = (((wnorm (7 : Int) (toGa x.2.1)).2, ()), ((wnorm (7 : Int) (toGa x.2.1)).1.neg, (wnorm (7 : Int) (toGa x.2.1)).1.num, (wnorm (7 : Int) (toGa x.2.1)).1.den, ()), ()) → ∀ (r_2 : Ro [tG]), r_2 = ((), (((toFr x.2.1.1).neg, (toFr x.2.1.1).num, (toFr x.2.1.1).den, ()), ((fneg (toFr x.2.1.2.1)).1.neg, (fneg (toFr x.2.1.2.1)).1.num, (fneg (toFr x.2.1.2.1)).1.den, ()), ()), ()) → ∀ (r_3 : El tW × Els [tR, tR]), r_3 = (((wprod r.1.1 (toGa x.1) (toGa r_2.2.1)).2.2, ()), ((wprod r.1.1 (toGa x.1) (toGa r_2.2.1)).1.neg, (wprod r.1.1 (toGa x.1) (toGa r_2.2.1)).1.num, (wprod r.1.1 (toGa x.1) (toGa r_2.2.1)).1.den, ()), ((wprod r.1.1 (toGa x.1) (toGa r_2.2.1)).2.1.neg, (wprod r.1.1 (toGa x.1) (toGa r_2.2.1)).2.1.num, (wprod r.1.1 (toGa x.1) (toGa r_2.2.1)).2.1.den, ()), ()) → ∀ (r_4 : El tW × Els [tR]), r_4 = (((wquo r_3.1.1 (toFr r_3.2.1) (toFr r.2.1)).2, ()), ((wquo r_3.1.1 (toFr r_3.2.1) (toFr r.2.1)).1.neg, (wquo r_3.1.1 (toFr r_3.2.1) (toFr r.2.1)).1.num, (wquo r_3.1.1 (toFr r_3.2.1) (toFr r.2.1)).1.den, ()), ()) → ∀ (r_5 : El tW × Els [tR]), r_5 = (((wquo r_4.1.1 (toFr r_3.2.2.1) (toFr r.2.1)).2, ()), ((wquo r_4.1.1 (toFr r_3.2.2.1) (toFr r.2.1)).1.neg, (wquo r_4.1.1 (toFr r_3.2.2.1) (toFr r.2.1)).1.num, (wquo r_4.1.1 (toFr r_3.2.2.1) (toFr r.2.1)).1.den, ()), ()) → (((bif decide (r_5.1.1 ≠ (0 : Int)) then false else r_4.2.1.1, bif decide (r_5.1.1 ≠ (0 : Int)) then [] else r_4.2.1.2.1, bif decide (r_5.1.1 ≠ (0 : Int)) then [] else r_4.2.1.2.2.1, ()), (bif decide (r_5.1.1 ≠ (0 : Int)) then false else r_5.2.1.1, bif decide (r_5.1.1 ≠ (0 : Int)) then [] else r_5.2.1.2.1, bif decide (r_5.1.1 ≠ (0 : Int)) then [] else r_5.2.1.2.2.1, ()), ()), r_5.1) = ((((gquo (toGa x.1) (toGa x.2.1)).1.re.neg, (gquo (toGa x.1) (toGa x.2.1)).1.re.num, (gquo (toGa x.1) (toGa x.2.1)).1.re.den, ()), ((gquo (toGa x.1) (toGa x.2.1)).1.im.neg, (gquo (toGa x.1) (toGa x.2.1)).1.im.num, (gquo (toGa x.1) (toGa x.2.1)).1.im.den, ()), ()), (gquo (toGa x.1) (toGa x.2.1)).2, ())) ∧ (r_1.2.1 = false → ∀ (r_2 : El tW × Els [tR]), r_2 = (((wnorm r.2.1.1 (toGa x.2.1)).2, ()), ((wnorm r.2.1.1 (toGa x.2.1)).1.neg, (wnorm r.2.1.1 (toGa x.2.1)).1.num, (wnorm r.2.1.1 (toGa x.2.1)).1.den, ()), ()) → ∀ (r : Ro [tG]), r = ((), (((toFr x.2.1.1).neg, (toFr x.2.1.1).num, (toFr x.2.1.1).den, ()), ((fneg (toFr x.2.1.2.1)).1.neg, (fneg (toFr x.2.1.2.1)).1.num, (fneg (toFr x.2.1.2.1)).1.den, ()), ()), ()) → ∀ (r_3 : El tW × Els [tR, tR]), r_3 = (((wprod r_2.1.1 (toGa x.1) (toGa r.2.1)).2.2, ()), ((wprod r_2.1.1 (toGa x.1) (toGa r.2.1)).1.neg, (wprod r_2.1.1 (toGa x.1) (toGa r.2.1)).1.num, (wprod r_2.1.1 (toGa x.1) (toGa r.2.1)).1.den, ()), ((wprod r_2.1.1 (toGa x.1) (toGa r.2.1)).2.1.neg, (wprod r_2.1.1 (toGa x.1) (toGa r.2.1)).2.1.num, (wprod r_2.1.1 (toGa x.1) (toGa r.2.1)).2.1.den, ()), ()) → ∀ (r : El tW × Els [tR]), r = (((wquo r_3.1.1 (toFr r_3.2.1) (toFr r_2.2.1)).2, ()), ((wquo r_3.1.1 (toFr r_3.2.1) (toFr r_2.2.1)).1.neg, (wquo r_3.1.1 (toFr r_3.2.1) (toFr r_2.2.1)).1.num, (wquo r_3.1.1 (toFr r_3.2.1) (toFr r_2.2.1)).1.den, ()), ()) → ∀ (r_4 : El tW × Els [tR]), r_4 = (((wquo r.1.1 (toFr r_3.2.2.1) (toFr r_2.2.1)).2, ()), ((wquo r.1.1 (toFr r_3.2.2.1) (toFr r_2.2.1)).1.neg, (wquo r.1.1 (toFr r_3.2.2.1) (toFr r_2.2.1)).1.num, (wquo r.1.1 (toFr r_3.2.2.1) (toFr r_2.2.1)).1.den, ()), ()) → (((bif decide (r_4.1.1 ≠ (0 : Int)) then false else r.2.1.1, bif decide (r_4.1.1 ≠ (0 : Int)) then [] else r.2.1.2.1, bif decide (r_4.1.1 ≠ (0 : Int)) then [] else r.2.1.2.2.1, ()), (bif decide (r_4.1.1 ≠ (0 : Int)) then false else r_4.2.1.1, bif decide (r_4.1.1 ≠ (0 : Int)) then [] else r_4.2.1.2.1, bif decide (r_4.1.1 ≠ (0 : Int)) then [] else r_4.2.1.2.2.1, ()), ()), r_4.1) = ((((gquo (toGa x.1) (toGa x.2.1)).1.re.neg, (gquo (toGa x.1) (toGa x.2.1)).1.re.num, (gquo (toGa x.1) (toGa x.2.1)).1.re.den, ()), ((gquo (toGa x.1) (toGa x.2.1)).1.im.neg, (gquo (toGa x.1) (toGa x.2.1)).1.im.num, (gquo (toGa x.1) (toGa x.2.1)).1.im.den, ()), ()), (gquo (toGa x.1) (toGa x.2.1)).2, ()))) ∧ ((r.2.1.1 == (0 : Int)) = false → ∀ (r_1 : El tW × Els [tR]), r_1 = (((wnorm r.2.1.1 (toGa x.2.1)).2, ()), ((wnorm r.2.1.1 (toGa x.2.1)).1.neg, (wnorm r.2.1.1 (toGa x.2.1)).1.num, (wnorm r.2.1.1 (toGa x.2.1)).1.den, ()), ()) → ∀ (r : Ro [tG]), r = ((), (((toFr x.2.1.1).neg, (toFr x.2.1.1).num, (toFr x.2.1.1).den, ()), ((fneg (toFr x.2.1.2.1)).1.neg, (fneg (toFr x.2.1.2.1)).1.num, (fneg (toFr x.2.1.2.1)).1.den, ()), ()), ()) → ∀ (r_2 : El tW × Els [tR, tR]), r_2 = (((wprod r_1.1.1 (toGa x.1) (toGa r.2.1)).2.2, ()), ((wprod r_1.1.1 (toGa x.1) (toGa r.2.1)).1.neg, (wprod r_1.1.1 (toGa x.1) (toGa r.2.1)).1.num, (wprod r_1.1.1 (toGa x.1) (toGa r.2.1)).1.den, ()), ((wprod r_1.1.1 (toGa x.1) (toGa r.2.1)).2.1.neg, (wprod r_1.1.1 (toGa x.1) (toGa r.2.1)).2.1.num, (wprod r_1.1.1 (toGa x.1) (toGa r.2.1)).2.1.den, ()), ()) → ∀ (r : El tW × Els [tR]), r = (((wquo r_2.1.1 (toFr r_2.2.1) (toFr r_1.2.1)).2, ()), ((wquo r_2.1.1 (toFr r_2.2.1) (toFr r_1.2.1)).1.neg, (wquo r_2.1.1 (toFr r_2.2.1) (toFr r_1.2.1)).1.num, (wquo r_2.1.1 (toFr r_2.2.1) (toFr r_1.2.1)).1.den, ()), ()) → ∀ (r_3 : El tW × Els [tR]), r_3 = (((wquo r.1.1 (toFr r_2.2.2.1) (toFr r_1.2.1)).2, ()), ((wquo r.1.1 (toFr r_2.2.2.1) (toFr r_1.2.1)).1.neg, (wquo r.1.1 (toFr r_2.2.2.1) (toFr r_1.2.1)).1.num, (wquo r.1.1 (toFr r_2.2.2.1) (toFr r_1.2.1)).1.den, ()), ()) → (((bif decide (r_3.1.1 ≠ (0 : Int)) then false else r.2.1.1, bif decide (r_3.1.1 ≠ (0 : Int)) then [] else r.2.1.2.1, bif decide (r_3.1.1 ≠ (0 : Int)) then [] else r.2.1.2.2.1, ()), (bif decide (r_3.1.1 ≠ (0 : Int)) then false else r_3.2.1.1, bif decide (r_3.1.1 ≠ (0 : Int)) then [] else r_3.2.1.2.1, bif decide (r_3.1.1 ≠ (0 : Int)) then [] else r_3.2.1.2.2.1, ()), ()), r_3.1) = ((((gquo (toGa x.1) (toGa x.2.1)).1.re.neg, (gquo (toGa x.1) (toGa x.2.1)).1.re.num, (gquo (toGa x.1) (toGa x.2.1)).1.re.den, ()), ((gquo (toGa x.1) (toGa x.2.1)).1.im.neg, (gquo (toGa x.1) (toGa x.2.1)).1.im.num, (gquo (toGa x.1) (toGa x.2.1)).1.im.den, ()), ()), (gquo (toGa x.1) (toGa x.2.1)).2, ()))) := by
  rintro _ rfl
  have e : gchks 0 [x.1, x.2.1] = gchk2 (toGa x.1) (toGa x.2.1) := gchks2 _ _
  simp only [e]
  refine ⟨fun h => ?_, fun h => ?_⟩
  · rintro _ rfl
    have h := eq_of_beq h
    refine ⟨fun k => ?_, fun k => ?_⟩
    · have hE : (if gchk2 (toGa x.1) (toGa x.2.1) ≠ 0 then gchk2 (toGa x.1) (toGa x.2.1) else if gzero (toGa x.2.1) = true then (7 : Int) else 0) = 7 := by rw [if_neg (by simp [h]), if_pos k]
      rintro _ rfl _ rfl _ rfl _ rfl _ rfl
      simp only [gquo, gtell, hE]
      split <;> simp_all [Ga.zero, Fr.zero]
    · have hE : (if gchk2 (toGa x.1) (toGa x.2.1) ≠ 0 then gchk2 (toGa x.1) (toGa x.2.1) else if gzero (toGa x.2.1) = true then (7 : Int) else 0) = gchk2 (toGa x.1) (toGa x.2.1) := by rw [if_neg (by simp [h]), if_neg (by simpa using k), h]
      rintro _ rfl _ rfl _ rfl _ rfl _ rfl
      simp only [gquo, gtell, hE]
      split <;> simp_all [Ga.zero, Fr.zero]
  · have h : gchk2 (toGa x.1) (toGa x.2.1) ≠ 0 := by simpa using h
    have hE : (if gchk2 (toGa x.1) (toGa x.2.1) ≠ 0 then gchk2 (toGa x.1) (toGa x.2.1) else if gzero (toGa x.2.1) = true then (7 : Int) else 0) = gchk2 (toGa x.1) (toGa x.2.1) := if_pos h
    rintro _ rfl _ rfl _ rfl _ rfl _ rfl
    simp only [gquo, gtell, hE]
    split <;> simp_all [Ga.zero, Fr.zero]
theorem fo_gQuo : FnOk Tryz.prog 49 sp_gQuo := fnOk_of (C := c_gQuo) iv_gQuo Tryz.func49 rfl (by kernel_rfl) tys_ok (prims_cons (spec_prim fo_asked) (prims_cons (spec_prim fo_gZero) (prims_cons (spec_prim fo_norm) (prims_cons (spec_prim fo_turned) (prims_cons (spec_prim fo_product) (prims_cons (spec_prim fo_wquo) (prims_cons pr_told prims_nil))))))) mixed_ (Nat.le_refl _) rfl fun y x h1 h2 h3 h4 =>
  Eq.mpr (w_gQuo y x) (m_gQuo y x h2 h3)
theorem wf_i {l : List Int} (h : wfE tW32 l) : Wf l := fun x hx => ⟨(h.2 x hx).1, Int.lt_of_le_of_lt (h.2 x hx).2 (by decide)⟩
theorem wf_fr {a : El tR} (h : wfE tR a) : (toFr a).Wf := ⟨wf_i h.2.1, wf_i h.2.2.1⟩
theorem wf_ga {a : El tG} (h : wfE tG a) : (toGa a).Wf := ⟨wf_fr h.1, wf_fr h.2.1⟩
section
variable {gp : Option Nat} {Z0 : Nat → Prop} {w0 : Base} {w w' : World} {D : Nat → Prop} {c : Cf} {T : Nat → Option AV} {O : Store} {a : Act} {N : Nat}
end
section
variable {wb w0 w w' : World} {row : Option Nat} {V : List (Nat × List Value)} {R : List (Adr × Fr)}
end
def pick {α : Type} (R : List α) : List Nat → List α
  | [] => []
  | i :: I => match R[i]? with
    | some x => x :: pick R I
    | none => pick R I
section
variable {wb w0 w w' : World} {row : Option Nat} {V : List (Nat × List Value)} {R : List (Adr × Fr)}
end
section
variable {wb w0 w w' : World} {row : Option Nat} {V : List (Nat × List Value)} {R : List (Adr × Fr)}
end
section
variable {gp : Option Nat} {Z0 : Nat → Prop} {w0 : Base} {w w' : World} {D : Nat → Prop} {c : Cf} {T : Nat → Option AV} {O : Store} {a : Act} {N : Nat}
end
def cut (w : World) (n : Nat) : World := { w with heap := w.heap.extract 0 n }
theorem ntt {b : Bool} (h : (!b) = true) : b = false := by simpa using h
theorem ba_loop (s : ByteArray) (i : Nat) (r : List UInt8) : ByteArray.toList.loop s i r = r.reverse ++ s.data.toList.drop i := by
  by_cases h : i < s.size
  · rw [ByteArray.toList.loop, if_pos h, ba_loop s (i + 1), List.reverse_cons, List.append_assoc]
    have hl : i < s.data.toList.length := h
    rw [List.drop_eq_getElem_cons hl]
    congr 1
    show [s.get! i] ++ _ = _
    have : s.get! i = s.data.toList[i] := by
      show s.data[i]! = _
      rw [getElem!_pos s.data i h]
      simp
    rw [this]
    rfl
  · rw [ByteArray.toList.loop, if_neg h, List.drop_of_length_le (by show s.data.toList.length ≤ i; simpa using h), List.append_nil]
  termination_by s.size - i
theorem ba_list (s : ByteArray) : s.toList = s.data.toList := by
  unfold ByteArray.toList
  rw [ba_loop]
  rfl
theorem ba_0 (s : ByteArray) : (s.toList == ByteArray.toList { data := #[] }) = decide (s.size = 0) := by
  rw [Bool.eq_iff_iff, beq_iff_eq, decide_eq_true_eq, ba_list, ba_list]
  obtain ⟨⟨a⟩⟩ := s
  show a = [] ↔ a.length = 0
  simp
theorem ltT {a b : Int} (h : decide (a < b) = true) : a < b := of_decide_eq_true h
theorem ltF {a b : Int} (h : decide (a < b) = false) : b ≤ a := by have := of_decide_eq_false h; omega
theorem gtT {a b : Int} (h : decide (a > b) = true) : b < a := of_decide_eq_true h
theorem gtF {a b : Int} (h : decide (a > b) = false) : a ≤ b := by have := of_decide_eq_false h; omega
theorem leT {a b : Int} (h : decide (a ≤ b) = true) : a ≤ b := of_decide_eq_true h
theorem leF {a b : Int} (h : decide (a ≤ b) = false) : b < a := by have := of_decide_eq_false h; omega
theorem geT {a b : Int} (h : decide (a ≥ b) = true) : b ≤ a := of_decide_eq_true h
theorem geF {a b : Int} (h : decide (a ≥ b) = false) : a < b := by have := of_decide_eq_false h; omega
theorem eqT {a b : Int} (h : (a == b) = true) : a = b := eq_of_beq h
theorem eqF {a b : Int} (h : (a == b) = false) : a ≠ b := ne_of_beq_false h
theorem neT {a b : Int} (h : (a != b) = true) : a ≠ b := by simpa using h
theorem neF {a b : Int} (h : (a != b) = false) : a = b := by simpa using h
theorem gcd_tstep (a b : Int) : Int.gcd b (a.tmod b) = Int.gcd a b := by
  show Nat.gcd b.natAbs (a.tmod b).natAbs = Nat.gcd a.natAbs b.natAbs
  rw [Int.natAbs_tmod, Nat.gcd_comm, ← Nat.gcd_rec, Nat.gcd_comm]
theorem abs_if (a : Int) : (if -a > a then -a else a) = (a.natAbs : Int) := by
  split <;> omega
noncomputable def sp_rcommon : Spec := { q := .un, ps := [.it .i64, .it .i64], rs := [.it .i64], fresh := true, pre := fun _ x => some (x.1.natAbs ≤ 10000000000 ∧ x.2.1.natAbs ≤ 10000000000), post := fun _ x => ((), (((Int.gcd x.1 x.2.1 : Nat) : Int), ())) }
noncomputable def iv_rcommon (y : El sp_rcommon.q) (x : Els sp_rcommon.ps) : Nat → Option Inv := fun k => if k = 0 then some { X := Int × Int, tm := fun i => [(0, .c (.sc (.int .i64 i.1))), (1, .c (.sc (.int .i64 i.2)))], ob := fun _ => [], n := 1, I := fun i => Int.gcd i.1 i.2 = Int.gcd x.1 x.2.1 ∧ i.1.natAbs ≤ 10000000000 ∧ i.2.natAbs ≤ 10000000000, μ := fun i => i.2.natAbs } else none
noncomputable abbrev c_rcommon : Cfg := cfgS (Tryz.f102).ntmps false []
def F_rcommon (y : El sp_rcommon.q) (x : Els sp_rcommon.ps) : Prop :=
  (∃ (x_1 : Int × Int), x_1.1 = x.1 ∧ x_1.2 = x.2.1 ∧ x_1.1.gcd x_1.2 = Int.gcd x.1 x.2.1 ∧ x_1.1.natAbs ≤ (10000000000 : Nat) ∧ x_1.2.natAbs ≤ (10000000000 : Nat)) ∧ ∀ (x_1 : Int × Int), x_1.1.gcd x_1.2 = Int.gcd x.1 x.2.1 ∧ x_1.1.natAbs ≤ (10000000000 : Nat) ∧ x_1.2.natAbs ≤ (10000000000 : Nat) → ((x_1.2 != (0 : Int)) = true → x_1.2 ≠ (0 : Int) ∧ ∃ (x' : Int × Int), x'.1 = x_1.2 ∧ x'.2 = x_1.1.tmod x_1.2 ∧ (x'.1.gcd x'.2 = Int.gcd x.1 x.2.1 ∧ x'.1.natAbs ≤ (10000000000 : Nat) ∧ x'.2.natAbs ≤ (10000000000 : Nat)) ∧ x'.2.natAbs < x_1.2.natAbs) ∧ ((x_1.2 != (0 : Int)) = false → ((-9223372036854775808 : Int) ≤ -x_1.1 ∧ -x_1.1 ≤ (9223372036854775807 : Int)) ∧ (if -x_1.1 > x_1.1 then -x_1.1 else x_1.1, ()) = ((↑(Int.gcd x.1 x.2.1) : Int), ()))
theorem w_rcommon (y : El sp_rcommon.q) (x : Els sp_rcommon.ps) : aW c_rcommon (iv_rcommon y x) Tryz.f102 sp_rcommon y x = F_rcommon y x := by kernel_rfl
theorem m_rcommon (y : El (.un)) (x : Els [.it .i64, .it .i64]) (h2 : wfE (.un) y) (h3 : wfEs [.it .i64, .it .i64] x) (h4 : x.1.natAbs ≤ 10000000000 ∧ x.2.1.natAbs ≤ 10000000000) : F_rcommon y x := by
  unfold F_rcommon
  obtain ⟨h5, h6⟩ := h4
  refine ⟨⟨(x.1, x.2.1), rfl, rfl, rfl, h5, h6⟩, fun i hi => ?_⟩
  obtain ⟨i1, i2, i3⟩ := hi
  refine ⟨fun h => ?_, fun h => ⟨by omega, ?_⟩⟩
  · have h : i.2 ≠ 0 := by simpa using h
    have hp : 0 < i.2.natAbs := Int.natAbs_pos.2 h
    have hm : (i.1.tmod i.2).natAbs < i.2.natAbs := by rw [Int.natAbs_tmod]; exact Nat.mod_lt _ hp
    exact ⟨h, (i.2, i.1.tmod i.2), rfl, rfl, ⟨(gcd_tstep i.1 i.2).trans i1, i3, by show (i.1.tmod i.2).natAbs ≤ _; omega⟩, hm⟩
  · have h : i.2 = 0 := by simpa using h
    rw [h, Int.gcd_zero_right] at i1
    rw [abs_if, i1]
theorem fo_rcommon : FnOk Tryz.prog 102 sp_rcommon := fnOk_of (C := c_rcommon) iv_rcommon Tryz.func102 rfl (by kernel_rfl) tys_ok prims_nil mixed_ (Nat.le_refl _) rfl fun y x h1 h2 h3 h4 =>
  Eq.mpr (w_rcommon y x) (m_rcommon y x h2 h3 h4)
def rotC (r : El tRot) : Int := if 1 ≤ r.1 ∧ r.1 ≤ 1000 ∧ -1000 ≤ r.2.1 ∧ r.2.1 ≤ 1000 ∧ r.2.1 ≠ 0 ∧ r.1 ≠ r.2.1 ∧ r.1 ≠ -r.2.1 ∧ Int.gcd r.1 r.2.1 = 1 then 0 else 150
def rotI (a b : Int) : Prop := 1 ≤ a ∧ a ≤ 1000 ∧ -1000 ≤ b ∧ b ≤ 1000 ∧ b ≠ 0 ∧ a ≠ b ∧ a ≠ -b ∧ Int.gcd a b = 1
def rotB (r : El tRot) : Prop := rotI r.1 r.2.1
theorem rotn {r : El tRot} (h : ¬ rotB r) : ((150 : Int), ()) = (rotC r, ()) := by
  unfold rotB rotI at h
  unfold rotC
  rw [if_neg h]
theorem roty {r : El tRot} (h : rotB r) : ((0 : Int), ()) = (rotC r, ()) := by
  unfold rotB rotI at h
  unfold rotC
  rw [if_pos h]
theorem rotC_0 {r : El tRot} (h : rotC r = 0) : rotB r := by
  unfold rotC at h
  split at h
  · rename_i k; exact k
  · cases h
theorem i32_rng {a : Int} (h : IntKind.i32.min ≤ a ∧ a ≤ IntKind.i32.max) : -2147483648 ≤ a ∧ a ≤ 2147483647 := h
theorem wrap64_32 {a : Int} (h : -2147483648 ≤ a ∧ a ≤ 2147483647) : IntKind.i64.wrap a = a := wrap_id (k := .i64) (by have : IntKind.i64.min = -9223372036854775808 := rfl; omega) (by have : IntKind.i64.max = 9223372036854775807 := rfl; omega)
theorem wrap32_neg {a : Int} (h : -2147483648 < a ∧ a ≤ 2147483647) : IntKind.i32.wrap (0 - a) = -a := by
  rw [Int.zero_sub]
  exact wrap_id (k := .i32) (by have : IntKind.i32.min = -2147483648 := rfl; omega) (by have : IntKind.i32.max = 2147483647 := rfl; omega)
noncomputable def sp_rCk : Spec := { q := .un, ps := [tRot], rs := [.it .i64], fresh := true, pre := fun _ _ => none, post := fun _ x => ((), (rotC x.1, ())) }
noncomputable def iv_rCk (y : El sp_rCk.q) (x : Els sp_rCk.ps) : Nat → Option Inv := fun _ => none
noncomputable abbrev c_rCk : Cfg := cfgS (Tryz.f36).ntmps false [(102, sp_rcommon.prim)]
def F_rCk (y : El sp_rCk.q) (x : Els sp_rCk.ps) : Prop :=
  (decide (IntKind.i64.wrap x.1.1 < (1 : Int)) = true → ((150 : Int), ()) = (rotC x.1, ())) ∧ (decide (IntKind.i64.wrap x.1.1 < (1 : Int)) = false → (decide (IntKind.i64.wrap x.1.1 > (1000 : Int)) = true → ((150 : Int), ()) = (rotC x.1, ())) ∧ (decide (IntKind.i64.wrap x.1.1 > (1000 : Int)) = false → (decide (IntKind.i64.wrap x.1.2.1 < (-1000 : Int)) = true → ((150 : Int), ()) = (rotC x.1, ())) ∧ (decide (IntKind.i64.wrap x.1.2.1 < (-1000 : Int)) = false → (decide (IntKind.i64.wrap x.1.2.1 > (1000 : Int)) = true → ((150 : Int), ()) = (rotC x.1, ())) ∧ (decide (IntKind.i64.wrap x.1.2.1 > (1000 : Int)) = false → ((IntKind.i64.wrap x.1.2.1 == (0 : Int)) = true → ((150 : Int), ()) = (rotC x.1, ())) ∧ ((IntKind.i64.wrap x.1.2.1 == (0 : Int)) = false → ((IntKind.i64.wrap x.1.1 == IntKind.i64.wrap x.1.2.1) = true → ((150 : Int), ()) = (rotC x.1, ())) ∧ ((IntKind.i64.wrap x.1.1 == IntKind.i64.wrap x.1.2.1) = false → ((-9223372036854775808 : Int) ≤ -IntKind.i64.wrap x.1.2.1 ∧ -IntKind.i64.wrap x.1.2.1 ≤ (9223372036854775807 : Int)) ∧ ((IntKind.i64.wrap x.1.1 == -IntKind.i64.wrap x.1.2.1) = true → ((150 : Int), ()) = (rotC x.1, ())) ∧ ((IntKind.i64.wrap x.1.1 == -IntKind.i64.wrap x.1.2.1) = false → ((IntKind.i64.wrap x.1.1).natAbs ≤ (10000000000 : Nat) ∧ (IntKind.i64.wrap x.1.2.1).natAbs ≤ (10000000000 : Nat)) ∧ ∀ (r : Ro [Ty.it IntKind.i64]), r = ((), (↑((IntKind.i64.wrap x.1.1).gcd (IntKind.i64.wrap x.1.2.1)) : Int), ()) → ((r.2.1 != (1 : Int)) = true → ((150 : Int), ()) = (rotC x.1, ())) ∧ ((r.2.1 != (1 : Int)) = false → ((0 : Int), ()) = (rotC x.1, ())))))))))
theorem w_rCk (y : El sp_rCk.q) (x : Els sp_rCk.ps) : aW c_rCk (iv_rCk y x) Tryz.f36 sp_rCk y x = F_rCk y x := by kernel_rfl
theorem m_rCk (y : El (.un)) (x : Els [tRot]) (h2 : wfE (.un) y) (h3 : wfEs [tRot] x) : F_rCk y x := by
  unfold F_rCk
  have r1 := i32_rng h3.1.1
  have r2 := i32_rng h3.1.2.1
  simp only [wrap64_32 r1, wrap64_32 r2]
  refine ⟨fun h => rotn (r := x.1) fun c => ?_, fun h1 => ⟨fun h => rotn (r := x.1) fun c => ?_, fun h2 => ⟨fun h => rotn (r := x.1) fun c => ?_, fun h3 => ⟨fun h => rotn (r := x.1) fun c => ?_, fun h4 => ⟨fun h => rotn (r := x.1) fun c => ?_, fun h5 => ⟨fun h => rotn (r := x.1) fun c => ?_, fun h6 => ?_⟩⟩⟩⟩⟩⟩
  · unfold rotB rotI at c; have h := ltT h; omega
  · unfold rotB rotI at c; have h := gtT h; omega
  · unfold rotB rotI at c; have h := ltT h; omega
  · unfold rotB rotI at c; have h := gtT h; omega
  · unfold rotB rotI at c; have h := eqT h; omega
  · unfold rotB rotI at c; have h := eqT h; omega
  have h1 := ltF h1
  have h2 := gtF h2
  have h3 := ltF h3
  have h4 := gtF h4
  have h5 := eqF h5
  have h6 := eqF h6
  refine ⟨⟨by omega, by omega⟩, ?_⟩
  refine ⟨fun h => rotn (r := x.1) fun c => ?_, fun h7 => ⟨⟨?_, ?_⟩, ?_⟩⟩
  · unfold rotB rotI at c
    have h := eqT h
    omega
  · omega
  · omega
  have h7 := eqF h7
  rintro _ rfl
  refine ⟨fun h => rotn (r := x.1) fun c => ?_, fun h8 => roty (r := x.1) ⟨by omega, by omega, by omega, by omega, h5, h6, h7, ?_⟩⟩
  · unfold rotB rotI at c
    have h := neT h
    exact h (by rw [c.2.2.2.2.2.2.2]; rfl)
  · have h := neF h8
    exact Int.ofNat_inj.1 h
theorem fo_rCk : FnOk Tryz.prog 36 sp_rCk := fnOk_of (C := c_rCk) iv_rCk Tryz.func36 rfl (by kernel_rfl) tys_ok (prims_cons (spec_prim fo_rcommon) prims_nil) mixed_ (Nat.le_refl _) rfl fun y x h1 h2 h3 h4 =>
  Eq.mpr (w_rCk y x) (m_rCk y x h2 h3)
theorem eq_rot (a b : El tRot) : eqV tRot a b = decide (a = b) := by
  obtain ⟨a, c, _⟩ := a
  obtain ⟨b, d, _⟩ := b
  rw [Bool.eq_iff_iff, decide_eq_true_eq]
  simp [eqV]
noncomputable def sp_klong : Spec := { q := .un, ps := [tW32], rs := [.bo], fresh := true, pre := fun _ _ => none, post := fun _ x => ((), (isLong x.1.length, ())) }
noncomputable def iv_klong (y : El sp_klong.q) (x : Els sp_klong.ps) : Nat → Option Inv := fun _ => none
noncomputable abbrev c_klong : Cfg := cfgS (Tryz.f76).ntmps false []
def F_klong (y : El sp_klong.q) (x : Els sp_klong.ps) : Prop :=
  (decide ((x.1.length : Int) > (60 : Int)) = true → (decide ((x.1.length : Int) ≤ (2048 : Int)) = true → (true, ()) = (isLong (List.length x.1), ())) ∧ (decide ((x.1.length : Int) ≤ (2048 : Int)) = false → (decide ((x.1.length : Int) ≥ (2057 : Int)), ()) = (isLong (List.length x.1), ()))) ∧ (decide ((x.1.length : Int) > (60 : Int)) = false → (false, ()) = (isLong (List.length x.1), ()))
theorem w_klong (y : El sp_klong.q) (x : Els sp_klong.ps) : aW c_klong (iv_klong y x) Tryz.f76 sp_klong y x = F_klong y x := by kernel_rfl
theorem m_klong (y : El (.un)) (x : Els [tW32]) (h2 : wfE (.un) y) (h3 : wfEs [tW32] x) : F_klong y x := by
  unfold F_klong
  unfold isLong
  refine ⟨fun h => ⟨fun k => ?_, fun k => ?_⟩, fun h => ?_⟩
  · have h := gtT h
    have k := leT k
    rw [decide_eq_true ⟨by omega, .inl (by omega)⟩]
  · have h := gtT h
    have k := leF k
    refine congrArg (fun b => (b, ())) ?_
    rw [Bool.eq_iff_iff, decide_eq_true_eq, decide_eq_true_eq]
    omega
  · have h := gtF h
    rw [decide_eq_false (by omega)]
theorem fo_klong : FnOk Tryz.prog 76 sp_klong := fnOk_of (C := c_klong) iv_klong Tryz.func76 rfl (by kernel_rfl) tys_ok prims_nil mixed_ (Nat.le_refl _) rfl fun y x h1 h2 h3 h4 =>
  Eq.mpr (w_klong y x) (m_klong y x h2 h3)
def lngF (f : Fr) : Bool := isLong f.num.length || isLong f.den.length
def lngG (a : Ga) : Bool := lngF a.re || lngF a.im
def longs (l : List (El tR)) : Bool := l.any fun f => lngF (toFr f)
def longGs (l : List (El tG)) : Bool := l.any fun g => lngG (toGa g)
theorem any_at {α : Type} {f : α → Bool} {l : List α} {i : Nat} (h : i < l.length) (d : α) (k : f (l.getD i d) = true) : l.any f = true := by
  rw [List.getD_eq_getElem?_getD, List.getElem?_eq_getElem h] at k
  rw [List.any_eq_true]
  exact ⟨l[i], List.getElem_mem h, k⟩
theorem any_take {α : Type} {f : α → Bool} {l : List α} {i : Nat} (h : i < l.length) (d : α) (k : (l.take i).any f = false) (m : f (l.getD i d) = false) : (l.take (i + 1)).any f = false := by
  rw [List.getD_eq_getElem?_getD, List.getElem?_eq_getElem h] at m
  rw [List.take_add_one, List.getElem?_eq_getElem h, Option.toList_some, List.any_append, k]
  simpa using m
noncomputable def sp_kLong : Spec := { q := .un, ps := [.sl tR], rs := [.bo], fresh := true, pre := fun _ _ => none, post := fun _ x => ((), (longs x.1, ())) }
noncomputable def iv_kLong (y : El sp_kLong.q) (x : Els sp_kLong.ps) : Nat → Option Inv := fun k => if k = 0 then some { X := Nat, tm := fun i => [(0, .c (.sl tR x.1)), (3, .c (.sc (.int .i64 i)))], ob := fun _ => [], n := 1, I := fun i => i ≤ x.1.length ∧ longs (x.1.take i) = false, μ := fun i => x.1.length - i } else none
noncomputable abbrev c_kLong : Cfg := cfgS (Tryz.f14).ntmps false [(76, sp_klong.prim)]
def F_kLong (y : El sp_kLong.q) (x : Els sp_kLong.ps) : Prop :=
  (∃ (x_1 : Nat), x.1 = x.1 ∧ (↑x_1 : Int) = (0 : Int) ∧ x_1 ≤ List.length x.1 ∧ longs (List.take x_1 x.1) = false) ∧ ∀ (x_1 : Nat), x_1 ≤ List.length x.1 ∧ longs (List.take x_1 x.1) = false → (decide ((↑x_1 : Int) < (x.1.length : Int)) = true → ((0 : Int) ≤ (↑x_1 : Int) ∧ (↑x_1 : Int) < (x.1.length : Int)) ∧ ∀ (r : Ro [Ty.bo]), r = ((), isLong (List.length (List.getD x.1 (↑x_1 : Int).toNat (dfl tR)).2.1), ()) → (r.2.1 = true → (true, ()) = (longs x.1, ())) ∧ (r.2.1 = false → ((0 : Int) ≤ (↑x_1 : Int) ∧ (↑x_1 : Int) < (x.1.length : Int)) ∧ ∀ (r : Ro [Ty.bo]), r = ((), isLong (List.length (List.getD x.1 (↑x_1 : Int).toNat (dfl tR)).2.2.1), ()) → (r.2.1 = true → (true, ()) = (longs x.1, ())) ∧ (r.2.1 = false → ((-9223372036854775808 : Int) ≤ (↑x_1 : Int) + (1 : Int) ∧ (↑x_1 : Int) + (1 : Int) ≤ (9223372036854775807 : Int)) ∧ ∃ (x' : Nat), x.1 = x.1 ∧ (↑x' : Int) = (↑x_1 : Int) + (1 : Int) ∧ (x' ≤ List.length x.1 ∧ longs (List.take x' x.1) = false) ∧ List.length x.1 - x' < List.length x.1 - x_1))) ∧ (decide ((↑x_1 : Int) < (x.1.length : Int)) = false → (false, ()) = (longs x.1, ()))
theorem w_kLong (y : El sp_kLong.q) (x : Els sp_kLong.ps) : aW c_kLong (iv_kLong y x) Tryz.f14 sp_kLong y x = F_kLong y x := by kernel_rfl
theorem m_kLong (y : El (.un)) (x : Els [.sl tR]) (h2 : wfE (.un) y) (h3 : wfEs [.sl tR] x) : F_kLong y x := by
  unfold F_kLong
  have hL : x.1.length ≤ 9223372036854775807 := h3.1.1
  refine ⟨⟨0, rfl, rfl, Nat.zero_le _, rfl⟩, fun i hi => ⟨fun h => ?_, fun h => ?_⟩⟩
  · obtain ⟨i0, i1⟩ := hi
    have h := ltT h
    have il : i < x.1.length := by omega
    refine ⟨⟨by omega, h⟩, ?_⟩
    rw [Int.toNat_natCast]
    rintro _ rfl
    refine ⟨fun k => ?_, fun k => ⟨⟨by omega, h⟩, ?_⟩⟩
    · have k : isLong (toFr (x.1.getD i (dfl tR))).num.length = true := k
      have : longs x.1 = true := any_at (f := fun f => lngF (toFr f)) il (dfl tR) (by show lngF _ = true; unfold lngF; rw [k]; rfl)
      rw [this]
    rintro _ rfl
    refine ⟨fun m => ?_, fun m => ⟨⟨by omega, by omega⟩, i + 1, rfl, rfl, ⟨il, ?_⟩, by omega⟩⟩
    · have m : isLong (toFr (x.1.getD i (dfl tR))).den.length = true := m
      have : longs x.1 = true := any_at (f := fun f => lngF (toFr f)) il (dfl tR) (by show lngF _ = true; unfold lngF; rw [m]; simp)
      rw [this]
    · have k : isLong (toFr (x.1.getD i (dfl tR))).num.length = false := k
      have m : isLong (toFr (x.1.getD i (dfl tR))).den.length = false := m
      exact any_take (f := fun f => lngF (toFr f)) il (dfl tR) i1 (by show lngF _ = false; unfold lngF; rw [k, m]; rfl)
  · obtain ⟨i0, i1⟩ := hi
    have h := ltF h
    rw [List.take_of_length_le (by omega)] at i1
    rw [i1]
theorem fo_kLong : FnOk Tryz.prog 14 sp_kLong := fnOk_of (C := c_kLong) iv_kLong Tryz.func14 rfl (by kernel_rfl) tys_ok (prims_cons (spec_prim fo_klong) prims_nil) mixed_ (Nat.le_refl _) rfl fun y x h1 h2 h3 h4 =>
  Eq.mpr (w_kLong y x) (m_kLong y x h2 h3)
noncomputable def sp_kLongG : Spec := { q := .un, ps := [.sl tG], rs := [.bo], fresh := true, pre := fun _ _ => none, post := fun _ x => ((), (longGs x.1, ())) }
noncomputable def iv_kLongG (y : El sp_kLongG.q) (x : Els sp_kLongG.ps) : Nat → Option Inv := fun k => if k = 0 then some { X := Nat, tm := fun i => [(0, .c (.sl tG x.1)), (3, .c (.sc (.int .i64 i)))], ob := fun _ => [], n := 1, I := fun i => i ≤ x.1.length ∧ longGs (x.1.take i) = false, μ := fun i => x.1.length - i } else none
noncomputable abbrev c_kLongG : Cfg := cfgS (Tryz.f29).ntmps false [(14, sp_kLong.prim)]
def F_kLongG (y : El sp_kLongG.q) (x : Els sp_kLongG.ps) : Prop :=
  (∃ (x_1 : Nat), x.1 = x.1 ∧ (↑x_1 : Int) = (0 : Int) ∧ x_1 ≤ List.length x.1 ∧ longGs (List.take x_1 x.1) = false) ∧ ∀ (x_1 : Nat), x_1 ≤ List.length x.1 ∧ longGs (List.take x_1 x.1) = false → (decide ((↑x_1 : Int) < (x.1.length : Int)) = true → ((0 : Int) ≤ (↑x_1 : Int) ∧ (↑x_1 : Int) < (x.1.length : Int)) ∧ ((0 : Int) ≤ (↑x_1 : Int) ∧ (↑x_1 : Int) < (x.1.length : Int)) ∧ ∀ (r : Ro [Ty.bo]), r = ((), longs [(List.getD x.1 (↑x_1 : Int).toNat (dfl tG)).1, (List.getD x.1 (↑x_1 : Int).toNat (dfl tG)).2.1], ()) → (r.2.1 = true → (true, ()) = (longGs x.1, ())) ∧ (r.2.1 = false → ((-9223372036854775808 : Int) ≤ (↑x_1 : Int) + (1 : Int) ∧ (↑x_1 : Int) + (1 : Int) ≤ (9223372036854775807 : Int)) ∧ ∃ (x' : Nat), x.1 = x.1 ∧ (↑x' : Int) = (↑x_1 : Int) + (1 : Int) ∧ (x' ≤ List.length x.1 ∧ longGs (List.take x' x.1) = false) ∧ List.length x.1 - x' < List.length x.1 - x_1)) ∧ (decide ((↑x_1 : Int) < (x.1.length : Int)) = false → (false, ()) = (longGs x.1, ()))
theorem w_kLongG (y : El sp_kLongG.q) (x : Els sp_kLongG.ps) : aW c_kLongG (iv_kLongG y x) Tryz.f29 sp_kLongG y x = F_kLongG y x := by kernel_rfl
theorem m_kLongG (y : El (.un)) (x : Els [.sl tG]) (h2 : wfE (.un) y) (h3 : wfEs [.sl tG] x) : F_kLongG y x := by
  unfold F_kLongG
  have hL : x.1.length ≤ 9223372036854775807 := h3.1.1
  refine ⟨⟨0, rfl, rfl, Nat.zero_le _, rfl⟩, fun i hi => ⟨fun h => ?_, fun h => ?_⟩⟩
  · obtain ⟨i0, i1⟩ := hi
    have h := ltT h
    have il : i < x.1.length := by omega
    refine ⟨⟨by omega, h⟩, ⟨by omega, h⟩, ?_⟩
    rw [Int.toNat_natCast]
    rintro _ rfl
    have e : longs [(x.1.getD i (dfl tG)).1, (x.1.getD i (dfl tG)).2.1] = lngG (toGa (x.1.getD i (dfl tG))) := by
      unfold longs lngG
      simp
    rw [e]
    refine ⟨fun k => ?_, fun k => ⟨⟨by omega, by omega⟩, i + 1, rfl, rfl, ⟨il, any_take (f := fun g => lngG (toGa g)) il (dfl tG) i1 k⟩, by omega⟩⟩
    have : longGs x.1 = true := any_at (f := fun g => lngG (toGa g)) il (dfl tG) k
    rw [this]
  · obtain ⟨i0, i1⟩ := hi
    have h := ltF h
    rw [List.take_of_length_le (by omega)] at i1
    rw [i1]
theorem fo_kLongG : FnOk Tryz.prog 29 sp_kLongG := fnOk_of (C := c_kLongG) iv_kLongG Tryz.func29 rfl (by kernel_rfl) tys_ok (prims_cons (spec_prim fo_kLong) prims_nil) mixed_ (Nat.le_refl _) rfl fun y x h1 h2 h3 h4 =>
  Eq.mpr (w_kLongG y x) (m_kLongG y x h2 h3)
def gint (a b : Int) : Ga := ⟨(fsmall a 1).1, (fsmall b 1).1⟩
noncomputable def sp_iwhole : Spec := { q := .un, ps := [tG], rs := [tG, .it .i64], fresh := true, pre := fun _ _ => none, post := fun _ x => pG (gadd (gint 1 0) (toGa x.1)) }
noncomputable def iv_iwhole (y : El sp_iwhole.q) (x : Els sp_iwhole.ps) : Nat → Option Inv := fun _ => none
noncomputable abbrev c_iwhole : Cfg := cfgS (Tryz.f95).ntmps false [(50, sp_gInt.prim), (31, sp_gAdd.prim)]
def F_iwhole (y : El sp_iwhole.q) (x : Els sp_iwhole.ps) : Prop :=
  ∀ (r : Ro [tG]), r = ((), ofGa { re := (fsmall (1 : Int) (1 : Int)).1, im := (fsmall (0 : Int) (1 : Int)).1 }, ()) → ∀ (r_1 : Ro [tG, Ty.it IntKind.i64]), r_1 = pG (gadd (toGa r.2.1) (toGa x.1)) → r_1.2 = (pG (gadd (gint (1 : Int) (0 : Int)) (toGa x.1))).2
theorem w_iwhole (y : El sp_iwhole.q) (x : Els sp_iwhole.ps) : aW c_iwhole (iv_iwhole y x) Tryz.f95 sp_iwhole y x = F_iwhole y x := by kernel_rfl
theorem m_iwhole (y : El (.un)) (x : Els [tG]) (h2 : wfE (.un) y) (h3 : wfEs [tG] x) : F_iwhole y x := by
  unfold F_iwhole
  rintro _ rfl _ rfl
  rfl
theorem fo_iwhole : FnOk Tryz.prog 95 sp_iwhole := fnOk_of (C := c_iwhole) iv_iwhole Tryz.func95 rfl (by kernel_rfl) tys_ok (prims_cons (spec_prim fo_gInt) (prims_cons (spec_prim fo_gAdd) prims_nil)) mixed_ (Nat.le_refl _) rfl fun y x h1 h2 h3 h4 =>
  Eq.mpr (w_iwhole y x) (m_iwhole y x h2 h3)
def gZ3 (e : Int) : El tG × El tG × Int × Unit := (ofGa Ga.zero, ofGa Ga.zero, e, ())
def gsplit (t r : Ga) : El tG × El tG × Int × Unit :=
  if gchk t ≠ 0 then gZ3 (gchk t) else if gchk r ≠ 0 then gZ3 (gchk r) else if r = gint (-1) 0 then gZ3 7
  else if (gadd (gint 1 0) r).2 ≠ 0 then gZ3 (gadd (gint 1 0) r).2
  else if (gquo t (gadd (gint 1 0) r).1).2 ≠ 0 then gZ3 (gquo t (gadd (gint 1 0) r).1).2
  else if (gmul r (gquo t (gadd (gint 1 0) r).1).1).2 ≠ 0 then gZ3 (gmul r (gquo t (gadd (gint 1 0) r).1).1).2
  else (ofGa (gquo t (gadd (gint 1 0) r).1).1, ofGa (gmul r (gquo t (gadd (gint 1 0) r).1).1).1, 0, ())
theorem gsame_dec {r m : Ga} (h : gchk r = 0) : gsame r m = decide (r = m) := by
  unfold gsame
  rw [Bool.eq_iff_iff, decide_eq_true_eq, decide_eq_true_eq]
  constructor
  · exact fun k => k.2
  · intro e
    subst e
    exact ⟨by unfold gchk2; rw [h]; rfl, rfl⟩
section
variable {t r : Ga}
theorem sp_1 (h : gchk t ≠ 0) : gZ3 (gchk t) = gsplit t r := by unfold gsplit; rw [if_pos h]
theorem sp_2 (h : gchk t = 0) (k : gchk r ≠ 0) : gZ3 (gchk r) = gsplit t r := by unfold gsplit; rw [if_neg (fun c => c h), if_pos k]
theorem sp_3 (h : gchk t = 0) (k : gchk r = 0) (l : r = gint (-1) 0) : gZ3 7 = gsplit t r := by unfold gsplit; rw [if_neg (fun c => c h), if_neg (fun c => c k), if_pos l]
theorem sp_4 (h : gchk t = 0) (k : gchk r = 0) (l : r ≠ gint (-1) 0) (m : (gadd (gint 1 0) r).2 ≠ 0) : gZ3 (gadd (gint 1 0) r).2 = gsplit t r := by unfold gsplit; rw [if_neg (fun c => c h), if_neg (fun c => c k), if_neg l, if_pos m]
theorem sp_5 (h : gchk t = 0) (k : gchk r = 0) (l : r ≠ gint (-1) 0) (m : (gadd (gint 1 0) r).2 = 0) (n : (gquo t (gadd (gint 1 0) r).1).2 ≠ 0) : gZ3 (gquo t (gadd (gint 1 0) r).1).2 = gsplit t r := by unfold gsplit; rw [if_neg (fun c => c h), if_neg (fun c => c k), if_neg l, if_neg (fun c => c m), if_pos n]
theorem sp_6 (h : gchk t = 0) (k : gchk r = 0) (l : r ≠ gint (-1) 0) (m : (gadd (gint 1 0) r).2 = 0) (n : (gquo t (gadd (gint 1 0) r).1).2 = 0) (o : (gmul r (gquo t (gadd (gint 1 0) r).1).1).2 ≠ 0) : gZ3 (gmul r (gquo t (gadd (gint 1 0) r).1).1).2 = gsplit t r := by unfold gsplit; rw [if_neg (fun c => c h), if_neg (fun c => c k), if_neg l, if_neg (fun c => c m), if_neg (fun c => c n), if_pos o]
theorem sp_7 (h : gchk t = 0) (k : gchk r = 0) (l : r ≠ gint (-1) 0) (m : (gadd (gint 1 0) r).2 = 0) (n : (gquo t (gadd (gint 1 0) r).1).2 = 0) (o : (gmul r (gquo t (gadd (gint 1 0) r).1).1).2 = 0) : ((ofGa (gquo t (gadd (gint 1 0) r).1).1, ofGa (gmul r (gquo t (gadd (gint 1 0) r).1).1).1, 0, ()) : El tG × El tG × Int × Unit) = gsplit t r := by unfold gsplit; rw [if_neg (fun c => c h), if_neg (fun c => c k), if_neg l, if_neg (fun c => c m), if_neg (fun c => c n), if_neg (fun c => c o)]
end
noncomputable def sp_iSplit : Spec := { q := .un, ps := [tG, tG], rs := [tG, tG, .it .i64], fresh := true, pre := fun _ _ => none, post := fun _ x => ((), gsplit (toGa x.1) (toGa x.2.1)) }
noncomputable def iv_iSplit (y : El sp_iSplit.q) (x : Els sp_iSplit.ps) : Nat → Option Inv := fun _ => none
noncomputable abbrev c_iSplit : Cfg := cfgS (Tryz.f30).ntmps false [(51, sp_gCheck.prim), (50, sp_gInt.prim), (33, sp_gSame.prim), (95, sp_iwhole.prim), (49, sp_gQuo.prim), (32, sp_gMul.prim)]
def F_iSplit (y : El sp_iSplit.q) (x : Els sp_iSplit.ps) : Prop :=
  ∀ (r : Ro [Ty.it IntKind.i64]), r = ((), gchk (toGa x.1), ()) → ((r.2.1 != (0 : Int)) = true → (((false, [], [], ()), (false, [], [], ()), ()), ((false, [], [], ()), (false, [], [], ()), ()), r.2) = gsplit (toGa x.1) (toGa x.2.1)) ∧ ((r.2.1 != (0 : Int)) = false → ∀ (r : Ro [Ty.it IntKind.i64]), r = ((), gchk (toGa x.2.1), ()) → ((r.2.1 != (0 : Int)) = true → (((false, [], [], ()), (false, [], [], ()), ()), ((false, [], [], ()), (false, [], [], ()), ()), r.2) = gsplit (toGa x.1) (toGa x.2.1)) ∧ ((r.2.1 != (0 : Int)) = false → ∀ (r : Ro [tG]), r = ((), ofGa { re := (fsmall (-1 : Int) (1 : Int)).1, im := (fsmall (0 : Int) (1 : Int)).1 }, ()) → ∀ (r_1 : Ro [Ty.bo]), r_1 = ((), gsame (toGa x.2.1) (toGa r.2.1), ()) → (r_1.2.1 = true → (((false, [], [], ()), (false, [], [], ()), ()), ((false, [], [], ()), (false, [], [], ()), ()), (7 : Int), ()) = gsplit (toGa x.1) (toGa x.2.1)) ∧ (r_1.2.1 = false → ∀ (r : Ro [tG, Ty.it IntKind.i64]), r = pG (gadd (gint (1 : Int) (0 : Int)) (toGa x.2.1)) → ((r.2.2.1 == (0 : Int)) = true → ∀ (r_2 : Ro [tG, Ty.it IntKind.i64]), r_2 = pG (gquo (toGa x.1) (toGa r.2.1)) → ((r_2.2.2.1 == (0 : Int)) = true → ∀ (r : Ro [tG, Ty.it IntKind.i64]), r = pG (gmul (toGa x.2.1) (toGa r_2.2.1)) → ((r.2.2.1 != (0 : Int)) = true → (((false, [], [], ()), (false, [], [], ()), ()), ((false, [], [], ()), (false, [], [], ()), ()), r.2.2) = gsplit (toGa x.1) (toGa x.2.1)) ∧ ((r.2.2.1 != (0 : Int)) = false → (r_2.2.1, r.2.1, (0 : Int), ()) = gsplit (toGa x.1) (toGa x.2.1))) ∧ ((r_2.2.2.1 == (0 : Int)) = false → ((r_2.2.2.1 != (0 : Int)) = true → (((false, [], [], ()), (false, [], [], ()), ()), ((false, [], [], ()), (false, [], [], ()), ()), r_2.2.2) = gsplit (toGa x.1) (toGa x.2.1)) ∧ ((r_2.2.2.1 != (0 : Int)) = false → (r_2.2.1, ((false, [], [], ()), (false, [], [], ()), ()), (0 : Int), ()) = gsplit (toGa x.1) (toGa x.2.1)))) ∧ ((r.2.2.1 == (0 : Int)) = false → ((r.2.2.1 == (0 : Int)) = true → ∀ (r : Ro [tG, Ty.it IntKind.i64]), r = pG (gmul (toGa x.2.1) (toGa ((false, [], [], ()), (false, [], [], ()), ()))) → ((r.2.2.1 != (0 : Int)) = true → (((false, [], [], ()), (false, [], [], ()), ()), ((false, [], [], ()), (false, [], [], ()), ()), r.2.2) = gsplit (toGa x.1) (toGa x.2.1)) ∧ ((r.2.2.1 != (0 : Int)) = false → (((false, [], [], ()), (false, [], [], ()), ()), r.2.1, (0 : Int), ()) = gsplit (toGa x.1) (toGa x.2.1))) ∧ ((r.2.2.1 == (0 : Int)) = false → ((r.2.2.1 != (0 : Int)) = true → (((false, [], [], ()), (false, [], [], ()), ()), ((false, [], [], ()), (false, [], [], ()), ()), r.2.2) = gsplit (toGa x.1) (toGa x.2.1)) ∧ ((r.2.2.1 != (0 : Int)) = false → (((false, [], [], ()), (false, [], [], ()), ()), ((false, [], [], ()), (false, [], [], ()), ()), (0 : Int), ()) = gsplit (toGa x.1) (toGa x.2.1)))))))
theorem w_iSplit (y : El sp_iSplit.q) (x : Els sp_iSplit.ps) : aW c_iSplit (iv_iSplit y x) Tryz.f30 sp_iSplit y x = F_iSplit y x := by kernel_rfl
theorem m_iSplit (y : El (.un)) (x : Els [tG, tG]) (h2 : wfE (.un) y) (h3 : wfEs [tG, tG] x) : F_iSplit y x := by
  unfold F_iSplit
  rintro _ rfl
  refine ⟨fun h => sp_1 (neT h), fun h => ?_⟩
  have h := neF h
  rintro _ rfl
  refine ⟨fun k => sp_2 h (neT k), fun k => ?_⟩
  have k := neF k
  rintro _ rfl _ rfl
  rw [gsame_dec k]
  refine ⟨fun l => sp_3 h k (of_decide_eq_true l), fun l => ?_⟩
  have l : toGa x.2.1 ≠ gint (-1) 0 := of_decide_eq_false l
  rintro _ rfl
  refine ⟨fun m => ?_, fun m => ⟨fun n => absurd (eqT n) (eqF m), fun _ => ⟨fun _ => sp_4 h k l (eqF m), fun n => absurd (neF n) (eqF m)⟩⟩⟩
  rintro _ rfl
  refine ⟨fun n => ?_, fun n => ⟨fun _ => sp_5 h k l (eqT m) (eqF n), fun o => absurd (neF o) (eqF n)⟩⟩
  rintro _ rfl
  exact ⟨fun o => sp_6 h k l (eqT m) (eqT n) (neT o), fun o => sp_7 h k l (eqT m) (eqT n) (neF o)⟩
theorem fo_iSplit : FnOk Tryz.prog 30 sp_iSplit := fnOk_of (C := c_iSplit) iv_iSplit Tryz.func30 rfl (by kernel_rfl) tys_ok (prims_cons (spec_prim fo_gCheck) (prims_cons (spec_prim fo_gInt) (prims_cons (spec_prim fo_gSame) (prims_cons (spec_prim fo_iwhole) (prims_cons (spec_prim fo_gQuo) (prims_cons (spec_prim fo_gMul) prims_nil)))))) mixed_ (Nat.le_refl _) rfl fun y x h1 h2 h3 h4 =>
  Eq.mpr (w_iSplit y x) (m_iSplit y x h2 h3)
section
variable {r : El tRule}
end
def gone (r : Ga) : Ga × Int := if r = gint (-1) 0 then (Ga.zero, 7) else gadd (gint 1 0) r
def dg1 : ByteArray := ⟨#[48, 49, 50, 51, 52, 53, 54, 55, 56, 57, 97, 98, 99, 100, 101, 102, 103, 104, 105, 106, 107, 108, 109, 110, 111, 112, 113, 114, 115, 116, 117, 118, 119, 120, 121, 122]⟩
def dg2 : ByteArray := ⟨(([48, 48, 48, 49, 48, 50, 48, 51, 48, 52, 48, 53, 48, 54, 48, 55, 48, 56, 48, 57, 49, 48, 49, 49, 49, 50, 49, 51, 49, 52, 49, 53, 49, 54, 49, 55, 49, 56, 49, 57, 50, 48, 50, 49, 50, 50, 50, 51, 50, 52].append [50, 53, 50, 54, 50, 55, 50, 56, 50, 57, 51, 48, 51, 49, 51, 50, 51, 51, 51, 52, 51, 53, 51, 54, 51, 55, 51, 56, 51, 57, 52, 48, 52, 49, 52, 50, 52, 51, 52, 52, 52, 53, 52, 54, 52, 55, 52, 56, 52, 57]).append ([53, 48, 53, 49, 53, 50, 53, 51, 53, 52, 53, 53, 53, 54, 53, 55, 53, 56, 53, 57, 54, 48, 54, 49, 54, 50, 54, 51, 54, 52, 54, 53, 54, 54, 54, 55, 54, 56, 54, 57, 55, 48, 55, 49, 55, 50, 55, 51, 55, 52].append [55, 53, 55, 54, 55, 55, 55, 56, 55, 57, 56, 48, 56, 49, 56, 50, 56, 51, 56, 52, 56, 53, 56, 54, 56, 55, 56, 56, 56, 57, 57, 48, 57, 49, 57, 50, 57, 51, 57, 52, 57, 53, 57, 54, 57, 55, 57, 56, 57, 57])).toArray⟩
def dgB (n : Nat) : ByteArray := if n < 10 then dg1.extract n (n + 1) else dg2.extract (n * 2) (n * 2 + 2)
noncomputable def sp_ssmall : Spec := { q := .un, ps := [.it .i64], rs := [.st], fresh := true, pre := fun _ x => some ((0 : Int) ≤ (x.1 : Int) ∧ (x.1 : Int) < 100), post := fun _ x => ((), (dgB x.1.toNat, ())) }
noncomputable def iv_ssmall (y : El sp_ssmall.q) (x : Els sp_ssmall.ps) : Nat → Option Inv := fun _ => none
noncomputable abbrev c_ssmall : Cfg := cfgS (Tryz.f229).ntmps false []
def F_ssmall (y : El sp_ssmall.q) (x : Els sp_ssmall.ps) : Prop :=
  (fun (i1 : Int) => (decide (i1 < (10 : Int)) = true → ((-9223372036854775808 : Int) ≤ i1 + (1 : Int) ∧ i1 + (1 : Int) ≤ (9223372036854775807 : Int)) ∧ ((0 : Int) ≤ i1 ∧ i1 ≤ i1 + (1 : Int) ∧ i1 + (1 : Int) ≤ (dg1.size : Int)) ∧ (dg1.extract (Int.toNat i1) (i1 + (1 : Int)).toNat, ()) = (dgB (Int.toNat i1), ())) ∧ (decide (i1 < (10 : Int)) = false → ((-9223372036854775808 : Int) ≤ i1 * (2 : Int) ∧ i1 * (2 : Int) ≤ (9223372036854775807 : Int)) ∧ ((-9223372036854775808 : Int) ≤ i1 * (2 : Int) ∧ i1 * (2 : Int) ≤ (9223372036854775807 : Int)) ∧ ((-9223372036854775808 : Int) ≤ i1 * (2 : Int) + (2 : Int) ∧ i1 * (2 : Int) + (2 : Int) ≤ (9223372036854775807 : Int)) ∧ ((0 : Int) ≤ i1 * (2 : Int) ∧ i1 * (2 : Int) ≤ i1 * (2 : Int) + (2 : Int) ∧ i1 * (2 : Int) + (2 : Int) ≤ (↑dg2.size : Int)) ∧ (dg2.extract (i1 * (2 : Int)).toNat (i1 * (2 : Int) + (2 : Int)).toNat, ()) = (dgB (Int.toNat i1), ()))) x.1
theorem w_ssmall (y : El sp_ssmall.q) (x : Els sp_ssmall.ps) : aW c_ssmall (iv_ssmall y x) Tryz.f229 sp_ssmall y x = F_ssmall y x := by kernel_rfl
theorem m_ssmall (y : El (.un)) (x : Els [.it .i64]) (h2 : wfE (.un) y) (h3 : wfEs [.it .i64] x) (h4 : (0 : Int) ≤ (x.1 : Int) ∧ (x.1 : Int) < 100) : F_ssmall y x := by
  unfold F_ssmall
  dsimp only
  obtain ⟨p0, p1⟩ : @LE.le Int _ 0 x.1 ∧ @LT.lt Int _ x.1 100 := h4
  have s1 : dg1.size = 36 := by decide +kernel
  have s2 : dg2.size = 200 := by decide +kernel
  refine ⟨fun h => ?_, fun h => ?_⟩
  · have h := ltT h
    refine ⟨⟨by omega, by omega⟩, ⟨by omega, by omega, by rw [s1]; omega⟩, ?_⟩
    unfold dgB
    rw [if_pos (by omega), show ((x.1 : Int) + 1).toNat = Int.toNat x.1 + 1 by omega]
  · have h := ltF h
    refine ⟨⟨by omega, by omega⟩, ⟨by omega, by omega⟩, ⟨by omega, by omega⟩, ⟨by omega, by omega, by rw [s2]; omega⟩, ?_⟩
    unfold dgB
    rw [if_neg (by omega), show ((x.1 : Int) * 2 + 2).toNat = Int.toNat x.1 * 2 + 2 by omega, show ((x.1 : Int) * 2).toNat = Int.toNat x.1 * 2 by omega]
theorem fo_ssmall : FnOk Tryz.prog 229 sp_ssmall := fnOk_of (C := c_ssmall) iv_ssmall Tryz.func229 rfl (by kernel_rfl) tys_ok prims_nil mixed_ (Nat.le_refl _) rfl fun y x h1 h2 h3 h4 =>
  Eq.mpr (w_ssmall y x) (m_ssmall y x h2 h3 h4)
theorem wrap64_s {n : Int} (h0 : 0 ≤ n) (h1 : n < 100) : IntKind.i64.wrap n = n := by
  exact wrap64_32 ⟨by omega, by omega⟩
noncomputable def sp_sfmtI : Spec := { q := .un, ps := [.it .u64, .it .i64], rs := [.st], fresh := true, pre := fun _ x => some ((0 : Int) ≤ (x.1 : Int) ∧ (x.1 : Int) < 100 ∧ (x.2.1 : Int) = 10), post := fun _ x => ((), (dgB x.1.toNat, ())) }
noncomputable def iv_sfmtI (y : El sp_sfmtI.q) (x : Els sp_sfmtI.ps) : Nat → Option Inv := fun _ => none
noncomputable abbrev c_sfmtI : Cfg := cfgS (Tryz.f214).ntmps false [(229, sp_ssmall.prim)]
def F_sfmtI (y : El sp_sfmtI.q) (x : Els sp_sfmtI.ps) : Prop :=
  ((x.2.1 == (10 : Int)) = true → (decide (x.1 < (100 : Int)) = true → ((0 : Int) ≤ IntKind.i64.wrap x.1 ∧ IntKind.i64.wrap x.1 < (100 : El (Ty.it IntKind.i64))) ∧ ∀ (r : Ro [Ty.st]), r = ((), dgB (IntKind.i64.wrap x.1).toNat, ()) → r.2 = (dgB (Int.toNat x.1), ())) ∧ (decide (x.1 < (100 : Int)) = false → False)) ∧ ((x.2.1 == (10 : Int)) = false → False)
theorem w_sfmtI (y : El sp_sfmtI.q) (x : Els sp_sfmtI.ps) : aW c_sfmtI (iv_sfmtI y x) Tryz.f214 sp_sfmtI y x = F_sfmtI y x := by kernel_rfl
theorem m_sfmtI (y : El (.un)) (x : Els [.it .u64, .it .i64]) (h2 : wfE (.un) y) (h3 : wfEs [.it .u64, .it .i64] x) (h4 : (0 : Int) ≤ (x.1 : Int) ∧ (x.1 : Int) < 100 ∧ (x.2.1 : Int) = 10) : F_sfmtI y x := by
  unfold F_sfmtI
  obtain ⟨p0, p1, p2⟩ : @LE.le Int _ 0 x.1 ∧ @LT.lt Int _ x.1 100 ∧ @Eq Int x.2.1 10 := h4
  have e := wrap64_s p0 p1
  refine ⟨fun _ => ⟨fun _ => ?_, fun h => absurd (ltF h) (Int.not_le.2 p1)⟩, fun h => absurd p2 (neT (by simpa using h))⟩
  rw [e]
  refine ⟨⟨p0, p1⟩, ?_⟩
  rintro _ rfl
  rfl
theorem fo_sfmtI : FnOk Tryz.prog 214 sp_sfmtI := fnOk_of (C := c_sfmtI) iv_sfmtI Tryz.func214 rfl (by kernel_rfl) tys_ok (prims_cons (spec_prim fo_ssmall) prims_nil) mixed_ (Nat.le_refl _) rfl fun y x h1 h2 h3 h4 =>
  Eq.mpr (w_sfmtI y x) (m_sfmtI y x h2 h3 h4)
noncomputable def sp_sfmt : Spec := { q := .un, ps := [.it .u64, .it .i64], rs := [.st], fresh := true, pre := fun _ x => some ((0 : Int) ≤ (x.1 : Int) ∧ (x.1 : Int) < 100 ∧ (x.2.1 : Int) = 10), post := fun _ x => ((), (dgB x.1.toNat, ())) }
noncomputable def iv_sfmt (y : El sp_sfmt.q) (x : Els sp_sfmt.ps) : Nat → Option Inv := fun _ => none
noncomputable abbrev c_sfmt : Cfg := cfgS (Tryz.f186).ntmps false [(214, sp_sfmtI.prim)]
def F_sfmt (y : El sp_sfmt.q) (x : Els sp_sfmt.ps) : Prop :=
  ((0 : Int) ≤ x.1 ∧ x.1 < (100 : El (Ty.it IntKind.u64)) ∧ x.2.1 = (10 : El (Ty.it IntKind.i64))) ∧ ∀ (r : Ro [Ty.st]), r = ((), dgB (Int.toNat x.1), ()) → r.2 = (dgB (Int.toNat x.1), ())
theorem w_sfmt (y : El sp_sfmt.q) (x : Els sp_sfmt.ps) : aW c_sfmt (iv_sfmt y x) Tryz.f186 sp_sfmt y x = F_sfmt y x := by kernel_rfl
theorem m_sfmt (y : El (.un)) (x : Els [.it .u64, .it .i64]) (h2 : wfE (.un) y) (h3 : wfEs [.it .u64, .it .i64] x) (h4 : (0 : Int) ≤ (x.1 : Int) ∧ (x.1 : Int) < 100 ∧ (x.2.1 : Int) = 10) : F_sfmt y x := by
  unfold F_sfmt
  refine ⟨h4, ?_⟩
  rintro _ rfl
  rfl
theorem fo_sfmt : FnOk Tryz.prog 186 sp_sfmt := fnOk_of (C := c_sfmt) iv_sfmt Tryz.func186 rfl (by kernel_rfl) tys_ok (prims_cons (spec_prim fo_sfmtI) prims_nil) mixed_ (Nat.le_refl _) rfl fun y x h1 h2 h3 h4 =>
  Eq.mpr (w_sfmt y x) (m_sfmt y x h2 h3 h4)
end Go.Proofs.YtjoonfegjobgbaaGreatDoor
