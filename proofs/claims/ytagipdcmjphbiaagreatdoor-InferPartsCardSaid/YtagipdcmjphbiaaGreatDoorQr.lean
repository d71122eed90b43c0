/- Texts of this claim, joined: B7 B8 B9 A26 Y2 U3 Y4 B10 B11 Y5 Y7 U15 B12 A27 B13 B14 B15 B16 B17 B18 H0 H1 P10 P11 P12 A30 E2 Sh2. -/
import Derived.Deep.AppendLies
import Derived.Deep.RegionHeldLaw
import Derived.Shelf.Small.Wraps
import Derived.Ground.MpProg
import Derived.Shelf.Pu.ParseUintPublic10
import Derived.Shelf.Strings.Search2
import Derived.Shelf.Strings.Trim
import Derived.Test.YtagipdcmjphbiaaGreatDoorProg
import Derived.Shelf.Strings.SlTrimAscii
import Derived.Test.YtagipdcmjphbiaaGreatDoorQq
set_option linter.unusedVariables false
set_option linter.unusedSimpArgs false
set_option maxRecDepth 100000
namespace Go.Proofs.YtagipdcmjphbiaaGreatDoor
open Go Go.RowKit
noncomputable def sp_gQuo : Spec := spG2 gquo
noncomputable def iv_gQuo (y : El sp_gQuo.q) (x : Els sp_gQuo.ps) : Nat → Option Inv := fun _ => none
noncomputable abbrev c_gQuo : Cfg := cfgS (Tryz.f35).ntmps false [(36, sp_asked.prim), (55, sp_gZero.prim), (42, sp_norm.prim), (56, sp_turned.prim), (39, sp_product.prim), (57, sp_wquo.prim), (38, p_told)]
theorem w_gQuo (y : El sp_gQuo.q) (x : Els sp_gQuo.ps) : aW c_gQuo (iv_gQuo y x) Tryz.f35 sp_gQuo y x =
  (∀ (r : Ro [tW.pt]), r = ((), (gchks (0 : Int) [x.1, x.2.1], ()), ()) → ((r.2.1.1 == (0 : Int)) = true → ∀ (r_1 : Ro [Ty.bo]), r_1 = ((), gzero (toGa x.2.1), ()) → (r_1.2.1 = true → ∀ (r : El tW × Els [tR]), r = (((wnorm (7 : Int) (toGa x.2.1)).2, ()), ((wnorm (7 : Int) (toGa x.2.1)).1.neg, (wnorm (7 : Int) (toGa x.2.1)).1.num, (wnorm (7 : Int) (toGa x.2.1)).1.den, ()), ()) → ∀ (r_2 : Ro [tG]), r_2 = ((), (((toFr x.2.1.1).neg, (toFr x.2.1.1).num, (toFr x.2.1.1).den, ()), ((fneg (toFr x.2.1.2.1)).1.neg, (fneg (toFr x.2.1.2.1)).1.num, (fneg (toFr x.2.1.2.1)).1.den, ()), ()), ()) → ∀ (r_3 : El tW × Els [tR, tR]), r_3 = (((wprod r.1.1 (toGa x.1) (toGa r_2.2.1)).2.2, ()), ((wprod r.1.1 (toGa x.1) (toGa r_2.2.1)).1.neg, (wprod r.1.1 (toGa x.1) (toGa r_2.2.1)).1.num, (wprod r.1.1 (toGa x.1) (toGa r_2.2.1)).1.den, ()), ((wprod r.1.1 (toGa x.1) (toGa r_2.2.1)).2.1.neg, (wprod r.1.1 (toGa x.1) (toGa r_2.2.1)).2.1.num, (wprod r.1.1 (toGa x.1) (toGa r_2.2.1)).2.1.den, ()), ()) → ∀ (r_4 : El tW × Els [tR]), r_4 = (((wquo r_3.1.1 (toFr r_3.2.1) (toFr r.2.1)).2, ()), ((wquo r_3.1.1 (toFr r_3.2.1) (toFr r.2.1)).1.neg, (wquo r_3.1.1 (toFr r_3.2.1) (toFr r.2.1)).1.num, (wquo r_3.1.1 (toFr r_3.2.1) (toFr r.2.1)).1.den, ()), ()) → ∀ (r_5 : El tW × Els [tR]), r_5 = (((wquo r_4.1.1 (toFr r_3.2.2.1) (toFr r.2.1)).2, ()), ((wquo r_4.1.1 (toFr r_3.2.2.1) (toFr r.2.1)).1.neg, (wquo r_4.1.1 (toFr r_3.2.2.1) (toFr r.2.1)).1.num, (wquo r_4.1.1 (toFr r_3.2.2.1) (toFr r.2.1)).1.den, ()), ()) → (((bif decide (r_5.1.1 ≠ (0 : Int)) then false else r_4.2.1.1, bif decide (r_5.1.1 ≠ (0 : Int)) then [] else r_4.2.1.2.1, bif decide (r_5.1.1 ≠ (0 : Int)) then [] else r_4.2.1.2.2.1, ()), (bif decide (r_5.1.1 ≠ (0 : Int)) then false else r_5.2.1.1, bif decide (r_5.1.1 ≠ (0 : Int)) then [] else r_5.2.1.2.1, bif decide (r_5.1.1 ≠ (0 : Int)) then [] else r_5.2.1.2.2.1, ()), ()), r_5.1) = ((((gquo (toGa x.1) (toGa x.2.1)).1.re.neg, (gquo (toGa x.1) (toGa x.2.1)).1.re.num, (gquo (toGa x.1) (toGa x.2.1)).1.re.den, ()), ((gquo (toGa x.1) (toGa x.2.1)).1.im.neg, (gquo (toGa x.1) (toGa x.2.1)).1.im.num, (gquo (toGa x.1) (toGa x.2.1)).1.im.den, ()), ()), (gquo (toGa x.1) (toGa x.2.1)).2, ())) ∧ (r_1.2.1 = false → ∀ (r_2 : El tW × Els [tR]), r_2 = (((wnorm r.2.1.1 (toGa x.2.1)).2, ()), ((wnorm r.2.1.1 (toGa x.2.1)).1.neg, (wnorm r.2.1.1 (toGa x.2.1)).1.num, (wnorm r.2.1.1 (toGa x.2.1)).1.den, ()), ()) → ∀ (r : Ro [tG]), r = ((), (((toFr x.2.1.1).neg, (toFr x.2.1.1).num, (toFr x.2.1.1).den, ()), ((fneg (toFr x.2.1.2.1)).1.neg, (fneg (toFr x.2.1.2.1)).1.num, (fneg (toFr x.2.1.2.1)).1.den, ()), ()), ()) → ∀ (r_3 : El tW × Els [tR, tR]), r_3 = (((wprod r_2.1.1 (toGa x.1) (toGa r.2.1)).2.2, ()), ((wprod r_2.1.1 (toGa x.1) (toGa r.2.1)).1.neg, (wprod r_2.1.1 (toGa x.1) (toGa r.2.1)).1.num, (wprod r_2.1.1 (toGa x.1) (toGa r.2.1)).1.den, ()), ((wprod r_2.1.1 (toGa x.1) (toGa r.2.1)).2.1.neg, (wprod r_2.1.1 (toGa x.1) (toGa r.2.1)).2.1.num, (wprod r_2.1.1 (toGa x.1) (toGa r.2.1)).2.1.den, ()), ()) → ∀ (r : El tW × Els [tR]), r = (((wquo r_3.1.1 (toFr r_3.2.1) (toFr r_2.2.1)).2, ()), ((wquo r_3.1.1 (toFr r_3.2.1) (toFr r_2.2.1)).1.neg, (wquo r_3.1.1 (toFr r_3.2.1) (toFr r_2.2.1)).1.num, (wquo r_3.1.1 (toFr r_3.2.1) (toFr r_2.2.1)).1.den, ()), ()) → ∀ (r_4 : El tW × Els [tR]), r_4 = (((wquo r.1.1 (toFr r_3.2.2.1) (toFr r_2.2.1)).2, ()), ((wquo r.1.1 (toFr r_3.2.2.1) (toFr r_2.2.1)).1.neg, (wquo r.1.1 (toFr r_3.2.2.1) (toFr r_2.2.1)).1.num, (wquo r.1.1 (toFr r_3.2.2.1) (toFr r_2.2.1)).1.den, ()), ()) → (((bif decide (r_4.1.1 ≠ (0 : Int)) then false else r.2.1.1, bif decide (r_4.1.1 ≠ (0 : Int)) then [] else r.2.1.2.1, bif decide (r_4.1.1 ≠ (0 : Int)) then [] else r.2.1.2.2.1, ()), (bif decide (r_4.1.1 ≠ (0 : Int)) then false else r_4.2.1.1, bif decide (r_4.1.1 ≠ (0 : Int)) then [] else r_4.2.1.2.1, bif decide (r_4.1.1 ≠ (0 : Int)) then [] else r_4.2.1.2.2.1, ()), ()), r_4.1) = ((((gquo (toGa x.1) (toGa x.2.1)).1.re.neg, (gquo (toGa x.1) (toGa x.2.1)).1.re.num, (gquo (toGa x.1) (toGa x.2.1)).1.re.den, ()), ((gquo (toGa x.1) (toGa x.2.1)).1.im.neg, (gquo (toGa x.1) (toGa x.2.1)).1.im.num, (gquo (toGa x.1) (toGa x.2.1)).1.im.den, ()), ()), (gquo (toGa x.1) (toGa x.2.1)).2, ()))) ∧ ((r.2.1.1 == (0 : Int)) = false → ∀ (r_1 : El tW × Els [tR]), r_1 = (((wnorm r.2.1.1 (toGa x.2.1)).2, ()), ((wnorm r.2.1.1 (toGa x.2.1)).1.neg, (wnorm r.2.1.1 (toGa x.2.1)).1.num, (wnorm r.2.1.1 (toGa x.2.1)).1.den, ()), ()) → ∀ (r : Ro [tG]), r = ((), (((toFr x.2.1.1).neg, (toFr x.2.1.1).num, (toFr x.2.1.1).den, ()), ((fneg (toFr x.2.1.2.1)).1.neg, (fneg (toFr x.2.1.2.1)).1.num, (fneg (toFr x.2.1.2.1)).1.den, ()), ()), ()) → ∀ (r_2 : El tW × Els [tR, tR]), r_2 = (((wprod r_1.1.1 (toGa x.1) (toGa r.2.1)).2.2, ()), ((wprod r_1.1.1 (toGa x.1) (toGa r.2.1)).1.neg, (wprod r_1.1.1 (toGa x.1) (toGa r.2.1)).1.num, (wprod r_1.1.1 (toGa x.1) (toGa r.2.1)).1.den, ()), ((wprod r_1.1.1 (toGa x.1) (toGa r.2.1)).2.1.neg, (wprod r_1.1.1 (toGa x.1) (toGa r.2.1)).2.1.num, (wprod r_1.1.1 (toGa x.1) (toGa r.2.1)).2.1.den, ()), ()) → ∀ (r : El tW × Els [tR]), r = (((wquo r_2.1.1 (toFr r_2.2.1) (toFr r_1.2.1)).2, ()), ((wquo r_2.1.1 (toFr r_2.2.1) (toFr r_1.2.1)).1.neg, (wquo r_2.1.1 (toFr r_2.2.1) (toFr r_1.2.1)).1.num, (wquo r_2.1.1 (toFr r_2.2.1) (toFr r_1.2.1)).1.den, ()), ()) → ∀ (r_3 : El tW × Els [tR]), r_3 = (((wquo r.1.1 (toFr r_2.2.2.1) (toFr r_1.2.1)).2, ()), ((wquo r.1.1 (toFr r_2.2.2.1) (toFr r_1.2.1)).1.neg, (wquo r.1.1 (toFr r_2.2.2.1) (toFr r_1.2.1)).1.num, (wquo r.1.1 (toFr r_2.2.2.1) (toFr r_1.2.1)).1.den, ()), ()) → (((bif decide (r_3.1.1 ≠ (0 : Int)) then false else r.2.1.1, bif decide (r_3.1.1 ≠ (0 : Int)) then [] else r.2.1.2.1, bif decide (r_3.1.1 ≠ (0 : Int)) then [] else r.2.1.2.2.1, ()), (bif decide (r_3.1.1 ≠ (0 : Int)) then false else r_3.2.1.1, bif decide (r_3.1.1 ≠ (0 : Int)) then [] else r_3.2.1.2.1, bif decide (r_3.1.1 ≠ (0 : Int)) then [] else r_3.2.1.2.2.1, ()), ()), r_3.1) = ((((gquo (toGa x.1) (toGa x.2.1)).1.re.neg, (gquo (toGa x.1) (toGa x.2.1)).1.re.num, (gquo (toGa x.1) (toGa x.2.1)).1.re.den, ()), ((gquo (toGa x.1) (toGa x.2.1)).1.im.neg, (gquo (toGa x.1) (toGa x.2.1)).1.im.num, (gquo (toGa x.1) (toGa x.2.1)).1.im.den, ()), ()), (gquo (toGa x.1) (toGa x.2.1)).2, ()))) := by kernel_rfl
theorem m_gQuo (y : El (.un)) (x : Els [tG, tG]) (h2 : wfE (.un) y) (h3 : wfEs [tG, tG] x) :
  (∀ (r : Ro [tW.pt]), r = ((), (gchks (0 : Int) [x.1, x.2.1], ()), ()) → ((r.2.1.1 == (0 : Int)) = true → ∀ (r_1 : Ro [Ty.bo]), r_1 = ((), gzero (toGa x.2.1), ()) → (r_1.2.1 = true → ∀ (r : El tW × Els [tR]), r = (((wnorm (7 : Int) (toGa x.2.1)).2, ()), ((wnorm (7 : Int) (toGa x.2.1)).1.neg, (wnorm (7 : Int) (toGa x.2.1)).1.num, (wnorm (7 : Int) (toGa x.2.1)).1.den, ()), ()) → ∀ (r_2 : Ro [tG]), r_2 = ((), (((toFr x.2.1.1).neg, (toFr x.2.1.1).num, (toFr x.2.1.1).den, ()), ((fneg (toFr x.2.1.2.1)).1.neg, (fneg (toFr x.2.1.2.1)).1.num, (fneg (toFr x.2.1.2.1)).1.den, ()), ()), ()) → ∀ (r_3 : El tW × Els [tR, tR]), r_3 = (((wprod r.1.1 (toGa x.1) (toGa r_2.2.1)).2.2, ()), ((wprod r.1.1 (toGa x.1) (toGa r_2.2.1)).1.neg, (wprod r.1.1 (toGa x.1) (toGa r_2.2.1)).1.num, (wprod r.1.1 (toGa x.1) (toGa r_2.2.1)).1.den, ()), ((wprod r.1.1 (toGa x.1) (toGa r_2.2.1)).2.1.neg, (wprod r.1.1 (toGa x.1) (toGa r_2.2.1)).2.1.num, (wprod r.1.1 (toGa x.1) (toGa r_2.2.1)).2.1.den, ()), ()) → ∀ (r_4 : El tW × Els [tR]), r_4 = (((wquo r_3.1.1 (toFr r_3.2.1) (toFr r.2.1)).2, ()), ((wquo r_3.1.1 (toFr r_3.2.1) (toFr r.2.1)).1.neg, (wquo r_3.1.1 (toFr r_3.2.1) (toFr r.2.1)).1.num, (wquo r_3.1.1 (toFr r_3.2.1) (toFr r.2.1)).1.den, ()), ()) → ∀ (r_5 : El tW × Els [tR]), r_5 = (((wquo r_4.1.1 (toFr r_3.2.2.1) (toFr r.2.1)).2, ()), ((wquo r_4.1.1 (toFr r_3.2.2.1) (toFr r.2.1)).1.neg, (wquo r_4.1.1 (toFr r_3.2.2.1) (toFr r.2.1)).1.num, (wquo r_4.1.1 (toFr r_3.2.2.1) (toFr r.2.1)).1.den, ()), ()) → (((bif decide (r_5.1.1 ≠ (0 : Int)) then false else r_4.2.1.1, bif decide (r_5.1.1 ≠ (0 : Int)) then [] else r_4.2.1.2.1, bif decide (r_5.1.1 ≠ (0 : Int)) then [] else r_4.2.1.2.2.1, ()), (bif decide (r_5.1.1 ≠ (0 : Int)) then false else r_5.2.1.1, bif decide (r_5.1.1 ≠ (0 : Int)) then [] else r_5.2.1.2.1, bif decide (r_5.1.1 ≠ (0 : Int)) then [] else r_5.2.1.2.2.1, ()), ()), r_5.1) = ((((gquo (toGa x.1) (toGa x.2.1)).1.re.neg, (gquo (toGa x.1) (toGa x.2.1)).1.re.num, (gquo (toGa x.1) (toGa x.2.1)).1.re.den, ()), ((gquo (toGa x.1) (toGa x.2.1)).1.im.neg, (gquo (toGa x.1) (toGa x.2.1)).1.im.num, (gquo (toGa x.1) (toGa x.2.1)).1.im.den, ()), ()), (gquo (toGa x.1) (toGa x.2.1)).2, ())) ∧ (r_1.2.1 = false → ∀ (r_2 : El tW × Els [tR]), r_2 = (((wnorm r.2.1.1 (toGa x.2.1)).2, ()), ((wnorm r.2.1.1 (toGa x.2.1)).1.neg, (wnorm r.2.1.1 (toGa x.2.1)).1.num, (wnorm r.2.1.1 (toGa x.2.1)).1.den, ()), ()) → ∀ (r : Ro [tG]), r = ((), (((toFr x.2.1.1).neg, (toFr x.2.1.1).num, (toFr x.2.1.1).den, ()), ((fneg (toFr x.2.1.2.1)).1.neg, (fneg (toFr x.2.1.2.1)).1.num, (fneg (toFr x.2.1.2.1)).1.den, ()), ()), ()) → ∀ (r_3 : El tW × Els [tR, tR]), r_3 = (((wprod r_2.1.1 (toGa x.1) (toGa r.2.1)).2.2, ()), ((wprod r_2.1.1 (toGa x.1) (toGa r.2.1)).1.neg, (wprod r_2.1.1 (toGa x.1) (toGa r.2.1)).1.num, (wprod r_2.1.1 (toGa x.1) (toGa r.2.1)).1.den, ()), ((wprod r_2.1.1 (toGa x.1) (toGa r.2.1)).2.1.neg, (wprod r_2.1.1 (toGa x.1) (toGa r.2.1)).2.1.num, (wprod r_2.1.1 (toGa x.1) (toGa r.2.1)).2.1.den, ()), ()) → ∀ (r : El tW × Els [tR]), r = (((wquo r_3.1.1 (toFr r_3.2.1) (toFr r_2.2.1)).2, ()), ((wquo r_3.1.1 (toFr r_3.2.1) (toFr r_2.2.1)).1.neg, (wquo r_3.1.1 (toFr r_3.2.1) (toFr r_2.2.1)).1.num, (wquo r_3.1.1 (toFr r_3.2.1) (toFr r_2.2.1)).1.den, ()), ()) → ∀ (r_4 : El tW × Els [tR]), r_4 = (((wquo r.1.1 (toFr r_3.2.2.1) (toFr r_2.2.1)).2, ()), ((wquo r.1.1 (toFr r_3.2.2.1) (toFr r_2.2.1)).1.neg, (wquo r.1.1 (toFr r_3.2.2.1) (toFr r_2.2.1)).1.num, (wquo r.1.1 (toFr r_3.2.2.1) (toFr r_2.2.1)).1.den, ()), ()) → (((bif decide (r_4.1.1 ≠ (0 : Int)) then false else r.2.1.1, bif decide (r_4.1.1 ≠ (0 : Int)) then [] else r.2.1.2.1, bif decide (r_4.1.1 ≠ (0 : Int)) then [] else r.2.1.2.2.1, ()), (bif decide (r_4.1.1 ≠ (0 : Int)) then false else r_4.2.1.1, bif decide (r_4.1.1 ≠ (0 : Int)) then [] else r_4.2.1.2.1, bif decide (r_4.1.1 ≠ (0 : Int)) then [] else r_4.2.1.2.2.1, ()), ()), r_4.1) = ((((gquo (toGa x.1) (toGa x.2.1)).1.re.neg, (gquo (toGa x.1) (toGa x.2.1)).1.re.num, (gquo (toGa x.1) (toGa x.2.1)).1.re.den, ()), ((gquo (toGa x.1) (toGa x.2.1)).1.im.neg, (gquo (toGa x.1) (toGa x.2.1)).1.im.num, (gquo (toGa x.1) (toGa x.2.1)).1.im.den, ()), ()), (gquo (toGa x.1) (toGa x.2.1)).2, ()))) ∧ ((r.2.1.1 == (0 : Int)) = false → ∀ (r_1 : El tW × Els [tR]), r_1 = (((wnorm r.2.1.1 (toGa x.2.1)).2, ()), ((wnorm r.2.1.1 (toGa x.2.1)).1.neg, (wnorm r.2.1.1 (toGa x.2.1)).1.num, (wnorm r.2.1.1 (toGa x.2.1)).1.den, ()), ()) → ∀ (r : Ro [tG]), r = ((), (((toFr x.2.1.1).neg, (toFr x.2.1.1).num, (toFr x.2.1.1).den, ()), ((fneg (toFr x.2.1.2.1)).1.neg, (fneg (toFr x.2.1.2.1)).1.num, (fneg (toFr x.2.1.2.1)).1.den, ()), ()), ()) → ∀ (r_2 : El tW × Els [tR, tR]), r_2 = (((wprod r_1.1.1 (toGa x.1) (toGa r.2.1)).2.2, ()), ((wprod r_1.1.1 (toGa x.1) (toGa r.2.1)).1.neg, (wprod r_1.1.1 (toGa x.1) (toGa r.2.1)).1.num, (wprod r_1.1.1 (toGa x.1) (toGa r.2.1)).1.den, ()), ((wprod r_1.1.1 (toGa x.1) (toGa r.2.1)).2.1.neg, (wprod r_1.1.1 (toGa x.1) (toGa r.2.1)).2.1.num, (wprod r_1.1.1 (toGa x.1) (toGa r.2.1)).2.1.den, ()), ()) → ∀ (r : El tW × Els [tR]), r = (((wquo r_2.1.1 (toFr r_2.2.1) (toFr r_1.2.1)).2, ()), ((wquo r_2.1.1 (toFr r_2.2.1) (toFr r_1.2.1)).1.neg, (wquo r_2.1.1 (toFr r_2.2.1) (toFr r_1.2.1)).1.num, (wquo r_2.1.1 (toFr r_2.2.1) (toFr r_1.2.1)).1.den, ()), ()) → ∀ (r_3 : El tW × Els [tR]), r_3 = (((wquo r.1.1 (toFr r_2.2.2.1) (toFr r_1.2.1)).2, ()), ((wquo r.1.1 (toFr r_2.2.2.1) (toFr r_1.2.1)).1.neg, (wquo r.1.1 (toFr r_2.2.2.1) (toFr r_1.2.1)).1.num, (wquo r.1.1 (toFr r_2.2.2.1) (toFr r_1.2.1)).1.den, ()), ()) → (((bif decide (r_3.1.1 ≠ (0 : Int)) then false else r.2.1.1, bif decide (r_3.1.1 ≠ (0 : Int)) then [] else r.2.1.2.1, bif decide (r_3.1.1 ≠ (0 : Int)) then [] else r.2.1.2.2.1, ()), (bif decide (r_3.1.1 ≠ (0 : Int)) then false else r_3.2.1.1, bif decide (r_3.1.1 ≠ (0 : Int)) then [] else r_3.2.1.2.1, bif decide (r_3.1.1 ≠ (0 : Int)) then [] else r_3.2.1.2.2.1, ()), ()), r_3.1) = ((((gquo (toGa x.1) (toGa x.2.1)).1.re.neg, (gquo (toGa x.1) (toGa x.2.1)).1.re.num, (gquo (toGa x.1) (toGa x.2.1)).1.re.den, ()), ((gquo (toGa x.1) (toGa x.2.1)).1.im.neg, (gquo (toGa x.1) (toGa x.2.1)).1.im.num, (gquo (toGa x.1) (toGa x.2.1)).1.im.den, ()), ()), (gquo (toGa x.1) (toGa x.2.1)).2, ()))) := by
  rintro _ rfl
  have e : gchks 0 [x.1, x.2.1] = gchk2 (toGa x.1) (toGa x.2.1) := gchks2 _ _
  simp only [e]
  refine ⟨fun h => ?_, fun h => ?_⟩
  · rintro _ rfl
    have h := eq_of_beq h
    refine ⟨fun k => ?_, fun k => ?_⟩
    · have hE : (if gchk2 (toGa x.1) (toGa x.2.1) ≠ 0 then gchk2 (toGa x.1) (toGa x.2.1) else if gzero (toGa x.2.1) = true then (7 : Int) else 0) = 7 := by rw [if_neg (by simp [h]), if_pos k]
      rintro _ rfl _ rfl _ rfl _ rfl _ rfl
      simp only [gquo, gtell, hE]
      split <;> simp_all [Ga.zero, Fr.zero]
    · have hE : (if gchk2 (toGa x.1) (toGa x.2.1) ≠ 0 then gchk2 (toGa x.1) (toGa x.2.1) else if gzero (toGa x.2.1) = true then (7 : Int) else 0) = gchk2 (toGa x.1) (toGa x.2.1) := by rw [if_neg (by simp [h]), if_neg (by simpa using k), h]
      rintro _ rfl _ rfl _ rfl _ rfl _ rfl
      simp only [gquo, gtell, hE]
      split <;> simp_all [Ga.zero, Fr.zero]
  · have h : gchk2 (toGa x.1) (toGa x.2.1) ≠ 0 := by simpa using h
    have hE : (if gchk2 (toGa x.1) (toGa x.2.1) ≠ 0 then gchk2 (toGa x.1) (toGa x.2.1) else if gzero (toGa x.2.1) = true then (7 : Int) else 0) = gchk2 (toGa x.1) (toGa x.2.1) := if_pos h
    rintro _ rfl _ rfl _ rfl _ rfl _ rfl
    simp only [gquo, gtell, hE]
    split <;> simp_all [Ga.zero, Fr.zero]
theorem fo_gQuo : FnOk Tryz.prog 35 sp_gQuo := fnOk_of (C := c_gQuo) iv_gQuo Tryz.func35 rfl (by kernel_rfl) tys_ok (prims_cons (spec_prim fo_asked) (prims_cons (spec_prim fo_gZero) (prims_cons (spec_prim fo_norm) (prims_cons (spec_prim fo_turned) (prims_cons (spec_prim fo_product) (prims_cons (spec_prim fo_wquo) (prims_cons pr_told prims_nil))))))) mixed_ (Nat.le_refl _) rfl fun y x h1 h2 h3 h4 =>
  Eq.mpr (w_gQuo y x) (m_gQuo y x h2 h3)
section
variable {gp : Option Nat} {Z0 : Nat → Prop} {w0 w w' : World} {D : Nat → Prop} {c : Cf} {T : Nat → Option AV} {O : Store} {a : Act} {N : Nat}
end
section
variable {wb w0 w w' : World} {row : Option Nat} {V : List (Nat × List Value)} {R : List (Adr × Fr)}
end
def pick {α : Type} (R : List α) : List Nat → List α
  | [] => []
  | i :: I => match R[i]? with
    | some x => x :: pick R I
    | none => pick R I
section
variable {wb w0 w w' : World} {row : Option Nat} {V : List (Nat × List Value)} {R : List (Adr × Fr)}
end
section
variable {wb w0 w w' : World} {row : Option Nat} {V : List (Nat × List Value)} {R : List (Adr × Fr)}
end
section
variable {gp : Option Nat} {Z0 : Nat → Prop} {w0 w w' : World} {D : Nat → Prop} {c : Cf} {T : Nat → Option AV} {O : Store} {a : Act} {N : Nat}
end
def cut (w : World) (n : Nat) : World := { w with heap := w.heap.extract 0 n }
theorem ntt {b : Bool} (h : (!b) = true) : b = false := by simpa using h
theorem ba_loop (s : ByteArray) (i : Nat) (r : List UInt8) : ByteArray.toList.loop s i r = r.reverse ++ s.data.toList.drop i := by
  by_cases h : i < s.size
  · rw [ByteArray.toList.loop, if_pos h, ba_loop s (i + 1), List.reverse_cons, List.append_assoc]
    have hl : i < s.data.toList.length := h
    rw [List.drop_eq_getElem_cons hl]
    congr 1
    show [s.get! i] ++ _ = _
    have : s.get! i = s.data.toList[i] := by
      show s.data[i]! = _
      rw [getElem!_pos s.data i h]
      simp
    rw [this]
    rfl
  · rw [ByteArray.toList.loop, if_neg h, List.drop_of_length_le (by show s.data.toList.length ≤ i; simpa using h), List.append_nil]
  termination_by s.size - i
theorem ba_list (s : ByteArray) : s.toList = s.data.toList := by
  unfold ByteArray.toList
  rw [ba_loop]
  rfl
theorem ba_0 (s : ByteArray) : (s.toList == ByteArray.toList { data := #[] }) = decide (s.size = 0) := by
  rw [Bool.eq_iff_iff, beq_iff_eq, decide_eq_true_eq, ba_list, ba_list]
  obtain ⟨⟨a⟩⟩ := s
  show a = [] ↔ a.length = 0
  simp
theorem ltT {a b : Int} (h : decide (a < b) = true) : a < b := of_decide_eq_true h
theorem ltF {a b : Int} (h : decide (a < b) = false) : b ≤ a := by have := of_decide_eq_false h; omega
theorem gtT {a b : Int} (h : decide (a > b) = true) : b < a := of_decide_eq_true h
theorem gtF {a b : Int} (h : decide (a > b) = false) : a ≤ b := by have := of_decide_eq_false h; omega
theorem leT {a b : Int} (h : decide (a ≤ b) = true) : a ≤ b := of_decide_eq_true h
theorem geT {a b : Int} (h : decide (a ≥ b) = true) : b ≤ a := of_decide_eq_true h
theorem geF {a b : Int} (h : decide (a ≥ b) = false) : a < b := by have := of_decide_eq_false h; omega
theorem eqT {a b : Int} (h : (a == b) = true) : a = b := eq_of_beq h
theorem eqF {a b : Int} (h : (a == b) = false) : a ≠ b := ne_of_beq_false h
theorem neT {a b : Int} (h : (a != b) = true) : a ≠ b := by simpa using h
theorem neF {a b : Int} (h : (a != b) = false) : a = b := by simpa using h
theorem gcd_tstep (a b : Int) : Int.gcd b (a.tmod b) = Int.gcd a b := by
  show Nat.gcd b.natAbs (a.tmod b).natAbs = Nat.gcd a.natAbs b.natAbs
  rw [Int.natAbs_tmod, Nat.gcd_comm, ← Nat.gcd_rec, Nat.gcd_comm]
theorem abs_if (a : Int) : (if -a > a then -a else a) = (a.natAbs : Int) := by
  split <;> omega
noncomputable def sp_rcommon : Spec := { q := .un, ps := [.it .i64, .it .i64], rs := [.it .i64], fresh := true, pre := fun _ x => some (x.1.natAbs ≤ 10000000000 ∧ x.2.1.natAbs ≤ 10000000000), post := fun _ x => ((), (((Int.gcd x.1 x.2.1 : Nat) : Int), ())) }
noncomputable def iv_rcommon (y : El sp_rcommon.q) (x : Els sp_rcommon.ps) : Nat → Option Inv := fun k => if k = 0 then some { X := Int × Int, tm := fun i => [(0, .c (.sc (.int .i64 i.1))), (1, .c (.sc (.int .i64 i.2)))], ob := fun _ => [], n := 1, I := fun i => Int.gcd i.1 i.2 = Int.gcd x.1 x.2.1 ∧ i.1.natAbs ≤ 10000000000 ∧ i.2.natAbs ≤ 10000000000, μ := fun i => i.2.natAbs } else none
noncomputable abbrev c_rcommon : Cfg := cfgS (Tryz.f26).ntmps false []
def F_rcommon (y : El sp_rcommon.q) (x : Els sp_rcommon.ps) : Prop :=
  (∃ (x_1 : Int × Int), x_1.1 = x.1 ∧ x_1.2 = x.2.1 ∧ x_1.1.gcd x_1.2 = Int.gcd x.1 x.2.1 ∧ x_1.1.natAbs ≤ (10000000000 : Nat) ∧ x_1.2.natAbs ≤ (10000000000 : Nat)) ∧ ∀ (x_1 : Int × Int), x_1.1.gcd x_1.2 = Int.gcd x.1 x.2.1 ∧ x_1.1.natAbs ≤ (10000000000 : Nat) ∧ x_1.2.natAbs ≤ (10000000000 : Nat) → ((x_1.2 != (0 : Int)) = true → x_1.2 ≠ (0 : Int) ∧ ∃ (x' : Int × Int), x'.1 = x_1.2 ∧ x'.2 = x_1.1.tmod x_1.2 ∧ (x'.1.gcd x'.2 = Int.gcd x.1 x.2.1 ∧ x'.1.natAbs ≤ (10000000000 : Nat) ∧ x'.2.natAbs ≤ (10000000000 : Nat)) ∧ x'.2.natAbs < x_1.2.natAbs) ∧ ((x_1.2 != (0 : Int)) = false → ((-9223372036854775808 : Int) ≤ -x_1.1 ∧ -x_1.1 ≤ (9223372036854775807 : Int)) ∧ (if -x_1.1 > x_1.1 then -x_1.1 else x_1.1, ()) = ((↑(Int.gcd x.1 x.2.1) : Int), ()))
theorem w_rcommon (y : El sp_rcommon.q) (x : Els sp_rcommon.ps) : aW c_rcommon (iv_rcommon y x) Tryz.f26 sp_rcommon y x = F_rcommon y x := by kernel_rfl
theorem m_rcommon (y : El (.un)) (x : Els [.it .i64, .it .i64]) (h2 : wfE (.un) y) (h3 : wfEs [.it .i64, .it .i64] x) (h4 : x.1.natAbs ≤ 10000000000 ∧ x.2.1.natAbs ≤ 10000000000) : F_rcommon y x := by
  unfold F_rcommon
  obtain ⟨h5, h6⟩ := h4
  refine ⟨⟨(x.1, x.2.1), rfl, rfl, rfl, h5, h6⟩, fun i hi => ?_⟩
  obtain ⟨i1, i2, i3⟩ := hi
  refine ⟨fun h => ?_, fun h => ⟨by omega, ?_⟩⟩
  · have h : i.2 ≠ 0 := by simpa using h
    have hp : 0 < i.2.natAbs := Int.natAbs_pos.2 h
    have hm : (i.1.tmod i.2).natAbs < i.2.natAbs := by rw [Int.natAbs_tmod]; exact Nat.mod_lt _ hp
    exact ⟨h, (i.2, i.1.tmod i.2), rfl, rfl, ⟨(gcd_tstep i.1 i.2).trans i1, i3, by show (i.1.tmod i.2).natAbs ≤ _; omega⟩, hm⟩
  · have h : i.2 = 0 := by simpa using h
    rw [h, Int.gcd_zero_right] at i1
    rw [abs_if, i1]
theorem fo_rcommon : FnOk Tryz.prog 26 sp_rcommon := fnOk_of (C := c_rcommon) iv_rcommon Tryz.func26 rfl (by kernel_rfl) tys_ok prims_nil mixed_ (Nat.le_refl _) rfl fun y x h1 h2 h3 h4 =>
  Eq.mpr (w_rcommon y x) (m_rcommon y x h2 h3 h4)
def rotC (r : El tRot) : Int := if 1 ≤ r.1 ∧ r.1 ≤ 1000 ∧ -1000 ≤ r.2.1 ∧ r.2.1 ≤ 1000 ∧ r.2.1 ≠ 0 ∧ r.1 ≠ r.2.1 ∧ r.1 ≠ -r.2.1 ∧ Int.gcd r.1 r.2.1 = 1 then 0 else 150
def rotI (a b : Int) : Prop := 1 ≤ a ∧ a ≤ 1000 ∧ -1000 ≤ b ∧ b ≤ 1000 ∧ b ≠ 0 ∧ a ≠ b ∧ a ≠ -b ∧ Int.gcd a b = 1
def rotB (r : El tRot) : Prop := rotI r.1 r.2.1
theorem rotn {r : El tRot} (h : ¬ rotB r) : ((150 : Int), ()) = (rotC r, ()) := by
  unfold rotB rotI at h
  unfold rotC
  rw [if_neg h]
theorem roty {r : El tRot} (h : rotB r) : ((0 : Int), ()) = (rotC r, ()) := by
  unfold rotB rotI at h
  unfold rotC
  rw [if_pos h]
theorem rotC_0 {r : El tRot} (h : rotC r = 0) : rotB r := by
  unfold rotC at h
  split at h
  · rename_i k; exact k
  · cases h
theorem i32_rng {a : Int} (h : IntKind.i32.min ≤ a ∧ a ≤ IntKind.i32.max) : -2147483648 ≤ a ∧ a ≤ 2147483647 := h
theorem wrap64_32 {a : Int} (h : -2147483648 ≤ a ∧ a ≤ 2147483647) : IntKind.i64.wrap a = a := wrap_id (k := .i64) (by have : IntKind.i64.min = -9223372036854775808 := rfl; omega) (by have : IntKind.i64.max = 9223372036854775807 := rfl; omega)
theorem wrap32_neg {a : Int} (h : -2147483648 < a ∧ a ≤ 2147483647) : IntKind.i32.wrap (0 - a) = -a := by
  rw [Int.zero_sub]
  exact wrap_id (k := .i32) (by have : IntKind.i32.min = -2147483648 := rfl; omega) (by have : IntKind.i32.max = 2147483647 := rfl; omega)
noncomputable def sp_rCk : Spec := { q := .un, ps := [tRot], rs := [.it .i64], fresh := true, pre := fun _ _ => none, post := fun _ x => ((), (rotC x.1, ())) }
noncomputable def iv_rCk (y : El sp_rCk.q) (x : Els sp_rCk.ps) : Nat → Option Inv := fun _ => none
noncomputable abbrev c_rCk : Cfg := cfgS (Tryz.f8).ntmps false [(26, sp_rcommon.prim)]
def F_rCk (y : El sp_rCk.q) (x : Els sp_rCk.ps) : Prop :=
  (decide (IntKind.i64.wrap x.1.1 < (1 : Int)) = true → ((150 : Int), ()) = (rotC x.1, ())) ∧ (decide (IntKind.i64.wrap x.1.1 < (1 : Int)) = false → (decide (IntKind.i64.wrap x.1.1 > (1000 : Int)) = true → ((150 : Int), ()) = (rotC x.1, ())) ∧ (decide (IntKind.i64.wrap x.1.1 > (1000 : Int)) = false → (decide (IntKind.i64.wrap x.1.2.1 < (-1000 : Int)) = true → ((150 : Int), ()) = (rotC x.1, ())) ∧ (decide (IntKind.i64.wrap x.1.2.1 < (-1000 : Int)) = false → (decide (IntKind.i64.wrap x.1.2.1 > (1000 : Int)) = true → ((150 : Int), ()) = (rotC x.1, ())) ∧ (decide (IntKind.i64.wrap x.1.2.1 > (1000 : Int)) = false → ((IntKind.i64.wrap x.1.2.1 == (0 : Int)) = true → ((150 : Int), ()) = (rotC x.1, ())) ∧ ((IntKind.i64.wrap x.1.2.1 == (0 : Int)) = false → ((IntKind.i64.wrap x.1.1 == IntKind.i64.wrap x.1.2.1) = true → ((150 : Int), ()) = (rotC x.1, ())) ∧ ((IntKind.i64.wrap x.1.1 == IntKind.i64.wrap x.1.2.1) = false → ((-9223372036854775808 : Int) ≤ -IntKind.i64.wrap x.1.2.1 ∧ -IntKind.i64.wrap x.1.2.1 ≤ (9223372036854775807 : Int)) ∧ ((IntKind.i64.wrap x.1.1 == -IntKind.i64.wrap x.1.2.1) = true → ((150 : Int), ()) = (rotC x.1, ())) ∧ ((IntKind.i64.wrap x.1.1 == -IntKind.i64.wrap x.1.2.1) = false → ((IntKind.i64.wrap x.1.1).natAbs ≤ (10000000000 : Nat) ∧ (IntKind.i64.wrap x.1.2.1).natAbs ≤ (10000000000 : Nat)) ∧ ∀ (r : Ro [Ty.it IntKind.i64]), r = ((), (↑((IntKind.i64.wrap x.1.1).gcd (IntKind.i64.wrap x.1.2.1)) : Int), ()) → ((r.2.1 != (1 : Int)) = true → ((150 : Int), ()) = (rotC x.1, ())) ∧ ((r.2.1 != (1 : Int)) = false → ((0 : Int), ()) = (rotC x.1, ())))))))))
theorem w_rCk (y : El sp_rCk.q) (x : Els sp_rCk.ps) : aW c_rCk (iv_rCk y x) Tryz.f8 sp_rCk y x = F_rCk y x := by kernel_rfl
theorem m_rCk (y : El (.un)) (x : Els [tRot]) (h2 : wfE (.un) y) (h3 : wfEs [tRot] x) : F_rCk y x := by
  unfold F_rCk
  have r1 := i32_rng h3.1.1
  have r2 := i32_rng h3.1.2.1
  simp only [wrap64_32 r1, wrap64_32 r2]
  refine ⟨fun h => rotn (r := x.1) fun c => ?_, fun h1 => ⟨fun h => rotn (r := x.1) fun c => ?_, fun h2 => ⟨fun h => rotn (r := x.1) fun c => ?_, fun h3 => ⟨fun h => rotn (r := x.1) fun c => ?_, fun h4 => ⟨fun h => rotn (r := x.1) fun c => ?_, fun h5 => ⟨fun h => rotn (r := x.1) fun c => ?_, fun h6 => ?_⟩⟩⟩⟩⟩⟩
  · unfold rotB rotI at c; have h := ltT h; omega
  · unfold rotB rotI at c; have h := gtT h; omega
  · unfold rotB rotI at c; have h := ltT h; omega
  · unfold rotB rotI at c; have h := gtT h; omega
  · unfold rotB rotI at c; have h := eqT h; omega
  · unfold rotB rotI at c; have h := eqT h; omega
  have h1 := ltF h1
  have h2 := gtF h2
  have h3 := ltF h3
  have h4 := gtF h4
  have h5 := eqF h5
  have h6 := eqF h6
  refine ⟨⟨by omega, by omega⟩, ?_⟩
  refine ⟨fun h => rotn (r := x.1) fun c => ?_, fun h7 => ⟨⟨?_, ?_⟩, ?_⟩⟩
  · unfold rotB rotI at c
    have h := eqT h
    omega
  · omega
  · omega
  have h7 := eqF h7
  rintro _ rfl
  refine ⟨fun h => rotn (r := x.1) fun c => ?_, fun h8 => roty (r := x.1) ⟨by omega, by omega, by omega, by omega, h5, h6, h7, ?_⟩⟩
  · unfold rotB rotI at c
    have h := neT h
    exact h (by rw [c.2.2.2.2.2.2.2]; rfl)
  · have h := neF h8
    exact Int.ofNat_inj.1 h
theorem fo_rCk : FnOk Tryz.prog 8 sp_rCk := fnOk_of (C := c_rCk) iv_rCk Tryz.func8 rfl (by kernel_rfl) tys_ok (prims_cons (spec_prim fo_rcommon) prims_nil) mixed_ (Nat.le_refl _) rfl fun y x h1 h2 h3 h4 =>
  Eq.mpr (w_rCk y x) (m_rCk y x h2 h3)
theorem eq_rot (a b : El tRot) : eqV tRot a b = decide (a = b) := by
  obtain ⟨a, c, _⟩ := a
  obtain ⟨b, d, _⟩ := b
  rw [Bool.eq_iff_iff, decide_eq_true_eq]
  simp [eqV]
def gint (a b : Int) : Ga := ⟨(fsmall a 1).1, (fsmall b 1).1⟩
noncomputable def sp_iwhole : Spec := { q := .un, ps := [tG], rs := [tG, .it .i64], fresh := true, pre := fun _ _ => none, post := fun _ x => pG (gadd (gint 1 0) (toGa x.1)) }
noncomputable def iv_iwhole (y : El sp_iwhole.q) (x : Els sp_iwhole.ps) : Nat → Option Inv := fun _ => none
noncomputable abbrev c_iwhole : Cfg := cfgS (Tryz.f34).ntmps false [(19, sp_gInt.prim), (14, sp_gAdd.prim)]
def F_iwhole (y : El sp_iwhole.q) (x : Els sp_iwhole.ps) : Prop :=
  ∀ (r : Ro [tG]), r = ((), ofGa { re := (fsmall (1 : Int) (1 : Int)).1, im := (fsmall (0 : Int) (1 : Int)).1 }, ()) → ∀ (r_1 : Ro [tG, Ty.it IntKind.i64]), r_1 = pG (gadd (toGa r.2.1) (toGa x.1)) → r_1.2 = (pG (gadd (gint (1 : Int) (0 : Int)) (toGa x.1))).2
theorem w_iwhole (y : El sp_iwhole.q) (x : Els sp_iwhole.ps) : aW c_iwhole (iv_iwhole y x) Tryz.f34 sp_iwhole y x = F_iwhole y x := by kernel_rfl
theorem m_iwhole (y : El (.un)) (x : Els [tG]) (h2 : wfE (.un) y) (h3 : wfEs [tG] x) : F_iwhole y x := by
  unfold F_iwhole
  rintro _ rfl _ rfl
  rfl
theorem fo_iwhole : FnOk Tryz.prog 34 sp_iwhole := fnOk_of (C := c_iwhole) iv_iwhole Tryz.func34 rfl (by kernel_rfl) tys_ok (prims_cons (spec_prim fo_gInt) (prims_cons (spec_prim fo_gAdd) prims_nil)) mixed_ (Nat.le_refl _) rfl fun y x h1 h2 h3 h4 =>
  Eq.mpr (w_iwhole y x) (m_iwhole y x h2 h3)
def gZ3 (e : Int) : El tG × El tG × Int × Unit := (ofGa Ga.zero, ofGa Ga.zero, e, ())
def gsplit (t r : Ga) : El tG × El tG × Int × Unit :=
  if gchk t ≠ 0 then gZ3 (gchk t) else if gchk r ≠ 0 then gZ3 (gchk r) else if r = gint (-1) 0 then gZ3 7
  else if (gadd (gint 1 0) r).2 ≠ 0 then gZ3 (gadd (gint 1 0) r).2
  else if (gquo t (gadd (gint 1 0) r).1).2 ≠ 0 then gZ3 (gquo t (gadd (gint 1 0) r).1).2
  else if (gmul r (gquo t (gadd (gint 1 0) r).1).1).2 ≠ 0 then gZ3 (gmul r (gquo t (gadd (gint 1 0) r).1).1).2
  else (ofGa (gquo t (gadd (gint 1 0) r).1).1, ofGa (gmul r (gquo t (gadd (gint 1 0) r).1).1).1, 0, ())
theorem gsame_dec {r m : Ga} (h : gchk r = 0) : gsame r m = decide (r = m) := by
  unfold gsame
  rw [Bool.eq_iff_iff, decide_eq_true_eq, decide_eq_true_eq]
  constructor
  · exact fun k => k.2
  · intro e
    subst e
    exact ⟨by unfold gchk2; rw [h]; rfl, rfl⟩
section
variable {t r : Ga}
theorem sp_1 (h : gchk t ≠ 0) : gZ3 (gchk t) = gsplit t r := by unfold gsplit; rw [if_pos h]
theorem sp_2 (h : gchk t = 0) (k : gchk r ≠ 0) : gZ3 (gchk r) = gsplit t r := by unfold gsplit; rw [if_neg (fun c => c h), if_pos k]
theorem sp_3 (h : gchk t = 0) (k : gchk r = 0) (l : r = gint (-1) 0) : gZ3 7 = gsplit t r := by unfold gsplit; rw [if_neg (fun c => c h), if_neg (fun c => c k), if_pos l]
theorem sp_4 (h : gchk t = 0) (k : gchk r = 0) (l : r ≠ gint (-1) 0) (m : (gadd (gint 1 0) r).2 ≠ 0) : gZ3 (gadd (gint 1 0) r).2 = gsplit t r := by unfold gsplit; rw [if_neg (fun c => c h), if_neg (fun c => c k), if_neg l, if_pos m]
theorem sp_5 (h : gchk t = 0) (k : gchk r = 0) (l : r ≠ gint (-1) 0) (m : (gadd (gint 1 0) r).2 = 0) (n : (gquo t (gadd (gint 1 0) r).1).2 ≠ 0) : gZ3 (gquo t (gadd (gint 1 0) r).1).2 = gsplit t r := by unfold gsplit; rw [if_neg (fun c => c h), if_neg (fun c => c k), if_neg l, if_neg (fun c => c m), if_pos n]
theorem sp_6 (h : gchk t = 0) (k : gchk r = 0) (l : r ≠ gint (-1) 0) (m : (gadd (gint 1 0) r).2 = 0) (n : (gquo t (gadd (gint 1 0) r).1).2 = 0) (o : (gmul r (gquo t (gadd (gint 1 0) r).1).1).2 ≠ 0) : gZ3 (gmul r (gquo t (gadd (gint 1 0) r).1).1).2 = gsplit t r := by unfold gsplit; rw [if_neg (fun c => c h), if_neg (fun c => c k), if_neg l, if_neg (fun c => c m), if_neg (fun c => c n), if_pos o]
theorem sp_7 (h : gchk t = 0) (k : gchk r = 0) (l : r ≠ gint (-1) 0) (m : (gadd (gint 1 0) r).2 = 0) (n : (gquo t (gadd (gint 1 0) r).1).2 = 0) (o : (gmul r (gquo t (gadd (gint 1 0) r).1).1).2 = 0) : ((ofGa (gquo t (gadd (gint 1 0) r).1).1, ofGa (gmul r (gquo t (gadd (gint 1 0) r).1).1).1, 0, ()) : El tG × El tG × Int × Unit) = gsplit t r := by unfold gsplit; rw [if_neg (fun c => c h), if_neg (fun c => c k), if_neg l, if_neg (fun c => c m), if_neg (fun c => c n), if_neg (fun c => c o)]
end
noncomputable def sp_iSplit : Spec := { q := .un, ps := [tG, tG], rs := [tG, tG, .it .i64], fresh := true, pre := fun _ _ => none, post := fun _ x => ((), gsplit (toGa x.1) (toGa x.2.1)) }
noncomputable def iv_iSplit (y : El sp_iSplit.q) (x : Els sp_iSplit.ps) : Nat → Option Inv := fun _ => none
noncomputable abbrev c_iSplit : Cfg := cfgS (Tryz.f13).ntmps false [(33, sp_gCheck.prim), (19, sp_gInt.prim), (16, sp_gSame.prim), (34, sp_iwhole.prim), (35, sp_gQuo.prim), (15, sp_gMul.prim)]
def F_iSplit (y : El sp_iSplit.q) (x : Els sp_iSplit.ps) : Prop :=
  ∀ (r : Ro [Ty.it IntKind.i64]), r = ((), gchk (toGa x.1), ()) → ((r.2.1 != (0 : Int)) = true → (((false, [], [], ()), (false, [], [], ()), ()), ((false, [], [], ()), (false, [], [], ()), ()), r.2) = gsplit (toGa x.1) (toGa x.2.1)) ∧ ((r.2.1 != (0 : Int)) = false → ∀ (r : Ro [Ty.it IntKind.i64]), r = ((), gchk (toGa x.2.1), ()) → ((r.2.1 != (0 : Int)) = true → (((false, [], [], ()), (false, [], [], ()), ()), ((false, [], [], ()), (false, [], [], ()), ()), r.2) = gsplit (toGa x.1) (toGa x.2.1)) ∧ ((r.2.1 != (0 : Int)) = false → ∀ (r : Ro [tG]), r = ((), ofGa { re := (fsmall (-1 : Int) (1 : Int)).1, im := (fsmall (0 : Int) (1 : Int)).1 }, ()) → ∀ (r_1 : Ro [Ty.bo]), r_1 = ((), gsame (toGa x.2.1) (toGa r.2.1), ()) → (r_1.2.1 = true → (((false, [], [], ()), (false, [], [], ()), ()), ((false, [], [], ()), (false, [], [], ()), ()), (7 : Int), ()) = gsplit (toGa x.1) (toGa x.2.1)) ∧ (r_1.2.1 = false → ∀ (r : Ro [tG, Ty.it IntKind.i64]), r = pG (gadd (gint (1 : Int) (0 : Int)) (toGa x.2.1)) → ((r.2.2.1 == (0 : Int)) = true → ∀ (r_2 : Ro [tG, Ty.it IntKind.i64]), r_2 = pG (gquo (toGa x.1) (toGa r.2.1)) → ((r_2.2.2.1 == (0 : Int)) = true → ∀ (r : Ro [tG, Ty.it IntKind.i64]), r = pG (gmul (toGa x.2.1) (toGa r_2.2.1)) → ((r.2.2.1 != (0 : Int)) = true → (((false, [], [], ()), (false, [], [], ()), ()), ((false, [], [], ()), (false, [], [], ()), ()), r.2.2) = gsplit (toGa x.1) (toGa x.2.1)) ∧ ((r.2.2.1 != (0 : Int)) = false → (r_2.2.1, r.2.1, (0 : Int), ()) = gsplit (toGa x.1) (toGa x.2.1))) ∧ ((r_2.2.2.1 == (0 : Int)) = false → ((r_2.2.2.1 != (0 : Int)) = true → (((false, [], [], ()), (false, [], [], ()), ()), ((false, [], [], ()), (false, [], [], ()), ()), r_2.2.2) = gsplit (toGa x.1) (toGa x.2.1)) ∧ ((r_2.2.2.1 != (0 : Int)) = false → (r_2.2.1, ((false, [], [], ()), (false, [], [], ()), ()), (0 : Int), ()) = gsplit (toGa x.1) (toGa x.2.1)))) ∧ ((r.2.2.1 == (0 : Int)) = false → ((r.2.2.1 == (0 : Int)) = true → ∀ (r : Ro [tG, Ty.it IntKind.i64]), r = pG (gmul (toGa x.2.1) (toGa ((false, [], [], ()), (false, [], [], ()), ()))) → ((r.2.2.1 != (0 : Int)) = true → (((false, [], [], ()), (false, [], [], ()), ()), ((false, [], [], ()), (false, [], [], ()), ()), r.2.2) = gsplit (toGa x.1) (toGa x.2.1)) ∧ ((r.2.2.1 != (0 : Int)) = false → (((false, [], [], ()), (false, [], [], ()), ()), r.2.1, (0 : Int), ()) = gsplit (toGa x.1) (toGa x.2.1))) ∧ ((r.2.2.1 == (0 : Int)) = false → ((r.2.2.1 != (0 : Int)) = true → (((false, [], [], ()), (false, [], [], ()), ()), ((false, [], [], ()), (false, [], [], ()), ()), r.2.2) = gsplit (toGa x.1) (toGa x.2.1)) ∧ ((r.2.2.1 != (0 : Int)) = false → (((false, [], [], ()), (false, [], [], ()), ()), ((false, [], [], ()), (false, [], [], ()), ()), (0 : Int), ()) = gsplit (toGa x.1) (toGa x.2.1)))))))
theorem w_iSplit (y : El sp_iSplit.q) (x : Els sp_iSplit.ps) : aW c_iSplit (iv_iSplit y x) Tryz.f13 sp_iSplit y x = F_iSplit y x := by kernel_rfl
theorem m_iSplit (y : El (.un)) (x : Els [tG, tG]) (h2 : wfE (.un) y) (h3 : wfEs [tG, tG] x) : F_iSplit y x := by
  unfold F_iSplit
  rintro _ rfl
  refine ⟨fun h => sp_1 (neT h), fun h => ?_⟩
  have h := neF h
  rintro _ rfl
  refine ⟨fun k => sp_2 h (neT k), fun k => ?_⟩
  have k := neF k
  rintro _ rfl _ rfl
  rw [gsame_dec k]
  refine ⟨fun l => sp_3 h k (of_decide_eq_true l), fun l => ?_⟩
  have l : toGa x.2.1 ≠ gint (-1) 0 := of_decide_eq_false l
  rintro _ rfl
  refine ⟨fun m => ?_, fun m => ⟨fun n => absurd (eqT n) (eqF m), fun _ => ⟨fun _ => sp_4 h k l (eqF m), fun n => absurd (neF n) (eqF m)⟩⟩⟩
  rintro _ rfl
  refine ⟨fun n => ?_, fun n => ⟨fun _ => sp_5 h k l (eqT m) (eqF n), fun o => absurd (neF o) (eqF n)⟩⟩
  rintro _ rfl
  exact ⟨fun o => sp_6 h k l (eqT m) (eqT n) (neT o), fun o => sp_7 h k l (eqT m) (eqT n) (neF o)⟩
theorem fo_iSplit : FnOk Tryz.prog 13 sp_iSplit := fnOk_of (C := c_iSplit) iv_iSplit Tryz.func13 rfl (by kernel_rfl) tys_ok (prims_cons (spec_prim fo_gCheck) (prims_cons (spec_prim fo_gInt) (prims_cons (spec_prim fo_gSame) (prims_cons (spec_prim fo_iwhole) (prims_cons (spec_prim fo_gQuo) (prims_cons (spec_prim fo_gMul) prims_nil)))))) mixed_ (Nat.le_refl _) rfl fun y x h1 h2 h3 h4 =>
  Eq.mpr (w_iSplit y x) (m_iSplit y x h2 h3)
section
variable {r : El tRule}
end
def gone (r : Ga) : Ga × Int := if r = gint (-1) 0 then (Ga.zero, 7) else gadd (gint 1 0) r
end Go.Proofs.YtagipdcmjphbiaaGreatDoor
namespace Go.Proofs.YtagipdcmjphbiaaGreatDoor
open Go
def sm (q : Rat) : Bool := decide (q.num.natAbs < 4294967296) && decide (q.den < 4294967296)
theorem wd_one_len {n : Nat} (h : n < 4294967296) : (wd n).length ≤ 1 := wd_len_le n 1 (by show (n : Int) < 4294967296; omega)
theorem sm_lng {q : Rat} (h : sm q = true) : ¬ lng q = true := by
  unfold sm at h
  simp only [Bool.and_eq_true, decide_eq_true_eq] at h
  exact lng_of (Nat.le_trans (wd_one_len h.1) (by decide)) (Nat.le_trans (wd_one_len h.2) (by decide))
section
variable {p q r : Rat}
theorem fsmall_s {n d : Int} (h0 : d ≠ 0) (h : sm r = true) (e : mkRat (sg (decide (n < 0) != decide (d < 0)) n.natAbs) d.natAbs = r) : fsmall n d = (enc r, 0) := by
  unfold fsmall
  rw [if_neg h0, e, tell_ok (sm_lng h)]
end
def ge (p q : Rat) : Ga := ⟨enc p, enc q⟩
section
variable {a b c d u v x y r i : Rat}
end
end Go.Proofs.YtagipdcmjphbiaaGreatDoor
namespace Go.Proofs.YtagipdcmjphbiaaGreatDoor
theorem fmul_enc {p q : Rat} (h : ¬ lng p = true) (k : ¬ lng q = true) : fmul (enc p) (enc q) = tell (p * q) := both_ok h k
section
variable {m n : Nat} {p q a b c d : Rat}
theorem sq_nonneg (x : Rat) : 0 ≤ x * x := by
  rcases Rat.le_total (a := 0) (b := x) with h | h
  · exact Rat.mul_nonneg h h
  · have : 0 ≤ -x := by grind
    have := Rat.mul_nonneg this this
    grind
theorem norm_zero {x y : Rat} (h : x * x + y * y = 0) : x = 0 ∧ y = 0 := by
  have h1 := sq_nonneg x
  have h2 := sq_nonneg y
  have e1 : x * x = 0 := by grind
  have e2 : y * y = 0 := by grind
  exact ⟨by rcases Rat.mul_eq_zero.1 e1 with e | e <;> exact e, by rcases Rat.mul_eq_zero.1 e2 with e | e <;> exact e⟩
end
end Go.Proofs.YtagipdcmjphbiaaGreatDoor
namespace Go.Proofs.YtagipdcmjphbiaaGreatDoor
open Go Go.RowKit
def p_sure (p : Prim) : Prim := fun az O n => match p az O n with
  | some (c, G) => match G.ef with
    | ⟨.c (.sc (.bool b)), ob, k⟩ => some (some (oc c (b = true)), .e ⟨.c .tt, ob, k⟩)
    | _ => none
  | none => none
theorem Sim.tt {gp : Option Nat} {Z0 : Nat → Prop} {w0 w : World} {N : Nat} {d : Option Nat} {D : Nat → Prop} {c : Cf} {T : Nat → Option AV} {O : Store} {tm : Array Value} (h : Sim gp Z0 w0 N D c (upT T d (.c (.sc (.bool true)))) O tm w) : Sim gp Z0 w0 N D c (upT T d (.c .tt)) O tm w := by
  cases d with
  | none => exact h
  | some d =>
    exact { h with
      tmp := fun t v hv => by
        have hv : (bif Nat.beq d t then some (.c .tt) else T t) = some v := hv
        cases e : Nat.beq d t with
        | true =>
          rw [e] at hv
          cases hv
          obtain ⟨u, h1, h2⟩ := h.tmp t (.c (.sc (.bool true))) (by show (bif Nat.beq d t then _ else _) = _; rw [e]; rfl)
          exact ⟨u, h1, h2.1⟩
        | false =>
          rw [e] at hv
          exact h.tmp t v (by show (bif Nat.beq d t then _ else _) = _; rw [e]; exact hv) }
theorem pr_sure {P : Program} {f : Nat} {p : Prim} (hp : PrimOk P f p) : PrimOk P f (p_sure p) := by
  refine ⟨hp.1, fun gp Z0 w0 N D c T O O' a w xs vs n cd G hS hO hl hv hG hD hc => ?_⟩
  unfold p_sure at hG
  cases h1 : p xs O' n with
  | none => rw [h1] at hG; cases hG
  | some q =>
    obtain ⟨c1, G1⟩ := q
    rw [h1] at hG
    dsimp only at hG
    split at hG
    · rename_i b ob k hef
      cases hG
      have hc : oc c1 (b = true) := hc
      have hb : b = true ∧ holds c1 := by
        cases c1 with
        | none => exact ⟨hc, trivial⟩
        | some X => exact ⟨hc.2, hc.1⟩
      obtain ⟨rfl, hc1⟩ := hb
      have := hp.2 gp Z0 w0 N D c T O O' a w xs vs n c1 G1 hS hO hl hv h1 (by rw [hef]; exact hD) hc1
      rw [hef] at this
      refine this.mono ?_
      rintro e w' ⟨v, c', rfl, h2⟩
      exact ⟨v, c', rfl, fun d hd => Sim.tt (h2 d hd)⟩
    · cases hG
theorem nrm_1 : nrm [1] := by
  rw [← wd_one]
  exact nrm_wd 1
theorem toN_1 : toN [1] = 1 := by rw [← wd_one, toN_wd]
end Go.Proofs.YtagipdcmjphbiaaGreatDoor
namespace Go.Proofs.YtagipdcmjphbiaaGreatDoor
open Go.Shelf
def Sh.lays103_ren : Go.Shelf.Ren := ⟨fun | 103 => 81 | 210 => 89 | 206 => 98 | n => n, fun | 9 => 9 | 4 => 4 | 24 => 110 | 3 => 3 | n => n, fun | n => n⟩
theorem Sh.lays103 : Go.Proofs.Lays.n103 Tryz.prog Sh.lays103_ren := {
  mixed := by kernel_rfl
  f103 := Tryz.func81.trans (congrArg some (by kernel_rfl))
  f206 := Tryz.func98.trans (congrArg some (by kernel_rfl))
  f210 := Tryz.func89.trans (congrArg some (by kernel_rfl))
  t3 := Tryz.underlying3
  a3 := Tryz.isAgg3
  z3 := Tryz.sizeOf3
  v3 := Tryz.zeroValue3
  t4 := Tryz.underlying4
  a4 := Tryz.isAgg4
  z4 := Tryz.sizeOf4
  v4 := Tryz.zeroValue4
  t9 := Tryz.underlying9
  a9 := Tryz.isAgg9
  z9 := Tryz.sizeOf9
  v9 := Tryz.zeroValue9
  t24 := Tryz.underlying110
  a24 := Tryz.isAgg110
  z24 := Tryz.sizeOf110
  v24 := Tryz.zeroValue110 }
def Sh.lays160_ren : Go.Shelf.Ren := ⟨fun | 160 => 90 | 232 => 100 | 231 => 99 | 227 => 101 | 234 => 103 | 233 => 102 | 236 => 105 | 235 => 104 | 228 => 110 | 271 => 113 | 151 => 112 | 197 => 111 | 120 => 122 | 152 => 121 | 260 => 120 | 137 => 126 | 119 => 127 | 224 => 96 | 225 => 95 | 217 => 94 | 266 => 108 | n => n, fun | 9 => 9 | 4 => 4 | 3 => 3 | 5 => 5 | 117 => 127 | 116 => 126 | 0 => 0 | 124 => 130 | 21 => 21 | 105 => 135 | 46 => 76 | 119 => 151 | 139 => 154 | 138 => 153 | n => n, fun | 3 => 3 | 4 => 4 | n => n⟩
theorem Sh.lays160 : Go.Proofs.Lays.n160 Tryz.prog Sh.lays160_ren := {
  mixed := by kernel_rfl
  f119 := Tryz.func127.trans (congrArg some (by kernel_rfl))
  f120 := Tryz.func122.trans (congrArg some (by kernel_rfl))
  f137 := Tryz.func126.trans (congrArg some (by kernel_rfl))
  f151 := Tryz.func112.trans (congrArg some (by kernel_rfl))
  f152 := Tryz.func121.trans (congrArg some (by kernel_rfl))
  f160 := Tryz.func90.trans (congrArg some (by kernel_rfl))
  f197 := Tryz.func111.trans (congrArg some (by kernel_rfl))
  f217 := Tryz.func94.trans (congrArg some (by kernel_rfl))
  f224 := Tryz.func96.trans (congrArg some (by kernel_rfl))
  f225 := Tryz.func95.trans (congrArg some (by kernel_rfl))
  f227 := Tryz.func101.trans (congrArg some (by kernel_rfl))
  f228 := Tryz.func110.trans (congrArg some (by kernel_rfl))
  f231 := Tryz.func99.trans (congrArg some (by kernel_rfl))
  f232 := Tryz.func100.trans (congrArg some (by kernel_rfl))
  f233 := Tryz.func102.trans (congrArg some (by kernel_rfl))
  f234 := Tryz.func103.trans (congrArg some (by kernel_rfl))
  f235 := Tryz.func104.trans (congrArg some (by kernel_rfl))
  f236 := Tryz.func105.trans (congrArg some (by kernel_rfl))
  f260 := Tryz.func120.trans (congrArg some (by kernel_rfl))
  f266 := Tryz.func108.trans (congrArg some (by kernel_rfl))
  f271 := Tryz.func113.trans (congrArg some (by kernel_rfl))
  t0 := Tryz.underlying0
  a0 := Tryz.isAgg0
  z0 := Tryz.sizeOf0
  v0 := Tryz.zeroValue0
  t3 := Tryz.underlying3
  a3 := Tryz.isAgg3
  z3 := Tryz.sizeOf3
  v3 := Tryz.zeroValue3
  t4 := Tryz.underlying4
  a4 := Tryz.isAgg4
  z4 := Tryz.sizeOf4
  v4 := Tryz.zeroValue4
  t5 := Tryz.underlying5
  a5 := Tryz.isAgg5
  z5 := Tryz.sizeOf5
  v5 := Tryz.zeroValue5
  t9 := Tryz.underlying9
  a9 := Tryz.isAgg9
  z9 := Tryz.sizeOf9
  v9 := Tryz.zeroValue9
  t21 := Tryz.underlying21
  a21 := Tryz.isAgg21
  z21 := Tryz.sizeOf21
  v21 := Tryz.zeroValue21
  t46 := Tryz.underlying76
  a46 := Tryz.isAgg76
  z46 := Tryz.sizeOf76
  v46 := Tryz.zeroValue76
  t105 := Tryz.underlying135
  a105 := Tryz.isAgg135
  z105 := Tryz.sizeOf135
  v105 := Tryz.zeroValue135
  t116 := Tryz.underlying126
  a116 := Tryz.isAgg126
  z116 := Tryz.sizeOf126
  t117 := Tryz.underlying127
  a117 := Tryz.isAgg127
  z117 := Tryz.sizeOf127
  v117 := Tryz.zeroValue127
  t119 := Tryz.underlying151
  a119 := Tryz.isAgg151
  z119 := Tryz.sizeOf151
  t124 := Tryz.underlying130
  a124 := Tryz.isAgg130
  z124 := Tryz.sizeOf130
  v124 := Tryz.zeroValue130
  t138 := Tryz.underlying153
  a138 := Tryz.isAgg153
  z138 := Tryz.sizeOf153
  v138 := Tryz.zeroValue153
  t139 := Tryz.underlying154
  a139 := Tryz.isAgg154
  z139 := Tryz.sizeOf154
  v139 := Tryz.zeroValue154
  g3 := by kernel_rfl
  g4 := by kernel_rfl }
def Sh.lays219_ren : Go.Shelf.Ren := ⟨fun | 219 => 88 | 217 => 94 | 225 => 95 | 224 => 96 | 267 => 97 | 266 => 108 | 314 => 109 | n => n, fun | 9 => 9 | 3 => 3 | 4 => 4 | 5 => 5 | 46 => 76 | 146 => 132 | 51 => 61 | n => n, fun | 1 => 0 | n => n⟩
theorem Sh.lays219 : Go.Proofs.Lays.n219 Tryz.prog Sh.lays219_ren := {
  mixed := by kernel_rfl
  f217 := Tryz.func94.trans (congrArg some (by kernel_rfl))
  f219 := Tryz.func88.trans (congrArg some (by kernel_rfl))
  f224 := Tryz.func96.trans (congrArg some (by kernel_rfl))
  f225 := Tryz.func95.trans (congrArg some (by kernel_rfl))
  f266 := Tryz.func108.trans (congrArg some (by kernel_rfl))
  f267 := Tryz.func97.trans (congrArg some (by kernel_rfl))
  f314 := Tryz.func109.trans (congrArg some (by kernel_rfl))
  t3 := Tryz.underlying3
  a3 := Tryz.isAgg3
  z3 := Tryz.sizeOf3
  v3 := Tryz.zeroValue3
  t4 := Tryz.underlying4
  a4 := Tryz.isAgg4
  z4 := Tryz.sizeOf4
  v4 := Tryz.zeroValue4
  t5 := Tryz.underlying5
  a5 := Tryz.isAgg5
  z5 := Tryz.sizeOf5
  v5 := Tryz.zeroValue5
  t9 := Tryz.underlying9
  a9 := Tryz.isAgg9
  z9 := Tryz.sizeOf9
  v9 := Tryz.zeroValue9
  t46 := Tryz.underlying76
  a46 := Tryz.isAgg76
  z46 := Tryz.sizeOf76
  v46 := Tryz.zeroValue76
  t51 := Tryz.underlying61
  a51 := Tryz.isAgg61
  z51 := Tryz.sizeOf61
  v51 := Tryz.zeroValue61
  t146 := Tryz.underlying132
  a146 := Tryz.isAgg132
  z146 := Tryz.sizeOf132
  v146 := Tryz.zeroValue132
  g1 := by kernel_rfl }
def Sh.laysPu14_ren : Go.Shelf.Ren := ⟨fun | 14 => 91 | 16 => 106 | 17 => 107 | 19 => 114 | 20 => 115 | 21 => 116 | 22 => 117 | 23 => 118 | 24 => 119 | 25 => 123 | 27 => 125 | 26 => 124 | 28 => 128 | 29 => 129 | 30 => 130 | 31 => 131 | 32 => 132 | 33 => 133 | 35 => 135 | 34 => 134 | 36 => 136 | 37 => 137 | 38 => 138 | 39 => 139 | 40 => 140 | n => n, fun | 9 => 9 | 3 => 3 | 22 => 86 | 24 => 117 | 25 => 118 | 4 => 4 | 34 => 138 | 5 => 5 | 36 => 76 | 37 => 140 | 0 => 0 | 39 => 142 | 21 => 21 | 44 => 148 | 47 => 156 | 50 => 159 | 48 => 157 | 2 => 2 | 52 => 161 | 55 => 164 | 59 => 167 | 60 => 61 | 20 => 20 | 61 => 168 | 65 => 171 | 66 => 172 | 67 => 173 | n => n, fun | 0 => 1 | 1 => 2 | 2 => 5 | 3 => 6 | 4 => 7 | n => n⟩
theorem Sh.laysPu14 : Go.Proofs.LaysPu.n14 Tryz.prog Sh.laysPu14_ren := {
  mixed := by kernel_rfl
  f14 := Tryz.func91.trans (congrArg some (by kernel_rfl))
  f16 := Tryz.func106.trans (congrArg some (by kernel_rfl))
  f17 := Tryz.func107.trans (congrArg some (by kernel_rfl))
  f19 := Tryz.func114.trans (congrArg some (by kernel_rfl))
  f20 := Tryz.func115.trans (congrArg some (by kernel_rfl))
  f21 := Tryz.func116.trans (congrArg some (by kernel_rfl))
  f22 := Tryz.func117.trans (congrArg some (by kernel_rfl))
  f23 := Tryz.func118.trans (congrArg some (by kernel_rfl))
  f24 := Tryz.func119.trans (congrArg some (by kernel_rfl))
  f25 := Tryz.func123.trans (congrArg some (by kernel_rfl))
  f26 := Tryz.func124.trans (congrArg some (by kernel_rfl))
  f27 := Tryz.func125.trans (congrArg some (by kernel_rfl))
  f28 := Tryz.func128.trans (congrArg some (by kernel_rfl))
  f29 := Tryz.func129.trans (congrArg some (by kernel_rfl))
  f30 := Tryz.func130.trans (congrArg some (by kernel_rfl))
  f31 := Tryz.func131.trans (congrArg some (by kernel_rfl))
  f32 := Tryz.func132.trans (congrArg some (by kernel_rfl))
  f33 := Tryz.func133.trans (congrArg some (by kernel_rfl))
  f34 := Tryz.func134.trans (congrArg some (by kernel_rfl))
  f35 := Tryz.func135.trans (congrArg some (by kernel_rfl))
  f36 := Tryz.func136.trans (congrArg some (by kernel_rfl))
  f37 := Tryz.func137.trans (congrArg some (by kernel_rfl))
  f38 := Tryz.func138.trans (congrArg some (by kernel_rfl))
  f39 := Tryz.func139.trans (congrArg some (by kernel_rfl))
  f40 := Tryz.func140.trans (congrArg some (by kernel_rfl))
  t0 := Tryz.underlying0
  a0 := Tryz.isAgg0
  z0 := Tryz.sizeOf0
  v0 := Tryz.zeroValue0
  i0 := by kernel_rfl
  t2 := Tryz.underlying2
  a2 := Tryz.isAgg2
  z2 := Tryz.sizeOf2
  v2 := Tryz.zeroValue2
  i2 := by kernel_rfl
  t3 := Tryz.underlying3
  a3 := Tryz.isAgg3
  z3 := Tryz.sizeOf3
  v3 := Tryz.zeroValue3
  i3 := by kernel_rfl
  t4 := Tryz.underlying4
  a4 := Tryz.isAgg4
  z4 := Tryz.sizeOf4
  v4 := Tryz.zeroValue4
  i4 := by kernel_rfl
  t5 := Tryz.underlying5
  a5 := Tryz.isAgg5
  z5 := Tryz.sizeOf5
  v5 := Tryz.zeroValue5
  i5 := by kernel_rfl
  t9 := Tryz.underlying9
  a9 := Tryz.isAgg9
  z9 := Tryz.sizeOf9
  v9 := Tryz.zeroValue9
  i9 := by kernel_rfl
  t20 := Tryz.underlying20
  a20 := Tryz.isAgg20
  z20 := Tryz.sizeOf20
  v20 := Tryz.zeroValue20
  i20 := by kernel_rfl
  t21 := Tryz.underlying21
  a21 := Tryz.isAgg21
  z21 := Tryz.sizeOf21
  v21 := Tryz.zeroValue21
  i21 := by kernel_rfl
  t22 := Tryz.underlying86
  a22 := Tryz.isAgg86
  z22 := Tryz.sizeOf86
  v22 := Tryz.zeroValue86
  i22 := by kernel_rfl
  t24 := Tryz.underlying117
  a24 := Tryz.isAgg117
  z24 := Tryz.sizeOf117
  v24 := Tryz.zeroValue117
  i24 := by kernel_rfl
  t25 := Tryz.underlying118
  a25 := Tryz.isAgg118
  z25 := Tryz.sizeOf118
  v25 := Tryz.zeroValue118
  i25 := by kernel_rfl
  t34 := Tryz.underlying138
  a34 := Tryz.isAgg138
  z34 := Tryz.sizeOf138
  v34 := Tryz.zeroValue138
  i34 := by kernel_rfl
  c34 := by kernel_rfl
  t36 := Tryz.underlying76
  a36 := Tryz.isAgg76
  z36 := Tryz.sizeOf76
  v36 := Tryz.zeroValue76
  i36 := by kernel_rfl
  t37 := Tryz.underlying140
  a37 := Tryz.isAgg140
  z37 := Tryz.sizeOf140
  v37 := Tryz.zeroValue140
  i37 := by kernel_rfl
  t39 := Tryz.underlying142
  a39 := Tryz.isAgg142
  z39 := Tryz.sizeOf142
  v39 := Tryz.zeroValue142
  i39 := by kernel_rfl
  t44 := Tryz.underlying148
  a44 := Tryz.isAgg148
  z44 := Tryz.sizeOf148
  v44 := Tryz.zeroValue148
  i44 := by kernel_rfl
  t47 := Tryz.underlying156
  a47 := Tryz.isAgg156
  z47 := Tryz.sizeOf156
  v47 := Tryz.zeroValue156
  i47 := by kernel_rfl
  t48 := Tryz.underlying157
  a48 := Tryz.isAgg157
  z48 := Tryz.sizeOf157
  v48 := Tryz.zeroValue157
  i48 := by kernel_rfl
  t50 := Tryz.underlying159
  a50 := Tryz.isAgg159
  z50 := Tryz.sizeOf159
  v50 := Tryz.zeroValue159
  i50 := by kernel_rfl
  t52 := Tryz.underlying161
  a52 := Tryz.isAgg161
  z52 := Tryz.sizeOf161
  v52 := Tryz.zeroValue161
  i52 := by kernel_rfl
  t55 := Tryz.underlying164
  a55 := Tryz.isAgg164
  z55 := Tryz.sizeOf164
  v55 := Tryz.zeroValue164
  i55 := by kernel_rfl
  t59 := Tryz.underlying167
  a59 := Tryz.isAgg167
  z59 := Tryz.sizeOf167
  v59 := Tryz.zeroValue167
  i59 := by kernel_rfl
  t60 := Tryz.underlying61
  a60 := Tryz.isAgg61
  z60 := Tryz.sizeOf61
  v60 := Tryz.zeroValue61
  i60 := by kernel_rfl
  t61 := Tryz.underlying168
  a61 := Tryz.isAgg168
  z61 := Tryz.sizeOf168
  t65 := Tryz.underlying171
  a65 := Tryz.isAgg171
  z65 := Tryz.sizeOf171
  v65 := Tryz.zeroValue171
  i65 := by kernel_rfl
  t66 := Tryz.underlying172
  a66 := Tryz.isAgg172
  z66 := Tryz.sizeOf172
  v66 := Tryz.zeroValue172
  i66 := by kernel_rfl
  t67 := Tryz.underlying173
  a67 := Tryz.isAgg173
  z67 := Tryz.sizeOf173
  v67 := Tryz.zeroValue173
  i67 := by kernel_rfl
  g0 := by kernel_rfl
  m0 := by kernel_rfl
  g1 := by kernel_rfl
  m1 := by kernel_rfl
  g2 := by kernel_rfl
  m2 := by kernel_rfl
  g3 := by kernel_rfl
  m3 := by kernel_rfl
  g4 := by kernel_rfl
  m4 := by kernel_rfl }
open Go.RowKit in
theorem Sh.strings_CutPrefix (s p : ByteArray) (w : World) :
    Calls Tryz.prog 81 #[.string s, .string p] w fun e w' => e = .returned (.tuple #[.string ⟨(Lib.trimPrefix s.data.toList p.data.toList).toArray⟩, .bool (Lib.hasPrefix s.data.toList p.data.toList)]) ∧ w' = w := Any.strings_CutPrefix Sh.lays103 s p w
open Go.RowKit Go.Lib in
theorem Sh.stringslite_Index_one (s : ByteArray) (c : UInt8) (w : World) :
    Calls Tryz.prog 88 #[.string s, .string ⟨#[c]⟩] w fun e w' => e = .returned (.int .i64 (Lib.indexByte s.data.toList c)) ∧ w' = w := Any.stringslite_Index_one Sh.lays219 s c w
open Go.RowKit in
theorem Sh.strconv_ParseUint_10_at32_ok (s : ByteArray) (hmax : s.size ≤ 9223372036854775806) (u : Nat) (h : Lib.parseUintB 32 s.data.toList = .ok u) (w : World) :
    Calls Tryz.prog 91 #[.string s, .int .i64 10, .int .i64 32] w fun e w' => e = .returned (.tuple #[.int .u64 u, .nilIface]) ∧ (w' = w ∨ w' = Lib.bytesWorld w 5 s) := Any.strconv_ParseUint_10_at32_ok Sh.laysPu14 s hmax u h w
open Go.RowKit in
theorem Sh.strings_Trim_set (s cutset : ByteArray) (w : World) (hs : s.size ≤ 9223372036854775807) (hcs : cutset.size < 4294967281) (hascii : ∀ (j : Nat) b, cutset.data.toList[j]? = some b → b.toNat < 128) :
    Calls Tryz.prog 90 #[.string s, .string cutset] w fun e w' => e = .returned (.string ⟨(Lib.trimS s.data.toList cutset.data.toList).toArray⟩) ∧ Below w.heap.size w w' := Any.strings_Trim_laid Sh.lays160 (by kernel_rfl) s cutset w hs hcs hascii
end Go.Proofs.YtagipdcmjphbiaaGreatDoor
