/- Texts of this claim, joined: B6 B7 B8 B9 A26 Y2 U3 Y4 B10 B11 Y5 Y7 U15 B12 A27 B13 B14 B15 B16 B17 B18 H0 H1 P10 P11 P12 A30 E2. -/
import Derived.Deep.AppendLies
import Derived.Deep.RegionHeldLaw
import Derived.Test.YtemlaompalbgiaaGreatDoorQp
set_option linter.unusedVariables false
set_option linter.unusedSimpArgs false
set_option maxRecDepth 100000
namespace Go.Proofs.YtemlaompalbgiaaGreatDoor
open Go Go.RowKit
theorem chks2 (e : Int) (r i : El tR) : chks e [r, i] = if e ≠ 0 then e else fchk2 (toFr r) (toFr i) := by
  show (if (if e ≠ 0 then e else fchk (toFr r)) ≠ 0 then (if e ≠ 0 then e else fchk (toFr r)) else fchk (toFr i)) = _
  by_cases h : e ≠ 0
  · simp [h]
  · rw [if_neg h, if_neg h]; rfl
theorem gchks1 (a : El tG) : gchks 0 [a] = gchk (toGa a) := (chks2 0 a.1 a.2.1).trans (if_neg (by simp))
theorem gchks2 (a b : El tG) : gchks 0 [a, b] = gchk2 (toGa a) (toGa b) := by
  show chks (gchks 0 [a]) [b.1, b.2.1] = _
  rw [gchks1, chks2]
  rfl
noncomputable def sp_gCheck : Spec := { q := .un, ps := [tG], rs := [.it .i64], fresh := true, pre := fun _ _ => none, post := fun _ x => ((), (gchk (toGa x.1), ())) }
noncomputable def iv_gCheck (y : El sp_gCheck.q) (x : Els sp_gCheck.ps) : Nat → Option Inv := fun _ => none
noncomputable abbrev c_gCheck : Cfg := cfgS (Tryz.f110).ntmps false [(93, sp_asked.prim)]
theorem w_gCheck (y : El sp_gCheck.q) (x : Els sp_gCheck.ps) : aW c_gCheck (iv_gCheck y x) Tryz.f110 sp_gCheck y x =
  (∀ (r : Ro [tW.pt]), r = ((), (gchks (0 : Int) [x.1], ()), ()) → r.2.1 = (gchk (toGa x.1), ())) := by kernel_rfl
theorem m_gCheck (y : El (.un)) (x : Els [tG]) (h2 : wfE (.un) y) (h3 : wfEs [tG] x) :
  (∀ (r : Ro [tW.pt]), r = ((), (gchks (0 : Int) [x.1], ()), ()) → r.2.1 = (gchk (toGa x.1), ())) := by
  rintro _ rfl
  exact congrArg (fun e => (e, ())) (gchks1 x.1)
theorem fo_gCheck : FnOk Tryz.prog 110 sp_gCheck := fnOk_of (C := c_gCheck) iv_gCheck Tryz.func110 rfl (by kernel_rfl) tys_ok (prims_cons (spec_prim fo_asked) prims_nil) mixed_ (Nat.le_refl _) rfl fun y x h1 h2 h3 h4 =>
  Eq.mpr (w_gCheck y x) (m_gCheck y x h2 h3)
noncomputable def sp_gSame : Spec := { q := .un, ps := [tG, tG], rs := [.bo], fresh := true, pre := fun _ _ => none, post := fun _ x => ((), (gsame (toGa x.1) (toGa x.2.1), ())) }
noncomputable def iv_gSame (y : El sp_gSame.q) (x : Els sp_gSame.ps) : Nat → Option Inv := fun _ => none
noncomputable abbrev c_gSame : Cfg := cfgS (Tryz.f22).ntmps false [(93, sp_asked.prim), (19, sp_rSame.prim)]
theorem w_gSame (y : El sp_gSame.q) (x : Els sp_gSame.ps) : aW c_gSame (iv_gSame y x) Tryz.f22 sp_gSame y x =
  (∀ (r : Ro [tW.pt]), r = ((), (gchks (0 : Int) [x.1, x.2.1], ()), ()) → ((r.2.1.1 == (0 : Int)) = true → ∀ (r : Ro [Ty.bo]), r = ((), decide (toFr x.1.1 = toFr x.2.1.1), ()) → (r.2.1 = true → ∀ (r : Ro [Ty.bo]), r = ((), decide (toFr x.1.2.1 = toFr x.2.1.2.1), ()) → r.2 = (gsame (toGa x.1) (toGa x.2.1), ())) ∧ (r.2.1 = false → (false, ()) = (gsame (toGa x.1) (toGa x.2.1), ()))) ∧ ((r.2.1.1 == (0 : Int)) = false → (false, ()) = (gsame (toGa x.1) (toGa x.2.1), ()))) := by kernel_rfl
theorem m_gSame (y : El (.un)) (x : Els [tG, tG]) (h2 : wfE (.un) y) (h3 : wfEs [tG, tG] x) :
  (∀ (r : Ro [tW.pt]), r = ((), (gchks (0 : Int) [x.1, x.2.1], ()), ()) → ((r.2.1.1 == (0 : Int)) = true → ∀ (r : Ro [Ty.bo]), r = ((), decide (toFr x.1.1 = toFr x.2.1.1), ()) → (r.2.1 = true → ∀ (r : Ro [Ty.bo]), r = ((), decide (toFr x.1.2.1 = toFr x.2.1.2.1), ()) → r.2 = (gsame (toGa x.1) (toGa x.2.1), ())) ∧ (r.2.1 = false → (false, ()) = (gsame (toGa x.1) (toGa x.2.1), ()))) ∧ ((r.2.1.1 == (0 : Int)) = false → (false, ()) = (gsame (toGa x.1) (toGa x.2.1), ()))) := by
  rintro _ rfl
  have e : gchks 0 [x.1, x.2.1] = gchk2 (toGa x.1) (toGa x.2.1) := gchks2 _ _
  simp only [e]
  refine ⟨fun h => ?_, fun h => ?_⟩
  · rintro _ rfl
    refine ⟨fun k => ?_, fun k => ?_⟩
    · rintro _ rfl
      simp_all [gsame]
    · simp_all [gsame]
  · simp_all [gsame]
theorem fo_gSame : FnOk Tryz.prog 22 sp_gSame := fnOk_of (C := c_gSame) iv_gSame Tryz.func22 rfl (by kernel_rfl) tys_ok (prims_cons (spec_prim fo_asked) (prims_cons (spec_prim fo_rSame) prims_nil)) mixed_ (Nat.le_refl _) rfl fun y x h1 h2 h3 h4 =>
  Eq.mpr (w_gSame y x) (m_gSame y x h2 h3)
noncomputable def sp_gAdd : Spec := spG2 gadd
noncomputable def iv_gAdd (y : El sp_gAdd.q) (x : Els sp_gAdd.ps) : Nat → Option Inv := fun _ => none
noncomputable abbrev c_gAdd : Cfg := cfgS (Tryz.f105).ntmps false [(93, sp_asked.prim), (180, sp_wadd.prim), (181, p_told)]
theorem w_gAdd (y : El sp_gAdd.q) (x : Els sp_gAdd.ps) : aW c_gAdd (iv_gAdd y x) Tryz.f105 sp_gAdd y x =
  (∀ (r : Ro [tW.pt]), r = ((), (gchks (0 : Int) [x.1, x.2.1], ()), ()) → ∀ (r_1 : El tW × Els [tR]), r_1 = (((wadd r.2.1.1 (toFr x.1.1) (toFr x.2.1.1)).2, ()), ((wadd r.2.1.1 (toFr x.1.1) (toFr x.2.1.1)).1.neg, (wadd r.2.1.1 (toFr x.1.1) (toFr x.2.1.1)).1.num, (wadd r.2.1.1 (toFr x.1.1) (toFr x.2.1.1)).1.den, ()), ()) → ∀ (r : El tW × Els [tR]), r = (((wadd r_1.1.1 (toFr x.1.2.1) (toFr x.2.1.2.1)).2, ()), ((wadd r_1.1.1 (toFr x.1.2.1) (toFr x.2.1.2.1)).1.neg, (wadd r_1.1.1 (toFr x.1.2.1) (toFr x.2.1.2.1)).1.num, (wadd r_1.1.1 (toFr x.1.2.1) (toFr x.2.1.2.1)).1.den, ()), ()) → (((bif decide (r.1.1 ≠ (0 : Int)) then false else r_1.2.1.1, bif decide (r.1.1 ≠ (0 : Int)) then [] else r_1.2.1.2.1, bif decide (r.1.1 ≠ (0 : Int)) then [] else r_1.2.1.2.2.1, ()), (bif decide (r.1.1 ≠ (0 : Int)) then false else r.2.1.1, bif decide (r.1.1 ≠ (0 : Int)) then [] else r.2.1.2.1, bif decide (r.1.1 ≠ (0 : Int)) then [] else r.2.1.2.2.1, ()), ()), r.1) = ((((gadd (toGa x.1) (toGa x.2.1)).1.re.neg, (gadd (toGa x.1) (toGa x.2.1)).1.re.num, (gadd (toGa x.1) (toGa x.2.1)).1.re.den, ()), ((gadd (toGa x.1) (toGa x.2.1)).1.im.neg, (gadd (toGa x.1) (toGa x.2.1)).1.im.num, (gadd (toGa x.1) (toGa x.2.1)).1.im.den, ()), ()), (gadd (toGa x.1) (toGa x.2.1)).2, ())) := by kernel_rfl
theorem m_gAdd (y : El (.un)) (x : Els [tG, tG]) (h2 : wfE (.un) y) (h3 : wfEs [tG, tG] x) :
  (∀ (r : Ro [tW.pt]), r = ((), (gchks (0 : Int) [x.1, x.2.1], ()), ()) → ∀ (r_1 : El tW × Els [tR]), r_1 = (((wadd r.2.1.1 (toFr x.1.1) (toFr x.2.1.1)).2, ()), ((wadd r.2.1.1 (toFr x.1.1) (toFr x.2.1.1)).1.neg, (wadd r.2.1.1 (toFr x.1.1) (toFr x.2.1.1)).1.num, (wadd r.2.1.1 (toFr x.1.1) (toFr x.2.1.1)).1.den, ()), ()) → ∀ (r : El tW × Els [tR]), r = (((wadd r_1.1.1 (toFr x.1.2.1) (toFr x.2.1.2.1)).2, ()), ((wadd r_1.1.1 (toFr x.1.2.1) (toFr x.2.1.2.1)).1.neg, (wadd r_1.1.1 (toFr x.1.2.1) (toFr x.2.1.2.1)).1.num, (wadd r_1.1.1 (toFr x.1.2.1) (toFr x.2.1.2.1)).1.den, ()), ()) → (((bif decide (r.1.1 ≠ (0 : Int)) then false else r_1.2.1.1, bif decide (r.1.1 ≠ (0 : Int)) then [] else r_1.2.1.2.1, bif decide (r.1.1 ≠ (0 : Int)) then [] else r_1.2.1.2.2.1, ()), (bif decide (r.1.1 ≠ (0 : Int)) then false else r.2.1.1, bif decide (r.1.1 ≠ (0 : Int)) then [] else r.2.1.2.1, bif decide (r.1.1 ≠ (0 : Int)) then [] else r.2.1.2.2.1, ()), ()), r.1) = ((((gadd (toGa x.1) (toGa x.2.1)).1.re.neg, (gadd (toGa x.1) (toGa x.2.1)).1.re.num, (gadd (toGa x.1) (toGa x.2.1)).1.re.den, ()), ((gadd (toGa x.1) (toGa x.2.1)).1.im.neg, (gadd (toGa x.1) (toGa x.2.1)).1.im.num, (gadd (toGa x.1) (toGa x.2.1)).1.im.den, ()), ()), (gadd (toGa x.1) (toGa x.2.1)).2, ())) := by
  rintro _ rfl _ rfl _ rfl
  have e : gchks 0 [x.1, x.2.1] = gchk2 (toGa x.1) (toGa x.2.1) := gchks2 _ _
  simp only [e, gadd, gtell]
  split <;> simp_all [Ga.zero, Fr.zero]
theorem fo_gAdd : FnOk Tryz.prog 105 sp_gAdd := fnOk_of (C := c_gAdd) iv_gAdd Tryz.func105 rfl (by kernel_rfl) tys_ok (prims_cons (spec_prim fo_asked) (prims_cons (spec_prim fo_wadd) (prims_cons pr_told prims_nil))) mixed_ (Nat.le_refl _) rfl fun y x h1 h2 h3 h4 =>
  Eq.mpr (w_gAdd y x) (m_gAdd y x h2 h3)
noncomputable def sp_product : Spec := { q := tW, ps := [tG, tG], rs := [tR, tR], fresh := true, pre := fun _ _ => none, post := fun y x => (((wprod y.1 (toGa x.1) (toGa x.2.1)).2.2, ()), (ofFr (wprod y.1 (toGa x.1) (toGa x.2.1)).1, ofFr (wprod y.1 (toGa x.1) (toGa x.2.1)).2.1, ())) }
noncomputable def iv_product (y : El sp_product.q) (x : Els sp_product.ps) : Nat → Option Inv := fun _ => none
noncomputable abbrev c_product : Cfg := cfgS (Tryz.f184).ntmps true [(243, sp_wmul.prim), (244, sp_wsub.prim), (180, sp_wadd.prim)]
theorem w_product (y : El sp_product.q) (x : Els sp_product.ps) : aW c_product (iv_product y x) Tryz.f184 sp_product y x =
  (∀ (r : El tW × Els [tR]), r = (((wmul y.1 (toFr x.1.1) (toFr x.2.1.1)).2, ()), ((wmul y.1 (toFr x.1.1) (toFr x.2.1.1)).1.neg, (wmul y.1 (toFr x.1.1) (toFr x.2.1.1)).1.num, (wmul y.1 (toFr x.1.1) (toFr x.2.1.1)).1.den, ()), ()) → ∀ (r_1 : El tW × Els [tR]), r_1 = (((wmul r.1.1 (toFr x.1.2.1) (toFr x.2.1.2.1)).2, ()), ((wmul r.1.1 (toFr x.1.2.1) (toFr x.2.1.2.1)).1.neg, (wmul r.1.1 (toFr x.1.2.1) (toFr x.2.1.2.1)).1.num, (wmul r.1.1 (toFr x.1.2.1) (toFr x.2.1.2.1)).1.den, ()), ()) → ∀ (r_2 : El tW × Els [tR]), r_2 = (((wsub r_1.1.1 (toFr r.2.1) (toFr r_1.2.1)).2, ()), ((wsub r_1.1.1 (toFr r.2.1) (toFr r_1.2.1)).1.neg, (wsub r_1.1.1 (toFr r.2.1) (toFr r_1.2.1)).1.num, (wsub r_1.1.1 (toFr r.2.1) (toFr r_1.2.1)).1.den, ()), ()) → ∀ (r : El tW × Els [tR]), r = (((wmul r_2.1.1 (toFr x.1.1) (toFr x.2.1.2.1)).2, ()), ((wmul r_2.1.1 (toFr x.1.1) (toFr x.2.1.2.1)).1.neg, (wmul r_2.1.1 (toFr x.1.1) (toFr x.2.1.2.1)).1.num, (wmul r_2.1.1 (toFr x.1.1) (toFr x.2.1.2.1)).1.den, ()), ()) → ∀ (r_3 : El tW × Els [tR]), r_3 = (((wmul r.1.1 (toFr x.1.2.1) (toFr x.2.1.1)).2, ()), ((wmul r.1.1 (toFr x.1.2.1) (toFr x.2.1.1)).1.neg, (wmul r.1.1 (toFr x.1.2.1) (toFr x.2.1.1)).1.num, (wmul r.1.1 (toFr x.1.2.1) (toFr x.2.1.1)).1.den, ()), ()) → ∀ (r_4 : El tW × Els [tR]), r_4 = (((wadd r_3.1.1 (toFr r.2.1) (toFr r_3.2.1)).2, ()), ((wadd r_3.1.1 (toFr r.2.1) (toFr r_3.2.1)).1.neg, (wadd r_3.1.1 (toFr r.2.1) (toFr r_3.2.1)).1.num, (wadd r_3.1.1 (toFr r.2.1) (toFr r_3.2.1)).1.den, ()), ()) → (r_4.1, r_2.2.1, r_4.2) = (((wprod y.1 (toGa x.1) (toGa x.2.1)).2.2, ()), ((wprod y.1 (toGa x.1) (toGa x.2.1)).1.neg, (wprod y.1 (toGa x.1) (toGa x.2.1)).1.num, (wprod y.1 (toGa x.1) (toGa x.2.1)).1.den, ()), ((wprod y.1 (toGa x.1) (toGa x.2.1)).2.1.neg, (wprod y.1 (toGa x.1) (toGa x.2.1)).2.1.num, (wprod y.1 (toGa x.1) (toGa x.2.1)).2.1.den, ()), ())) := by kernel_rfl
theorem m_product (y : El (tW)) (x : Els [tG, tG]) (h2 : wfE (tW) y) (h3 : wfEs [tG, tG] x) :
  (∀ (r : El tW × Els [tR]), r = (((wmul y.1 (toFr x.1.1) (toFr x.2.1.1)).2, ()), ((wmul y.1 (toFr x.1.1) (toFr x.2.1.1)).1.neg, (wmul y.1 (toFr x.1.1) (toFr x.2.1.1)).1.num, (wmul y.1 (toFr x.1.1) (toFr x.2.1.1)).1.den, ()), ()) → ∀ (r_1 : El tW × Els [tR]), r_1 = (((wmul r.1.1 (toFr x.1.2.1) (toFr x.2.1.2.1)).2, ()), ((wmul r.1.1 (toFr x.1.2.1) (toFr x.2.1.2.1)).1.neg, (wmul r.1.1 (toFr x.1.2.1) (toFr x.2.1.2.1)).1.num, (wmul r.1.1 (toFr x.1.2.1) (toFr x.2.1.2.1)).1.den, ()), ()) → ∀ (r_2 : El tW × Els [tR]), r_2 = (((wsub r_1.1.1 (toFr r.2.1) (toFr r_1.2.1)).2, ()), ((wsub r_1.1.1 (toFr r.2.1) (toFr r_1.2.1)).1.neg, (wsub r_1.1.1 (toFr r.2.1) (toFr r_1.2.1)).1.num, (wsub r_1.1.1 (toFr r.2.1) (toFr r_1.2.1)).1.den, ()), ()) → ∀ (r : El tW × Els [tR]), r = (((wmul r_2.1.1 (toFr x.1.1) (toFr x.2.1.2.1)).2, ()), ((wmul r_2.1.1 (toFr x.1.1) (toFr x.2.1.2.1)).1.neg, (wmul r_2.1.1 (toFr x.1.1) (toFr x.2.1.2.1)).1.num, (wmul r_2.1.1 (toFr x.1.1) (toFr x.2.1.2.1)).1.den, ()), ()) → ∀ (r_3 : El tW × Els [tR]), r_3 = (((wmul r.1.1 (toFr x.1.2.1) (toFr x.2.1.1)).2, ()), ((wmul r.1.1 (toFr x.1.2.1) (toFr x.2.1.1)).1.neg, (wmul r.1.1 (toFr x.1.2.1) (toFr x.2.1.1)).1.num, (wmul r.1.1 (toFr x.1.2.1) (toFr x.2.1.1)).1.den, ()), ()) → ∀ (r_4 : El tW × Els [tR]), r_4 = (((wadd r_3.1.1 (toFr r.2.1) (toFr r_3.2.1)).2, ()), ((wadd r_3.1.1 (toFr r.2.1) (toFr r_3.2.1)).1.neg, (wadd r_3.1.1 (toFr r.2.1) (toFr r_3.2.1)).1.num, (wadd r_3.1.1 (toFr r.2.1) (toFr r_3.2.1)).1.den, ()), ()) → (r_4.1, r_2.2.1, r_4.2) = (((wprod y.1 (toGa x.1) (toGa x.2.1)).2.2, ()), ((wprod y.1 (toGa x.1) (toGa x.2.1)).1.neg, (wprod y.1 (toGa x.1) (toGa x.2.1)).1.num, (wprod y.1 (toGa x.1) (toGa x.2.1)).1.den, ()), ((wprod y.1 (toGa x.1) (toGa x.2.1)).2.1.neg, (wprod y.1 (toGa x.1) (toGa x.2.1)).2.1.num, (wprod y.1 (toGa x.1) (toGa x.2.1)).2.1.den, ()), ())) := by
  rintro _ rfl _ rfl _ rfl _ rfl _ rfl _ rfl
  rfl
theorem fo_product : FnOk Tryz.prog 184 sp_product := fnOk_of (C := c_product) iv_product Tryz.func184 rfl (by kernel_rfl) tys_ok (prims_cons (spec_prim fo_wmul) (prims_cons (spec_prim fo_wsub) (prims_cons (spec_prim fo_wadd) prims_nil))) mixed_ (Nat.le_refl _) rfl fun y x h1 h2 h3 h4 =>
  Eq.mpr (w_product y x) (m_product y x h2 h3)
noncomputable def sp_gMul : Spec := spG2 gmul
noncomputable def iv_gMul (y : El sp_gMul.q) (x : Els sp_gMul.ps) : Nat → Option Inv := fun _ => none
noncomputable abbrev c_gMul : Cfg := cfgS (Tryz.f108).ntmps false [(93, sp_asked.prim), (184, sp_product.prim), (181, p_told)]
theorem w_gMul (y : El sp_gMul.q) (x : Els sp_gMul.ps) : aW c_gMul (iv_gMul y x) Tryz.f108 sp_gMul y x =
  (∀ (r : Ro [tW.pt]), r = ((), (gchks (0 : Int) [x.1, x.2.1], ()), ()) → ∀ (r_1 : El tW × Els [tR, tR]), r_1 = (((wprod r.2.1.1 (toGa x.1) (toGa x.2.1)).2.2, ()), ((wprod r.2.1.1 (toGa x.1) (toGa x.2.1)).1.neg, (wprod r.2.1.1 (toGa x.1) (toGa x.2.1)).1.num, (wprod r.2.1.1 (toGa x.1) (toGa x.2.1)).1.den, ()), ((wprod r.2.1.1 (toGa x.1) (toGa x.2.1)).2.1.neg, (wprod r.2.1.1 (toGa x.1) (toGa x.2.1)).2.1.num, (wprod r.2.1.1 (toGa x.1) (toGa x.2.1)).2.1.den, ()), ()) → (((bif decide (r_1.1.1 ≠ (0 : Int)) then false else r_1.2.1.1, bif decide (r_1.1.1 ≠ (0 : Int)) then [] else r_1.2.1.2.1, bif decide (r_1.1.1 ≠ (0 : Int)) then [] else r_1.2.1.2.2.1, ()), (bif decide (r_1.1.1 ≠ (0 : Int)) then false else r_1.2.2.1.1, bif decide (r_1.1.1 ≠ (0 : Int)) then [] else r_1.2.2.1.2.1, bif decide (r_1.1.1 ≠ (0 : Int)) then [] else r_1.2.2.1.2.2.1, ()), ()), r_1.1) = ((((gmul (toGa x.1) (toGa x.2.1)).1.re.neg, (gmul (toGa x.1) (toGa x.2.1)).1.re.num, (gmul (toGa x.1) (toGa x.2.1)).1.re.den, ()), ((gmul (toGa x.1) (toGa x.2.1)).1.im.neg, (gmul (toGa x.1) (toGa x.2.1)).1.im.num, (gmul (toGa x.1) (toGa x.2.1)).1.im.den, ()), ()), (gmul (toGa x.1) (toGa x.2.1)).2, ())) := by kernel_rfl
theorem m_gMul (y : El (.un)) (x : Els [tG, tG]) (h2 : wfE (.un) y) (h3 : wfEs [tG, tG] x) :
  (∀ (r : Ro [tW.pt]), r = ((), (gchks (0 : Int) [x.1, x.2.1], ()), ()) → ∀ (r_1 : El tW × Els [tR, tR]), r_1 = (((wprod r.2.1.1 (toGa x.1) (toGa x.2.1)).2.2, ()), ((wprod r.2.1.1 (toGa x.1) (toGa x.2.1)).1.neg, (wprod r.2.1.1 (toGa x.1) (toGa x.2.1)).1.num, (wprod r.2.1.1 (toGa x.1) (toGa x.2.1)).1.den, ()), ((wprod r.2.1.1 (toGa x.1) (toGa x.2.1)).2.1.neg, (wprod r.2.1.1 (toGa x.1) (toGa x.2.1)).2.1.num, (wprod r.2.1.1 (toGa x.1) (toGa x.2.1)).2.1.den, ()), ()) → (((bif decide (r_1.1.1 ≠ (0 : Int)) then false else r_1.2.1.1, bif decide (r_1.1.1 ≠ (0 : Int)) then [] else r_1.2.1.2.1, bif decide (r_1.1.1 ≠ (0 : Int)) then [] else r_1.2.1.2.2.1, ()), (bif decide (r_1.1.1 ≠ (0 : Int)) then false else r_1.2.2.1.1, bif decide (r_1.1.1 ≠ (0 : Int)) then [] else r_1.2.2.1.2.1, bif decide (r_1.1.1 ≠ (0 : Int)) then [] else r_1.2.2.1.2.2.1, ()), ()), r_1.1) = ((((gmul (toGa x.1) (toGa x.2.1)).1.re.neg, (gmul (toGa x.1) (toGa x.2.1)).1.re.num, (gmul (toGa x.1) (toGa x.2.1)).1.re.den, ()), ((gmul (toGa x.1) (toGa x.2.1)).1.im.neg, (gmul (toGa x.1) (toGa x.2.1)).1.im.num, (gmul (toGa x.1) (toGa x.2.1)).1.im.den, ()), ()), (gmul (toGa x.1) (toGa x.2.1)).2, ())) := by
  rintro _ rfl _ rfl
  have e : gchks 0 [x.1, x.2.1] = gchk2 (toGa x.1) (toGa x.2.1) := gchks2 _ _
  simp only [e, gmul, gtell]
  split <;> simp_all [Ga.zero, Fr.zero]
theorem fo_gMul : FnOk Tryz.prog 108 sp_gMul := fnOk_of (C := c_gMul) iv_gMul Tryz.func108 rfl (by kernel_rfl) tys_ok (prims_cons (spec_prim fo_asked) (prims_cons (spec_prim fo_product) (prims_cons pr_told prims_nil))) mixed_ (Nat.le_refl _) rfl fun y x h1 h2 h3 h4 =>
  Eq.mpr (w_gMul y x) (m_gMul y x h2 h3)
noncomputable def sp_gInt : Spec := { q := .un, ps := [.it .i64, .it .i64], rs := [tG], fresh := true, pre := fun _ _ => none, post := fun _ x => ((), (ofGa ⟨(fsmall x.1 1).1, (fsmall x.2.1 1).1⟩, ())) }
noncomputable def iv_gInt (y : El sp_gInt.q) (x : Els sp_gInt.ps) : Nat → Option Inv := fun _ => none
noncomputable abbrev c_gInt : Cfg := cfgS (Tryz.f40).ntmps false [(59, sp_rSmall.prim)]
theorem w_gInt (y : El sp_gInt.q) (x : Els sp_gInt.ps) : aW c_gInt (iv_gInt y x) Tryz.f40 sp_gInt y x =
  (∀ (r : Ro [tR, Ty.it IntKind.i64]), r = ((), ((fsmall x.1 (1 : Int)).1.neg, (fsmall x.1 (1 : Int)).1.num, (fsmall x.1 (1 : Int)).1.den, ()), (fsmall x.1 (1 : Int)).2, ()) → ∀ (r_1 : Ro [tR, Ty.it IntKind.i64]), r_1 = ((), ((fsmall x.2.1 (1 : Int)).1.neg, (fsmall x.2.1 (1 : Int)).1.num, (fsmall x.2.1 (1 : Int)).1.den, ()), (fsmall x.2.1 (1 : Int)).2, ()) → ((r.2.1, r_1.2.1, ()), ()) = ((((fsmall x.1 (1 : Int)).1.neg, (fsmall x.1 (1 : Int)).1.num, (fsmall x.1 (1 : Int)).1.den, ()), ((fsmall x.2.1 (1 : Int)).1.neg, (fsmall x.2.1 (1 : Int)).1.num, (fsmall x.2.1 (1 : Int)).1.den, ()), ()), ())) := by kernel_rfl
theorem m_gInt (y : El (.un)) (x : Els [.it .i64, .it .i64]) (h2 : wfE (.un) y) (h3 : wfEs [.it .i64, .it .i64] x) :
  (∀ (r : Ro [tR, Ty.it IntKind.i64]), r = ((), ((fsmall x.1 (1 : Int)).1.neg, (fsmall x.1 (1 : Int)).1.num, (fsmall x.1 (1 : Int)).1.den, ()), (fsmall x.1 (1 : Int)).2, ()) → ∀ (r_1 : Ro [tR, Ty.it IntKind.i64]), r_1 = ((), ((fsmall x.2.1 (1 : Int)).1.neg, (fsmall x.2.1 (1 : Int)).1.num, (fsmall x.2.1 (1 : Int)).1.den, ()), (fsmall x.2.1 (1 : Int)).2, ()) → ((r.2.1, r_1.2.1, ()), ()) = ((((fsmall x.1 (1 : Int)).1.neg, (fsmall x.1 (1 : Int)).1.num, (fsmall x.1 (1 : Int)).1.den, ()), ((fsmall x.2.1 (1 : Int)).1.neg, (fsmall x.2.1 (1 : Int)).1.num, (fsmall x.2.1 (1 : Int)).1.den, ()), ()), ())) := by
  rintro _ rfl _ rfl
  rfl
theorem fo_gInt : FnOk Tryz.prog 40 sp_gInt := fnOk_of (C := c_gInt) iv_gInt Tryz.func40 rfl (by kernel_rfl) tys_ok (prims_cons (spec_prim fo_rSmall) prims_nil) mixed_ (Nat.le_refl _) rfl fun y x h1 h2 h3 h4 =>
  Eq.mpr (w_gInt y x) (m_gInt y x h2 h3)
theorem fsmall_nought_ : fsmall 0 1 = (enc 0, 0) := by
  unfold fsmall
  rw [if_neg (by decide), show (0 : Int).natAbs = 0 from rfl, sg_zero, show mkRat 0 (Int.natAbs 1) = 0 from rfl]
  exact tell_ok (lng_of (by rw [show (0 : Rat).num.natAbs = 0 from rfl, wd_zero]; decide) (by rw [show (0 : Rat).den = 1 from rfl, wd_one]; decide))
theorem ne_ {e : Int} (h : (e != 0) = true) : e ≠ 0 := by simpa using h
theorem eq_ {e : Int} (h : (e != 0) = false) : e = 0 := by simpa using h
section
variable {gp : Option Nat} {Z0 : Nat → Prop} {w0 : Base} {w w' : World} {D : Nat → Prop} {c : Cf} {T : Nat → Option AV} {O : Store} {a : Act} {N : Nat}
end
section
variable {wb w0 w w' : World} {row : Option Nat} {V : List (Nat × List Value)} {R : List (Adr × Fr)}
end
def pick {α : Type} (R : List α) : List Nat → List α
  | [] => []
  | i :: I => match R[i]? with
    | some x => x :: pick R I
    | none => pick R I
section
variable {wb w0 w w' : World} {row : Option Nat} {V : List (Nat × List Value)} {R : List (Adr × Fr)}
end
section
variable {wb w0 w w' : World} {row : Option Nat} {V : List (Nat × List Value)} {R : List (Adr × Fr)}
end
section
variable {gp : Option Nat} {Z0 : Nat → Prop} {w0 : Base} {w w' : World} {D : Nat → Prop} {c : Cf} {T : Nat → Option AV} {O : Store} {a : Act} {N : Nat}
end
def cut (w : World) (n : Nat) : World := { w with heap := w.heap.extract 0 n }
def Spec.rd (S : Spec) : Spec := { S with fresh := false }
theorem RQ.read {Z Z' : Nat → Prop} {w : World} {base base' : Nat} : ∀ {t : Ty} {x : El t} {vs : List Value} {bs : List Nat}, t.nop = true → (∀ g ∈ bs, Z' g) → RQ true Z w base t x vs bs → RQ false Z' w base' t x vs []
  | .bo, _, _, _, hn, hz, h => ⟨h.rt hn hz, rfl⟩
  | .it _, _, _, _, hn, hz, h => ⟨h.rt hn hz, rfl⟩
  | .st, _, _, _, hn, hz, h => ⟨h.rt hn hz, rfl⟩
  | .oq, _, _, _, hn, hz, h => ⟨h.rt hn hz, rfl⟩
  | .un, _, _, _, _, _, h => ⟨h.1, rfl⟩
  | .fn, _, _, _, hn, _, _ => by cases hn
  | .pt _, _, _, _, hn, _, _ => by cases hn
  | .sl t, l, vs, bs, hn, hz, h => by
    have r := h.rt hn hz
    unfold RQ
    rw [if_neg (by simp)]
    exact ⟨r, rfl⟩
  | .lt t, l, vs, bs, hn, hz, h => by
    have r := h.rt hn hz
    unfold RQ
    rw [if_neg (by simp)]
    exact ⟨r, rfl⟩
  | .lf t, l, vs, bs, hn, hz, h => by
    have r := h.rt hn hz
    unfold RQ
    rw [if_neg (by simp)]
    exact ⟨r, rfl⟩
  | .pr a b, x, vs, bs, hn, hz, h => by
    simp only [Ty.nop, Bool.and_eq_true] at hn
    obtain ⟨us, us', cs, cs', e, rfl, h1, h2⟩ := h
    exact ⟨us, us', [], [], e, rfl, RQ.read hn.1 (fun g hg => hz g (by simp [hg])) h1, RQ.read hn.2 (fun g hg => hz g (by simp [hg])) h2⟩
theorem RQs.read {Z Z' : Nat → Prop} {w : World} {base base' : Nat} : ∀ {ts : List Ty} {x : Els ts} {vs : List Value} {bs : List Nat}, ts.all Ty.nop = true → (∀ g ∈ bs, Z' g) → RQs true Z w base ts x vs bs → RQs false Z' w base' ts x vs []
  | [], _, [], _, _, _, _ => rfl
  | [], _, _ :: _, _, _, _, h => h.elim
  | _ :: _, _, [], _, _, _, h => h.elim
  | t :: ts, x, v :: vs, bs, hn, hz, h => by
    rw [List.all_cons, Bool.and_eq_true] at hn
    obtain ⟨b, b', rfl, h1, h2⟩ := h
    refine ⟨[], [], rfl, ?_, RQs.read hn.2 (fun g hg => hz g (by simp [hg])) h2⟩
    unfold RQv at h1 ⊢
    split
    · rename_i ha; rw [if_pos ha] at h1; obtain ⟨us, e, h1⟩ := h1; exact ⟨us, e, RQ.read hn.1 (fun g hg => hz g (by simp [hg])) h1⟩
    · rename_i ha; rw [if_neg ha] at h1; exact RQ.read hn.1 (fun g hg => hz g (by simp [hg])) h1
theorem RQs.lt_ {Z : Nat → Prop} {w : World} {base : Nat} : ∀ {ts : List Ty} {x : Els ts} {vs : List Value} {bs : List Nat}, RQs true Z w base ts x vs bs → ∀ g ∈ bs, base ≤ g ∧ g < w.heap.size
  | [], _, [], _, h, g, hg => by cases h; cases hg
  | [], _, _ :: _, _, h, _, _ => h.elim
  | _ :: _, _, [], _, h, _, _ => h.elim
  | t :: ts, x, v :: vs, bs, h, g, hg => by
    obtain ⟨b, b', rfl, h1, h2⟩ := h
    rcases List.mem_append.1 hg with hg | hg
    · unfold RQv at h1
      split at h1
      · obtain ⟨us, _, h1⟩ := h1; exact h1.lt_ g hg
      · exact h1.lt_ g hg
    · exact RQs.lt_ h2 g hg
theorem FnOk.read {P : Program} {f : Nat} {S : Spec} (h : FnOk P f S) (hf : S.fresh = true := by rfl) (hk : S.rs.all Ty.nop = true := by rfl) : FnOk P f S.rd := by
  obtain ⟨q, ps, rs, fresh, pre, post⟩ := S
  cases hf
  refine ⟨h.1, fun Z w gv vs y x h1 h2 h3 h4 h5 => (h.2 Z w gv vs y x h1 h2 h3 h4 h5).mono ?_⟩
  rintro e w' ⟨v, us, bs, Z', rfl, t1, t2, t3, t4, t5, t6, t7, t8, t9⟩
  refine ⟨v, us, [], fun g => Z' g ∨ g ∈ bs, rfl, t1, RQs.read hk (fun g hg => .inr hg) t2, List.nodup_nil, (fun g hg => by cases hg), fun g hg => .inl (t5 g hg), fun g hg => ?_, fun g hg => ?_, t8, fun hp => ?_⟩
  · rcases hg with hg | hg
    · exact t6 g hg
    · exact .inr (RQs.lt_ t2 g hg).1
  · rcases hg with hg | hg
    · exact t7 g hg
    · exact (RQs.lt_ t2 g hg).2
  · obtain ⟨cells, et, u1, u2⟩ := t9 hp
    exact ⟨cells, et, u1, u2.zone (fun g hg => .inl hg)⟩
def lett (c : Int) : Bool := decide (97 ≤ c ∧ c ≤ 122) || decide (65 ≤ c ∧ c ≤ 90)
def digI (c : Int) : Bool := decide (48 ≤ c ∧ c ≤ 57)
def gi (s : ByteArray) (i : Nat) : Int := ((s.get! i).toNat : Int)
def nameS (s : ByteArray) : Bool := decide (0 < s.size ∧ s.size ≤ 20) && lett (gi s 0) && (List.range s.size).all fun i => lett (gi s i) || digI (gi s i)
theorem ntt {b : Bool} (h : (!b) = true) : b = false := by simpa using h
theorem nff {b : Bool} (h : (!b) = false) : b = true := by simpa using h
theorem ba_loop (s : ByteArray) (i : Nat) (r : List UInt8) : ByteArray.toList.loop s i r = r.reverse ++ s.data.toList.drop i := by
  by_cases h : i < s.size
  · rw [ByteArray.toList.loop, if_pos h, ba_loop s (i + 1), List.reverse_cons, List.append_assoc]
    have hl : i < s.data.toList.length := h
    rw [List.drop_eq_getElem_cons hl]
    congr 1
    show [s.get! i] ++ _ = _
    have : s.get! i = s.data.toList[i] := by
      show s.data[i]! = _
      rw [getElem!_pos s.data i h]
      simp
    rw [this]
    rfl
  · rw [ByteArray.toList.loop, if_neg h, List.drop_of_length_le (by show s.data.toList.length ≤ i; simpa using h), List.append_nil]
  termination_by s.size - i
theorem ba_list (s : ByteArray) : s.toList = s.data.toList := by
  unfold ByteArray.toList
  rw [ba_loop]
  rfl
theorem ba_0 (s : ByteArray) : (s.toList == ByteArray.toList { data := #[] }) = decide (s.size = 0) := by
  rw [Bool.eq_iff_iff, beq_iff_eq, decide_eq_true_eq, ba_list, ba_list]
  obtain ⟨⟨a⟩⟩ := s
  show a = [] ↔ a.length = 0
  simp
theorem all_succ_ {i : Nat} {f : Nat → Bool} (h : (List.range i).all f = true) (k : f i = true) : (List.range (i + 1)).all f = true := by
  rw [List.range_succ, List.all_append, h]
  simp [k]
theorem nameS_0 {s : ByteArray} (h : s.size = 0) : (false, ()) = (nameS s, ()) := by
  unfold nameS
  rw [decide_eq_false (by omega)]
  rfl
theorem nameS_long {s : ByteArray} (h : 20 < s.size) : (false, ()) = (nameS s, ()) := by
  unfold nameS
  rw [decide_eq_false (by omega)]
  rfl
theorem nameS_first {s : ByteArray} (h : lett (gi s 0) = false) : (false, ()) = (nameS s, ()) := by
  unfold nameS
  rw [h]
  simp
theorem nameS_bad {s : ByteArray} {i : Nat} (h : i < s.size) (k : (lett (gi s i) || digI (gi s i)) = false) : (false, ()) = (nameS s, ()) := by
  have : ((List.range s.size).all fun i => lett (gi s i) || digI (gi s i)) = false := by
    rw [List.all_eq_false]
    exact ⟨i, List.mem_range.2 h, by rw [k]; decide⟩
  unfold nameS
  rw [this]
  simp
theorem nameS_ok {s : ByteArray} (h : 0 < s.size) (k : s.size ≤ 20) (l : lett (gi s 0) = true) (m : ((List.range s.size).all fun i => lett (gi s i) || digI (gi s i)) = true) : (true, ()) = (nameS s, ()) := by
  unfold nameS
  rw [m, l, decide_eq_true ⟨h, k⟩]
  rfl
theorem ltT {a b : Int} (h : decide (a < b) = true) : a < b := of_decide_eq_true h
theorem ltF {a b : Int} (h : decide (a < b) = false) : b ≤ a := by have := of_decide_eq_false h; omega
theorem gtT {a b : Int} (h : decide (a > b) = true) : b < a := of_decide_eq_true h
theorem gtF {a b : Int} (h : decide (a > b) = false) : a ≤ b := by have := of_decide_eq_false h; omega
theorem leT {a b : Int} (h : decide (a ≤ b) = true) : a ≤ b := of_decide_eq_true h
theorem geT {a b : Int} (h : decide (a ≥ b) = true) : b ≤ a := of_decide_eq_true h
theorem geF {a b : Int} (h : decide (a ≥ b) = false) : a < b := by have := of_decide_eq_false h; omega
theorem eqT {a b : Int} (h : (a == b) = true) : a = b := eq_of_beq h
theorem eqF {a b : Int} (h : (a == b) = false) : a ≠ b := ne_of_beq_false h
theorem neT {a b : Int} (h : (a != b) = true) : a ≠ b := by simpa using h
theorem neF {a b : Int} (h : (a != b) = false) : a = b := by simpa using h
theorem lett_law (c : Int) : (decide (c ≥ 97) = true → (decide (c ≤ 122) = true → (true, ()) = (lett c, ())) ∧ (decide (c ≤ 122) = false → (decide (c ≥ 65) = true → (decide (c ≤ 90), ()) = (lett c, ())) ∧ (decide (c ≥ 65) = false → (false, ()) = (lett c, ())))) ∧ (decide (c ≥ 97) = false → (decide (c ≥ 65) = true → (decide (c ≤ 90), ()) = (lett c, ())) ∧ (decide (c ≥ 65) = false → (false, ()) = (lett c, ()))) := by
  unfold lett
  refine ⟨fun h => ⟨fun k => ?_, fun k => ⟨fun m => ?_, fun m => ?_⟩⟩, fun h => ⟨fun m => ?_, fun m => ?_⟩⟩
  all_goals
    simp only [decide_eq_true_eq, decide_eq_false_iff_not] at *
    refine congrArg (fun b => (b, ())) ?_
    rw [Bool.eq_iff_iff]
    simp only [Bool.or_eq_true, decide_eq_true_eq, true_iff, Bool.false_eq_true, false_iff]
    omega
noncomputable def sp_tletter : Spec := { q := .un, ps := [.it .u8], rs := [.bo], fresh := true, pre := fun _ _ => none, post := fun _ x => ((), (lett x.1, ())) }
noncomputable def iv_tletter (y : El sp_tletter.q) (x : Els sp_tletter.ps) : Nat → Option Inv := fun _ => none
noncomputable abbrev c_tletter : Cfg := cfgS (Tryz.f118).ntmps false []
def F_tletter (y : El sp_tletter.q) (x : Els sp_tletter.ps) : Prop :=
  (decide (x.1 ≥ (97 : Int)) = true → (decide (x.1 ≤ (122 : Int)) = true → (true, ()) = (lett x.1, ())) ∧ (decide (x.1 ≤ (122 : Int)) = false → (decide (x.1 ≥ (65 : Int)) = true → (decide (x.1 ≤ (90 : Int)), ()) = (lett x.1, ())) ∧ (decide (x.1 ≥ (65 : Int)) = false → (false, ()) = (lett x.1, ())))) ∧ (decide (x.1 ≥ (97 : Int)) = false → (decide (x.1 ≥ (65 : Int)) = true → (decide (x.1 ≤ (90 : Int)), ()) = (lett x.1, ())) ∧ (decide (x.1 ≥ (65 : Int)) = false → (false, ()) = (lett x.1, ())))
theorem w_tletter (y : El sp_tletter.q) (x : Els sp_tletter.ps) : aW c_tletter (iv_tletter y x) Tryz.f118 sp_tletter y x = F_tletter y x := by kernel_rfl
theorem m_tletter (y : El (.un)) (x : Els [.it .u8]) (h2 : wfE (.un) y) (h3 : wfEs [.it .u8] x) : F_tletter y x := by
  unfold F_tletter
  exact lett_law x.1
theorem fo_tletter : FnOk Tryz.prog 118 sp_tletter := fnOk_of (C := c_tletter) iv_tletter Tryz.func118 rfl (by kernel_rfl) tys_ok prims_nil mixed_ (Nat.le_refl _) rfl fun y x h1 h2 h3 h4 =>
  Eq.mpr (w_tletter y x) (m_tletter y x h2 h3)
noncomputable def sp_tName : Spec := { q := .un, ps := [.st], rs := [.bo], fresh := true, pre := fun _ _ => none, post := fun _ x => ((), (nameS x.1, ())) }
noncomputable def iv_tName (y : El sp_tName.q) (x : Els sp_tName.ps) : Nat → Option Inv := fun k => if k = 0 then some { X := Nat, tm := fun i => [(0, .c (.sc (.string x.1))), (19, .c (.sc (.int .i64 i))), (18, .c (.sc (.int .i64 x.1.size)))], ob := fun _ => [], n := 1, I := fun i => i ≤ x.1.size ∧ 0 < x.1.size ∧ x.1.size ≤ 20 ∧ lett (gi x.1 0) = true ∧ ((List.range i).all fun i => lett (gi x.1 i) || digI (gi x.1 i)) = true, μ := fun i => x.1.size - i } else none
noncomputable abbrev c_tName : Cfg := cfgS (Tryz.f46).ntmps false [(118, sp_tletter.prim)]
def F_tName (y : El sp_tName.q) (x : Els sp_tName.ps) : Prop :=
  ((ByteArray.toList x.1 == (ByteArray.toList (⟨#[]⟩ : ByteArray))) = true → (false, ()) = (nameS x.1, ())) ∧ ((ByteArray.toList x.1 == (ByteArray.toList (⟨#[]⟩ : ByteArray))) = false → (decide ((↑(ByteArray.size x.1) : Int) > (20 : Int)) = true → (false, ()) = (nameS x.1, ())) ∧ (decide ((↑(ByteArray.size x.1) : Int) > (20 : Int)) = false → ((0 : Int) ≤ (0 : Int) ∧ (0 : Int) < (↑(ByteArray.size x.1) : Int)) ∧ ∀ (r : Ro [Ty.bo]), r = ((), lett (↑(ByteArray.get! x.1 (Int.toNat (0 : Int))).toNat : Int), ()) → ((!r.2.1) = true → (false, ()) = (nameS x.1, ())) ∧ ((!r.2.1) = false → (∃ (x_1 : Nat), x.1 = x.1 ∧ (↑x_1 : Int) = (0 : Int) ∧ (↑(ByteArray.size x.1) : Int) = (↑(ByteArray.size x.1) : Int) ∧ x_1 ≤ ByteArray.size x.1 ∧ (0 : Nat) < ByteArray.size x.1 ∧ ByteArray.size x.1 ≤ (20 : Nat) ∧ lett (gi x.1 (0 : Nat)) = true ∧ ((List.range x_1).all fun (i : Nat) => lett (gi x.1 i) || digI (gi x.1 i)) = true) ∧ ∀ (x_1 : Nat), x_1 ≤ ByteArray.size x.1 ∧ (0 : Nat) < ByteArray.size x.1 ∧ ByteArray.size x.1 ≤ (20 : Nat) ∧ lett (gi x.1 (0 : Nat)) = true ∧ ((List.range x_1).all fun (i : Nat) => lett (gi x.1 i) || digI (gi x.1 i)) = true → (decide ((↑x_1 : Int) < (↑(ByteArray.size x.1) : Int)) = true → ((0 : Int) ≤ (↑x_1 : Int) ∧ (↑x_1 : Int) < (↑(ByteArray.size x.1) : Int)) ∧ ∀ (r : Ro [Ty.bo]), r = ((), lett (↑(ByteArray.get! x.1 (↑x_1 : Int).toNat).toNat : Int), ()) → ((!r.2.1) = true → ((0 : Int) ≤ (↑x_1 : Int) ∧ (↑x_1 : Int) < (↑(ByteArray.size x.1) : Int)) ∧ (decide ((↑(ByteArray.get! x.1 (↑x_1 : Int).toNat).toNat : Int) < (48 : Int)) = true → (false, ()) = (nameS x.1, ())) ∧ (decide ((↑(ByteArray.get! x.1 (↑x_1 : Int).toNat).toNat : Int) < (48 : Int)) = false → ((0 : Int) ≤ (↑x_1 : Int) ∧ (↑x_1 : Int) < (↑(ByteArray.size x.1) : Int)) ∧ (decide ((↑(ByteArray.get! x.1 (↑x_1 : Int).toNat).toNat : Int) > (57 : Int)) = true → (false, ()) = (nameS x.1, ())) ∧ (decide ((↑(ByteArray.get! x.1 (↑x_1 : Int).toNat).toNat : Int) > (57 : Int)) = false → ((-9223372036854775808 : Int) ≤ (↑x_1 : Int) + (1 : Int) ∧ (↑x_1 : Int) + (1 : Int) ≤ (9223372036854775807 : Int)) ∧ ∃ (x' : Nat), x.1 = x.1 ∧ (↑x' : Int) = (↑x_1 : Int) + (1 : Int) ∧ (↑(ByteArray.size x.1) : Int) = (↑(ByteArray.size x.1) : Int) ∧ (x' ≤ ByteArray.size x.1 ∧ (0 : Nat) < ByteArray.size x.1 ∧ ByteArray.size x.1 ≤ (20 : Nat) ∧ lett (gi x.1 (0 : Nat)) = true ∧ ((List.range x').all fun (i : Nat) => lett (gi x.1 i) || digI (gi x.1 i)) = true) ∧ ByteArray.size x.1 - x' < ByteArray.size x.1 - x_1))) ∧ ((!r.2.1) = false → ((-9223372036854775808 : Int) ≤ (↑x_1 : Int) + (1 : Int) ∧ (↑x_1 : Int) + (1 : Int) ≤ (9223372036854775807 : Int)) ∧ ∃ (x' : Nat), x.1 = x.1 ∧ (↑x' : Int) = (↑x_1 : Int) + (1 : Int) ∧ (↑(ByteArray.size x.1) : Int) = (↑(ByteArray.size x.1) : Int) ∧ (x' ≤ ByteArray.size x.1 ∧ (0 : Nat) < ByteArray.size x.1 ∧ ByteArray.size x.1 ≤ (20 : Nat) ∧ lett (gi x.1 (0 : Nat)) = true ∧ ((List.range x').all fun (i : Nat) => lett (gi x.1 i) || digI (gi x.1 i)) = true) ∧ ByteArray.size x.1 - x' < ByteArray.size x.1 - x_1)) ∧ (decide ((↑x_1 : Int) < (↑(ByteArray.size x.1) : Int)) = false → (true, ()) = (nameS x.1, ())))))
theorem w_tName (y : El sp_tName.q) (x : Els sp_tName.ps) : aW c_tName (iv_tName y x) Tryz.f46 sp_tName y x = F_tName y x := by kernel_rfl
theorem m_tName (y : El (.un)) (x : Els [.st]) (h2 : wfE (.un) y) (h3 : wfEs [.st] x) : F_tName y x := by
  unfold F_tName
  have gz : ∀ i : Nat, ((ByteArray.get! x.1 ((i : Int)).toNat).toNat : Int) = gi x.1 i := fun i => by rw [Int.toNat_natCast]; rfl
  refine ⟨fun h => ?_, fun h => ⟨fun k => ?_, fun k => ⟨⟨Int.le_refl _, ?_⟩, ?_⟩⟩⟩
  · rw [ba_0] at h
    exact nameS_0 (of_decide_eq_true h)
  · exact nameS_long (by have := of_decide_eq_true k; omega)
  all_goals
    rw [ba_0] at h
    have h := of_decide_eq_false h
    have k := of_decide_eq_false k
  · omega
  rintro _ rfl
  refine ⟨fun m => nameS_first (ntt m), fun m => ⟨⟨0, rfl, rfl, rfl, Nat.zero_le _, by omega, by omega, nff m, rfl⟩, fun i hi => ⟨fun l => ?_, fun l => ?_⟩⟩⟩
  · obtain ⟨i0, i1, i2, i3, i4⟩ := hi
    have l := of_decide_eq_true l
    have il : i < x.1.size := by omega
    refine ⟨⟨by omega, l⟩, ?_⟩
    rintro _ rfl
    simp only [gz]
    refine ⟨fun m => ⟨⟨by omega, l⟩, fun u => ?_, fun u => ⟨⟨by omega, l⟩, fun v => ?_, fun v => ⟨by omega, i + 1, (by first | exact rfl | exact trivial), rfl, (by first | exact rfl | exact trivial), ⟨il, i1, i2, i3, all_succ_ i4 ?_⟩, by omega⟩⟩⟩, fun m => ⟨by omega, i + 1, (by first | exact rfl | exact trivial), rfl, (by first | exact rfl | exact trivial), ⟨il, i1, i2, i3, all_succ_ i4 ?_⟩, by omega⟩⟩
    · have u := of_decide_eq_true u
      exact nameS_bad il (by rw [(ntt m : lett (gi x.1 i) = false)]; unfold digI; rw [decide_eq_false (by omega)]; rfl)
    · have v := of_decide_eq_true v
      exact nameS_bad il (by rw [(ntt m : lett (gi x.1 i) = false)]; unfold digI; rw [decide_eq_false (by omega)]; rfl)
    · have u := of_decide_eq_false u
      have v := of_decide_eq_false v
      show (lett (gi x.1 i) || digI (gi x.1 i)) = true
      unfold digI
      rw [decide_eq_true (by omega)]
      simp
    · show (lett (gi x.1 i) || digI (gi x.1 i)) = true
      rw [(nff m : lett (gi x.1 i) = true)]
      rfl
  · obtain ⟨i0, i1, i2, i3, i4⟩ := hi
    have l := of_decide_eq_false l
    have e : i = x.1.size := by omega
    rw [e] at i4
    exact nameS_ok i1 i2 i3 i4
theorem fo_tName : FnOk Tryz.prog 46 sp_tName := fnOk_of (C := c_tName) iv_tName Tryz.func46 rfl (by kernel_rfl) tys_ok (prims_cons (spec_prim fo_tletter) prims_nil) mixed_ (Nat.le_refl _) rfl fun y x h1 h2 h3 h4 =>
  Eq.mpr (w_tName y x) (m_tName y x h2 h3)
theorem gcd_tstep (a b : Int) : Int.gcd b (a.tmod b) = Int.gcd a b := by
  show Nat.gcd b.natAbs (a.tmod b).natAbs = Nat.gcd a.natAbs b.natAbs
  rw [Int.natAbs_tmod, Nat.gcd_comm, ← Nat.gcd_rec, Nat.gcd_comm]
theorem abs_if (a : Int) : (if -a > a then -a else a) = (a.natAbs : Int) := by
  split <;> omega
noncomputable def sp_rcommon : Spec := { q := .un, ps := [.it .i64, .it .i64], rs := [.it .i64], fresh := true, pre := fun _ x => some (x.1.natAbs ≤ 10000000000 ∧ x.2.1.natAbs ≤ 10000000000), post := fun _ x => ((), (((Int.gcd x.1 x.2.1 : Nat) : Int), ())) }
noncomputable def iv_rcommon (y : El sp_rcommon.q) (x : Els sp_rcommon.ps) : Nat → Option Inv := fun k => if k = 0 then some { X := Int × Int, tm := fun i => [(0, .c (.sc (.int .i64 i.1))), (1, .c (.sc (.int .i64 i.2)))], ob := fun _ => [], n := 1, I := fun i => Int.gcd i.1 i.2 = Int.gcd x.1 x.2.1 ∧ i.1.natAbs ≤ 10000000000 ∧ i.2.natAbs ≤ 10000000000, μ := fun i => i.2.natAbs } else none
noncomputable abbrev c_rcommon : Cfg := cfgS (Tryz.f182).ntmps false []
def F_rcommon (y : El sp_rcommon.q) (x : Els sp_rcommon.ps) : Prop :=
  (∃ (x_1 : Int × Int), x_1.1 = x.1 ∧ x_1.2 = x.2.1 ∧ x_1.1.gcd x_1.2 = Int.gcd x.1 x.2.1 ∧ x_1.1.natAbs ≤ (10000000000 : Nat) ∧ x_1.2.natAbs ≤ (10000000000 : Nat)) ∧ ∀ (x_1 : Int × Int), x_1.1.gcd x_1.2 = Int.gcd x.1 x.2.1 ∧ x_1.1.natAbs ≤ (10000000000 : Nat) ∧ x_1.2.natAbs ≤ (10000000000 : Nat) → ((x_1.2 != (0 : Int)) = true → x_1.2 ≠ (0 : Int) ∧ ∃ (x' : Int × Int), x'.1 = x_1.2 ∧ x'.2 = x_1.1.tmod x_1.2 ∧ (x'.1.gcd x'.2 = Int.gcd x.1 x.2.1 ∧ x'.1.natAbs ≤ (10000000000 : Nat) ∧ x'.2.natAbs ≤ (10000000000 : Nat)) ∧ x'.2.natAbs < x_1.2.natAbs) ∧ ((x_1.2 != (0 : Int)) = false → ((-9223372036854775808 : Int) ≤ -x_1.1 ∧ -x_1.1 ≤ (9223372036854775807 : Int)) ∧ (if -x_1.1 > x_1.1 then -x_1.1 else x_1.1, ()) = ((↑(Int.gcd x.1 x.2.1) : Int), ()))
theorem w_rcommon (y : El sp_rcommon.q) (x : Els sp_rcommon.ps) : aW c_rcommon (iv_rcommon y x) Tryz.f182 sp_rcommon y x = F_rcommon y x := by kernel_rfl
theorem m_rcommon (y : El (.un)) (x : Els [.it .i64, .it .i64]) (h2 : wfE (.un) y) (h3 : wfEs [.it .i64, .it .i64] x) (h4 : x.1.natAbs ≤ 10000000000 ∧ x.2.1.natAbs ≤ 10000000000) : F_rcommon y x := by
  unfold F_rcommon
  obtain ⟨h5, h6⟩ := h4
  refine ⟨⟨(x.1, x.2.1), rfl, rfl, rfl, h5, h6⟩, fun i hi => ?_⟩
  obtain ⟨i1, i2, i3⟩ := hi
  refine ⟨fun h => ?_, fun h => ⟨by omega, ?_⟩⟩
  · have h : i.2 ≠ 0 := by simpa using h
    have hp : 0 < i.2.natAbs := Int.natAbs_pos.2 h
    have hm : (i.1.tmod i.2).natAbs < i.2.natAbs := by rw [Int.natAbs_tmod]; exact Nat.mod_lt _ hp
    exact ⟨h, (i.2, i.1.tmod i.2), rfl, rfl, ⟨(gcd_tstep i.1 i.2).trans i1, i3, by show (i.1.tmod i.2).natAbs ≤ _; omega⟩, hm⟩
  · have h : i.2 = 0 := by simpa using h
    rw [h, Int.gcd_zero_right] at i1
    rw [abs_if, i1]
theorem fo_rcommon : FnOk Tryz.prog 182 sp_rcommon := fnOk_of (C := c_rcommon) iv_rcommon Tryz.func182 rfl (by kernel_rfl) tys_ok prims_nil mixed_ (Nat.le_refl _) rfl fun y x h1 h2 h3 h4 =>
  Eq.mpr (w_rcommon y x) (m_rcommon y x h2 h3 h4)
def rotC (r : El tRot) : Int := if 1 ≤ r.1 ∧ r.1 ≤ 1000 ∧ -1000 ≤ r.2.1 ∧ r.2.1 ≤ 1000 ∧ r.2.1 ≠ 0 ∧ r.1 ≠ r.2.1 ∧ r.1 ≠ -r.2.1 ∧ Int.gcd r.1 r.2.1 = 1 then 0 else 150
def rotI (a b : Int) : Prop := 1 ≤ a ∧ a ≤ 1000 ∧ -1000 ≤ b ∧ b ≤ 1000 ∧ b ≠ 0 ∧ a ≠ b ∧ a ≠ -b ∧ Int.gcd a b = 1
def rotB (r : El tRot) : Prop := rotI r.1 r.2.1
theorem rotn {r : El tRot} (h : ¬ rotB r) : ((150 : Int), ()) = (rotC r, ()) := by
  unfold rotB rotI at h
  unfold rotC
  rw [if_neg h]
theorem roty {r : El tRot} (h : rotB r) : ((0 : Int), ()) = (rotC r, ()) := by
  unfold rotB rotI at h
  unfold rotC
  rw [if_pos h]
theorem rotC_0 {r : El tRot} (h : rotC r = 0) : rotB r := by
  unfold rotC at h
  split at h
  · rename_i k; exact k
  · cases h
theorem i32_rng {a : Int} (h : IntKind.i32.min ≤ a ∧ a ≤ IntKind.i32.max) : -2147483648 ≤ a ∧ a ≤ 2147483647 := h
theorem wrap64_32 {a : Int} (h : -2147483648 ≤ a ∧ a ≤ 2147483647) : IntKind.i64.wrap a = a := wrap_id (k := .i64) (by have : IntKind.i64.min = -9223372036854775808 := rfl; omega) (by have : IntKind.i64.max = 9223372036854775807 := rfl; omega)
theorem wrap32_neg {a : Int} (h : -2147483648 < a ∧ a ≤ 2147483647) : IntKind.i32.wrap (0 - a) = -a := by
  rw [Int.zero_sub]
  exact wrap_id (k := .i32) (by have : IntKind.i32.min = -2147483648 := rfl; omega) (by have : IntKind.i32.max = 2147483647 := rfl; omega)
noncomputable def sp_rCk : Spec := { q := .un, ps := [tRot], rs := [.it .i64], fresh := true, pre := fun _ _ => none, post := fun _ x => ((), (rotC x.1, ())) }
noncomputable def iv_rCk (y : El sp_rCk.q) (x : Els sp_rCk.ps) : Nat → Option Inv := fun _ => none
noncomputable abbrev c_rCk : Cfg := cfgS (Tryz.f106).ntmps false [(182, sp_rcommon.prim)]
def F_rCk (y : El sp_rCk.q) (x : Els sp_rCk.ps) : Prop :=
  (decide (IntKind.i64.wrap x.1.1 < (1 : Int)) = true → ((150 : Int), ()) = (rotC x.1, ())) ∧ (decide (IntKind.i64.wrap x.1.1 < (1 : Int)) = false → (decide (IntKind.i64.wrap x.1.1 > (1000 : Int)) = true → ((150 : Int), ()) = (rotC x.1, ())) ∧ (decide (IntKind.i64.wrap x.1.1 > (1000 : Int)) = false → (decide (IntKind.i64.wrap x.1.2.1 < (-1000 : Int)) = true → ((150 : Int), ()) = (rotC x.1, ())) ∧ (decide (IntKind.i64.wrap x.1.2.1 < (-1000 : Int)) = false → (decide (IntKind.i64.wrap x.1.2.1 > (1000 : Int)) = true → ((150 : Int), ()) = (rotC x.1, ())) ∧ (decide (IntKind.i64.wrap x.1.2.1 > (1000 : Int)) = false → ((IntKind.i64.wrap x.1.2.1 == (0 : Int)) = true → ((150 : Int), ()) = (rotC x.1, ())) ∧ ((IntKind.i64.wrap x.1.2.1 == (0 : Int)) = false → ((IntKind.i64.wrap x.1.1 == IntKind.i64.wrap x.1.2.1) = true → ((150 : Int), ()) = (rotC x.1, ())) ∧ ((IntKind.i64.wrap x.1.1 == IntKind.i64.wrap x.1.2.1) = false → ((-9223372036854775808 : Int) ≤ -IntKind.i64.wrap x.1.2.1 ∧ -IntKind.i64.wrap x.1.2.1 ≤ (9223372036854775807 : Int)) ∧ ((IntKind.i64.wrap x.1.1 == -IntKind.i64.wrap x.1.2.1) = true → ((150 : Int), ()) = (rotC x.1, ())) ∧ ((IntKind.i64.wrap x.1.1 == -IntKind.i64.wrap x.1.2.1) = false → ((IntKind.i64.wrap x.1.1).natAbs ≤ (10000000000 : Nat) ∧ (IntKind.i64.wrap x.1.2.1).natAbs ≤ (10000000000 : Nat)) ∧ ∀ (r : Ro [Ty.it IntKind.i64]), r = ((), (↑((IntKind.i64.wrap x.1.1).gcd (IntKind.i64.wrap x.1.2.1)) : Int), ()) → ((r.2.1 != (1 : Int)) = true → ((150 : Int), ()) = (rotC x.1, ())) ∧ ((r.2.1 != (1 : Int)) = false → ((0 : Int), ()) = (rotC x.1, ())))))))))
theorem w_rCk (y : El sp_rCk.q) (x : Els sp_rCk.ps) : aW c_rCk (iv_rCk y x) Tryz.f106 sp_rCk y x = F_rCk y x := by kernel_rfl
theorem m_rCk (y : El (.un)) (x : Els [tRot]) (h2 : wfE (.un) y) (h3 : wfEs [tRot] x) : F_rCk y x := by
  unfold F_rCk
  have r1 := i32_rng h3.1.1
  have r2 := i32_rng h3.1.2.1
  simp only [wrap64_32 r1, wrap64_32 r2]
  refine ⟨fun h => rotn (r := x.1) fun c => ?_, fun h1 => ⟨fun h => rotn (r := x.1) fun c => ?_, fun h2 => ⟨fun h => rotn (r := x.1) fun c => ?_, fun h3 => ⟨fun h => rotn (r := x.1) fun c => ?_, fun h4 => ⟨fun h => rotn (r := x.1) fun c => ?_, fun h5 => ⟨fun h => rotn (r := x.1) fun c => ?_, fun h6 => ?_⟩⟩⟩⟩⟩⟩
  · unfold rotB rotI at c; have h := ltT h; omega
  · unfold rotB rotI at c; have h := gtT h; omega
  · unfold rotB rotI at c; have h := ltT h; omega
  · unfold rotB rotI at c; have h := gtT h; omega
  · unfold rotB rotI at c; have h := eqT h; omega
  · unfold rotB rotI at c; have h := eqT h; omega
  have h1 := ltF h1
  have h2 := gtF h2
  have h3 := ltF h3
  have h4 := gtF h4
  have h5 := eqF h5
  have h6 := eqF h6
  refine ⟨⟨by omega, by omega⟩, ?_⟩
  refine ⟨fun h => rotn (r := x.1) fun c => ?_, fun h7 => ⟨⟨?_, ?_⟩, ?_⟩⟩
  · unfold rotB rotI at c
    have h := eqT h
    omega
  · omega
  · omega
  have h7 := eqF h7
  rintro _ rfl
  refine ⟨fun h => rotn (r := x.1) fun c => ?_, fun h8 => roty (r := x.1) ⟨by omega, by omega, by omega, by omega, h5, h6, h7, ?_⟩⟩
  · unfold rotB rotI at c
    have h := neT h
    exact h (by rw [c.2.2.2.2.2.2.2]; rfl)
  · have h := neF h8
    exact Int.ofNat_inj.1 h
theorem fo_rCk : FnOk Tryz.prog 106 sp_rCk := fnOk_of (C := c_rCk) iv_rCk Tryz.func106 rfl (by kernel_rfl) tys_ok (prims_cons (spec_prim fo_rcommon) prims_nil) mixed_ (Nat.le_refl _) rfl fun y x h1 h2 h3 h4 =>
  Eq.mpr (w_rCk y x) (m_rCk y x h2 h3)
def tchk (a : El tTide) : Int := if nameS a.1 = false then 4 else if rotC a.2.1 ≠ 0 then rotC a.2.1 else gchk (toGa a.2.2.1)
noncomputable def sp_tCk : Spec := { q := .un, ps := [tTide], rs := [.it .i64], fresh := true, pre := fun _ _ => none, post := fun _ x => ((), (tchk x.1, ())) }
noncomputable def iv_tCk (y : El sp_tCk.q) (x : Els sp_tCk.ps) : Nat → Option Inv := fun _ => none
noncomputable abbrev c_tCk : Cfg := cfgS (Tryz.f47).ntmps false [(46, sp_tName.prim), (106, sp_rCk.prim), (110, sp_gCheck.prim)]
def F_tCk (y : El sp_tCk.q) (x : Els sp_tCk.ps) : Prop :=
  ∀ (r : Ro [Ty.bo]), r = ((), nameS x.1.1, ()) → ((!r.2.1) = true → ((4 : Int), ()) = (tchk x.1, ())) ∧ ((!r.2.1) = false → ∀ (r : Ro [Ty.it IntKind.i64]), r = ((), rotC x.1.2.1, ()) → ((r.2.1 != (0 : Int)) = true → r.2 = (tchk x.1, ())) ∧ ((r.2.1 != (0 : Int)) = false → ∀ (r : Ro [Ty.it IntKind.i64]), r = ((), gchk (toGa x.1.2.2.1), ()) → r.2 = (tchk x.1, ())))
theorem w_tCk (y : El sp_tCk.q) (x : Els sp_tCk.ps) : aW c_tCk (iv_tCk y x) Tryz.f47 sp_tCk y x = F_tCk y x := by kernel_rfl
theorem m_tCk (y : El (.un)) (x : Els [tTide]) (h2 : wfE (.un) y) (h3 : wfEs [tTide] x) : F_tCk y x := by
  unfold F_tCk
  rintro _ rfl
  refine ⟨fun h => ?_, fun h => ?_⟩
  · unfold tchk
    rw [if_pos (ntt h : nameS x.1.1 = false)]
  · rintro _ rfl
    refine ⟨fun k => ?_, fun k => ?_⟩
    · unfold tchk
      rw [if_neg (by rw [(nff h : nameS x.1.1 = true)]; decide), if_pos (ne_ k)]
    · rintro _ rfl
      unfold tchk
      rw [if_neg (by rw [(nff h : nameS x.1.1 = true)]; decide), if_neg (fun c => c (eq_ k))]
theorem fo_tCk : FnOk Tryz.prog 47 sp_tCk := fnOk_of (C := c_tCk) iv_tCk Tryz.func47 rfl (by kernel_rfl) tys_ok (prims_cons (spec_prim fo_tName) (prims_cons (spec_prim fo_rCk) (prims_cons (spec_prim fo_gCheck) prims_nil))) mixed_ (Nat.le_refl _) rfl fun y x h1 h2 h3 h4 =>
  Eq.mpr (w_tCk y x) (m_tCk y x h2 h3)
def gint (a b : Int) : Ga := ⟨(fsmall a 1).1, (fsmall b 1).1⟩
section
variable {t r : Ga}
end
section
variable {r : El tRule}
end
def gone (r : Ga) : Ga × Int := if r = gint (-1) 0 then (Ga.zero, 7) else gadd (gint 1 0) r
end Go.Proofs.YtemlaompalbgiaaGreatDoor
namespace Go.Proofs.YtemlaompalbgiaaGreatDoor
open Go
def sm (q : Rat) : Bool := decide (q.num.natAbs < 4294967296) && decide (q.den < 4294967296)
theorem wd_one_len {n : Nat} (h : n < 4294967296) : (wd n).length ≤ 1 := wd_len_le n 1 (by show (n : Int) < 4294967296; omega)
theorem sm_lng {q : Rat} (h : sm q = true) : ¬ lng q = true := by
  unfold sm at h
  simp only [Bool.and_eq_true, decide_eq_true_eq] at h
  exact lng_of (Nat.le_trans (wd_one_len h.1) (by decide)) (Nat.le_trans (wd_one_len h.2) (by decide))
theorem fchk_s {q : Rat} (h : sm q = true) : fchk (enc q) = 0 := fchk_enc q (sm_lng h)
section
variable {p q r : Rat}
theorem fadd_s (h : (sm p && sm q && sm r) = true) (e : p + q = r) : fadd (enc p) (enc q) = (enc r, 0) := by
  simp only [Bool.and_eq_true] at h
  rw [fadd_enc (sm_lng h.1.1) (sm_lng h.1.2), e, tell_ok (sm_lng h.2)]
theorem fsub_s (h : (sm p && sm q && sm r) = true) (e : p - q = r) : fsub (enc p) (enc q) = (enc r, 0) := by
  simp only [Bool.and_eq_true] at h
  show both (enc p) (enc q) _ = _
  rw [both_ok (sm_lng h.1.1) (sm_lng h.1.2), e, tell_ok (sm_lng h.2)]
theorem fmul_s (h : (sm p && sm q && sm r) = true) (e : p * q = r) : fmul (enc p) (enc q) = (enc r, 0) := by
  simp only [Bool.and_eq_true] at h
  show both (enc p) (enc q) _ = _
  rw [both_ok (sm_lng h.1.1) (sm_lng h.1.2), e, tell_ok (sm_lng h.2)]
theorem fsmall_s {n d : Int} (h0 : d ≠ 0) (h : sm r = true) (e : mkRat (sg (decide (n < 0) != decide (d < 0)) n.natAbs) d.natAbs = r) : fsmall n d = (enc r, 0) := by
  unfold fsmall
  rw [if_neg h0, e, tell_ok (sm_lng h)]
end
def ge (p q : Rat) : Ga := ⟨enc p, enc q⟩
theorem gchk_s {p q : Rat} (h : (sm p && sm q) = true) : gchk (ge p q) = 0 := by
  simp only [Bool.and_eq_true] at h
  unfold gchk fchk2 ge
  rw [fchk_s h.1, fchk_s h.2]
  rfl
theorem gchk2_s {p q r s : Rat} (h : (sm p && sm q) = true) (k : (sm r && sm s) = true) : gchk2 (ge p q) (ge r s) = 0 := by
  unfold gchk2
  rw [gchk_s h, gchk_s k]
  rfl
section
variable {a b c d u v x y r i : Rat}
theorem gadd_s (h : (sm a && sm b && (sm c && sm d) && (sm r && sm i)) = true) (e1 : a + c = r) (e2 : b + d = i) : gadd (ge a b) (ge c d) = (ge r i, 0) := by
  simp only [Bool.and_eq_true] at h
  obtain ⟨⟨⟨h1, h2⟩, h3, h4⟩, h5, h6⟩ := h
  have g : gchk2 (ge a b) (ge c d) = 0 := gchk2_s (by rw [h1, h2]; rfl) (by rw [h3, h4]; rfl)
  have f1 := fadd_s (p := a) (q := c) (r := r) (by rw [h1, h3, h5]; rfl) e1
  have f2 := fadd_s (p := b) (q := d) (r := i) (by rw [h2, h4, h6]; rfl) e2
  rw [gadd_4 g (by show (fadd (enc a) (enc c)).2 = 0; rw [f1]) (by show (fadd (enc b) (enc d)).2 = 0; rw [f2])]
  show ((⟨(fadd (enc a) (enc c)).1, (fadd (enc b) (enc d)).1⟩ : Ga), (0 : Int)) = _
  rw [f1, f2]
  rfl
theorem gmul_s (h : (sm a && sm b && (sm c && sm d) && (sm u && sm v && (sm x && sm y)) && (sm r && sm i)) = true) (e1 : a * c = u) (e2 : b * d = v) (e3 : u - v = r) (e4 : a * d = x) (e5 : b * c = y) (e6 : x + y = i) : gmul (ge a b) (ge c d) = (ge r i, 0) := by
  simp only [Bool.and_eq_true] at h
  obtain ⟨⟨⟨⟨h1, h2⟩, h3, h4⟩, ⟨h5, h6⟩, h7, h8⟩, h9, h10⟩ := h
  have g : gchk2 (ge a b) (ge c d) = 0 := gchk2_s (by rw [h1, h2]; rfl) (by rw [h3, h4]; rfl)
  have f1 := fmul_s (p := a) (q := c) (r := u) (by rw [h1, h3, h5]; rfl) e1
  have f2 := fmul_s (p := b) (q := d) (r := v) (by rw [h2, h4, h6]; rfl) e2
  have f3 := fsub_s (p := u) (q := v) (r := r) (by rw [h5, h6, h9]; rfl) e3
  have f4 := fmul_s (p := a) (q := d) (r := x) (by rw [h1, h4, h7]; rfl) e4
  have f5 := fmul_s (p := b) (q := c) (r := y) (by rw [h2, h3, h8]; rfl) e5
  have f6 := fadd_s (p := x) (q := y) (r := i) (by rw [h7, h8, h10]; rfl) e6
  have p1 : wpair 0 (enc a) (enc c) (enc b) (enc d) true = (enc r, 0) := by
    rw [wpair_3 (by rw [f1]) (by rw [f2]), f1, f2, f3]
  have p2 : wpair 0 (enc a) (enc d) (enc b) (enc c) false = (enc i, 0) := by
    rw [wpair_4 (by rw [f4]) (by rw [f5]), f4, f5, f6]
  have q1 : wpair 0 (ge a b).re (ge c d).re (ge a b).im (ge c d).im true = (enc r, 0) := p1
  have q2 : wpair 0 (ge a b).re (ge c d).im (ge a b).im (ge c d).re false = (enc i, 0) := p2
  rw [gmul_4 g (by rw [q1]) (by rw [q2]), q1, q2]
  rfl
end
end Go.Proofs.YtemlaompalbgiaaGreatDoor
namespace Go.Proofs.YtemlaompalbgiaaGreatDoor
section
variable {m n : Nat} {p q a b c d : Rat}
end
end Go.Proofs.YtemlaompalbgiaaGreatDoor
namespace Go.Proofs.YtemlaompalbgiaaGreatDoor
open Go Go.RowKit
def p_sure (p : Prim) : Prim := fun az O n => match p az O n with
  | some (c, G) => match G.ef with
    | ⟨.c (.sc (.bool b)), ob, k⟩ => some (some (oc c (b = true)), .e ⟨.c .tt, ob, k⟩)
    | _ => none
  | none => none
theorem Sim.tt {gp : Option Nat} {Z0 : Nat → Prop} {w0 : Base} {w : World} {N : Nat} {d : Option Nat} {D : Nat → Prop} {c : Cf} {T : Nat → Option AV} {O : Store} {tm : Array Value} (h : Sim gp Z0 w0 N D c (upT T d (.c (.sc (.bool true)))) O tm w) : Sim gp Z0 w0 N D c (upT T d (.c .tt)) O tm w := by
  cases d with
  | none => exact h
  | some d =>
    exact { h with
      tmp := fun t v hv => by
        have hv : (bif Nat.beq d t then some (.c .tt) else T t) = some v := hv
        cases e : Nat.beq d t with
        | true =>
          rw [e] at hv
          cases hv
          obtain ⟨u, h1, h2⟩ := h.tmp t (.c (.sc (.bool true))) (by show (bif Nat.beq d t then _ else _) = _; rw [e]; rfl)
          exact ⟨u, h1, h2.1⟩
        | false =>
          rw [e] at hv
          exact h.tmp t v (by show (bif Nat.beq d t then _ else _) = _; rw [e]; exact hv) }
theorem pr_sure {P : Program} {f : Nat} {p : Prim} (hp : PrimOk P f p) : PrimOk P f (p_sure p) := by
  refine ⟨hp.1, fun gp Z0 w0 N D c T O O' a w xs vs n cd G hS hO hl hv hG hD hc => ?_⟩
  unfold p_sure at hG
  cases h1 : p xs O' n with
  | none => rw [h1] at hG; cases hG
  | some q =>
    obtain ⟨c1, G1⟩ := q
    rw [h1] at hG
    dsimp only at hG
    split at hG
    · rename_i b ob k hef
      cases hG
      have hc : oc c1 (b = true) := hc
      have hb : b = true ∧ holds c1 := by
        cases c1 with
        | none => exact ⟨hc, trivial⟩
        | some X => exact ⟨hc.2, hc.1⟩
      obtain ⟨rfl, hc1⟩ := hb
      have := hp.2 gp Z0 w0 N D c T O O' a w xs vs n c1 G1 hS hO hl hv h1 (by rw [hef]; exact hD) hc1
      rw [hef] at this
      refine this.mono ?_
      rintro e w' ⟨v, c', rfl, h2⟩
      exact ⟨v, c', rfl, fun d hd => Sim.tt (h2 d hd)⟩
    · cases hG
theorem nrm_1 : nrm [1] := by
  rw [← wd_one]
  exact nrm_wd 1
theorem toN_1 : toN [1] = 1 := by rw [← wd_one, toN_wd]
end Go.Proofs.YtemlaompalbgiaaGreatDoor
