/- Texts of this claim, joined: B6 B7 B8 B9 A26 Y2 U3 Y4 B10 B11 Y5. -/
import Derived.Deep.AppendLies
import Derived.Test.YtakaehdolpmelaaGreatQs
set_option linter.unusedVariables false
set_option linter.unusedSimpArgs false
set_option maxRecDepth 100000
namespace Go.Proofs.YtakaehdolpmelaaGreat
open Go Go.RowKit
theorem chks2 (e : Int) (r i : El tR) : chks e [r, i] = if e ≠ 0 then e else fchk2 (toFr r) (toFr i) := by
  show (if (if e ≠ 0 then e else fchk (toFr r)) ≠ 0 then (if e ≠ 0 then e else fchk (toFr r)) else fchk (toFr i)) = _
  by_cases h : e ≠ 0
  · simp [h]
  · rw [if_neg h, if_neg h]; rfl
theorem gchks1 (a : El tG) : gchks 0 [a] = gchk (toGa a) := (chks2 0 a.1 a.2.1).trans (if_neg (by simp))
theorem gchks2 (a b : El tG) : gchks 0 [a, b] = gchk2 (toGa a) (toGa b) := by
  show chks (gchks 0 [a]) [b.1, b.2.1] = _
  rw [gchks1, chks2]
  rfl
noncomputable def sp_gCheck : Spec := { q := .un, ps := [tG], rs := [.it .i64], fresh := true, pre := fun _ _ => none, post := fun _ x => ((), (gchk (toGa x.1), ())) }
noncomputable def iv_gCheck (y : El sp_gCheck.q) (x : Els sp_gCheck.ps) : Nat → Option Inv := fun _ => none
noncomputable abbrev c_gCheck : Cfg := cfgS (Tryz.f102).ntmps false [(111, sp_asked.prim)]
theorem w_gCheck (y : El sp_gCheck.q) (x : Els sp_gCheck.ps) : aW c_gCheck (iv_gCheck y x) Tryz.f102 sp_gCheck y x =
  (∀ (r : Ro [tW.pt]), r = ((), (gchks (0 : Int) [x.1], ()), ()) → r.2.1 = (gchk (toGa x.1), ())) := by kernel_rfl
theorem m_gCheck (y : El (.un)) (x : Els [tG]) (h2 : wfE (.un) y) (h3 : wfEs [tG] x) :
  (∀ (r : Ro [tW.pt]), r = ((), (gchks (0 : Int) [x.1], ()), ()) → r.2.1 = (gchk (toGa x.1), ())) := by
  rintro _ rfl
  exact congrArg (fun e => (e, ())) (gchks1 x.1)
theorem fo_gCheck : FnOk Tryz.prog 102 sp_gCheck := fnOk_of (C := c_gCheck) iv_gCheck Tryz.func102 rfl (by kernel_rfl) tys_ok (prims_cons (spec_prim fo_asked) prims_nil) mixed_ (Nat.le_refl _) rfl fun y x h1 h2 h3 h4 =>
  Eq.mpr (w_gCheck y x) (m_gCheck y x h2 h3)
noncomputable def sp_gAdd : Spec := spG2 gadd
noncomputable def iv_gAdd (y : El sp_gAdd.q) (x : Els sp_gAdd.ps) : Nat → Option Inv := fun _ => none
noncomputable abbrev c_gAdd : Cfg := cfgS (Tryz.f63).ntmps false [(111, sp_asked.prim), (112, sp_wadd.prim), (113, p_told)]
theorem w_gAdd (y : El sp_gAdd.q) (x : Els sp_gAdd.ps) : aW c_gAdd (iv_gAdd y x) Tryz.f63 sp_gAdd y x =
  (∀ (r : Ro [tW.pt]), r = ((), (gchks (0 : Int) [x.1, x.2.1], ()), ()) → ∀ (r_1 : El tW × Els [tR]), r_1 = (((wadd r.2.1.1 (toFr x.1.1) (toFr x.2.1.1)).2, ()), ((wadd r.2.1.1 (toFr x.1.1) (toFr x.2.1.1)).1.neg, (wadd r.2.1.1 (toFr x.1.1) (toFr x.2.1.1)).1.num, (wadd r.2.1.1 (toFr x.1.1) (toFr x.2.1.1)).1.den, ()), ()) → ∀ (r : El tW × Els [tR]), r = (((wadd r_1.1.1 (toFr x.1.2.1) (toFr x.2.1.2.1)).2, ()), ((wadd r_1.1.1 (toFr x.1.2.1) (toFr x.2.1.2.1)).1.neg, (wadd r_1.1.1 (toFr x.1.2.1) (toFr x.2.1.2.1)).1.num, (wadd r_1.1.1 (toFr x.1.2.1) (toFr x.2.1.2.1)).1.den, ()), ()) → (((bif decide (r.1.1 ≠ (0 : Int)) then false else r_1.2.1.1, bif decide (r.1.1 ≠ (0 : Int)) then [] else r_1.2.1.2.1, bif decide (r.1.1 ≠ (0 : Int)) then [] else r_1.2.1.2.2.1, ()), (bif decide (r.1.1 ≠ (0 : Int)) then false else r.2.1.1, bif decide (r.1.1 ≠ (0 : Int)) then [] else r.2.1.2.1, bif decide (r.1.1 ≠ (0 : Int)) then [] else r.2.1.2.2.1, ()), ()), r.1) = ((((gadd (toGa x.1) (toGa x.2.1)).1.re.neg, (gadd (toGa x.1) (toGa x.2.1)).1.re.num, (gadd (toGa x.1) (toGa x.2.1)).1.re.den, ()), ((gadd (toGa x.1) (toGa x.2.1)).1.im.neg, (gadd (toGa x.1) (toGa x.2.1)).1.im.num, (gadd (toGa x.1) (toGa x.2.1)).1.im.den, ()), ()), (gadd (toGa x.1) (toGa x.2.1)).2, ())) := by kernel_rfl
theorem m_gAdd (y : El (.un)) (x : Els [tG, tG]) (h2 : wfE (.un) y) (h3 : wfEs [tG, tG] x) :
  (∀ (r : Ro [tW.pt]), r = ((), (gchks (0 : Int) [x.1, x.2.1], ()), ()) → ∀ (r_1 : El tW × Els [tR]), r_1 = (((wadd r.2.1.1 (toFr x.1.1) (toFr x.2.1.1)).2, ()), ((wadd r.2.1.1 (toFr x.1.1) (toFr x.2.1.1)).1.neg, (wadd r.2.1.1 (toFr x.1.1) (toFr x.2.1.1)).1.num, (wadd r.2.1.1 (toFr x.1.1) (toFr x.2.1.1)).1.den, ()), ()) → ∀ (r : El tW × Els [tR]), r = (((wadd r_1.1.1 (toFr x.1.2.1) (toFr x.2.1.2.1)).2, ()), ((wadd r_1.1.1 (toFr x.1.2.1) (toFr x.2.1.2.1)).1.neg, (wadd r_1.1.1 (toFr x.1.2.1) (toFr x.2.1.2.1)).1.num, (wadd r_1.1.1 (toFr x.1.2.1) (toFr x.2.1.2.1)).1.den, ()), ()) → (((bif decide (r.1.1 ≠ (0 : Int)) then false else r_1.2.1.1, bif decide (r.1.1 ≠ (0 : Int)) then [] else r_1.2.1.2.1, bif decide (r.1.1 ≠ (0 : Int)) then [] else r_1.2.1.2.2.1, ()), (bif decide (r.1.1 ≠ (0 : Int)) then false else r.2.1.1, bif decide (r.1.1 ≠ (0 : Int)) then [] else r.2.1.2.1, bif decide (r.1.1 ≠ (0 : Int)) then [] else r.2.1.2.2.1, ()), ()), r.1) = ((((gadd (toGa x.1) (toGa x.2.1)).1.re.neg, (gadd (toGa x.1) (toGa x.2.1)).1.re.num, (gadd (toGa x.1) (toGa x.2.1)).1.re.den, ()), ((gadd (toGa x.1) (toGa x.2.1)).1.im.neg, (gadd (toGa x.1) (toGa x.2.1)).1.im.num, (gadd (toGa x.1) (toGa x.2.1)).1.im.den, ()), ()), (gadd (toGa x.1) (toGa x.2.1)).2, ())) := by
  rintro _ rfl _ rfl _ rfl
  have e : gchks 0 [x.1, x.2.1] = gchk2 (toGa x.1) (toGa x.2.1) := gchks2 _ _
  simp only [e, gadd, gtell]
  split <;> simp_all [Ga.zero, Fr.zero]
theorem fo_gAdd : FnOk Tryz.prog 63 sp_gAdd := fnOk_of (C := c_gAdd) iv_gAdd Tryz.func63 rfl (by kernel_rfl) tys_ok (prims_cons (spec_prim fo_asked) (prims_cons (spec_prim fo_wadd) (prims_cons pr_told prims_nil))) mixed_ (Nat.le_refl _) rfl fun y x h1 h2 h3 h4 =>
  Eq.mpr (w_gAdd y x) (m_gAdd y x h2 h3)
noncomputable def sp_product : Spec := { q := tW, ps := [tG, tG], rs := [tR, tR], fresh := true, pre := fun _ _ => none, post := fun y x => (((wprod y.1 (toGa x.1) (toGa x.2.1)).2.2, ()), (ofFr (wprod y.1 (toGa x.1) (toGa x.2.1)).1, ofFr (wprod y.1 (toGa x.1) (toGa x.2.1)).2.1, ())) }
noncomputable def iv_product (y : El sp_product.q) (x : Els sp_product.ps) : Nat → Option Inv := fun _ => none
noncomputable abbrev c_product : Cfg := cfgS (Tryz.f143).ntmps true [(179, sp_wmul.prim), (169, sp_wsub.prim), (112, sp_wadd.prim)]
theorem w_product (y : El sp_product.q) (x : Els sp_product.ps) : aW c_product (iv_product y x) Tryz.f143 sp_product y x =
  (∀ (r : El tW × Els [tR]), r = (((wmul y.1 (toFr x.1.1) (toFr x.2.1.1)).2, ()), ((wmul y.1 (toFr x.1.1) (toFr x.2.1.1)).1.neg, (wmul y.1 (toFr x.1.1) (toFr x.2.1.1)).1.num, (wmul y.1 (toFr x.1.1) (toFr x.2.1.1)).1.den, ()), ()) → ∀ (r_1 : El tW × Els [tR]), r_1 = (((wmul r.1.1 (toFr x.1.2.1) (toFr x.2.1.2.1)).2, ()), ((wmul r.1.1 (toFr x.1.2.1) (toFr x.2.1.2.1)).1.neg, (wmul r.1.1 (toFr x.1.2.1) (toFr x.2.1.2.1)).1.num, (wmul r.1.1 (toFr x.1.2.1) (toFr x.2.1.2.1)).1.den, ()), ()) → ∀ (r_2 : El tW × Els [tR]), r_2 = (((wsub r_1.1.1 (toFr r.2.1) (toFr r_1.2.1)).2, ()), ((wsub r_1.1.1 (toFr r.2.1) (toFr r_1.2.1)).1.neg, (wsub r_1.1.1 (toFr r.2.1) (toFr r_1.2.1)).1.num, (wsub r_1.1.1 (toFr r.2.1) (toFr r_1.2.1)).1.den, ()), ()) → ∀ (r : El tW × Els [tR]), r = (((wmul r_2.1.1 (toFr x.1.1) (toFr x.2.1.2.1)).2, ()), ((wmul r_2.1.1 (toFr x.1.1) (toFr x.2.1.2.1)).1.neg, (wmul r_2.1.1 (toFr x.1.1) (toFr x.2.1.2.1)).1.num, (wmul r_2.1.1 (toFr x.1.1) (toFr x.2.1.2.1)).1.den, ()), ()) → ∀ (r_3 : El tW × Els [tR]), r_3 = (((wmul r.1.1 (toFr x.1.2.1) (toFr x.2.1.1)).2, ()), ((wmul r.1.1 (toFr x.1.2.1) (toFr x.2.1.1)).1.neg, (wmul r.1.1 (toFr x.1.2.1) (toFr x.2.1.1)).1.num, (wmul r.1.1 (toFr x.1.2.1) (toFr x.2.1.1)).1.den, ()), ()) → ∀ (r_4 : El tW × Els [tR]), r_4 = (((wadd r_3.1.1 (toFr r.2.1) (toFr r_3.2.1)).2, ()), ((wadd r_3.1.1 (toFr r.2.1) (toFr r_3.2.1)).1.neg, (wadd r_3.1.1 (toFr r.2.1) (toFr r_3.2.1)).1.num, (wadd r_3.1.1 (toFr r.2.1) (toFr r_3.2.1)).1.den, ()), ()) → (r_4.1, r_2.2.1, r_4.2) = (((wprod y.1 (toGa x.1) (toGa x.2.1)).2.2, ()), ((wprod y.1 (toGa x.1) (toGa x.2.1)).1.neg, (wprod y.1 (toGa x.1) (toGa x.2.1)).1.num, (wprod y.1 (toGa x.1) (toGa x.2.1)).1.den, ()), ((wprod y.1 (toGa x.1) (toGa x.2.1)).2.1.neg, (wprod y.1 (toGa x.1) (toGa x.2.1)).2.1.num, (wprod y.1 (toGa x.1) (toGa x.2.1)).2.1.den, ()), ())) := by kernel_rfl
theorem m_product (y : El (tW)) (x : Els [tG, tG]) (h2 : wfE (tW) y) (h3 : wfEs [tG, tG] x) :
  (∀ (r : El tW × Els [tR]), r = (((wmul y.1 (toFr x.1.1) (toFr x.2.1.1)).2, ()), ((wmul y.1 (toFr x.1.1) (toFr x.2.1.1)).1.neg, (wmul y.1 (toFr x.1.1) (toFr x.2.1.1)).1.num, (wmul y.1 (toFr x.1.1) (toFr x.2.1.1)).1.den, ()), ()) → ∀ (r_1 : El tW × Els [tR]), r_1 = (((wmul r.1.1 (toFr x.1.2.1) (toFr x.2.1.2.1)).2, ()), ((wmul r.1.1 (toFr x.1.2.1) (toFr x.2.1.2.1)).1.neg, (wmul r.1.1 (toFr x.1.2.1) (toFr x.2.1.2.1)).1.num, (wmul r.1.1 (toFr x.1.2.1) (toFr x.2.1.2.1)).1.den, ()), ()) → ∀ (r_2 : El tW × Els [tR]), r_2 = (((wsub r_1.1.1 (toFr r.2.1) (toFr r_1.2.1)).2, ()), ((wsub r_1.1.1 (toFr r.2.1) (toFr r_1.2.1)).1.neg, (wsub r_1.1.1 (toFr r.2.1) (toFr r_1.2.1)).1.num, (wsub r_1.1.1 (toFr r.2.1) (toFr r_1.2.1)).1.den, ()), ()) → ∀ (r : El tW × Els [tR]), r = (((wmul r_2.1.1 (toFr x.1.1) (toFr x.2.1.2.1)).2, ()), ((wmul r_2.1.1 (toFr x.1.1) (toFr x.2.1.2.1)).1.neg, (wmul r_2.1.1 (toFr x.1.1) (toFr x.2.1.2.1)).1.num, (wmul r_2.1.1 (toFr x.1.1) (toFr x.2.1.2.1)).1.den, ()), ()) → ∀ (r_3 : El tW × Els [tR]), r_3 = (((wmul r.1.1 (toFr x.1.2.1) (toFr x.2.1.1)).2, ()), ((wmul r.1.1 (toFr x.1.2.1) (toFr x.2.1.1)).1.neg, (wmul r.1.1 (toFr x.1.2.1) (toFr x.2.1.1)).1.num, (wmul r.1.1 (toFr x.1.2.1) (toFr x.2.1.1)).1.den, ()), ()) → ∀ (r_4 : El tW × Els [tR]), r_4 = (((wadd r_3.1.1 (toFr r.2.1) (toFr r_3.2.1)).2, ()), ((wadd r_3.1.1 (toFr r.2.1) (toFr r_3.2.1)).1.neg, (wadd r_3.1.1 (toFr r.2.1) (toFr r_3.2.1)).1.num, (wadd r_3.1.1 (toFr r.2.1) (toFr r_3.2.1)).1.den, ()), ()) → (r_4.1, r_2.2.1, r_4.2) = (((wprod y.1 (toGa x.1) (toGa x.2.1)).2.2, ()), ((wprod y.1 (toGa x.1) (toGa x.2.1)).1.neg, (wprod y.1 (toGa x.1) (toGa x.2.1)).1.num, (wprod y.1 (toGa x.1) (toGa x.2.1)).1.den, ()), ((wprod y.1 (toGa x.1) (toGa x.2.1)).2.1.neg, (wprod y.1 (toGa x.1) (toGa x.2.1)).2.1.num, (wprod y.1 (toGa x.1) (toGa x.2.1)).2.1.den, ()), ())) := by
  rintro _ rfl _ rfl _ rfl _ rfl _ rfl _ rfl
  rfl
theorem fo_product : FnOk Tryz.prog 143 sp_product := fnOk_of (C := c_product) iv_product Tryz.func143 rfl (by kernel_rfl) tys_ok (prims_cons (spec_prim fo_wmul) (prims_cons (spec_prim fo_wsub) (prims_cons (spec_prim fo_wadd) prims_nil))) mixed_ (Nat.le_refl _) rfl fun y x h1 h2 h3 h4 =>
  Eq.mpr (w_product y x) (m_product y x h2 h3)
noncomputable def sp_gMul : Spec := spG2 gmul
noncomputable def iv_gMul (y : El sp_gMul.q) (x : Els sp_gMul.ps) : Nat → Option Inv := fun _ => none
noncomputable abbrev c_gMul : Cfg := cfgS (Tryz.f104).ntmps false [(111, sp_asked.prim), (143, sp_product.prim), (113, p_told)]
theorem w_gMul (y : El sp_gMul.q) (x : Els sp_gMul.ps) : aW c_gMul (iv_gMul y x) Tryz.f104 sp_gMul y x =
  (∀ (r : Ro [tW.pt]), r = ((), (gchks (0 : Int) [x.1, x.2.1], ()), ()) → ∀ (r_1 : El tW × Els [tR, tR]), r_1 = (((wprod r.2.1.1 (toGa x.1) (toGa x.2.1)).2.2, ()), ((wprod r.2.1.1 (toGa x.1) (toGa x.2.1)).1.neg, (wprod r.2.1.1 (toGa x.1) (toGa x.2.1)).1.num, (wprod r.2.1.1 (toGa x.1) (toGa x.2.1)).1.den, ()), ((wprod r.2.1.1 (toGa x.1) (toGa x.2.1)).2.1.neg, (wprod r.2.1.1 (toGa x.1) (toGa x.2.1)).2.1.num, (wprod r.2.1.1 (toGa x.1) (toGa x.2.1)).2.1.den, ()), ()) → (((bif decide (r_1.1.1 ≠ (0 : Int)) then false else r_1.2.1.1, bif decide (r_1.1.1 ≠ (0 : Int)) then [] else r_1.2.1.2.1, bif decide (r_1.1.1 ≠ (0 : Int)) then [] else r_1.2.1.2.2.1, ()), (bif decide (r_1.1.1 ≠ (0 : Int)) then false else r_1.2.2.1.1, bif decide (r_1.1.1 ≠ (0 : Int)) then [] else r_1.2.2.1.2.1, bif decide (r_1.1.1 ≠ (0 : Int)) then [] else r_1.2.2.1.2.2.1, ()), ()), r_1.1) = ((((gmul (toGa x.1) (toGa x.2.1)).1.re.neg, (gmul (toGa x.1) (toGa x.2.1)).1.re.num, (gmul (toGa x.1) (toGa x.2.1)).1.re.den, ()), ((gmul (toGa x.1) (toGa x.2.1)).1.im.neg, (gmul (toGa x.1) (toGa x.2.1)).1.im.num, (gmul (toGa x.1) (toGa x.2.1)).1.im.den, ()), ()), (gmul (toGa x.1) (toGa x.2.1)).2, ())) := by kernel_rfl
theorem m_gMul (y : El (.un)) (x : Els [tG, tG]) (h2 : wfE (.un) y) (h3 : wfEs [tG, tG] x) :
  (∀ (r : Ro [tW.pt]), r = ((), (gchks (0 : Int) [x.1, x.2.1], ()), ()) → ∀ (r_1 : El tW × Els [tR, tR]), r_1 = (((wprod r.2.1.1 (toGa x.1) (toGa x.2.1)).2.2, ()), ((wprod r.2.1.1 (toGa x.1) (toGa x.2.1)).1.neg, (wprod r.2.1.1 (toGa x.1) (toGa x.2.1)).1.num, (wprod r.2.1.1 (toGa x.1) (toGa x.2.1)).1.den, ()), ((wprod r.2.1.1 (toGa x.1) (toGa x.2.1)).2.1.neg, (wprod r.2.1.1 (toGa x.1) (toGa x.2.1)).2.1.num, (wprod r.2.1.1 (toGa x.1) (toGa x.2.1)).2.1.den, ()), ()) → (((bif decide (r_1.1.1 ≠ (0 : Int)) then false else r_1.2.1.1, bif decide (r_1.1.1 ≠ (0 : Int)) then [] else r_1.2.1.2.1, bif decide (r_1.1.1 ≠ (0 : Int)) then [] else r_1.2.1.2.2.1, ()), (bif decide (r_1.1.1 ≠ (0 : Int)) then false else r_1.2.2.1.1, bif decide (r_1.1.1 ≠ (0 : Int)) then [] else r_1.2.2.1.2.1, bif decide (r_1.1.1 ≠ (0 : Int)) then [] else r_1.2.2.1.2.2.1, ()), ()), r_1.1) = ((((gmul (toGa x.1) (toGa x.2.1)).1.re.neg, (gmul (toGa x.1) (toGa x.2.1)).1.re.num, (gmul (toGa x.1) (toGa x.2.1)).1.re.den, ()), ((gmul (toGa x.1) (toGa x.2.1)).1.im.neg, (gmul (toGa x.1) (toGa x.2.1)).1.im.num, (gmul (toGa x.1) (toGa x.2.1)).1.im.den, ()), ()), (gmul (toGa x.1) (toGa x.2.1)).2, ())) := by
  rintro _ rfl _ rfl
  have e : gchks 0 [x.1, x.2.1] = gchk2 (toGa x.1) (toGa x.2.1) := gchks2 _ _
  simp only [e, gmul, gtell]
  split <;> simp_all [Ga.zero, Fr.zero]
theorem fo_gMul : FnOk Tryz.prog 104 sp_gMul := fnOk_of (C := c_gMul) iv_gMul Tryz.func104 rfl (by kernel_rfl) tys_ok (prims_cons (spec_prim fo_asked) (prims_cons (spec_prim fo_product) (prims_cons pr_told prims_nil))) mixed_ (Nat.le_refl _) rfl fun y x h1 h2 h3 h4 =>
  Eq.mpr (w_gMul y x) (m_gMul y x h2 h3)
noncomputable def sp_gInt : Spec := { q := .un, ps := [.it .i64, .it .i64], rs := [tG], fresh := true, pre := fun _ _ => none, post := fun _ x => ((), (ofGa ⟨(fsmall x.1 1).1, (fsmall x.2.1 1).1⟩, ())) }
noncomputable def iv_gInt (y : El sp_gInt.q) (x : Els sp_gInt.ps) : Nat → Option Inv := fun _ => none
noncomputable abbrev c_gInt : Cfg := cfgS (Tryz.f62).ntmps false [(110, sp_rSmall.prim)]
theorem w_gInt (y : El sp_gInt.q) (x : Els sp_gInt.ps) : aW c_gInt (iv_gInt y x) Tryz.f62 sp_gInt y x =
  (∀ (r : Ro [tR, Ty.it IntKind.i64]), r = ((), ((fsmall x.1 (1 : Int)).1.neg, (fsmall x.1 (1 : Int)).1.num, (fsmall x.1 (1 : Int)).1.den, ()), (fsmall x.1 (1 : Int)).2, ()) → ∀ (r_1 : Ro [tR, Ty.it IntKind.i64]), r_1 = ((), ((fsmall x.2.1 (1 : Int)).1.neg, (fsmall x.2.1 (1 : Int)).1.num, (fsmall x.2.1 (1 : Int)).1.den, ()), (fsmall x.2.1 (1 : Int)).2, ()) → ((r.2.1, r_1.2.1, ()), ()) = ((((fsmall x.1 (1 : Int)).1.neg, (fsmall x.1 (1 : Int)).1.num, (fsmall x.1 (1 : Int)).1.den, ()), ((fsmall x.2.1 (1 : Int)).1.neg, (fsmall x.2.1 (1 : Int)).1.num, (fsmall x.2.1 (1 : Int)).1.den, ()), ()), ())) := by kernel_rfl
theorem m_gInt (y : El (.un)) (x : Els [.it .i64, .it .i64]) (h2 : wfE (.un) y) (h3 : wfEs [.it .i64, .it .i64] x) :
  (∀ (r : Ro [tR, Ty.it IntKind.i64]), r = ((), ((fsmall x.1 (1 : Int)).1.neg, (fsmall x.1 (1 : Int)).1.num, (fsmall x.1 (1 : Int)).1.den, ()), (fsmall x.1 (1 : Int)).2, ()) → ∀ (r_1 : Ro [tR, Ty.it IntKind.i64]), r_1 = ((), ((fsmall x.2.1 (1 : Int)).1.neg, (fsmall x.2.1 (1 : Int)).1.num, (fsmall x.2.1 (1 : Int)).1.den, ()), (fsmall x.2.1 (1 : Int)).2, ()) → ((r.2.1, r_1.2.1, ()), ()) = ((((fsmall x.1 (1 : Int)).1.neg, (fsmall x.1 (1 : Int)).1.num, (fsmall x.1 (1 : Int)).1.den, ()), ((fsmall x.2.1 (1 : Int)).1.neg, (fsmall x.2.1 (1 : Int)).1.num, (fsmall x.2.1 (1 : Int)).1.den, ()), ()), ())) := by
  rintro _ rfl _ rfl
  rfl
theorem fo_gInt : FnOk Tryz.prog 62 sp_gInt := fnOk_of (C := c_gInt) iv_gInt Tryz.func62 rfl (by kernel_rfl) tys_ok (prims_cons (spec_prim fo_rSmall) prims_nil) mixed_ (Nat.le_refl _) rfl fun y x h1 h2 h3 h4 =>
  Eq.mpr (w_gInt y x) (m_gInt y x h2 h3)
theorem wf_i {l : List Int} (h : wfE tW32 l) : Wf l := fun x hx => ⟨(h.2 x hx).1, Int.lt_of_le_of_lt (h.2 x hx).2 (by decide)⟩
theorem wf_fr {a : El tR} (h : wfE tR a) : (toFr a).Wf := ⟨wf_i h.2.1, wf_i h.2.2.1⟩
noncomputable def sp_hCheck : Spec := { q := .un, ps := [tG], rs := [.it .i64], fresh := false, pre := fun _ _ => none, post := fun _ x => ((), (gchk (toGa x.1), ())) }
noncomputable def iv_hCheck (y : El sp_hCheck.q) (x : Els sp_hCheck.ps) : Nat → Option Inv := fun _ => none
noncomputable abbrev c_hCheck : Cfg := cfgS (Tryz.f94).ntmps false [(108, sp_nCheck.prim)]
theorem w_hCheck (y : El sp_hCheck.q) (x : Els sp_hCheck.ps) : aW c_hCheck (iv_hCheck y x) Tryz.f94 sp_hCheck y x =
  (∀ (r : Ro [Ty.it IntKind.i64]), r = ((), fchk (toFr x.1.1), ()) → ((r.2.1 != (0 : Int)) = true → r.2 = (gchk (toGa x.1), ())) ∧ ((r.2.1 != (0 : Int)) = false → ∀ (r : Ro [Ty.it IntKind.i64]), r = ((), fchk (toFr x.1.2.1), ()) → r.2 = (gchk (toGa x.1), ()))) := by kernel_rfl
theorem m_hCheck (y : El (.un)) (x : Els [tG]) (h2 : wfE (.un) y) (h3 : wfEs [tG] x) :
  (∀ (r : Ro [Ty.it IntKind.i64]), r = ((), fchk (toFr x.1.1), ()) → ((r.2.1 != (0 : Int)) = true → r.2 = (gchk (toGa x.1), ())) ∧ ((r.2.1 != (0 : Int)) = false → ∀ (r : Ro [Ty.it IntKind.i64]), r = ((), fchk (toFr x.1.2.1), ()) → r.2 = (gchk (toGa x.1), ()))) := by
  rintro _ rfl
  refine ⟨fun h => ?_, fun h => ?_⟩
  · simp_all [gchk, fchk2]
  · rintro _ rfl
    simp_all [gchk, fchk2]
theorem fo_hCheck : FnOk Tryz.prog 94 sp_hCheck := fnOk_of (C := c_hCheck) iv_hCheck Tryz.func94 rfl (by kernel_rfl) tys_ok (prims_cons (spec_prim fo_nCheck) prims_nil) mixed_ (Nat.le_refl _) rfl fun y x h1 h2 h3 h4 =>
  Eq.mpr (w_hCheck y x) (m_hCheck y x h2 h3)
noncomputable def sp_hboth : Spec := { q := .un, ps := [tG, tG], rs := [.it .i64], fresh := false, pre := fun _ _ => none, post := fun _ x => ((), (gchk2 (toGa x.1) (toGa x.2.1), ())) }
noncomputable def iv_hboth (y : El sp_hboth.q) (x : Els sp_hboth.ps) : Nat → Option Inv := fun _ => none
noncomputable abbrev c_hboth : Cfg := cfgS (Tryz.f114).ntmps false [(94, sp_hCheck.prim)]
theorem w_hboth (y : El sp_hboth.q) (x : Els sp_hboth.ps) : aW c_hboth (iv_hboth y x) Tryz.f114 sp_hboth y x =
  (∀ (r : Ro [Ty.it IntKind.i64]), r = ((), gchk (toGa x.1), ()) → ((r.2.1 != (0 : Int)) = true → r.2 = (gchk2 (toGa x.1) (toGa x.2.1), ())) ∧ ((r.2.1 != (0 : Int)) = false → ∀ (r : Ro [Ty.it IntKind.i64]), r = ((), gchk (toGa x.2.1), ()) → r.2 = (gchk2 (toGa x.1) (toGa x.2.1), ()))) := by kernel_rfl
theorem m_hboth (y : El (.un)) (x : Els [tG, tG]) (h2 : wfE (.un) y) (h3 : wfEs [tG, tG] x) :
  (∀ (r : Ro [Ty.it IntKind.i64]), r = ((), gchk (toGa x.1), ()) → ((r.2.1 != (0 : Int)) = true → r.2 = (gchk2 (toGa x.1) (toGa x.2.1), ())) ∧ ((r.2.1 != (0 : Int)) = false → ∀ (r : Ro [Ty.it IntKind.i64]), r = ((), gchk (toGa x.2.1), ()) → r.2 = (gchk2 (toGa x.1) (toGa x.2.1), ()))) := by
  rintro _ rfl
  refine ⟨fun h => ?_, fun h => ?_⟩
  · simp_all [gchk2]
  · rintro _ rfl
    simp_all [gchk2]
theorem fo_hboth : FnOk Tryz.prog 114 sp_hboth := fnOk_of (C := c_hboth) iv_hboth Tryz.func114 rfl (by kernel_rfl) tys_ok (prims_cons (spec_prim fo_hCheck) prims_nil) mixed_ (Nat.le_refl _) rfl fun y x h1 h2 h3 h4 =>
  Eq.mpr (w_hboth y x) (m_hboth y x h2 h3)
theorem ne_ {e : Int} (h : (e != 0) = true) : e ≠ 0 := by simpa using h
theorem eq_ {e : Int} (h : (e != 0) = false) : e = 0 := by simpa using h
theorem tG_ {t u : Ga × Int} (h : t = u) : (pG u).2 = (pG t).2 := by rw [h]
theorem tR_ {t u : Fr × Int} (h : t = u) : (pR u).2 = (pR t).2 := by rw [h]
noncomputable def sp_hAdd : Spec := { q := .un, ps := [tG, tG], rs := [tG, .it .i64], fresh := false, pre := fun _ _ => none, post := fun _ x => pG (gadd (toGa x.1) (toGa x.2.1)) }
noncomputable def iv_hAdd (y : El sp_hAdd.q) (x : Els sp_hAdd.ps) : Nat → Option Inv := fun _ => none
noncomputable abbrev c_hAdd : Cfg := cfgS (Tryz.f65).ntmps false [(114, sp_hboth.prim), (98, sp_nAdd.prim)]
theorem w_hAdd (y : El sp_hAdd.q) (x : Els sp_hAdd.ps) : aW c_hAdd (iv_hAdd y x) Tryz.f65 sp_hAdd y x =
  (∀ (r : Ro [Ty.it IntKind.i64]), r = ((), gchk2 (toGa x.1) (toGa x.2.1), ()) → ((r.2.1 != (0 : Int)) = true → (((false, [], [], ()), (false, [], [], ()), ()), r.2) = (pG (gadd (toGa x.1) (toGa x.2.1))).2) ∧ ((r.2.1 != (0 : Int)) = false → ∀ (r : Ro [tR, Ty.it IntKind.i64]), r = pR (fadd (toFr x.1.1) (toFr x.2.1.1)) → ((r.2.2.1 != (0 : Int)) = true → (((false, [], [], ()), (false, [], [], ()), ()), r.2.2) = (pG (gadd (toGa x.1) (toGa x.2.1))).2) ∧ ((r.2.2.1 != (0 : Int)) = false → ∀ (r_1 : Ro [tR, Ty.it IntKind.i64]), r_1 = pR (fadd (toFr x.1.2.1) (toFr x.2.1.2.1)) → ((r_1.2.2.1 != (0 : Int)) = true → (((false, [], [], ()), (false, [], [], ()), ()), r_1.2.2) = (pG (gadd (toGa x.1) (toGa x.2.1))).2) ∧ ((r_1.2.2.1 != (0 : Int)) = false → ((r.2.1, r_1.2.1, ()), (0 : Int), ()) = (pG (gadd (toGa x.1) (toGa x.2.1))).2)))) := by kernel_rfl
theorem m_hAdd (y : El (.un)) (x : Els [tG, tG]) (h2 : wfE (.un) y) (h3 : wfEs [tG, tG] x) :
  (∀ (r : Ro [Ty.it IntKind.i64]), r = ((), gchk2 (toGa x.1) (toGa x.2.1), ()) → ((r.2.1 != (0 : Int)) = true → (((false, [], [], ()), (false, [], [], ()), ()), r.2) = (pG (gadd (toGa x.1) (toGa x.2.1))).2) ∧ ((r.2.1 != (0 : Int)) = false → ∀ (r : Ro [tR, Ty.it IntKind.i64]), r = pR (fadd (toFr x.1.1) (toFr x.2.1.1)) → ((r.2.2.1 != (0 : Int)) = true → (((false, [], [], ()), (false, [], [], ()), ()), r.2.2) = (pG (gadd (toGa x.1) (toGa x.2.1))).2) ∧ ((r.2.2.1 != (0 : Int)) = false → ∀ (r_1 : Ro [tR, Ty.it IntKind.i64]), r_1 = pR (fadd (toFr x.1.2.1) (toFr x.2.1.2.1)) → ((r_1.2.2.1 != (0 : Int)) = true → (((false, [], [], ()), (false, [], [], ()), ()), r_1.2.2) = (pG (gadd (toGa x.1) (toGa x.2.1))).2) ∧ ((r_1.2.2.1 != (0 : Int)) = false → ((r.2.1, r_1.2.1, ()), (0 : Int), ()) = (pG (gadd (toGa x.1) (toGa x.2.1))).2)))) := by
  rintro _ rfl
  refine ⟨fun h => (tG_ (gadd_1 (a := toGa x.1) (b := toGa x.2.1) (ne_ h)) :), fun h => ?_⟩
  rintro _ rfl
  refine ⟨fun k => (tG_ (gadd_2 (a := toGa x.1) (b := toGa x.2.1) (eq_ h) (ne_ k)) :), fun k => ?_⟩
  rintro _ rfl
  exact ⟨fun m => (tG_ (gadd_3 (a := toGa x.1) (b := toGa x.2.1) (eq_ h) (eq_ k) (ne_ m)) :), fun m => (tG_ (gadd_4 (a := toGa x.1) (b := toGa x.2.1) (eq_ h) (eq_ k) (eq_ m)) :)⟩
theorem fo_hAdd : FnOk Tryz.prog 65 sp_hAdd := fnOk_of (C := c_hAdd) iv_hAdd Tryz.func65 rfl (by kernel_rfl) tys_ok (prims_cons (spec_prim fo_hboth) (prims_cons (spec_prim fo_nAdd) prims_nil)) mixed_ (Nat.le_refl _) rfl fun y x h1 h2 h3 h4 =>
  Eq.mpr (w_hAdd y x) (m_hAdd y x h2 h3)
noncomputable def sp_hpair : Spec := { q := .un, ps := [tR, tR, tR, tR, .bo], rs := [tR, .it .i64], fresh := false, pre := fun _ _ => none, post := fun _ x => pR (wpair 0 (toFr x.1) (toFr x.2.1) (toFr x.2.2.1) (toFr x.2.2.2.1) x.2.2.2.2.1) }
noncomputable def iv_hpair (y : El sp_hpair.q) (x : Els sp_hpair.ps) : Nat → Option Inv := fun _ => none
noncomputable abbrev c_hpair : Cfg := cfgS (Tryz.f139).ntmps false [(176, sp_nMul.prim), (177, sp_nSub.prim), (98, sp_nAdd.prim)]
theorem w_hpair (y : El sp_hpair.q) (x : Els sp_hpair.ps) : aW c_hpair (iv_hpair y x) Tryz.f139 sp_hpair y x =
  (∀ (r : Ro [tR, Ty.it IntKind.i64]), r = pR (fmul (toFr x.1) (toFr x.2.1)) → ((r.2.2.1 != (0 : Int)) = true → ((false, [], [], ()), r.2.2) = (pR (wpair (0 : Int) (toFr x.1) (toFr x.2.1) (toFr x.2.2.1) (toFr x.2.2.2.1) x.2.2.2.2.1)).2) ∧ ((r.2.2.1 != (0 : Int)) = false → ∀ (r_1 : Ro [tR, Ty.it IntKind.i64]), r_1 = pR (fmul (toFr x.2.2.1) (toFr x.2.2.2.1)) → ((r_1.2.2.1 != (0 : Int)) = true → ((false, [], [], ()), r_1.2.2) = (pR (wpair (0 : Int) (toFr x.1) (toFr x.2.1) (toFr x.2.2.1) (toFr x.2.2.2.1) x.2.2.2.2.1)).2) ∧ ((r_1.2.2.1 != (0 : Int)) = false → (x.2.2.2.2.1 = true → ∀ (r_2 : Ro [tR, Ty.it IntKind.i64]), r_2 = pR (fsub (toFr r.2.1) (toFr r_1.2.1)) → r_2.2 = (pR (wpair (0 : Int) (toFr x.1) (toFr x.2.1) (toFr x.2.2.1) (toFr x.2.2.2.1) x.2.2.2.2.1)).2) ∧ (x.2.2.2.2.1 = false → ∀ (r_2 : Ro [tR, Ty.it IntKind.i64]), r_2 = pR (fadd (toFr r.2.1) (toFr r_1.2.1)) → r_2.2 = (pR (wpair (0 : Int) (toFr x.1) (toFr x.2.1) (toFr x.2.2.1) (toFr x.2.2.2.1) x.2.2.2.2.1)).2)))) := by kernel_rfl
theorem m_hpair (y : El (.un)) (x : Els [tR, tR, tR, tR, .bo]) (h2 : wfE (.un) y) (h3 : wfEs [tR, tR, tR, tR, .bo] x) :
  (∀ (r : Ro [tR, Ty.it IntKind.i64]), r = pR (fmul (toFr x.1) (toFr x.2.1)) → ((r.2.2.1 != (0 : Int)) = true → ((false, [], [], ()), r.2.2) = (pR (wpair (0 : Int) (toFr x.1) (toFr x.2.1) (toFr x.2.2.1) (toFr x.2.2.2.1) x.2.2.2.2.1)).2) ∧ ((r.2.2.1 != (0 : Int)) = false → ∀ (r_1 : Ro [tR, Ty.it IntKind.i64]), r_1 = pR (fmul (toFr x.2.2.1) (toFr x.2.2.2.1)) → ((r_1.2.2.1 != (0 : Int)) = true → ((false, [], [], ()), r_1.2.2) = (pR (wpair (0 : Int) (toFr x.1) (toFr x.2.1) (toFr x.2.2.1) (toFr x.2.2.2.1) x.2.2.2.2.1)).2) ∧ ((r_1.2.2.1 != (0 : Int)) = false → (x.2.2.2.2.1 = true → ∀ (r_2 : Ro [tR, Ty.it IntKind.i64]), r_2 = pR (fsub (toFr r.2.1) (toFr r_1.2.1)) → r_2.2 = (pR (wpair (0 : Int) (toFr x.1) (toFr x.2.1) (toFr x.2.2.1) (toFr x.2.2.2.1) x.2.2.2.2.1)).2) ∧ (x.2.2.2.2.1 = false → ∀ (r_2 : Ro [tR, Ty.it IntKind.i64]), r_2 = pR (fadd (toFr r.2.1) (toFr r_1.2.1)) → r_2.2 = (pR (wpair (0 : Int) (toFr x.1) (toFr x.2.1) (toFr x.2.2.1) (toFr x.2.2.2.1) x.2.2.2.2.1)).2)))) := by
  obtain ⟨a, b, c, d, l, u⟩ := x
  rintro _ rfl
  refine ⟨fun h => (tR_ (wpair_1 (a := toFr a) (b := toFr b) (c := toFr c) (d := toFr d) (l := l) (ne_ h)) :), fun h => ?_⟩
  rintro _ rfl
  refine ⟨fun k => (tR_ (wpair_2 (a := toFr a) (b := toFr b) (c := toFr c) (d := toFr d) (l := l) (eq_ h) (ne_ k)) :), fun k => ?_⟩
  refine ⟨fun m => ?_, fun m => ?_⟩
  · have m : l = true := m
    subst m
    rintro _ rfl
    exact (tR_ (wpair_3 (a := toFr a) (b := toFr b) (c := toFr c) (d := toFr d) (eq_ h) (eq_ k)) :)
  · have m : l = false := m
    subst m
    rintro _ rfl
    exact (tR_ (wpair_4 (a := toFr a) (b := toFr b) (c := toFr c) (d := toFr d) (eq_ h) (eq_ k)) :)
theorem fo_hpair : FnOk Tryz.prog 139 sp_hpair := fnOk_of (C := c_hpair) iv_hpair Tryz.func139 rfl (by kernel_rfl) tys_ok (prims_cons (spec_prim fo_nMul) (prims_cons (spec_prim fo_nSub) (prims_cons (spec_prim fo_nAdd) prims_nil))) mixed_ (Nat.le_refl _) rfl fun y x h1 h2 h3 h4 =>
  Eq.mpr (w_hpair y x) (m_hpair y x h2 h3)
noncomputable def sp_hMul : Spec := { q := .un, ps := [tG, tG], rs := [tG, .it .i64], fresh := false, pre := fun _ _ => none, post := fun _ x => pG (gmul (toGa x.1) (toGa x.2.1)) }
noncomputable def iv_hMul (y : El sp_hMul.q) (x : Els sp_hMul.ps) : Nat → Option Inv := fun _ => none
noncomputable abbrev c_hMul : Cfg := cfgS (Tryz.f107).ntmps false [(114, sp_hboth.prim), (139, sp_hpair.prim)]
theorem w_hMul (y : El sp_hMul.q) (x : Els sp_hMul.ps) : aW c_hMul (iv_hMul y x) Tryz.f107 sp_hMul y x =
  (∀ (r : Ro [Ty.it IntKind.i64]), r = ((), gchk2 (toGa x.1) (toGa x.2.1), ()) → ((r.2.1 != (0 : Int)) = true → (((false, [], [], ()), (false, [], [], ()), ()), r.2) = (pG (gmul (toGa x.1) (toGa x.2.1))).2) ∧ ((r.2.1 != (0 : Int)) = false → ∀ (r : Ro [tR, Ty.it IntKind.i64]), r = pR (wpair (0 : Int) (toFr x.1.1) (toFr x.2.1.1) (toFr x.1.2.1) (toFr x.2.1.2.1) true) → ((r.2.2.1 != (0 : Int)) = true → (((false, [], [], ()), (false, [], [], ()), ()), r.2.2) = (pG (gmul (toGa x.1) (toGa x.2.1))).2) ∧ ((r.2.2.1 != (0 : Int)) = false → ∀ (r_1 : Ro [tR, Ty.it IntKind.i64]), r_1 = pR (wpair (0 : Int) (toFr x.1.1) (toFr x.2.1.2.1) (toFr x.1.2.1) (toFr x.2.1.1) false) → ((r_1.2.2.1 != (0 : Int)) = true → (((false, [], [], ()), (false, [], [], ()), ()), r_1.2.2) = (pG (gmul (toGa x.1) (toGa x.2.1))).2) ∧ ((r_1.2.2.1 != (0 : Int)) = false → ((r.2.1, r_1.2.1, ()), (0 : Int), ()) = (pG (gmul (toGa x.1) (toGa x.2.1))).2)))) := by kernel_rfl
theorem m_hMul (y : El (.un)) (x : Els [tG, tG]) (h2 : wfE (.un) y) (h3 : wfEs [tG, tG] x) :
  (∀ (r : Ro [Ty.it IntKind.i64]), r = ((), gchk2 (toGa x.1) (toGa x.2.1), ()) → ((r.2.1 != (0 : Int)) = true → (((false, [], [], ()), (false, [], [], ()), ()), r.2) = (pG (gmul (toGa x.1) (toGa x.2.1))).2) ∧ ((r.2.1 != (0 : Int)) = false → ∀ (r : Ro [tR, Ty.it IntKind.i64]), r = pR (wpair (0 : Int) (toFr x.1.1) (toFr x.2.1.1) (toFr x.1.2.1) (toFr x.2.1.2.1) true) → ((r.2.2.1 != (0 : Int)) = true → (((false, [], [], ()), (false, [], [], ()), ()), r.2.2) = (pG (gmul (toGa x.1) (toGa x.2.1))).2) ∧ ((r.2.2.1 != (0 : Int)) = false → ∀ (r_1 : Ro [tR, Ty.it IntKind.i64]), r_1 = pR (wpair (0 : Int) (toFr x.1.1) (toFr x.2.1.2.1) (toFr x.1.2.1) (toFr x.2.1.1) false) → ((r_1.2.2.1 != (0 : Int)) = true → (((false, [], [], ()), (false, [], [], ()), ()), r_1.2.2) = (pG (gmul (toGa x.1) (toGa x.2.1))).2) ∧ ((r_1.2.2.1 != (0 : Int)) = false → ((r.2.1, r_1.2.1, ()), (0 : Int), ()) = (pG (gmul (toGa x.1) (toGa x.2.1))).2)))) := by
  rintro _ rfl
  refine ⟨fun h => (tG_ (gmul_1 (a := toGa x.1) (b := toGa x.2.1) (ne_ h)) :), fun h => ?_⟩
  rintro _ rfl
  refine ⟨fun k => (tG_ (gmul_2 (a := toGa x.1) (b := toGa x.2.1) (eq_ h) (ne_ k)) :), fun k => ?_⟩
  rintro _ rfl
  exact ⟨fun m => (tG_ (gmul_3 (a := toGa x.1) (b := toGa x.2.1) (eq_ h) (eq_ k) (ne_ m)) :), fun m => (tG_ (gmul_4 (a := toGa x.1) (b := toGa x.2.1) (eq_ h) (eq_ k) (eq_ m)) :)⟩
theorem fo_hMul : FnOk Tryz.prog 107 sp_hMul := fnOk_of (C := c_hMul) iv_hMul Tryz.func107 rfl (by kernel_rfl) tys_ok (prims_cons (spec_prim fo_hboth) (prims_cons (spec_prim fo_hpair) prims_nil)) mixed_ (Nat.le_refl _) rfl fun y x h1 h2 h3 h4 =>
  Eq.mpr (w_hMul y x) (m_hMul y x h2 h3)
noncomputable def sp_kSameWords : Spec := { q := .un, ps := [tW32, tW32], rs := [.bo], fresh := true, pre := fun _ _ => none, post := fun _ x => ((), (decide (x.1 = x.2.1), ())) }
noncomputable def iv_kSameWords (y : El sp_kSameWords.q) (x : Els sp_kSameWords.ps) : Nat → Option Inv := fun k => if k = 0 then some { X := Nat, tm := fun i => [(0, .c (.sl (.it .u32) x.1)), (1, .c (.sl (.it .u32) x.2.1)), (5, .c (.sc (.int .i64 i)))], ob := fun _ => [], n := 1, I := fun i => i ≤ x.1.length ∧ x.1.length = x.2.1.length ∧ x.1.take i = x.2.1.take i, μ := fun i => x.1.length - i } else none
noncomputable abbrev c_kSameWords : Cfg := cfgS (Tryz.f66).ntmps false []
theorem w_kSameWords (y : El sp_kSameWords.q) (x : Els sp_kSameWords.ps) : aW c_kSameWords (iv_kSameWords y x) Tryz.f66 sp_kSameWords y x =
  ((((x.1.length : Int) != (x.2.1.length : Int)) = true → (false, ()) = (decide (x.1 = x.2.1), ())) ∧ (((x.1.length : Int) != (x.2.1.length : Int)) = false → (∃ (x_1 : Nat), x.1 = x.1 ∧ x.2.1 = x.2.1 ∧ (↑x_1 : Int) = (0 : Int) ∧ x_1 ≤ List.length x.1 ∧ List.length x.1 = List.length x.2.1 ∧ List.take x_1 x.1 = List.take x_1 x.2.1) ∧ ∀ (x_1 : Nat), x_1 ≤ List.length x.1 ∧ List.length x.1 = List.length x.2.1 ∧ List.take x_1 x.1 = List.take x_1 x.2.1 → (decide ((↑x_1 : Int) < (x.1.length : Int)) = true → ((0 : Int) ≤ (↑x_1 : Int) ∧ (↑x_1 : Int) < (x.1.length : Int)) ∧ ((0 : Int) ≤ (↑x_1 : Int) ∧ (↑x_1 : Int) < (x.2.1.length : Int)) ∧ ((List.getD x.1 (↑x_1 : Int).toNat (dfl (Ty.it IntKind.u32)) != List.getD x.2.1 (↑x_1 : Int).toNat (dfl (Ty.it IntKind.u32))) = true → (false, ()) = (decide (x.1 = x.2.1), ())) ∧ ((List.getD x.1 (↑x_1 : Int).toNat (dfl (Ty.it IntKind.u32)) != List.getD x.2.1 (↑x_1 : Int).toNat (dfl (Ty.it IntKind.u32))) = false → ((-9223372036854775808 : Int) ≤ (↑x_1 : Int) + (1 : Int) ∧ (↑x_1 : Int) + (1 : Int) ≤ (9223372036854775807 : Int)) ∧ ∃ (x' : Nat), x.1 = x.1 ∧ x.2.1 = x.2.1 ∧ (↑x' : Int) = (↑x_1 : Int) + (1 : Int) ∧ (x' ≤ List.length x.1 ∧ List.length x.1 = List.length x.2.1 ∧ List.take x' x.1 = List.take x' x.2.1) ∧ List.length x.1 - x' < List.length x.1 - x_1)) ∧ (decide ((↑x_1 : Int) < (x.1.length : Int)) = false → (true, ()) = (decide (x.1 = x.2.1), ())))) := by kernel_rfl
theorem m_kSameWords (y : El (.un)) (x : Els [tW32, tW32]) (h2 : wfE (.un) y) (h3 : wfEs [tW32, tW32] x) :
  ((((x.1.length : Int) != (x.2.1.length : Int)) = true → (false, ()) = (decide (x.1 = x.2.1), ())) ∧ (((x.1.length : Int) != (x.2.1.length : Int)) = false → (∃ (x_1 : Nat), x.1 = x.1 ∧ x.2.1 = x.2.1 ∧ (↑x_1 : Int) = (0 : Int) ∧ x_1 ≤ List.length x.1 ∧ List.length x.1 = List.length x.2.1 ∧ List.take x_1 x.1 = List.take x_1 x.2.1) ∧ ∀ (x_1 : Nat), x_1 ≤ List.length x.1 ∧ List.length x.1 = List.length x.2.1 ∧ List.take x_1 x.1 = List.take x_1 x.2.1 → (decide ((↑x_1 : Int) < (x.1.length : Int)) = true → ((0 : Int) ≤ (↑x_1 : Int) ∧ (↑x_1 : Int) < (x.1.length : Int)) ∧ ((0 : Int) ≤ (↑x_1 : Int) ∧ (↑x_1 : Int) < (x.2.1.length : Int)) ∧ ((List.getD x.1 (↑x_1 : Int).toNat (dfl (Ty.it IntKind.u32)) != List.getD x.2.1 (↑x_1 : Int).toNat (dfl (Ty.it IntKind.u32))) = true → (false, ()) = (decide (x.1 = x.2.1), ())) ∧ ((List.getD x.1 (↑x_1 : Int).toNat (dfl (Ty.it IntKind.u32)) != List.getD x.2.1 (↑x_1 : Int).toNat (dfl (Ty.it IntKind.u32))) = false → ((-9223372036854775808 : Int) ≤ (↑x_1 : Int) + (1 : Int) ∧ (↑x_1 : Int) + (1 : Int) ≤ (9223372036854775807 : Int)) ∧ ∃ (x' : Nat), x.1 = x.1 ∧ x.2.1 = x.2.1 ∧ (↑x' : Int) = (↑x_1 : Int) + (1 : Int) ∧ (x' ≤ List.length x.1 ∧ List.length x.1 = List.length x.2.1 ∧ List.take x' x.1 = List.take x' x.2.1) ∧ List.length x.1 - x' < List.length x.1 - x_1)) ∧ (decide ((↑x_1 : Int) < (x.1.length : Int)) = false → (true, ()) = (decide (x.1 = x.2.1), ())))) := by
  have hL : x.1.length ≤ 9223372036854775807 := h3.1.1
  refine ⟨fun h => ?_, fun h => ⟨⟨0, rfl, rfl, rfl, Nat.zero_le _, by simpa [Int.ofNat_inj] using h, rfl⟩, fun i hi => ⟨fun hl => ?_, fun hl => ?_⟩⟩⟩
  · have : x.1 ≠ x.2.1 := fun e => by rw [e] at h; simp at h
    rw [decide_eq_false this]
  · obtain ⟨h0, h1, h2⟩ := hi
    have hl := of_decide_eq_true hl
    have a1 : i < x.1.length := by omega
    have a2 : i < x.2.1.length := by omega
    have g1 : x.1.getD ((i : Int)).toNat (dfl (Ty.it IntKind.u32)) = x.1[i] := by
      rw [Int.toNat_natCast, List.getD_eq_getElem?_getD, List.getElem?_eq_getElem a1]; rfl
    have g2 : x.2.1.getD ((i : Int)).toNat (dfl (Ty.it IntKind.u32)) = x.2.1[i] := by
      rw [Int.toNat_natCast, List.getD_eq_getElem?_getD, List.getElem?_eq_getElem a2]; rfl
    rw [g1, g2]
    refine ⟨⟨by omega, hl⟩, ⟨by omega, by omega⟩, fun k => ?_, fun k => ⟨by omega, i + 1, rfl, rfl, rfl, ⟨a1, h1, ?_⟩, by omega⟩⟩
    · have k := bne_iff_ne.1 k
      have : x.1 ≠ x.2.1 := fun e => k (by congr 1)
      rw [decide_eq_false this]
    · have k : x.1[i] = x.2.1[i] := by simpa using k
      rw [List.take_add_one, List.take_add_one, h2, List.getElem?_eq_getElem a1, List.getElem?_eq_getElem a2, k]
  · obtain ⟨h0, h1, h2⟩ := hi
    have hl := of_decide_eq_false hl
    rw [List.take_of_length_le (by omega), List.take_of_length_le (by omega)] at h2
    rw [decide_eq_true h2]
theorem fo_kSameWords : FnOk Tryz.prog 66 sp_kSameWords := fnOk_of (C := c_kSameWords) iv_kSameWords Tryz.func66 rfl (by kernel_rfl) tys_ok prims_nil mixed_ (Nat.le_refl _) rfl fun y x h1 h2 h3 h4 =>
  Eq.mpr (w_kSameWords y x) (m_kSameWords y x h2 h3)
noncomputable def sp_kSameRatio : Spec := { q := .un, ps := [tR, tR], rs := [.bo], fresh := true, pre := fun _ _ => none, post := fun _ x => ((), (decide (toFr x.1 = toFr x.2.1), ())) }
noncomputable def iv_kSameRatio (y : El sp_kSameRatio.q) (x : Els sp_kSameRatio.ps) : Nat → Option Inv := fun _ => none
noncomputable abbrev c_kSameRatio : Cfg := cfgS (Tryz.f17).ntmps false [(66, sp_kSameWords.prim)]
theorem w_kSameRatio (y : El sp_kSameRatio.q) (x : Els sp_kSameRatio.ps) : aW c_kSameRatio (iv_kSameRatio y x) Tryz.f17 sp_kSameRatio y x =
  (((x.1.1 == x.2.1.1) = true → ∀ (r : Ro [Ty.bo]), r = ((), decide (x.1.2.1 = x.2.1.2.1), ()) → (r.2.1 = true → ∀ (r : Ro [Ty.bo]), r = ((), decide (x.1.2.2.1 = x.2.1.2.2.1), ()) → r.2 = (decide (toFr x.1 = toFr x.2.1), ())) ∧ (r.2.1 = false → (false, ()) = (decide (toFr x.1 = toFr x.2.1), ()))) ∧ ((x.1.1 == x.2.1.1) = false → (false, ()) = (decide (toFr x.1 = toFr x.2.1), ()))) := by kernel_rfl
theorem m_kSameRatio (y : El (.un)) (x : Els [tR, tR]) (h2 : wfE (.un) y) (h3 : wfEs [tR, tR] x) :
  (((x.1.1 == x.2.1.1) = true → ∀ (r : Ro [Ty.bo]), r = ((), decide (x.1.2.1 = x.2.1.2.1), ()) → (r.2.1 = true → ∀ (r : Ro [Ty.bo]), r = ((), decide (x.1.2.2.1 = x.2.1.2.2.1), ()) → r.2 = (decide (toFr x.1 = toFr x.2.1), ())) ∧ (r.2.1 = false → (false, ()) = (decide (toFr x.1 = toFr x.2.1), ()))) ∧ ((x.1.1 == x.2.1.1) = false → (false, ()) = (decide (toFr x.1 = toFr x.2.1), ()))) := by
  obtain ⟨⟨s, a, b, _⟩, ⟨t, c, d, _⟩, _⟩ := x
  refine ⟨fun h => ?_, fun h => ?_⟩
  · rintro _ rfl
    refine ⟨fun k => ?_, fun k => ?_⟩
    · rintro _ rfl
      have hs : s = t := by simpa using h
      have hk : a = c := by simpa using k
      subst hs
      subst hk
      simp [toFr]
    · have k : a ≠ c := by simpa using k
      simp [toFr, k]
  · have h : s ≠ t := by simpa using h
    simp [toFr, h]
theorem fo_kSameRatio : FnOk Tryz.prog 17 sp_kSameRatio := fnOk_of (C := c_kSameRatio) iv_kSameRatio Tryz.func17 rfl (by kernel_rfl) tys_ok (prims_cons (spec_prim fo_kSameWords) prims_nil) mixed_ (Nat.le_refl _) rfl fun y x h1 h2 h3 h4 =>
  Eq.mpr (w_kSameRatio y x) (m_kSameRatio y x h2 h3)
noncomputable def sp_kSameGauss : Spec := { q := .un, ps := [tG, tG], rs := [.bo], fresh := true, pre := fun _ _ => none, post := fun _ x => ((), (decide (toGa x.1 = toGa x.2.1), ())) }
noncomputable def iv_kSameGauss (y : El sp_kSameGauss.q) (x : Els sp_kSameGauss.ps) : Nat → Option Inv := fun _ => none
noncomputable abbrev c_kSameGauss : Cfg := cfgS (Tryz.f16).ntmps false [(17, sp_kSameRatio.prim)]
theorem w_kSameGauss (y : El sp_kSameGauss.q) (x : Els sp_kSameGauss.ps) : aW c_kSameGauss (iv_kSameGauss y x) Tryz.f16 sp_kSameGauss y x =
  (∀ (r : Ro [Ty.bo]), r = ((), decide (toFr x.1.1 = toFr x.2.1.1), ()) → (r.2.1 = true → ∀ (r : Ro [Ty.bo]), r = ((), decide (toFr x.1.2.1 = toFr x.2.1.2.1), ()) → r.2 = (decide (toGa x.1 = toGa x.2.1), ())) ∧ (r.2.1 = false → (false, ()) = (decide (toGa x.1 = toGa x.2.1), ()))) := by kernel_rfl
theorem m_kSameGauss (y : El (.un)) (x : Els [tG, tG]) (h2 : wfE (.un) y) (h3 : wfEs [tG, tG] x) :
  (∀ (r : Ro [Ty.bo]), r = ((), decide (toFr x.1.1 = toFr x.2.1.1), ()) → (r.2.1 = true → ∀ (r : Ro [Ty.bo]), r = ((), decide (toFr x.1.2.1 = toFr x.2.1.2.1), ()) → r.2 = (decide (toGa x.1 = toGa x.2.1), ())) ∧ (r.2.1 = false → (false, ()) = (decide (toGa x.1 = toGa x.2.1), ()))) := by
  rintro _ rfl
  refine ⟨fun k => ?_, fun k => ?_⟩
  · rintro _ rfl
    simp_all
  · simp_all
theorem fo_kSameGauss : FnOk Tryz.prog 16 sp_kSameGauss := fnOk_of (C := c_kSameGauss) iv_kSameGauss Tryz.func16 rfl (by kernel_rfl) tys_ok (prims_cons (spec_prim fo_kSameRatio) prims_nil) mixed_ (Nat.le_refl _) rfl fun y x h1 h2 h3 h4 =>
  Eq.mpr (w_kSameGauss y x) (m_kSameGauss y x h2 h3)
section
variable {gp : Option Nat} {Z0 : Nat → Prop} {w0 w w' : World} {D : Nat → Prop} {c : Cf} {T : Nat → Option AV} {O : Store} {a : Act} {N : Nat}
end
section
variable {wb w0 w w' : World} {row : Option Nat} {V : List (Nat × List Value)} {R : List (Adr × Fr)}
end
def lentF (f : Fr) : Fr := ⟨f.neg, f.num ++ marks, f.den ++ marks⟩
theorem wf_app {xs ys : List Int} (h : Wf xs) (k : Wf ys) : Wf (xs ++ ys) := fun x hx => (List.mem_append.1 hx).elim (h x) (k x)
theorem lentF_wf {f : Fr} (h : f.Wf) : (lentF f).Wf := ⟨wf_app h.num wf_marks, wf_app h.den wf_marks⟩
def Few (f : Fr) : Prop := f.num.length ≤ 35184372087808 ∧ f.den.length ≤ 35184372087808
theorem few_zero : Few Fr.zero := ⟨Nat.zero_le _, Nat.zero_le _⟩
theorem few_enc {q : Rat} (h : ¬ lng q = true) : Few (enc q) := by
  have h1 := not_lng h
  exact ⟨by show (wd _).length ≤ _; omega, by show (wd _).length ≤ _; omega⟩
theorem Good.few {t : Fr × Int} (h : Good t) : Few t.1 := by
  by_cases e : t.2 = 0
  · obtain ⟨q, hq, hl⟩ := h.1 e; rw [hq]; exact few_enc hl
  · rw [h.2 e]; exact few_zero
def FewG (a : Ga) : Prop := Few a.re ∧ Few a.im
theorem kLent (f : Fr) (p : Adr) (w : World) (h : RF w p f) (hm : Few f) : Calls Tryz.prog 51 #[.agg #[.bool f.neg, .slice p.A f.num.length p.c, .slice p.B f.den.length p.d]] w fun e w' =>
    ∃ p' : Adr, e = .returned (.agg #[.bool f.neg, .slice p'.A f.num.length p'.c, .slice p'.B f.den.length p'.d]) ∧ OF w' w.heap.size p' (lentF f) ∧ Below w.heap.size w w' :=
  (klentR_any f _ _ _ _ w h.num h.den hm.1 hm.2).mono fun _ _ ⟨A, c, B, d, h1, h2, h3, h4, h5⟩ => ⟨⟨A, c, B, d⟩, h1, ⟨h2, h3, h4, lentF_wf h.wf⟩, h5⟩
abbrev toFrL (x : El tRL) : Fr := ⟨x.1, x.2.1, x.2.2.1⟩
abbrev toGaL (x : El tGL) : Ga := ⟨toFrL x.1, toFrL x.2.1⟩
theorem mks4_words (j : Nat) (us : List Value) (h : (mks 4 (.it .u32))[j]? = some us) : ∃ x, mk3[j]? = some x ∧ us = [.int .u32 x] := by
  have e : mks 4 (.it .u32) = mk3.map fun x => [.int .u32 x] := rfl
  rw [e, List.getElem?_map] at h
  cases hx : mk3[j]? with
  | none => rw [hx] at h; cases h
  | some x => rw [hx] at h; cases h; exact ⟨x, rfl, rfl⟩
theorem rq_lent {Z : Nat → Prop} {w : World} {base : Nat} {A : Option Addr} {c : Nat} {xs : List Int} (h : Own w base A c (xs ++ mk3)) (hw : Wf (xs ++ mk3)) : RQ true Z w base (.lt (.it .u32)) xs [.slice A xs.length c] (blkA A) := by
  unfold RQ
  rw [if_pos rfl]
  rcases h.cases with ⟨_, _, e⟩ | ⟨g, cur, rfl, h1, h2, h3, h4, h5, h6⟩
  · exact absurd e (by simp [mk3])
  · have at_ : ∀ (j : Nat) (hj : j < (xs ++ mk3).length), w.cell? ⟨g, j, none⟩ = some (.int .u32 ((xs ++ mk3)[j]'hj)) := fun j hj => by
      obtain ⟨a, ha, hc⟩ := h.rd.at_ j hj
      cases ha
      rw [nth_lt _ j hj, adr_add] at hc
      simpa using hc
    rw [List.length_append] at h3
    refine rowQ_words (m := 4) h1 h2 h5 h3 h4 (fun x hx => hw x (by simp [hx])) (fun j hj => ?_) (fun j us hj i u hu => ?_)
    · have := at_ j (by rw [List.length_append]; omega)
      rw [List.getElem_append_left hj] at this
      exact this
    · obtain ⟨x, k1, rfl⟩ := mks4_words j us hj
      obtain ⟨hj3, rfl⟩ := List.getElem?_eq_some_iff.1 k1
      cases i with
      | zero =>
        cases hu
        have := at_ (xs.length + j) (by rw [List.length_append]; omega)
        rw [List.getElem_append_right (by omega)] at this
        simpa using this
      | succ i => simp at hu
theorem rd_lent {Z : Nat → Prop} {w : World} {l : List Int} {vs : List Value} (h : RT Z w (.lt (.it .u32)) l vs) : ∃ A c, vs = [.slice A l.length c] ∧ Rd w A c (l ++ mk3) ∧ Wf l := by
  obtain ⟨g, o, c, h1, h2, h3, h4, h5, h6⟩ := h.lt_row
  have el : ∀ (j : Nat) (hj : j < l.length), (0 ≤ l[j] ∧ l[j] ≤ 4294967295) ∧ w.cell? ⟨g, o + j, none⟩ = some (.int .u32 l[j]) := fun j hj => by
    obtain ⟨us, k1, k2⟩ := h5 j hj
    rw [RT] at k1
    obtain ⟨rfl, k3⟩ := k1
    refine ⟨k3, ?_⟩
    have := k2 0 _ rfl
    rw [show o + (j * (Ty.it IntKind.u32).size + 0) = o + j by show o + (j * 1 + 0) = o + j; omega] at this
    exact this
  refine ⟨_, c, h1, ⟨by rw [List.length_append]; exact h2, h3, (fun e => by cases e), fun j hj => ⟨_, rfl, ?_⟩⟩, fun x hx => ?_⟩
  · rw [nth_lt _ j hj, adr_add]
    by_cases hl : j < l.length
    · rw [List.getElem_append_left hl]; exact (el j hl).2
    · rw [List.length_append] at hj
      have hj3 : j - l.length < mk3.length := by omega
      rw [List.getElem_append_right (by omega)]
      have := h6 (j - l.length) [.int .u32 mk3[j - l.length]] (by
        have e : mks 4 (.it .u32) = mk3.map fun x => [.int .u32 x] := rfl
        rw [e, List.getElem?_map, List.getElem?_eq_getElem hj3]; rfl) 0 _ rfl
      rw [show o + l.length * (Ty.it IntKind.u32).size + ((j - l.length) * (Ty.it IntKind.u32).size + 0) = o + j by show o + l.length * 1 + ((j - l.length) * 1 + 0) = o + j; omega] at this
      exact this
  · obtain ⟨j, hj, rfl⟩ := List.getElem_of_mem hx
    have := (el j hj).1
    exact ⟨this.1, Int.lt_of_le_of_lt this.2 (by decide)⟩
theorem rv_frL {Z : Nat → Prop} {w : World} {x : El tRL} {v : Value} (h : RV Z w tRL x v) : ∃ p : Adr, v = .agg #[.bool (toFrL x).neg, .slice p.A (toFrL x).num.length p.c, .slice p.B (toFrL x).den.length p.d] ∧ RF w p (lentF (toFrL x)) ∧ (toFrL x).Wf := by
  unfold RV at h
  rw [if_pos (show tRL.agg = true from rfl)] at h
  obtain ⟨us, rfl, h⟩ := h
  obtain ⟨u1, u2, e, h1, h2⟩ : ∃ u u', us.toList = u ++ u' ∧ RT Z w .bo x.1 u ∧ RT Z w (.pr (.lt (.it .u32)) (.pr (.lt (.it .u32)) .un)) x.2 u' := by rw [RT] at h; exact h
  obtain ⟨u3, u4, rfl, h3, h4⟩ : ∃ u u', u2 = u ++ u' ∧ RT Z w (.lt (.it .u32)) x.2.1 u ∧ RT Z w (.pr (.lt (.it .u32)) .un) x.2.2 u' := by rw [RT] at h2; exact h2
  obtain ⟨u5, u6, rfl, h5, h6⟩ : ∃ u u', u4 = u ++ u' ∧ RT Z w (.lt (.it .u32)) x.2.2.1 u ∧ RT Z w .un x.2.2.2 u' := by rw [RT] at h4; exact h4
  have h1 : u1 = [.bool x.1] := by rw [RT] at h1; exact h1
  have h6 : u6 = [] := by rw [RT] at h6; exact h6
  subst h1 h6
  obtain ⟨A, c, rfl, r1, w1⟩ := rd_lent h3
  obtain ⟨B, d, rfl, r2, w2⟩ := rd_lent h5
  refine ⟨⟨A, c, B, d⟩, ?_, ⟨r1, r2, lentF_wf (f := toFrL x) ⟨w1, w2⟩⟩, w1, w2⟩
  congr 1
  apply Array.ext'
  rw [e]; rfl
def sp_kLent : Spec := { q := .un, ps := [tR], rs := [tRL], fresh := true, pre := fun _ x => some (Few (toFr x.1)), post := fun _ x => ((), (x.1, ())) }
theorem fo_kLent : FnOk Tryz.prog 51 sp_kLent := by
  refine ⟨callFunc_enter Tryz.func51 (by kernel_rfl) rfl, fun Z w gv vs y x hZ hv hc _ _ => ?_⟩
  match vs, hv with
  | [u], ⟨h1, _⟩ =>
    obtain ⟨p, rfl, k1⟩ := rv_fr h1
    refine (kLent _ p w k1 hc).mono ?_
    rintro e w' ⟨p', rfl, o, b⟩
    exact told_new (S := sp_kLent) (r := (x.1, ())) (us := [_]) (bs := blkA p'.A ++ blkA p'.B) rfl rfl (.inl ⟨_, rfl, rfl⟩) hZ ⟨_, [], (List.append_nil _).symm, ⟨_, rfl, ⟨[_], _, [], _, rfl, rfl, ⟨by rw [RT], rfl⟩, [_], [_], _, _, rfl, rfl, rq_lent o.num o.wf.num, [_], [], _, [], rfl, (List.append_nil _).symm, rq_lent o.den o.wf.den, rfl, rfl⟩⟩, rfl⟩ (blkA_nodup o.ap) (blkA_base o) b
def sp_kKept : Spec := { q := .un, ps := [tRL, tR], rs := [.bo], fresh := true, pre := fun _ x => some (toFrL x.1 = toFr x.2.1 ∧ Few (toFr x.2.1)), post := fun _ _ => ((), (true, ())) }
theorem fo_kKept : FnOk Tryz.prog 68 sp_kKept := by
  refine ⟨callFunc_enter Tryz.func68 (by kernel_rfl) rfl, fun Z w gv vs y x hZ hv hc _ _ => ?_⟩
  match vs, hv with
  | [u, v], ⟨h1, h2, _⟩ =>
    obtain ⟨p, rfl, k1, _⟩ := rv_frL h1
    obtain ⟨q, rfl, k2⟩ := rv_fr h2
    obtain ⟨he, hm⟩ : toFrL x.1 = toFr x.2.1 ∧ Few (toFr x.2.1) := hc
    rw [he] at k1 ⊢
    refine (kkeptR_any (toFr x.2.1) _ _ _ _ _ _ _ _ w k1.num k1.den k2.num k2.den hm.1 hm.2).mono ?_
    rintro e w' ⟨rfl, b⟩
    exact told_new (S := sp_kKept) (r := (true, ())) (us := [_]) (bs := []) rfl rfl (.inl ⟨_, rfl, rfl⟩) hZ ⟨[], [], rfl, ⟨by rw [RT], rfl⟩, rfl⟩ List.nodup_nil (fun g hg => by simp at hg) b
noncomputable def sp_kLentG : Spec := { q := .un, ps := [tG], rs := [tGL], fresh := true, pre := fun _ x => some (Few (toFr x.1.1) ∧ Few (toFr x.1.2.1)), post := fun _ x => ((), (x.1, ())) }
noncomputable def iv_kLentG (y : El sp_kLentG.q) (x : Els sp_kLentG.ps) : Nat → Option Inv := fun _ => none
noncomputable abbrev c_kLentG : Cfg := cfgS (Tryz.f50).ntmps false [(51, sp_kLent.prim)]
theorem w_kLentG (y : El sp_kLentG.q) (x : Els sp_kLentG.ps) : aW c_kLentG (iv_kLentG y x) Tryz.f50 sp_kLentG y x =
  (((toFr x.1.1).num.length ≤ (35184372087808 : Nat) ∧ (toFr x.1.1).den.length ≤ (35184372087808 : Nat)) ∧ ∀ (r : Ro [tRL]), r = ((), x.1.1, ()) → ((toFr x.1.2.1).num.length ≤ (35184372087808 : Nat) ∧ (toFr x.1.2.1).den.length ≤ (35184372087808 : Nat)) ∧ ∀ (r_1 : Ro [tRL]), r_1 = ((), x.1.2) → ((r.2.1, r_1.2), ()) = x) := by kernel_rfl
theorem m_kLentG (y : El (.un)) (x : Els [tG]) (h2 : wfE (.un) y) (h3 : wfEs [tG] x) (h4 : Few (toFr x.1.1) ∧ Few (toFr x.1.2.1)) :
  (((toFr x.1.1).num.length ≤ (35184372087808 : Nat) ∧ (toFr x.1.1).den.length ≤ (35184372087808 : Nat)) ∧ ∀ (r : Ro [tRL]), r = ((), x.1.1, ()) → ((toFr x.1.2.1).num.length ≤ (35184372087808 : Nat) ∧ (toFr x.1.2.1).den.length ≤ (35184372087808 : Nat)) ∧ ∀ (r_1 : Ro [tRL]), r_1 = ((), x.1.2) → ((r.2.1, r_1.2), ()) = x) := by
  refine ⟨h4.1, ?_⟩
  rintro _ rfl
  refine ⟨h4.2, ?_⟩
  rintro _ rfl
  rfl
theorem fo_kLentG : FnOk Tryz.prog 50 sp_kLentG := fnOk_of (C := c_kLentG) iv_kLentG Tryz.func50 rfl (by kernel_rfl) tys_ok (prims_cons (spec_prim fo_kLent) prims_nil) mixed_ (Nat.le_refl _) rfl fun y x h1 h2 h3 h4 =>
  Eq.mpr (w_kLentG y x) (m_kLentG y x h2 h3 h4)
noncomputable def sp_kKeptG : Spec := { q := .un, ps := [tGL, tG], rs := [.bo], fresh := true, pre := fun _ x => some (toGaL x.1 = toGa x.2.1 ∧ Few (toFr x.2.1.1) ∧ Few (toFr x.2.1.2.1)), post := fun _ _ => ((), (true, ())) }
noncomputable def iv_kKeptG (y : El sp_kKeptG.q) (x : Els sp_kKeptG.ps) : Nat → Option Inv := fun _ => none
noncomputable abbrev c_kKeptG : Cfg := cfgS (Tryz.f67).ntmps false [(68, sp_kKept.prim)]
theorem w_kKeptG (y : El sp_kKeptG.q) (x : Els sp_kKeptG.ps) : aW c_kKeptG (iv_kKeptG y x) Tryz.f67 sp_kKeptG y x =
  ((toFrL x.1.1 = toFr x.2.1.1 ∧ (toFr x.2.1.1).num.length ≤ (35184372087808 : Nat) ∧ (toFr x.2.1.1).den.length ≤ (35184372087808 : Nat)) ∧ ∀ (r : Ro [Ty.bo]), r = ((), true, ()) → (r.2.1 = true → (toFrL x.1.2.1 = toFr x.2.1.2.1 ∧ (toFr x.2.1.2.1).num.length ≤ (35184372087808 : Nat) ∧ (toFr x.2.1.2.1).den.length ≤ (35184372087808 : Nat)) ∧ ∀ (r : Ro [Ty.bo]), r = ((), true, ()) → r.2 = (true, ())) ∧ (r.2.1 = false → (false, ()) = (true, ()))) := by kernel_rfl
theorem m_kKeptG (y : El (.un)) (x : Els [tGL, tG]) (h2 : wfE (.un) y) (h3 : wfEs [tGL, tG] x) (h4 : toGaL x.1 = toGa x.2.1 ∧ Few (toFr x.2.1.1) ∧ Few (toFr x.2.1.2.1)) :
  ((toFrL x.1.1 = toFr x.2.1.1 ∧ (toFr x.2.1.1).num.length ≤ (35184372087808 : Nat) ∧ (toFr x.2.1.1).den.length ≤ (35184372087808 : Nat)) ∧ ∀ (r : Ro [Ty.bo]), r = ((), true, ()) → (r.2.1 = true → (toFrL x.1.2.1 = toFr x.2.1.2.1 ∧ (toFr x.2.1.2.1).num.length ≤ (35184372087808 : Nat) ∧ (toFr x.2.1.2.1).den.length ≤ (35184372087808 : Nat)) ∧ ∀ (r : Ro [Ty.bo]), r = ((), true, ()) → r.2 = (true, ())) ∧ (r.2.1 = false → (false, ()) = (true, ()))) := by
  obtain ⟨he, h5, h6⟩ := h4
  have e1 : toFrL x.1.1 = toFr x.2.1.1 := congrArg Ga.re he
  have e2 : toFrL x.1.2.1 = toFr x.2.1.2.1 := congrArg Ga.im he
  refine ⟨⟨e1, h5⟩, ?_⟩
  rintro _ rfl
  exact ⟨fun _ => ⟨⟨e2, h6⟩, by rintro _ rfl; rfl⟩, fun h => by cases h⟩
theorem fo_kKeptG : FnOk Tryz.prog 67 sp_kKeptG := fnOk_of (C := c_kKeptG) iv_kKeptG Tryz.func67 rfl (by kernel_rfl) tys_ok (prims_cons (spec_prim fo_kKept) prims_nil) mixed_ (Nat.le_refl _) rfl fun y x h1 h2 h3 h4 =>
  Eq.mpr (w_kKeptG y x) (m_kKeptG y x h2 h3 h4)
def cellsF : List (Adr × Fr) → List Value
  | [] => []
  | (p, f) :: L => .bool f.neg :: .slice p.A f.num.length p.c :: .slice p.B f.den.length p.d :: cellsF L
theorem cellsF_app : ∀ L M : List (Adr × Fr), cellsF (L ++ M) = cellsF L ++ cellsF M
  | [], M => rfl
  | (p, f) :: L, M => by simp only [List.cons_append, cellsF, cellsF_app L M]
theorem cellsF_at : ∀ (L : List (Adr × Fr)) (i : Nat) (p : Adr) (f : Fr), L[i]? = some (p, f) → (cellsF L)[i * 3]? = some (.bool f.neg) ∧ (cellsF L)[i * 3 + 1]? = some (.slice p.A f.num.length p.c) ∧ (cellsF L)[i * 3 + 2]? = some (.slice p.B f.den.length p.d)
  | [], i, p, f, h => by simp at h
  | (q, g) :: L, 0, p, f, h => by simp at h; obtain ⟨rfl, rfl⟩ := h; exact ⟨rfl, rfl, rfl⟩
  | (q, g) :: L, i + 1, p, f, h => by
    obtain ⟨h1, h2, h3⟩ := cellsF_at L i p f (by simpa using h)
    rw [show (i + 1) * 3 = i * 3 + 1 + 1 + 1 by omega]
    simp only [cellsF, List.getElem?_cons_succ]
    exact ⟨h1, h2, h3⟩
def CellsAt (g : Nat) (L : List (Adr × Fr)) (w : World) : Prop := ∀ j u, (cellsF L)[j]? = some u → w.cell? ⟨g, j, none⟩ = some u
def rowA (L : List (Adr × Fr)) (j : Nat) : Option Addr := if j % 2 = 0 then ((L[j / 2]?).map (·.1.A)).getD none else ((L[j / 2]?).map (·.1.B)).getD none
def rowC (L : List (Adr × Fr)) (j : Nat) : Nat := if j % 2 = 0 then ((L[j / 2]?).map (·.1.c)).getD 0 else ((L[j / 2]?).map (·.1.d)).getD 0
def rowX (L : List (Adr × Fr)) (j : Nat) : List Int := if j % 2 = 0 then ((L[j / 2]?).map (·.2.num)).getD [] else ((L[j / 2]?).map (·.2.den)).getD []
theorem row_even {L : List (Adr × Fr)} {i : Nat} {p : Adr} {f : Fr} (h : L[i]? = some (p, f)) : rowA L (2 * i) = p.A ∧ rowC L (2 * i) = p.c ∧ rowX L (2 * i) = f.num := by
  have e1 : 2 * i % 2 = 0 := by omega
  have e2 : 2 * i / 2 = i := by omega
  simp [rowA, rowC, rowX, e1, e2, h]
theorem row_odd {L : List (Adr × Fr)} {i : Nat} {p : Adr} {f : Fr} (h : L[i]? = some (p, f)) : rowA L (2 * i + 1) = p.B ∧ rowC L (2 * i + 1) = p.d ∧ rowX L (2 * i + 1) = f.den := by
  have e1 : (2 * i + 1) % 2 = 1 := by omega
  have e2 : (2 * i + 1) / 2 = i := by omega
  simp [rowA, rowC, rowX, e1, e2, h]
def pick {α : Type} (R : List α) : List Nat → List α
  | [] => []
  | i :: I => match R[i]? with
    | some x => x :: pick R I
    | none => pick R I
section
variable {wb w0 w w' : World} {row : Option Nat} {V : List (Nat × List Value)} {R : List (Adr × Fr)}
end
section
variable {wb w0 w w' : World} {row : Option Nat} {V : List (Nat × List Value)} {R : List (Adr × Fr)}
end
end Go.Proofs.YtakaehdolpmelaaGreat
