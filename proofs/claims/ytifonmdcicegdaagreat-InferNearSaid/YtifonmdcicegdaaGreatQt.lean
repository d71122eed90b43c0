/- Texts of this claim, joined: B6 B7 B8 B9 A26 Y2 U3 Y4 B10 B11 Y5. -/
import Derived.Deep.AppendLies
import Derived.Test.YtifonmdcicegdaaGreatQs
set_option linter.unusedVariables false
set_option linter.unusedSimpArgs false
namespace Go.Proofs.YtifonmdcicegdaaGreat
open Go Go.RowKit

theorem chks2 (e : Int) (r i : El tR) : chks e [r, i] = if e ≠ 0 then e else fchk2 (toFr r) (toFr i) := by
  show (if (if e ≠ 0 then e else fchk (toFr r)) ≠ 0 then (if e ≠ 0 then e else fchk (toFr r)) else fchk (toFr i)) = _
  by_cases h : e ≠ 0
  · simp [h]
  · rw [if_neg h, if_neg h]; rfl
theorem gchks1 (a : El tG) : gchks 0 [a] = gchk (toGa a) := (chks2 0 a.1 a.2.1).trans (if_neg (by simp))
theorem gchks2 (a b : El tG) : gchks 0 [a, b] = gchk2 (toGa a) (toGa b) := by
  show chks (gchks 0 [a]) [b.1, b.2.1] = _
  rw [gchks1, chks2]
  rfl
noncomputable def sp_gAdd : Spec := spG2 gadd
noncomputable def iv_gAdd (y : El sp_gAdd.q) (x : Els sp_gAdd.ps) : Nat → Option Inv := fun _ => none
noncomputable abbrev c_gAdd : Cfg := cfgS (Tryz.f59).ntmps false [(163, sp_asked.prim), (166, sp_wadd.prim), (167, p_told)]
set_option maxRecDepth 100000 in
theorem w_gAdd (y : El sp_gAdd.q) (x : Els sp_gAdd.ps) : aw c_gAdd (iv_gAdd y x) (codeOf Tryz.f59) 0 (retQ c_gAdd sp_gAdd (Tryz.f59).results.toList y x) (startT sp_gAdd x) (startO sp_gAdd y) 1 =
  (∀ (r : El Ty.un × Els [tW.pt]), r = ((), (gchks (0 : Int) [x.fst, x.snd.fst], ()), ()) → ∀ (r_1 : El tW × Els [tR]), r_1 = (((wadd r.snd.fst.fst (toFr x.fst.fst) (toFr x.snd.fst.fst)).snd, ()), ((wadd r.snd.fst.fst (toFr x.fst.fst) (toFr x.snd.fst.fst)).fst.neg, (wadd r.snd.fst.fst (toFr x.fst.fst) (toFr x.snd.fst.fst)).fst.num, (wadd r.snd.fst.fst (toFr x.fst.fst) (toFr x.snd.fst.fst)).fst.den, ()), ()) → ∀ (r : El tW × Els [tR]), r = (((wadd r_1.fst.fst (toFr x.fst.snd.fst) (toFr x.snd.fst.snd.fst)).snd, ()), ((wadd r_1.fst.fst (toFr x.fst.snd.fst) (toFr x.snd.fst.snd.fst)).fst.neg, (wadd r_1.fst.fst (toFr x.fst.snd.fst) (toFr x.snd.fst.snd.fst)).fst.num, (wadd r_1.fst.fst (toFr x.fst.snd.fst) (toFr x.snd.fst.snd.fst)).fst.den, ()), ()) → (((bif decide (r.fst.fst ≠ (0 : Int)) then false else r_1.snd.fst.fst, bif decide (r.fst.fst ≠ (0 : Int)) then [] else r_1.snd.fst.snd.fst, bif decide (r.fst.fst ≠ (0 : Int)) then [] else r_1.snd.fst.snd.snd.fst, ()), (bif decide (r.fst.fst ≠ (0 : Int)) then false else r.snd.fst.fst, bif decide (r.fst.fst ≠ (0 : Int)) then [] else r.snd.fst.snd.fst, bif decide (r.fst.fst ≠ (0 : Int)) then [] else r.snd.fst.snd.snd.fst, ()), ()), r.fst) = ((((gadd (toGa x.fst) (toGa x.snd.fst)).fst.re.neg, (gadd (toGa x.fst) (toGa x.snd.fst)).fst.re.num, (gadd (toGa x.fst) (toGa x.snd.fst)).fst.re.den, ()), ((gadd (toGa x.fst) (toGa x.snd.fst)).fst.im.neg, (gadd (toGa x.fst) (toGa x.snd.fst)).fst.im.num, (gadd (toGa x.fst) (toGa x.snd.fst)).fst.im.den, ()), ()), (gadd (toGa x.fst) (toGa x.snd.fst)).snd, ())) := by kernel_rfl
theorem m_gAdd (y : El (.un)) (x : Els [tG, tG]) (h2 : wfE (.un) y) (h3 : wfEs [tG, tG] x) :
  (∀ (r : El Ty.un × Els [tW.pt]), r = ((), (gchks (0 : Int) [x.fst, x.snd.fst], ()), ()) → ∀ (r_1 : El tW × Els [tR]), r_1 = (((wadd r.snd.fst.fst (toFr x.fst.fst) (toFr x.snd.fst.fst)).snd, ()), ((wadd r.snd.fst.fst (toFr x.fst.fst) (toFr x.snd.fst.fst)).fst.neg, (wadd r.snd.fst.fst (toFr x.fst.fst) (toFr x.snd.fst.fst)).fst.num, (wadd r.snd.fst.fst (toFr x.fst.fst) (toFr x.snd.fst.fst)).fst.den, ()), ()) → ∀ (r : El tW × Els [tR]), r = (((wadd r_1.fst.fst (toFr x.fst.snd.fst) (toFr x.snd.fst.snd.fst)).snd, ()), ((wadd r_1.fst.fst (toFr x.fst.snd.fst) (toFr x.snd.fst.snd.fst)).fst.neg, (wadd r_1.fst.fst (toFr x.fst.snd.fst) (toFr x.snd.fst.snd.fst)).fst.num, (wadd r_1.fst.fst (toFr x.fst.snd.fst) (toFr x.snd.fst.snd.fst)).fst.den, ()), ()) → (((bif decide (r.fst.fst ≠ (0 : Int)) then false else r_1.snd.fst.fst, bif decide (r.fst.fst ≠ (0 : Int)) then [] else r_1.snd.fst.snd.fst, bif decide (r.fst.fst ≠ (0 : Int)) then [] else r_1.snd.fst.snd.snd.fst, ()), (bif decide (r.fst.fst ≠ (0 : Int)) then false else r.snd.fst.fst, bif decide (r.fst.fst ≠ (0 : Int)) then [] else r.snd.fst.snd.fst, bif decide (r.fst.fst ≠ (0 : Int)) then [] else r.snd.fst.snd.snd.fst, ()), ()), r.fst) = ((((gadd (toGa x.fst) (toGa x.snd.fst)).fst.re.neg, (gadd (toGa x.fst) (toGa x.snd.fst)).fst.re.num, (gadd (toGa x.fst) (toGa x.snd.fst)).fst.re.den, ()), ((gadd (toGa x.fst) (toGa x.snd.fst)).fst.im.neg, (gadd (toGa x.fst) (toGa x.snd.fst)).fst.im.num, (gadd (toGa x.fst) (toGa x.snd.fst)).fst.im.den, ()), ()), (gadd (toGa x.fst) (toGa x.snd.fst)).snd, ())) := by
  rintro _ rfl _ rfl _ rfl
  have e : gchks 0 [x.1, x.2.1] = gchk2 (toGa x.1) (toGa x.2.1) := gchks2 _ _
  simp only [e, gadd, gtell]
  split <;> simp_all [Ga.zero, Fr.zero]
set_option maxRecDepth 100000 in
theorem fo_gAdd : FnOk Tryz.prog 59 sp_gAdd := fnOk_of (C := c_gAdd) iv_gAdd Tryz.func59 rfl (by kernel_rfl) tys_ok (prims_cons (spec_prim fo_asked) (prims_cons (spec_prim fo_wadd) (prims_cons pr_told prims_nil))) mixed_ (Nat.le_refl _) rfl fun y x h1 h2 h3 h4 =>
  Eq.mpr (w_gAdd y x) (m_gAdd y x h2 h3)
noncomputable def sp_product : Spec := { q := tW, ps := [tG, tG], rs := [tR, tR], fresh := true, pre := fun _ _ => none, post := fun y x => (((wprod y.1 (toGa x.1) (toGa x.2.1)).2.2, ()), (ofFr (wprod y.1 (toGa x.1) (toGa x.2.1)).1, ofFr (wprod y.1 (toGa x.1) (toGa x.2.1)).2.1, ())) }
noncomputable def iv_product (y : El sp_product.q) (x : Els sp_product.ps) : Nat → Option Inv := fun _ => none
noncomputable abbrev c_product : Cfg := cfgS (Tryz.f174).ntmps true [(178, sp_wmul.prim), (173, sp_wsub.prim), (166, sp_wadd.prim)]
set_option maxRecDepth 100000 in
theorem w_product (y : El sp_product.q) (x : Els sp_product.ps) : aw c_product (iv_product y x) (codeOf Tryz.f174) 0 (retQ c_product sp_product (Tryz.f174).results.toList y x) (startT sp_product x) (startO sp_product y) 1 =
  (∀ (r : El tW × Els [tR]), r = (((wmul y.fst (toFr x.fst.fst) (toFr x.snd.fst.fst)).snd, ()), ((wmul y.fst (toFr x.fst.fst) (toFr x.snd.fst.fst)).fst.neg, (wmul y.fst (toFr x.fst.fst) (toFr x.snd.fst.fst)).fst.num, (wmul y.fst (toFr x.fst.fst) (toFr x.snd.fst.fst)).fst.den, ()), ()) → ∀ (r_1 : El tW × Els [tR]), r_1 = (((wmul r.fst.fst (toFr x.fst.snd.fst) (toFr x.snd.fst.snd.fst)).snd, ()), ((wmul r.fst.fst (toFr x.fst.snd.fst) (toFr x.snd.fst.snd.fst)).fst.neg, (wmul r.fst.fst (toFr x.fst.snd.fst) (toFr x.snd.fst.snd.fst)).fst.num, (wmul r.fst.fst (toFr x.fst.snd.fst) (toFr x.snd.fst.snd.fst)).fst.den, ()), ()) → ∀ (r_2 : El tW × Els [tR]), r_2 = (((wsub r_1.fst.fst (toFr r.snd.fst) (toFr r_1.snd.fst)).snd, ()), ((wsub r_1.fst.fst (toFr r.snd.fst) (toFr r_1.snd.fst)).fst.neg, (wsub r_1.fst.fst (toFr r.snd.fst) (toFr r_1.snd.fst)).fst.num, (wsub r_1.fst.fst (toFr r.snd.fst) (toFr r_1.snd.fst)).fst.den, ()), ()) → ∀ (r : El tW × Els [tR]), r = (((wmul r_2.fst.fst (toFr x.fst.fst) (toFr x.snd.fst.snd.fst)).snd, ()), ((wmul r_2.fst.fst (toFr x.fst.fst) (toFr x.snd.fst.snd.fst)).fst.neg, (wmul r_2.fst.fst (toFr x.fst.fst) (toFr x.snd.fst.snd.fst)).fst.num, (wmul r_2.fst.fst (toFr x.fst.fst) (toFr x.snd.fst.snd.fst)).fst.den, ()), ()) → ∀ (r_3 : El tW × Els [tR]), r_3 = (((wmul r.fst.fst (toFr x.fst.snd.fst) (toFr x.snd.fst.fst)).snd, ()), ((wmul r.fst.fst (toFr x.fst.snd.fst) (toFr x.snd.fst.fst)).fst.neg, (wmul r.fst.fst (toFr x.fst.snd.fst) (toFr x.snd.fst.fst)).fst.num, (wmul r.fst.fst (toFr x.fst.snd.fst) (toFr x.snd.fst.fst)).fst.den, ()), ()) → ∀ (r_4 : El tW × Els [tR]), r_4 = (((wadd r_3.fst.fst (toFr r.snd.fst) (toFr r_3.snd.fst)).snd, ()), ((wadd r_3.fst.fst (toFr r.snd.fst) (toFr r_3.snd.fst)).fst.neg, (wadd r_3.fst.fst (toFr r.snd.fst) (toFr r_3.snd.fst)).fst.num, (wadd r_3.fst.fst (toFr r.snd.fst) (toFr r_3.snd.fst)).fst.den, ()), ()) → (r_4.fst, r_2.snd.fst, r_4.snd) = (((wprod y.fst (toGa x.fst) (toGa x.snd.fst)).snd.snd, ()), ((wprod y.fst (toGa x.fst) (toGa x.snd.fst)).fst.neg, (wprod y.fst (toGa x.fst) (toGa x.snd.fst)).fst.num, (wprod y.fst (toGa x.fst) (toGa x.snd.fst)).fst.den, ()), ((wprod y.fst (toGa x.fst) (toGa x.snd.fst)).snd.fst.neg, (wprod y.fst (toGa x.fst) (toGa x.snd.fst)).snd.fst.num, (wprod y.fst (toGa x.fst) (toGa x.snd.fst)).snd.fst.den, ()), ())) := by kernel_rfl
theorem m_product (y : El (tW)) (x : Els [tG, tG]) (h2 : wfE (tW) y) (h3 : wfEs [tG, tG] x) :
  (∀ (r : El tW × Els [tR]), r = (((wmul y.fst (toFr x.fst.fst) (toFr x.snd.fst.fst)).snd, ()), ((wmul y.fst (toFr x.fst.fst) (toFr x.snd.fst.fst)).fst.neg, (wmul y.fst (toFr x.fst.fst) (toFr x.snd.fst.fst)).fst.num, (wmul y.fst (toFr x.fst.fst) (toFr x.snd.fst.fst)).fst.den, ()), ()) → ∀ (r_1 : El tW × Els [tR]), r_1 = (((wmul r.fst.fst (toFr x.fst.snd.fst) (toFr x.snd.fst.snd.fst)).snd, ()), ((wmul r.fst.fst (toFr x.fst.snd.fst) (toFr x.snd.fst.snd.fst)).fst.neg, (wmul r.fst.fst (toFr x.fst.snd.fst) (toFr x.snd.fst.snd.fst)).fst.num, (wmul r.fst.fst (toFr x.fst.snd.fst) (toFr x.snd.fst.snd.fst)).fst.den, ()), ()) → ∀ (r_2 : El tW × Els [tR]), r_2 = (((wsub r_1.fst.fst (toFr r.snd.fst) (toFr r_1.snd.fst)).snd, ()), ((wsub r_1.fst.fst (toFr r.snd.fst) (toFr r_1.snd.fst)).fst.neg, (wsub r_1.fst.fst (toFr r.snd.fst) (toFr r_1.snd.fst)).fst.num, (wsub r_1.fst.fst (toFr r.snd.fst) (toFr r_1.snd.fst)).fst.den, ()), ()) → ∀ (r : El tW × Els [tR]), r = (((wmul r_2.fst.fst (toFr x.fst.fst) (toFr x.snd.fst.snd.fst)).snd, ()), ((wmul r_2.fst.fst (toFr x.fst.fst) (toFr x.snd.fst.snd.fst)).fst.neg, (wmul r_2.fst.fst (toFr x.fst.fst) (toFr x.snd.fst.snd.fst)).fst.num, (wmul r_2.fst.fst (toFr x.fst.fst) (toFr x.snd.fst.snd.fst)).fst.den, ()), ()) → ∀ (r_3 : El tW × Els [tR]), r_3 = (((wmul r.fst.fst (toFr x.fst.snd.fst) (toFr x.snd.fst.fst)).snd, ()), ((wmul r.fst.fst (toFr x.fst.snd.fst) (toFr x.snd.fst.fst)).fst.neg, (wmul r.fst.fst (toFr x.fst.snd.fst) (toFr x.snd.fst.fst)).fst.num, (wmul r.fst.fst (toFr x.fst.snd.fst) (toFr x.snd.fst.fst)).fst.den, ()), ()) → ∀ (r_4 : El tW × Els [tR]), r_4 = (((wadd r_3.fst.fst (toFr r.snd.fst) (toFr r_3.snd.fst)).snd, ()), ((wadd r_3.fst.fst (toFr r.snd.fst) (toFr r_3.snd.fst)).fst.neg, (wadd r_3.fst.fst (toFr r.snd.fst) (toFr r_3.snd.fst)).fst.num, (wadd r_3.fst.fst (toFr r.snd.fst) (toFr r_3.snd.fst)).fst.den, ()), ()) → (r_4.fst, r_2.snd.fst, r_4.snd) = (((wprod y.fst (toGa x.fst) (toGa x.snd.fst)).snd.snd, ()), ((wprod y.fst (toGa x.fst) (toGa x.snd.fst)).fst.neg, (wprod y.fst (toGa x.fst) (toGa x.snd.fst)).fst.num, (wprod y.fst (toGa x.fst) (toGa x.snd.fst)).fst.den, ()), ((wprod y.fst (toGa x.fst) (toGa x.snd.fst)).snd.fst.neg, (wprod y.fst (toGa x.fst) (toGa x.snd.fst)).snd.fst.num, (wprod y.fst (toGa x.fst) (toGa x.snd.fst)).snd.fst.den, ()), ())) := by
  rintro _ rfl _ rfl _ rfl _ rfl _ rfl _ rfl
  rfl
set_option maxRecDepth 100000 in
theorem fo_product : FnOk Tryz.prog 174 sp_product := fnOk_of (C := c_product) iv_product Tryz.func174 rfl (by kernel_rfl) tys_ok (prims_cons (spec_prim fo_wmul) (prims_cons (spec_prim fo_wsub) (prims_cons (spec_prim fo_wadd) prims_nil))) mixed_ (Nat.le_refl _) rfl fun y x h1 h2 h3 h4 =>
  Eq.mpr (w_product y x) (m_product y x h2 h3)
noncomputable def sp_norm : Spec := { q := tW, ps := [tG], rs := [tR], fresh := true, pre := fun _ _ => none, post := fun y x => (((wnorm y.1 (toGa x.1)).2, ()), (ofFr (wnorm y.1 (toGa x.1)).1, ())) }
noncomputable def iv_norm (y : El sp_norm.q) (x : Els sp_norm.ps) : Nat → Option Inv := fun _ => none
noncomputable abbrev c_norm : Cfg := cfgS (Tryz.f169).ntmps true [(178, sp_wmul.prim), (166, sp_wadd.prim)]
set_option maxRecDepth 100000 in
theorem w_norm (y : El sp_norm.q) (x : Els sp_norm.ps) : aw c_norm (iv_norm y x) (codeOf Tryz.f169) 0 (retQ c_norm sp_norm (Tryz.f169).results.toList y x) (startT sp_norm x) (startO sp_norm y) 1 =
  (∀ (r : El tW × Els [tR]), r = (((wmul y.fst (toFr x.fst.fst) (toFr x.fst.fst)).snd, ()), ((wmul y.fst (toFr x.fst.fst) (toFr x.fst.fst)).fst.neg, (wmul y.fst (toFr x.fst.fst) (toFr x.fst.fst)).fst.num, (wmul y.fst (toFr x.fst.fst) (toFr x.fst.fst)).fst.den, ()), ()) → ∀ (r_1 : El tW × Els [tR]), r_1 = (((wmul r.fst.fst (toFr x.fst.snd.fst) (toFr x.fst.snd.fst)).snd, ()), ((wmul r.fst.fst (toFr x.fst.snd.fst) (toFr x.fst.snd.fst)).fst.neg, (wmul r.fst.fst (toFr x.fst.snd.fst) (toFr x.fst.snd.fst)).fst.num, (wmul r.fst.fst (toFr x.fst.snd.fst) (toFr x.fst.snd.fst)).fst.den, ()), ()) → ∀ (r_2 : El tW × Els [tR]), r_2 = (((wadd r_1.fst.fst (toFr r.snd.fst) (toFr r_1.snd.fst)).snd, ()), ((wadd r_1.fst.fst (toFr r.snd.fst) (toFr r_1.snd.fst)).fst.neg, (wadd r_1.fst.fst (toFr r.snd.fst) (toFr r_1.snd.fst)).fst.num, (wadd r_1.fst.fst (toFr r.snd.fst) (toFr r_1.snd.fst)).fst.den, ()), ()) → r_2 = (((wnorm y.fst (toGa x.fst)).snd, ()), ((wnorm y.fst (toGa x.fst)).fst.neg, (wnorm y.fst (toGa x.fst)).fst.num, (wnorm y.fst (toGa x.fst)).fst.den, ()), ())) := by kernel_rfl
theorem m_norm (y : El (tW)) (x : Els [tG]) (h2 : wfE (tW) y) (h3 : wfEs [tG] x) :
  (∀ (r : El tW × Els [tR]), r = (((wmul y.fst (toFr x.fst.fst) (toFr x.fst.fst)).snd, ()), ((wmul y.fst (toFr x.fst.fst) (toFr x.fst.fst)).fst.neg, (wmul y.fst (toFr x.fst.fst) (toFr x.fst.fst)).fst.num, (wmul y.fst (toFr x.fst.fst) (toFr x.fst.fst)).fst.den, ()), ()) → ∀ (r_1 : El tW × Els [tR]), r_1 = (((wmul r.fst.fst (toFr x.fst.snd.fst) (toFr x.fst.snd.fst)).snd, ()), ((wmul r.fst.fst (toFr x.fst.snd.fst) (toFr x.fst.snd.fst)).fst.neg, (wmul r.fst.fst (toFr x.fst.snd.fst) (toFr x.fst.snd.fst)).fst.num, (wmul r.fst.fst (toFr x.fst.snd.fst) (toFr x.fst.snd.fst)).fst.den, ()), ()) → ∀ (r_2 : El tW × Els [tR]), r_2 = (((wadd r_1.fst.fst (toFr r.snd.fst) (toFr r_1.snd.fst)).snd, ()), ((wadd r_1.fst.fst (toFr r.snd.fst) (toFr r_1.snd.fst)).fst.neg, (wadd r_1.fst.fst (toFr r.snd.fst) (toFr r_1.snd.fst)).fst.num, (wadd r_1.fst.fst (toFr r.snd.fst) (toFr r_1.snd.fst)).fst.den, ()), ()) → r_2 = (((wnorm y.fst (toGa x.fst)).snd, ()), ((wnorm y.fst (toGa x.fst)).fst.neg, (wnorm y.fst (toGa x.fst)).fst.num, (wnorm y.fst (toGa x.fst)).fst.den, ()), ())) := by
  rintro _ rfl _ rfl _ rfl
  rfl
set_option maxRecDepth 100000 in
theorem fo_norm : FnOk Tryz.prog 169 sp_norm := fnOk_of (C := c_norm) iv_norm Tryz.func169 rfl (by kernel_rfl) tys_ok (prims_cons (spec_prim fo_wmul) (prims_cons (spec_prim fo_wadd) prims_nil)) mixed_ (Nat.le_refl _) rfl fun y x h1 h2 h3 h4 =>
  Eq.mpr (w_norm y x) (m_norm y x h2 h3)
noncomputable def sp_gMul : Spec := spG2 gmul
noncomputable def iv_gMul (y : El sp_gMul.q) (x : Els sp_gMul.ps) : Nat → Option Inv := fun _ => none
noncomputable abbrev c_gMul : Cfg := cfgS (Tryz.f63).ntmps false [(163, sp_asked.prim), (174, sp_product.prim), (167, p_told)]
set_option maxRecDepth 100000 in
theorem w_gMul (y : El sp_gMul.q) (x : Els sp_gMul.ps) : aw c_gMul (iv_gMul y x) (codeOf Tryz.f63) 0 (retQ c_gMul sp_gMul (Tryz.f63).results.toList y x) (startT sp_gMul x) (startO sp_gMul y) 1 =
  (∀ (r : El Ty.un × Els [tW.pt]), r = ((), (gchks (0 : Int) [x.fst, x.snd.fst], ()), ()) → ∀ (r_1 : El tW × Els [tR, tR]), r_1 = (((wprod r.snd.fst.fst (toGa x.fst) (toGa x.snd.fst)).snd.snd, ()), ((wprod r.snd.fst.fst (toGa x.fst) (toGa x.snd.fst)).fst.neg, (wprod r.snd.fst.fst (toGa x.fst) (toGa x.snd.fst)).fst.num, (wprod r.snd.fst.fst (toGa x.fst) (toGa x.snd.fst)).fst.den, ()), ((wprod r.snd.fst.fst (toGa x.fst) (toGa x.snd.fst)).snd.fst.neg, (wprod r.snd.fst.fst (toGa x.fst) (toGa x.snd.fst)).snd.fst.num, (wprod r.snd.fst.fst (toGa x.fst) (toGa x.snd.fst)).snd.fst.den, ()), ()) → (((bif decide (r_1.fst.fst ≠ (0 : Int)) then false else r_1.snd.fst.fst, bif decide (r_1.fst.fst ≠ (0 : Int)) then [] else r_1.snd.fst.snd.fst, bif decide (r_1.fst.fst ≠ (0 : Int)) then [] else r_1.snd.fst.snd.snd.fst, ()), (bif decide (r_1.fst.fst ≠ (0 : Int)) then false else r_1.snd.snd.fst.fst, bif decide (r_1.fst.fst ≠ (0 : Int)) then [] else r_1.snd.snd.fst.snd.fst, bif decide (r_1.fst.fst ≠ (0 : Int)) then [] else r_1.snd.snd.fst.snd.snd.fst, ()), ()), r_1.fst) = ((((gmul (toGa x.fst) (toGa x.snd.fst)).fst.re.neg, (gmul (toGa x.fst) (toGa x.snd.fst)).fst.re.num, (gmul (toGa x.fst) (toGa x.snd.fst)).fst.re.den, ()), ((gmul (toGa x.fst) (toGa x.snd.fst)).fst.im.neg, (gmul (toGa x.fst) (toGa x.snd.fst)).fst.im.num, (gmul (toGa x.fst) (toGa x.snd.fst)).fst.im.den, ()), ()), (gmul (toGa x.fst) (toGa x.snd.fst)).snd, ())) := by kernel_rfl
theorem m_gMul (y : El (.un)) (x : Els [tG, tG]) (h2 : wfE (.un) y) (h3 : wfEs [tG, tG] x) :
  (∀ (r : El Ty.un × Els [tW.pt]), r = ((), (gchks (0 : Int) [x.fst, x.snd.fst], ()), ()) → ∀ (r_1 : El tW × Els [tR, tR]), r_1 = (((wprod r.snd.fst.fst (toGa x.fst) (toGa x.snd.fst)).snd.snd, ()), ((wprod r.snd.fst.fst (toGa x.fst) (toGa x.snd.fst)).fst.neg, (wprod r.snd.fst.fst (toGa x.fst) (toGa x.snd.fst)).fst.num, (wprod r.snd.fst.fst (toGa x.fst) (toGa x.snd.fst)).fst.den, ()), ((wprod r.snd.fst.fst (toGa x.fst) (toGa x.snd.fst)).snd.fst.neg, (wprod r.snd.fst.fst (toGa x.fst) (toGa x.snd.fst)).snd.fst.num, (wprod r.snd.fst.fst (toGa x.fst) (toGa x.snd.fst)).snd.fst.den, ()), ()) → (((bif decide (r_1.fst.fst ≠ (0 : Int)) then false else r_1.snd.fst.fst, bif decide (r_1.fst.fst ≠ (0 : Int)) then [] else r_1.snd.fst.snd.fst, bif decide (r_1.fst.fst ≠ (0 : Int)) then [] else r_1.snd.fst.snd.snd.fst, ()), (bif decide (r_1.fst.fst ≠ (0 : Int)) then false else r_1.snd.snd.fst.fst, bif decide (r_1.fst.fst ≠ (0 : Int)) then [] else r_1.snd.snd.fst.snd.fst, bif decide (r_1.fst.fst ≠ (0 : Int)) then [] else r_1.snd.snd.fst.snd.snd.fst, ()), ()), r_1.fst) = ((((gmul (toGa x.fst) (toGa x.snd.fst)).fst.re.neg, (gmul (toGa x.fst) (toGa x.snd.fst)).fst.re.num, (gmul (toGa x.fst) (toGa x.snd.fst)).fst.re.den, ()), ((gmul (toGa x.fst) (toGa x.snd.fst)).fst.im.neg, (gmul (toGa x.fst) (toGa x.snd.fst)).fst.im.num, (gmul (toGa x.fst) (toGa x.snd.fst)).fst.im.den, ()), ()), (gmul (toGa x.fst) (toGa x.snd.fst)).snd, ())) := by
  rintro _ rfl _ rfl
  have e : gchks 0 [x.1, x.2.1] = gchk2 (toGa x.1) (toGa x.2.1) := gchks2 _ _
  simp only [e, gmul, gtell]
  split <;> simp_all [Ga.zero, Fr.zero]
set_option maxRecDepth 100000 in
theorem fo_gMul : FnOk Tryz.prog 63 sp_gMul := fnOk_of (C := c_gMul) iv_gMul Tryz.func63 rfl (by kernel_rfl) tys_ok (prims_cons (spec_prim fo_asked) (prims_cons (spec_prim fo_product) (prims_cons pr_told prims_nil))) mixed_ (Nat.le_refl _) rfl fun y x h1 h2 h3 h4 =>
  Eq.mpr (w_gMul y x) (m_gMul y x h2 h3)
noncomputable def sp_gNorm : Spec := { q := .un, ps := [tG], rs := [tR, .it .i64], fresh := true, pre := fun _ _ => none, post := fun _ x => pR (gnorm (toGa x.1)) }
noncomputable def iv_gNorm (y : El sp_gNorm.q) (x : Els sp_gNorm.ps) : Nat → Option Inv := fun _ => none
noncomputable abbrev c_gNorm : Cfg := cfgS (Tryz.f50).ntmps false [(163, sp_asked.prim), (169, sp_norm.prim)]
set_option maxRecDepth 100000 in
theorem w_gNorm (y : El sp_gNorm.q) (x : Els sp_gNorm.ps) : aw c_gNorm (iv_gNorm y x) (codeOf Tryz.f50) 0 (retQ c_gNorm sp_gNorm (Tryz.f50).results.toList y x) (startT sp_gNorm x) (startO sp_gNorm y) 1 =
  (∀ (r : El Ty.un × Els [tW.pt]), r = ((), (gchks (0 : Int) [x.fst], ()), ()) → ∀ (r_1 : El tW × Els [tR]), r_1 = (((wnorm r.snd.fst.fst (toGa x.fst)).snd, ()), ((wnorm r.snd.fst.fst (toGa x.fst)).fst.neg, (wnorm r.snd.fst.fst (toGa x.fst)).fst.num, (wnorm r.snd.fst.fst (toGa x.fst)).fst.den, ()), ()) → ((r_1.fst.fst != (0 : Int)) = true → ((false, [], [], ()), r_1.fst) = (((gnorm (toGa x.fst)).fst.neg, (gnorm (toGa x.fst)).fst.num, (gnorm (toGa x.fst)).fst.den, ()), (gnorm (toGa x.fst)).snd, ())) ∧ ((r_1.fst.fst != (0 : Int)) = false → (r_1.snd.fst, (0 : Int), ()) = (((gnorm (toGa x.fst)).fst.neg, (gnorm (toGa x.fst)).fst.num, (gnorm (toGa x.fst)).fst.den, ()), (gnorm (toGa x.fst)).snd, ()))) := by kernel_rfl
theorem m_gNorm (y : El (.un)) (x : Els [tG]) (h2 : wfE (.un) y) (h3 : wfEs [tG] x) :
  (∀ (r : El Ty.un × Els [tW.pt]), r = ((), (gchks (0 : Int) [x.fst], ()), ()) → ∀ (r_1 : El tW × Els [tR]), r_1 = (((wnorm r.snd.fst.fst (toGa x.fst)).snd, ()), ((wnorm r.snd.fst.fst (toGa x.fst)).fst.neg, (wnorm r.snd.fst.fst (toGa x.fst)).fst.num, (wnorm r.snd.fst.fst (toGa x.fst)).fst.den, ()), ()) → ((r_1.fst.fst != (0 : Int)) = true → ((false, [], [], ()), r_1.fst) = (((gnorm (toGa x.fst)).fst.neg, (gnorm (toGa x.fst)).fst.num, (gnorm (toGa x.fst)).fst.den, ()), (gnorm (toGa x.fst)).snd, ())) ∧ ((r_1.fst.fst != (0 : Int)) = false → (r_1.snd.fst, (0 : Int), ()) = (((gnorm (toGa x.fst)).fst.neg, (gnorm (toGa x.fst)).fst.num, (gnorm (toGa x.fst)).fst.den, ()), (gnorm (toGa x.fst)).snd, ()))) := by
  rintro _ rfl _ rfl
  have e : gchks 0 [x.1] = gchk (toGa x.1) := gchks1 _
  simp only [e, gnorm]
  refine ⟨fun h => ?_, fun h => ?_⟩
  all_goals simp_all [Fr.zero]
set_option maxRecDepth 100000 in
theorem fo_gNorm : FnOk Tryz.prog 50 sp_gNorm := fnOk_of (C := c_gNorm) iv_gNorm Tryz.func50 rfl (by kernel_rfl) tys_ok (prims_cons (spec_prim fo_asked) (prims_cons (spec_prim fo_norm) prims_nil)) mixed_ (Nat.le_refl _) rfl fun y x h1 h2 h3 h4 =>
  Eq.mpr (w_gNorm y x) (m_gNorm y x h2 h3)
noncomputable def sp_gInt : Spec := { q := .un, ps := [.it .i64, .it .i64], rs := [tG], fresh := true, pre := fun _ _ => none, post := fun _ x => ((), (ofGa ⟨(fsmall x.1 1).1, (fsmall x.2.1 1).1⟩, ())) }
noncomputable def iv_gInt (y : El sp_gInt.q) (x : Els sp_gInt.ps) : Nat → Option Inv := fun _ => none
noncomputable abbrev c_gInt : Cfg := cfgS (Tryz.f52).ntmps false [(165, sp_rSmall.prim)]
set_option maxRecDepth 100000 in
theorem w_gInt (y : El sp_gInt.q) (x : Els sp_gInt.ps) : aw c_gInt (iv_gInt y x) (codeOf Tryz.f52) 0 (retQ c_gInt sp_gInt (Tryz.f52).results.toList y x) (startT sp_gInt x) (startO sp_gInt y) 1 =
  (∀ (r : El Ty.un × Els [tR, Ty.it IntKind.i64]), r = ((), ((fsmall x.fst (1 : Int)).fst.neg, (fsmall x.fst (1 : Int)).fst.num, (fsmall x.fst (1 : Int)).fst.den, ()), (fsmall x.fst (1 : Int)).snd, ()) → ∀ (r_1 : El Ty.un × Els [tR, Ty.it IntKind.i64]), r_1 = ((), ((fsmall x.snd.fst (1 : Int)).fst.neg, (fsmall x.snd.fst (1 : Int)).fst.num, (fsmall x.snd.fst (1 : Int)).fst.den, ()), (fsmall x.snd.fst (1 : Int)).snd, ()) → ((r.snd.fst, r_1.snd.fst, ()), ()) = ((((fsmall x.fst (1 : Int)).fst.neg, (fsmall x.fst (1 : Int)).fst.num, (fsmall x.fst (1 : Int)).fst.den, ()), ((fsmall x.snd.fst (1 : Int)).fst.neg, (fsmall x.snd.fst (1 : Int)).fst.num, (fsmall x.snd.fst (1 : Int)).fst.den, ()), ()), ())) := by kernel_rfl
theorem m_gInt (y : El (.un)) (x : Els [.it .i64, .it .i64]) (h2 : wfE (.un) y) (h3 : wfEs [.it .i64, .it .i64] x) :
  (∀ (r : El Ty.un × Els [tR, Ty.it IntKind.i64]), r = ((), ((fsmall x.fst (1 : Int)).fst.neg, (fsmall x.fst (1 : Int)).fst.num, (fsmall x.fst (1 : Int)).fst.den, ()), (fsmall x.fst (1 : Int)).snd, ()) → ∀ (r_1 : El Ty.un × Els [tR, Ty.it IntKind.i64]), r_1 = ((), ((fsmall x.snd.fst (1 : Int)).fst.neg, (fsmall x.snd.fst (1 : Int)).fst.num, (fsmall x.snd.fst (1 : Int)).fst.den, ()), (fsmall x.snd.fst (1 : Int)).snd, ()) → ((r.snd.fst, r_1.snd.fst, ()), ()) = ((((fsmall x.fst (1 : Int)).fst.neg, (fsmall x.fst (1 : Int)).fst.num, (fsmall x.fst (1 : Int)).fst.den, ()), ((fsmall x.snd.fst (1 : Int)).fst.neg, (fsmall x.snd.fst (1 : Int)).fst.num, (fsmall x.snd.fst (1 : Int)).fst.den, ()), ()), ())) := by
  rintro _ rfl _ rfl
  rfl
set_option maxRecDepth 100000 in
theorem fo_gInt : FnOk Tryz.prog 52 sp_gInt := fnOk_of (C := c_gInt) iv_gInt Tryz.func52 rfl (by kernel_rfl) tys_ok (prims_cons (spec_prim fo_rSmall) prims_nil) mixed_ (Nat.le_refl _) rfl fun y x h1 h2 h3 h4 =>
  Eq.mpr (w_gInt y x) (m_gInt y x h2 h3)
end Go.Proofs.YtifonmdcicegdaaGreat

namespace Go.Proofs.YtifonmdcicegdaaGreat
open Go Go.RowKit

theorem wf_i {l : List Int} (h : wfE tW32 l) : Wf l := fun x hx => ⟨(h.2 x hx).1, Int.lt_of_le_of_lt (h.2 x hx).2 (by decide)⟩
end Go.Proofs.YtifonmdcicegdaaGreat

namespace Go.Proofs.YtifonmdcicegdaaGreat
open Go Go.RowKit

noncomputable def sp_hCheck : Spec := { q := .un, ps := [tG], rs := [.it .i64], fresh := false, pre := fun _ _ => none, post := fun _ x => ((), (gchk (toGa x.1), ())) }
noncomputable def iv_hCheck (y : El sp_hCheck.q) (x : Els sp_hCheck.ps) : Nat → Option Inv := fun _ => none
noncomputable abbrev c_hCheck : Cfg := cfgS (Tryz.f41).ntmps false [(30, sp_nCheck.prim)]
set_option maxRecDepth 100000 in
theorem w_hCheck (y : El sp_hCheck.q) (x : Els sp_hCheck.ps) : aw c_hCheck (iv_hCheck y x) (codeOf Tryz.f41) 0 (retQ c_hCheck sp_hCheck (Tryz.f41).results.toList y x) (startT sp_hCheck x) (startO sp_hCheck y) 1 =
  (∀ (r : El Ty.un × Els [Ty.it IntKind.i64]), r = ((), fchk (toFr x.fst.fst), ()) → ((r.snd.fst != (0 : Int)) = true → r.snd = (gchk (toGa x.fst), ())) ∧ ((r.snd.fst != (0 : Int)) = false → ∀ (r : El Ty.un × Els [Ty.it IntKind.i64]), r = ((), fchk (toFr x.fst.snd.fst), ()) → r.snd = (gchk (toGa x.fst), ()))) := by kernel_rfl
theorem m_hCheck (y : El (.un)) (x : Els [tG]) (h2 : wfE (.un) y) (h3 : wfEs [tG] x) :
  (∀ (r : El Ty.un × Els [Ty.it IntKind.i64]), r = ((), fchk (toFr x.fst.fst), ()) → ((r.snd.fst != (0 : Int)) = true → r.snd = (gchk (toGa x.fst), ())) ∧ ((r.snd.fst != (0 : Int)) = false → ∀ (r : El Ty.un × Els [Ty.it IntKind.i64]), r = ((), fchk (toFr x.fst.snd.fst), ()) → r.snd = (gchk (toGa x.fst), ()))) := by
  rintro _ rfl
  refine ⟨fun h => ?_, fun h => ?_⟩
  · simp_all [gchk, fchk2]
  · rintro _ rfl
    simp_all [gchk, fchk2]
set_option maxRecDepth 100000 in
theorem fo_hCheck : FnOk Tryz.prog 41 sp_hCheck := fnOk_of (C := c_hCheck) iv_hCheck Tryz.func41 rfl (by kernel_rfl) tys_ok (prims_cons (spec_prim fo_nCheck) prims_nil) mixed_ (Nat.le_refl _) rfl fun y x h1 h2 h3 h4 =>
  Eq.mpr (w_hCheck y x) (m_hCheck y x h2 h3)
noncomputable def sp_hboth : Spec := { q := .un, ps := [tG, tG], rs := [.it .i64], fresh := false, pre := fun _ _ => none, post := fun _ x => ((), (gchk2 (toGa x.1) (toGa x.2.1), ())) }
noncomputable def iv_hboth (y : El sp_hboth.q) (x : Els sp_hboth.ps) : Nat → Option Inv := fun _ => none
noncomputable abbrev c_hboth : Cfg := cfgS (Tryz.f164).ntmps false [(41, sp_hCheck.prim)]
set_option maxRecDepth 100000 in
theorem w_hboth (y : El sp_hboth.q) (x : Els sp_hboth.ps) : aw c_hboth (iv_hboth y x) (codeOf Tryz.f164) 0 (retQ c_hboth sp_hboth (Tryz.f164).results.toList y x) (startT sp_hboth x) (startO sp_hboth y) 1 =
  (∀ (r : El Ty.un × Els [Ty.it IntKind.i64]), r = ((), gchk (toGa x.fst), ()) → ((r.snd.fst != (0 : Int)) = true → r.snd = (gchk2 (toGa x.fst) (toGa x.snd.fst), ())) ∧ ((r.snd.fst != (0 : Int)) = false → ∀ (r : El Ty.un × Els [Ty.it IntKind.i64]), r = ((), gchk (toGa x.snd.fst), ()) → r.snd = (gchk2 (toGa x.fst) (toGa x.snd.fst), ()))) := by kernel_rfl
theorem m_hboth (y : El (.un)) (x : Els [tG, tG]) (h2 : wfE (.un) y) (h3 : wfEs [tG, tG] x) :
  (∀ (r : El Ty.un × Els [Ty.it IntKind.i64]), r = ((), gchk (toGa x.fst), ()) → ((r.snd.fst != (0 : Int)) = true → r.snd = (gchk2 (toGa x.fst) (toGa x.snd.fst), ())) ∧ ((r.snd.fst != (0 : Int)) = false → ∀ (r : El Ty.un × Els [Ty.it IntKind.i64]), r = ((), gchk (toGa x.snd.fst), ()) → r.snd = (gchk2 (toGa x.fst) (toGa x.snd.fst), ()))) := by
  rintro _ rfl
  refine ⟨fun h => ?_, fun h => ?_⟩
  · simp_all [gchk2]
  · rintro _ rfl
    simp_all [gchk2]
set_option maxRecDepth 100000 in
theorem fo_hboth : FnOk Tryz.prog 164 sp_hboth := fnOk_of (C := c_hboth) iv_hboth Tryz.func164 rfl (by kernel_rfl) tys_ok (prims_cons (spec_prim fo_hCheck) prims_nil) mixed_ (Nat.le_refl _) rfl fun y x h1 h2 h3 h4 =>
  Eq.mpr (w_hboth y x) (m_hboth y x h2 h3)
theorem ne_ {e : Int} (h : (e != 0) = true) : e ≠ 0 := by simpa using h
theorem eq_ {e : Int} (h : (e != 0) = false) : e = 0 := by simpa using h
theorem tG_ {t u : Ga × Int} (h : t = u) : (pG u).2 = (pG t).2 := by rw [h]
theorem tR_ {t u : Fr × Int} (h : t = u) : (pR u).2 = (pR t).2 := by rw [h]
noncomputable def sp_hAdd : Spec := { q := .un, ps := [tG, tG], rs := [tG, .it .i64], fresh := false, pre := fun _ _ => none, post := fun _ x => pG (gadd (toGa x.1) (toGa x.2.1)) }
noncomputable def iv_hAdd (y : El sp_hAdd.q) (x : Els sp_hAdd.ps) : Nat → Option Inv := fun _ => none
noncomputable abbrev c_hAdd : Cfg := cfgS (Tryz.f60).ntmps false [(164, sp_hboth.prim), (15, sp_nAdd.prim)]
set_option maxRecDepth 100000 in
theorem w_hAdd (y : El sp_hAdd.q) (x : Els sp_hAdd.ps) : aw c_hAdd (iv_hAdd y x) (codeOf Tryz.f60) 0 (retQ c_hAdd sp_hAdd (Tryz.f60).results.toList y x) (startT sp_hAdd x) (startO sp_hAdd y) 1 =
  (∀ (r : El Ty.un × Els [Ty.it IntKind.i64]), r = ((), gchk2 (toGa x.fst) (toGa x.snd.fst), ()) → ((r.snd.fst != (0 : Int)) = true → (((false, [], [], ()), (false, [], [], ()), ()), r.snd) = (pG (gadd (toGa x.fst) (toGa x.snd.fst))).snd) ∧ ((r.snd.fst != (0 : Int)) = false → ∀ (r : El Ty.un × Els [tR, Ty.it IntKind.i64]), r = pR (fadd (toFr x.fst.fst) (toFr x.snd.fst.fst)) → ((r.snd.snd.fst != (0 : Int)) = true → (((false, [], [], ()), (false, [], [], ()), ()), r.snd.snd) = (pG (gadd (toGa x.fst) (toGa x.snd.fst))).snd) ∧ ((r.snd.snd.fst != (0 : Int)) = false → ∀ (r_1 : El Ty.un × Els [tR, Ty.it IntKind.i64]), r_1 = pR (fadd (toFr x.fst.snd.fst) (toFr x.snd.fst.snd.fst)) → ((r_1.snd.snd.fst != (0 : Int)) = true → (((false, [], [], ()), (false, [], [], ()), ()), r_1.snd.snd) = (pG (gadd (toGa x.fst) (toGa x.snd.fst))).snd) ∧ ((r_1.snd.snd.fst != (0 : Int)) = false → ((r.snd.fst, r_1.snd.fst, ()), (0 : Int), ()) = (pG (gadd (toGa x.fst) (toGa x.snd.fst))).snd)))) := by kernel_rfl
theorem m_hAdd (y : El (.un)) (x : Els [tG, tG]) (h2 : wfE (.un) y) (h3 : wfEs [tG, tG] x) :
  (∀ (r : El Ty.un × Els [Ty.it IntKind.i64]), r = ((), gchk2 (toGa x.fst) (toGa x.snd.fst), ()) → ((r.snd.fst != (0 : Int)) = true → (((false, [], [], ()), (false, [], [], ()), ()), r.snd) = (pG (gadd (toGa x.fst) (toGa x.snd.fst))).snd) ∧ ((r.snd.fst != (0 : Int)) = false → ∀ (r : El Ty.un × Els [tR, Ty.it IntKind.i64]), r = pR (fadd (toFr x.fst.fst) (toFr x.snd.fst.fst)) → ((r.snd.snd.fst != (0 : Int)) = true → (((false, [], [], ()), (false, [], [], ()), ()), r.snd.snd) = (pG (gadd (toGa x.fst) (toGa x.snd.fst))).snd) ∧ ((r.snd.snd.fst != (0 : Int)) = false → ∀ (r_1 : El Ty.un × Els [tR, Ty.it IntKind.i64]), r_1 = pR (fadd (toFr x.fst.snd.fst) (toFr x.snd.fst.snd.fst)) → ((r_1.snd.snd.fst != (0 : Int)) = true → (((false, [], [], ()), (false, [], [], ()), ()), r_1.snd.snd) = (pG (gadd (toGa x.fst) (toGa x.snd.fst))).snd) ∧ ((r_1.snd.snd.fst != (0 : Int)) = false → ((r.snd.fst, r_1.snd.fst, ()), (0 : Int), ()) = (pG (gadd (toGa x.fst) (toGa x.snd.fst))).snd)))) := by
  rintro _ rfl
  refine ⟨fun h => (tG_ (gadd_1 (a := toGa x.1) (b := toGa x.2.1) (ne_ h)) :), fun h => ?_⟩
  rintro _ rfl
  refine ⟨fun k => (tG_ (gadd_2 (a := toGa x.1) (b := toGa x.2.1) (eq_ h) (ne_ k)) :), fun k => ?_⟩
  rintro _ rfl
  exact ⟨fun m => (tG_ (gadd_3 (a := toGa x.1) (b := toGa x.2.1) (eq_ h) (eq_ k) (ne_ m)) :), fun m => (tG_ (gadd_4 (a := toGa x.1) (b := toGa x.2.1) (eq_ h) (eq_ k) (eq_ m)) :)⟩
set_option maxRecDepth 100000 in
theorem fo_hAdd : FnOk Tryz.prog 60 sp_hAdd := fnOk_of (C := c_hAdd) iv_hAdd Tryz.func60 rfl (by kernel_rfl) tys_ok (prims_cons (spec_prim fo_hboth) (prims_cons (spec_prim fo_nAdd) prims_nil)) mixed_ (Nat.le_refl _) rfl fun y x h1 h2 h3 h4 =>
  Eq.mpr (w_hAdd y x) (m_hAdd y x h2 h3)
noncomputable def sp_hConj : Spec := { q := .un, ps := [tG], rs := [tG, .it .i64], fresh := false, pre := fun _ _ => none, post := fun _ x => pG (gconj (toGa x.1)) }
noncomputable def iv_hConj (y : El sp_hConj.q) (x : Els sp_hConj.ps) : Nat → Option Inv := fun _ => none
noncomputable abbrev c_hConj : Cfg := cfgS (Tryz.f47).ntmps false [(41, sp_hCheck.prim), (24, sp_nNeg.prim)]
set_option maxRecDepth 100000 in
theorem w_hConj (y : El sp_hConj.q) (x : Els sp_hConj.ps) : aw c_hConj (iv_hConj y x) (codeOf Tryz.f47) 0 (retQ c_hConj sp_hConj (Tryz.f47).results.toList y x) (startT sp_hConj x) (startO sp_hConj y) 1 =
  (∀ (r : El Ty.un × Els [Ty.it IntKind.i64]), r = ((), gchk (toGa x.fst), ()) → ((r.snd.fst != (0 : Int)) = true → (((false, [], [], ()), (false, [], [], ()), ()), r.snd) = (pG (gconj (toGa x.fst))).snd) ∧ ((r.snd.fst != (0 : Int)) = false → ∀ (r : El Ty.un × Els [tR, Ty.it IntKind.i64]), r = pR (fneg (toFr x.fst.snd.fst)) → ((x.fst.fst, r.snd.fst, ()), (0 : Int), ()) = (pG (gconj (toGa x.fst))).snd)) := by kernel_rfl
theorem m_hConj (y : El (.un)) (x : Els [tG]) (h2 : wfE (.un) y) (h3 : wfEs [tG] x) :
  (∀ (r : El Ty.un × Els [Ty.it IntKind.i64]), r = ((), gchk (toGa x.fst), ()) → ((r.snd.fst != (0 : Int)) = true → (((false, [], [], ()), (false, [], [], ()), ()), r.snd) = (pG (gconj (toGa x.fst))).snd) ∧ ((r.snd.fst != (0 : Int)) = false → ∀ (r : El Ty.un × Els [tR, Ty.it IntKind.i64]), r = pR (fneg (toFr x.fst.snd.fst)) → ((x.fst.fst, r.snd.fst, ()), (0 : Int), ()) = (pG (gconj (toGa x.fst))).snd)) := by
  rintro _ rfl
  refine ⟨fun h => (tG_ (gconj_1 (a := toGa x.1) (ne_ h)) :), fun h => ?_⟩
  rintro _ rfl
  exact (tG_ (gconj_2 (a := toGa x.1) (eq_ h)) :)
set_option maxRecDepth 100000 in
theorem fo_hConj : FnOk Tryz.prog 47 sp_hConj := fnOk_of (C := c_hConj) iv_hConj Tryz.func47 rfl (by kernel_rfl) tys_ok (prims_cons (spec_prim fo_hCheck) (prims_cons (spec_prim fo_nNeg) prims_nil)) mixed_ (Nat.le_refl _) rfl fun y x h1 h2 h3 h4 =>
  Eq.mpr (w_hConj y x) (m_hConj y x h2 h3)
noncomputable def sp_hpair : Spec := { q := .un, ps := [tR, tR, tR, tR, .bo], rs := [tR, .it .i64], fresh := false, pre := fun _ _ => none, post := fun _ x => pR (wpair 0 (toFr x.1) (toFr x.2.1) (toFr x.2.2.1) (toFr x.2.2.2.1) x.2.2.2.2.1) }
noncomputable def iv_hpair (y : El sp_hpair.q) (x : Els sp_hpair.ps) : Nat → Option Inv := fun _ => none
noncomputable abbrev c_hpair : Cfg := cfgS (Tryz.f170).ntmps false [(20, sp_nMul.prim), (18, sp_nSub.prim), (15, sp_nAdd.prim)]
set_option maxRecDepth 100000 in
theorem w_hpair (y : El sp_hpair.q) (x : Els sp_hpair.ps) : aw c_hpair (iv_hpair y x) (codeOf Tryz.f170) 0 (retQ c_hpair sp_hpair (Tryz.f170).results.toList y x) (startT sp_hpair x) (startO sp_hpair y) 1 =
  (∀ (r : El Ty.un × Els [tR, Ty.it IntKind.i64]), r = pR (fmul (toFr x.fst) (toFr x.snd.fst)) → ((r.snd.snd.fst != (0 : Int)) = true → ((false, [], [], ()), r.snd.snd) = (pR (wpair (0 : Int) (toFr x.fst) (toFr x.snd.fst) (toFr x.snd.snd.fst) (toFr x.snd.snd.snd.fst) x.snd.snd.snd.snd.fst)).snd) ∧ ((r.snd.snd.fst != (0 : Int)) = false → ∀ (r_1 : El Ty.un × Els [tR, Ty.it IntKind.i64]), r_1 = pR (fmul (toFr x.snd.snd.fst) (toFr x.snd.snd.snd.fst)) → ((r_1.snd.snd.fst != (0 : Int)) = true → ((false, [], [], ()), r_1.snd.snd) = (pR (wpair (0 : Int) (toFr x.fst) (toFr x.snd.fst) (toFr x.snd.snd.fst) (toFr x.snd.snd.snd.fst) x.snd.snd.snd.snd.fst)).snd) ∧ ((r_1.snd.snd.fst != (0 : Int)) = false → (x.snd.snd.snd.snd.fst = true → ∀ (r_2 : El Ty.un × Els [tR, Ty.it IntKind.i64]), r_2 = pR (fsub (toFr r.snd.fst) (toFr r_1.snd.fst)) → r_2.snd = (pR (wpair (0 : Int) (toFr x.fst) (toFr x.snd.fst) (toFr x.snd.snd.fst) (toFr x.snd.snd.snd.fst) x.snd.snd.snd.snd.fst)).snd) ∧ (x.snd.snd.snd.snd.fst = false → ∀ (r_2 : El Ty.un × Els [tR, Ty.it IntKind.i64]), r_2 = pR (fadd (toFr r.snd.fst) (toFr r_1.snd.fst)) → r_2.snd = (pR (wpair (0 : Int) (toFr x.fst) (toFr x.snd.fst) (toFr x.snd.snd.fst) (toFr x.snd.snd.snd.fst) x.snd.snd.snd.snd.fst)).snd)))) := by kernel_rfl
theorem m_hpair (y : El (.un)) (x : Els [tR, tR, tR, tR, .bo]) (h2 : wfE (.un) y) (h3 : wfEs [tR, tR, tR, tR, .bo] x) :
  (∀ (r : El Ty.un × Els [tR, Ty.it IntKind.i64]), r = pR (fmul (toFr x.fst) (toFr x.snd.fst)) → ((r.snd.snd.fst != (0 : Int)) = true → ((false, [], [], ()), r.snd.snd) = (pR (wpair (0 : Int) (toFr x.fst) (toFr x.snd.fst) (toFr x.snd.snd.fst) (toFr x.snd.snd.snd.fst) x.snd.snd.snd.snd.fst)).snd) ∧ ((r.snd.snd.fst != (0 : Int)) = false → ∀ (r_1 : El Ty.un × Els [tR, Ty.it IntKind.i64]), r_1 = pR (fmul (toFr x.snd.snd.fst) (toFr x.snd.snd.snd.fst)) → ((r_1.snd.snd.fst != (0 : Int)) = true → ((false, [], [], ()), r_1.snd.snd) = (pR (wpair (0 : Int) (toFr x.fst) (toFr x.snd.fst) (toFr x.snd.snd.fst) (toFr x.snd.snd.snd.fst) x.snd.snd.snd.snd.fst)).snd) ∧ ((r_1.snd.snd.fst != (0 : Int)) = false → (x.snd.snd.snd.snd.fst = true → ∀ (r_2 : El Ty.un × Els [tR, Ty.it IntKind.i64]), r_2 = pR (fsub (toFr r.snd.fst) (toFr r_1.snd.fst)) → r_2.snd = (pR (wpair (0 : Int) (toFr x.fst) (toFr x.snd.fst) (toFr x.snd.snd.fst) (toFr x.snd.snd.snd.fst) x.snd.snd.snd.snd.fst)).snd) ∧ (x.snd.snd.snd.snd.fst = false → ∀ (r_2 : El Ty.un × Els [tR, Ty.it IntKind.i64]), r_2 = pR (fadd (toFr r.snd.fst) (toFr r_1.snd.fst)) → r_2.snd = (pR (wpair (0 : Int) (toFr x.fst) (toFr x.snd.fst) (toFr x.snd.snd.fst) (toFr x.snd.snd.snd.fst) x.snd.snd.snd.snd.fst)).snd)))) := by
  obtain ⟨a, b, c, d, l, u⟩ := x
  rintro _ rfl
  refine ⟨fun h => (tR_ (wpair_1 (a := toFr a) (b := toFr b) (c := toFr c) (d := toFr d) (l := l) (ne_ h)) :), fun h => ?_⟩
  rintro _ rfl
  refine ⟨fun k => (tR_ (wpair_2 (a := toFr a) (b := toFr b) (c := toFr c) (d := toFr d) (l := l) (eq_ h) (ne_ k)) :), fun k => ?_⟩
  refine ⟨fun m => ?_, fun m => ?_⟩
  · have m : l = true := m
    subst m
    rintro _ rfl
    exact (tR_ (wpair_3 (a := toFr a) (b := toFr b) (c := toFr c) (d := toFr d) (eq_ h) (eq_ k)) :)
  · have m : l = false := m
    subst m
    rintro _ rfl
    exact (tR_ (wpair_4 (a := toFr a) (b := toFr b) (c := toFr c) (d := toFr d) (eq_ h) (eq_ k)) :)
set_option maxRecDepth 100000 in
theorem fo_hpair : FnOk Tryz.prog 170 sp_hpair := fnOk_of (C := c_hpair) iv_hpair Tryz.func170 rfl (by kernel_rfl) tys_ok (prims_cons (spec_prim fo_nMul) (prims_cons (spec_prim fo_nSub) (prims_cons (spec_prim fo_nAdd) prims_nil))) mixed_ (Nat.le_refl _) rfl fun y x h1 h2 h3 h4 =>
  Eq.mpr (w_hpair y x) (m_hpair y x h2 h3)
noncomputable def sp_hMul : Spec := { q := .un, ps := [tG, tG], rs := [tG, .it .i64], fresh := false, pre := fun _ _ => none, post := fun _ x => pG (gmul (toGa x.1) (toGa x.2.1)) }
noncomputable def iv_hMul (y : El sp_hMul.q) (x : Els sp_hMul.ps) : Nat → Option Inv := fun _ => none
noncomputable abbrev c_hMul : Cfg := cfgS (Tryz.f64).ntmps false [(164, sp_hboth.prim), (170, sp_hpair.prim)]
set_option maxRecDepth 100000 in
theorem w_hMul (y : El sp_hMul.q) (x : Els sp_hMul.ps) : aw c_hMul (iv_hMul y x) (codeOf Tryz.f64) 0 (retQ c_hMul sp_hMul (Tryz.f64).results.toList y x) (startT sp_hMul x) (startO sp_hMul y) 1 =
  (∀ (r : El Ty.un × Els [Ty.it IntKind.i64]), r = ((), gchk2 (toGa x.fst) (toGa x.snd.fst), ()) → ((r.snd.fst != (0 : Int)) = true → (((false, [], [], ()), (false, [], [], ()), ()), r.snd) = (pG (gmul (toGa x.fst) (toGa x.snd.fst))).snd) ∧ ((r.snd.fst != (0 : Int)) = false → ∀ (r : El Ty.un × Els [tR, Ty.it IntKind.i64]), r = pR (wpair (0 : Int) (toFr x.fst.fst) (toFr x.snd.fst.fst) (toFr x.fst.snd.fst) (toFr x.snd.fst.snd.fst) true) → ((r.snd.snd.fst != (0 : Int)) = true → (((false, [], [], ()), (false, [], [], ()), ()), r.snd.snd) = (pG (gmul (toGa x.fst) (toGa x.snd.fst))).snd) ∧ ((r.snd.snd.fst != (0 : Int)) = false → ∀ (r_1 : El Ty.un × Els [tR, Ty.it IntKind.i64]), r_1 = pR (wpair (0 : Int) (toFr x.fst.fst) (toFr x.snd.fst.snd.fst) (toFr x.fst.snd.fst) (toFr x.snd.fst.fst) false) → ((r_1.snd.snd.fst != (0 : Int)) = true → (((false, [], [], ()), (false, [], [], ()), ()), r_1.snd.snd) = (pG (gmul (toGa x.fst) (toGa x.snd.fst))).snd) ∧ ((r_1.snd.snd.fst != (0 : Int)) = false → ((r.snd.fst, r_1.snd.fst, ()), (0 : Int), ()) = (pG (gmul (toGa x.fst) (toGa x.snd.fst))).snd)))) := by kernel_rfl
theorem m_hMul (y : El (.un)) (x : Els [tG, tG]) (h2 : wfE (.un) y) (h3 : wfEs [tG, tG] x) :
  (∀ (r : El Ty.un × Els [Ty.it IntKind.i64]), r = ((), gchk2 (toGa x.fst) (toGa x.snd.fst), ()) → ((r.snd.fst != (0 : Int)) = true → (((false, [], [], ()), (false, [], [], ()), ()), r.snd) = (pG (gmul (toGa x.fst) (toGa x.snd.fst))).snd) ∧ ((r.snd.fst != (0 : Int)) = false → ∀ (r : El Ty.un × Els [tR, Ty.it IntKind.i64]), r = pR (wpair (0 : Int) (toFr x.fst.fst) (toFr x.snd.fst.fst) (toFr x.fst.snd.fst) (toFr x.snd.fst.snd.fst) true) → ((r.snd.snd.fst != (0 : Int)) = true → (((false, [], [], ()), (false, [], [], ()), ()), r.snd.snd) = (pG (gmul (toGa x.fst) (toGa x.snd.fst))).snd) ∧ ((r.snd.snd.fst != (0 : Int)) = false → ∀ (r_1 : El Ty.un × Els [tR, Ty.it IntKind.i64]), r_1 = pR (wpair (0 : Int) (toFr x.fst.fst) (toFr x.snd.fst.snd.fst) (toFr x.fst.snd.fst) (toFr x.snd.fst.fst) false) → ((r_1.snd.snd.fst != (0 : Int)) = true → (((false, [], [], ()), (false, [], [], ()), ()), r_1.snd.snd) = (pG (gmul (toGa x.fst) (toGa x.snd.fst))).snd) ∧ ((r_1.snd.snd.fst != (0 : Int)) = false → ((r.snd.fst, r_1.snd.fst, ()), (0 : Int), ()) = (pG (gmul (toGa x.fst) (toGa x.snd.fst))).snd)))) := by
  rintro _ rfl
  refine ⟨fun h => (tG_ (gmul_1 (a := toGa x.1) (b := toGa x.2.1) (ne_ h)) :), fun h => ?_⟩
  rintro _ rfl
  refine ⟨fun k => (tG_ (gmul_2 (a := toGa x.1) (b := toGa x.2.1) (eq_ h) (ne_ k)) :), fun k => ?_⟩
  rintro _ rfl
  exact ⟨fun m => (tG_ (gmul_3 (a := toGa x.1) (b := toGa x.2.1) (eq_ h) (eq_ k) (ne_ m)) :), fun m => (tG_ (gmul_4 (a := toGa x.1) (b := toGa x.2.1) (eq_ h) (eq_ k) (eq_ m)) :)⟩
set_option maxRecDepth 100000 in
theorem fo_hMul : FnOk Tryz.prog 64 sp_hMul := fnOk_of (C := c_hMul) iv_hMul Tryz.func64 rfl (by kernel_rfl) tys_ok (prims_cons (spec_prim fo_hboth) (prims_cons (spec_prim fo_hpair) prims_nil)) mixed_ (Nat.le_refl _) rfl fun y x h1 h2 h3 h4 =>
  Eq.mpr (w_hMul y x) (m_hMul y x h2 h3)
noncomputable def sp_hNorm : Spec := { q := .un, ps := [tG], rs := [tR, .it .i64], fresh := false, pre := fun _ _ => none, post := fun _ x => pR (gnorm (toGa x.1)) }
noncomputable def iv_hNorm (y : El sp_hNorm.q) (x : Els sp_hNorm.ps) : Nat → Option Inv := fun _ => none
noncomputable abbrev c_hNorm : Cfg := cfgS (Tryz.f51).ntmps false [(41, sp_hCheck.prim), (170, sp_hpair.prim)]
set_option maxRecDepth 100000 in
theorem w_hNorm (y : El sp_hNorm.q) (x : Els sp_hNorm.ps) : aw c_hNorm (iv_hNorm y x) (codeOf Tryz.f51) 0 (retQ c_hNorm sp_hNorm (Tryz.f51).results.toList y x) (startT sp_hNorm x) (startO sp_hNorm y) 1 =
  (∀ (r : El Ty.un × Els [Ty.it IntKind.i64]), r = ((), gchk (toGa x.fst), ()) → ((r.snd.fst != (0 : Int)) = true → ((false, [], [], ()), r.snd) = (pR (gnorm (toGa x.fst))).snd) ∧ ((r.snd.fst != (0 : Int)) = false → ∀ (r : El Ty.un × Els [tR, Ty.it IntKind.i64]), r = pR (wpair (0 : Int) (toFr x.fst.fst) (toFr x.fst.fst) (toFr x.fst.snd.fst) (toFr x.fst.snd.fst) false) → r.snd = (pR (gnorm (toGa x.fst))).snd)) := by kernel_rfl
theorem m_hNorm (y : El (.un)) (x : Els [tG]) (h2 : wfE (.un) y) (h3 : wfEs [tG] x) :
  (∀ (r : El Ty.un × Els [Ty.it IntKind.i64]), r = ((), gchk (toGa x.fst), ()) → ((r.snd.fst != (0 : Int)) = true → ((false, [], [], ()), r.snd) = (pR (gnorm (toGa x.fst))).snd) ∧ ((r.snd.fst != (0 : Int)) = false → ∀ (r : El Ty.un × Els [tR, Ty.it IntKind.i64]), r = pR (wpair (0 : Int) (toFr x.fst.fst) (toFr x.fst.fst) (toFr x.fst.snd.fst) (toFr x.fst.snd.fst) false) → r.snd = (pR (gnorm (toGa x.fst))).snd)) := by
  rintro _ rfl
  refine ⟨fun h => (tR_ (gnorm_1 (a := toGa x.1) (ne_ h)) :), fun h => ?_⟩
  rintro _ rfl
  exact (tR_ (gnorm_2 (a := toGa x.1) (eq_ h)) :)
set_option maxRecDepth 100000 in
theorem fo_hNorm : FnOk Tryz.prog 51 sp_hNorm := fnOk_of (C := c_hNorm) iv_hNorm Tryz.func51 rfl (by kernel_rfl) tys_ok (prims_cons (spec_prim fo_hCheck) (prims_cons (spec_prim fo_hpair) prims_nil)) mixed_ (Nat.le_refl _) rfl fun y x h1 h2 h3 h4 =>
  Eq.mpr (w_hNorm y x) (m_hNorm y x h2 h3)
end Go.Proofs.YtifonmdcicegdaaGreat

namespace Go.Proofs.YtifonmdcicegdaaGreat
open Go Go.RowKit

noncomputable def sp_kSameWords : Spec := { q := .un, ps := [tW32, tW32], rs := [.bo], fresh := true, pre := fun _ _ => none, post := fun _ x => ((), (decide (x.1 = x.2.1), ())) }
noncomputable def iv_kSameWords (y : El sp_kSameWords.q) (x : Els sp_kSameWords.ps) : Nat → Option Inv := fun k => if k = 0 then some { X := Nat, tm := fun i => [(0, .c (.sl (.it .u32) x.1)), (1, .c (.sl (.it .u32) x.2.1)), (5, .c (.sc (.int .i64 i)))], ob := fun _ => [], n := 1, I := fun i => i ≤ x.1.length ∧ x.1.length = x.2.1.length ∧ x.1.take i = x.2.1.take i, μ := fun i => x.1.length - i } else none
noncomputable abbrev c_kSameWords : Cfg := cfgS (Tryz.f160).ntmps false []
set_option maxRecDepth 100000 in
theorem w_kSameWords (y : El sp_kSameWords.q) (x : Els sp_kSameWords.ps) : aw c_kSameWords (iv_kSameWords y x) (codeOf Tryz.f160) 0 (retQ c_kSameWords sp_kSameWords (Tryz.f160).results.toList y x) (startT sp_kSameWords x) (startO sp_kSameWords y) 1 =
  ((((↑(List.length x.fst) : Int) != (↑(List.length x.snd.fst) : Int)) = true → (false, ()) = (decide (x.fst = x.snd.fst), ())) ∧ (((↑(List.length x.fst) : Int) != (↑(List.length x.snd.fst) : Int)) = false → (∃ (x_1 : Nat), x.fst = x.fst ∧ x.snd.fst = x.snd.fst ∧ (↑x_1 : Int) = (0 : Int) ∧ x_1 ≤ List.length x.fst ∧ List.length x.fst = List.length x.snd.fst ∧ List.take x_1 x.fst = List.take x_1 x.snd.fst) ∧ ∀ (x_1 : Nat), x_1 ≤ List.length x.fst ∧ List.length x.fst = List.length x.snd.fst ∧ List.take x_1 x.fst = List.take x_1 x.snd.fst → (decide ((↑x_1 : Int) < (↑(List.length x.fst) : Int)) = true → ((0 : Int) ≤ (↑x_1 : Int) ∧ (↑x_1 : Int) < (↑(List.length x.fst) : Int)) ∧ ((0 : Int) ≤ (↑x_1 : Int) ∧ (↑x_1 : Int) < (↑(List.length x.snd.fst) : Int)) ∧ ((List.getD x.fst (↑x_1 : Int).toNat (dfl (Ty.it IntKind.u32)) != List.getD x.snd.fst (↑x_1 : Int).toNat (dfl (Ty.it IntKind.u32))) = true → (false, ()) = (decide (x.fst = x.snd.fst), ())) ∧ ((List.getD x.fst (↑x_1 : Int).toNat (dfl (Ty.it IntKind.u32)) != List.getD x.snd.fst (↑x_1 : Int).toNat (dfl (Ty.it IntKind.u32))) = false → ((-9223372036854775808 : Int) ≤ (↑x_1 : Int) + (1 : Int) ∧ (↑x_1 : Int) + (1 : Int) ≤ (9223372036854775807 : Int)) ∧ ∃ (x' : Nat), x.fst = x.fst ∧ x.snd.fst = x.snd.fst ∧ (↑x' : Int) = (↑x_1 : Int) + (1 : Int) ∧ (x' ≤ List.length x.fst ∧ List.length x.fst = List.length x.snd.fst ∧ List.take x' x.fst = List.take x' x.snd.fst) ∧ List.length x.fst - x' < List.length x.fst - x_1)) ∧ (decide ((↑x_1 : Int) < (↑(List.length x.fst) : Int)) = false → (true, ()) = (decide (x.fst = x.snd.fst), ())))) := by kernel_rfl
theorem m_kSameWords (y : El (.un)) (x : Els [tW32, tW32]) (h2 : wfE (.un) y) (h3 : wfEs [tW32, tW32] x) :
  ((((↑(List.length x.fst) : Int) != (↑(List.length x.snd.fst) : Int)) = true → (false, ()) = (decide (x.fst = x.snd.fst), ())) ∧ (((↑(List.length x.fst) : Int) != (↑(List.length x.snd.fst) : Int)) = false → (∃ (x_1 : Nat), x.fst = x.fst ∧ x.snd.fst = x.snd.fst ∧ (↑x_1 : Int) = (0 : Int) ∧ x_1 ≤ List.length x.fst ∧ List.length x.fst = List.length x.snd.fst ∧ List.take x_1 x.fst = List.take x_1 x.snd.fst) ∧ ∀ (x_1 : Nat), x_1 ≤ List.length x.fst ∧ List.length x.fst = List.length x.snd.fst ∧ List.take x_1 x.fst = List.take x_1 x.snd.fst → (decide ((↑x_1 : Int) < (↑(List.length x.fst) : Int)) = true → ((0 : Int) ≤ (↑x_1 : Int) ∧ (↑x_1 : Int) < (↑(List.length x.fst) : Int)) ∧ ((0 : Int) ≤ (↑x_1 : Int) ∧ (↑x_1 : Int) < (↑(List.length x.snd.fst) : Int)) ∧ ((List.getD x.fst (↑x_1 : Int).toNat (dfl (Ty.it IntKind.u32)) != List.getD x.snd.fst (↑x_1 : Int).toNat (dfl (Ty.it IntKind.u32))) = true → (false, ()) = (decide (x.fst = x.snd.fst), ())) ∧ ((List.getD x.fst (↑x_1 : Int).toNat (dfl (Ty.it IntKind.u32)) != List.getD x.snd.fst (↑x_1 : Int).toNat (dfl (Ty.it IntKind.u32))) = false → ((-9223372036854775808 : Int) ≤ (↑x_1 : Int) + (1 : Int) ∧ (↑x_1 : Int) + (1 : Int) ≤ (9223372036854775807 : Int)) ∧ ∃ (x' : Nat), x.fst = x.fst ∧ x.snd.fst = x.snd.fst ∧ (↑x' : Int) = (↑x_1 : Int) + (1 : Int) ∧ (x' ≤ List.length x.fst ∧ List.length x.fst = List.length x.snd.fst ∧ List.take x' x.fst = List.take x' x.snd.fst) ∧ List.length x.fst - x' < List.length x.fst - x_1)) ∧ (decide ((↑x_1 : Int) < (↑(List.length x.fst) : Int)) = false → (true, ()) = (decide (x.fst = x.snd.fst), ())))) := by
  have hL : x.1.length ≤ 9223372036854775807 := h3.1.1
  refine ⟨fun h => ?_, fun h => ⟨⟨0, rfl, rfl, rfl, Nat.zero_le _, by simpa [Int.ofNat_inj] using h, rfl⟩, fun i hi => ⟨fun hl => ?_, fun hl => ?_⟩⟩⟩
  · have : x.1 ≠ x.2.1 := fun e => by rw [e] at h; simp at h
    rw [decide_eq_false this]
  · obtain ⟨h0, h1, h2⟩ := hi
    have hl := of_decide_eq_true hl
    have a1 : i < x.1.length := by omega
    have a2 : i < x.2.1.length := by omega
    have g1 : x.1.getD ((i : Int)).toNat (dfl (Ty.it IntKind.u32)) = x.1[i] := by
      rw [Int.toNat_natCast, List.getD_eq_getElem?_getD, List.getElem?_eq_getElem a1]; rfl
    have g2 : x.2.1.getD ((i : Int)).toNat (dfl (Ty.it IntKind.u32)) = x.2.1[i] := by
      rw [Int.toNat_natCast, List.getD_eq_getElem?_getD, List.getElem?_eq_getElem a2]; rfl
    rw [g1, g2]
    refine ⟨⟨by omega, hl⟩, ⟨by omega, by omega⟩, fun k => ?_, fun k => ⟨by omega, i + 1, rfl, rfl, rfl, ⟨a1, h1, ?_⟩, by omega⟩⟩
    · have k := bne_iff_ne.1 k
      have : x.1 ≠ x.2.1 := fun e => k (by congr 1)
      rw [decide_eq_false this]
    · have k : x.1[i] = x.2.1[i] := by simpa using k
      rw [List.take_add_one, List.take_add_one, h2, List.getElem?_eq_getElem a1, List.getElem?_eq_getElem a2, k]
  · obtain ⟨h0, h1, h2⟩ := hi
    have hl := of_decide_eq_false hl
    rw [List.take_of_length_le (by omega), List.take_of_length_le (by omega)] at h2
    rw [decide_eq_true h2]
set_option maxRecDepth 100000 in
theorem fo_kSameWords : FnOk Tryz.prog 160 sp_kSameWords := fnOk_of (C := c_kSameWords) iv_kSameWords Tryz.func160 rfl (by kernel_rfl) tys_ok prims_nil mixed_ (Nat.le_refl _) rfl fun y x h1 h2 h3 h4 =>
  Eq.mpr (w_kSameWords y x) (m_kSameWords y x h2 h3)
noncomputable def sp_kSameRatio : Spec := { q := .un, ps := [tR, tR], rs := [.bo], fresh := true, pre := fun _ _ => none, post := fun _ x => ((), (decide (toFr x.1 = toFr x.2.1), ())) }
noncomputable def iv_kSameRatio (y : El sp_kSameRatio.q) (x : Els sp_kSameRatio.ps) : Nat → Option Inv := fun _ => none
noncomputable abbrev c_kSameRatio : Cfg := cfgS (Tryz.f55).ntmps false [(160, sp_kSameWords.prim)]
set_option maxRecDepth 100000 in
theorem w_kSameRatio (y : El sp_kSameRatio.q) (x : Els sp_kSameRatio.ps) : aw c_kSameRatio (iv_kSameRatio y x) (codeOf Tryz.f55) 0 (retQ c_kSameRatio sp_kSameRatio (Tryz.f55).results.toList y x) (startT sp_kSameRatio x) (startO sp_kSameRatio y) 1 =
  (((x.fst.fst == x.snd.fst.fst) = true → ∀ (r : El Ty.un × Els [Ty.bo]), r = ((), decide (x.fst.snd.fst = x.snd.fst.snd.fst), ()) → (r.snd.fst = true → ∀ (r : El Ty.un × Els [Ty.bo]), r = ((), decide (x.fst.snd.snd.fst = x.snd.fst.snd.snd.fst), ()) → r.snd = (decide (toFr x.fst = toFr x.snd.fst), ())) ∧ (r.snd.fst = false → (false, ()) = (decide (toFr x.fst = toFr x.snd.fst), ()))) ∧ ((x.fst.fst == x.snd.fst.fst) = false → (false, ()) = (decide (toFr x.fst = toFr x.snd.fst), ()))) := by kernel_rfl
theorem m_kSameRatio (y : El (.un)) (x : Els [tR, tR]) (h2 : wfE (.un) y) (h3 : wfEs [tR, tR] x) :
  (((x.fst.fst == x.snd.fst.fst) = true → ∀ (r : El Ty.un × Els [Ty.bo]), r = ((), decide (x.fst.snd.fst = x.snd.fst.snd.fst), ()) → (r.snd.fst = true → ∀ (r : El Ty.un × Els [Ty.bo]), r = ((), decide (x.fst.snd.snd.fst = x.snd.fst.snd.snd.fst), ()) → r.snd = (decide (toFr x.fst = toFr x.snd.fst), ())) ∧ (r.snd.fst = false → (false, ()) = (decide (toFr x.fst = toFr x.snd.fst), ()))) ∧ ((x.fst.fst == x.snd.fst.fst) = false → (false, ()) = (decide (toFr x.fst = toFr x.snd.fst), ()))) := by
  obtain ⟨⟨s, a, b, _⟩, ⟨t, c, d, _⟩, _⟩ := x
  refine ⟨fun h => ?_, fun h => ?_⟩
  · rintro _ rfl
    refine ⟨fun k => ?_, fun k => ?_⟩
    · rintro _ rfl
      have hs : s = t := by simpa using h
      have hk : a = c := by simpa using k
      subst hs
      subst hk
      simp [toFr]
    · have k : a ≠ c := by simpa using k
      simp [toFr, k]
  · have h : s ≠ t := by simpa using h
    simp [toFr, h]
set_option maxRecDepth 100000 in
theorem fo_kSameRatio : FnOk Tryz.prog 55 sp_kSameRatio := fnOk_of (C := c_kSameRatio) iv_kSameRatio Tryz.func55 rfl (by kernel_rfl) tys_ok (prims_cons (spec_prim fo_kSameWords) prims_nil) mixed_ (Nat.le_refl _) rfl fun y x h1 h2 h3 h4 =>
  Eq.mpr (w_kSameRatio y x) (m_kSameRatio y x h2 h3)
end Go.Proofs.YtifonmdcicegdaaGreat

namespace Go.Proofs.YtifonmdcicegdaaGreat
open Go Go.RowKit

section
variable {gp : Option Nat} {Z0 : Nat → Prop} {w0 w w' : World} {D : Nat → Prop} {c : Cf} {T : Nat → Option AV} {O : Store} {a : Act} {N : Nat}
end
end Go.Proofs.YtifonmdcicegdaaGreat

namespace Go.Proofs.YtifonmdcicegdaaGreat
open Go Go.RowKit

section
variable {wb w0 w w' : World} {row : Option Nat} {V : List (Nat × List Value)} {R : List (Adr × Fr)}

end

end Go.Proofs.YtifonmdcicegdaaGreat

namespace Go.Proofs.YtifonmdcicegdaaGreat
open Go Go.RowKit

end Go.Proofs.YtifonmdcicegdaaGreat

namespace Go.Proofs.YtifonmdcicegdaaGreat
open Go Go.RowKit

/-- few enough words -/
def Few (f : Fr) : Prop := f.num.length ≤ 1000000 ∧ f.den.length ≤ 1000000
theorem few_zero : Few Fr.zero := ⟨Nat.zero_le _, Nat.zero_le _⟩
theorem few_enc {q : Rat} (h : ¬ lng q = true) : Few (enc q) := by
  have h1 := not_lng h
  exact ⟨by show (wd _).length ≤ _; omega, by show (wd _).length ≤ _; omega⟩
theorem Good.few {t : Fr × Int} (h : Good t) : Few t.1 := by
  by_cases e : t.2 = 0
  · obtain ⟨q, hq, hl⟩ := h.1 e; rw [hq]; exact few_enc hl
  · rw [h.2 e]; exact few_zero
end Go.Proofs.YtifonmdcicegdaaGreat

namespace Go.Proofs.YtifonmdcicegdaaGreat
open Go Go.RowKit

end Go.Proofs.YtifonmdcicegdaaGreat

namespace Go.Proofs.YtifonmdcicegdaaGreat
open Go Go.RowKit

end Go.Proofs.YtifonmdcicegdaaGreat

namespace Go.Proofs.YtifonmdcicegdaaGreat
open Go Go.RowKit

/-- the cells of fractions side by side -/
def cellsF : List (Adr × Fr) → List Value
  | [] => []
  | (p, f) :: L => .bool f.neg :: .slice p.A f.num.length p.c :: .slice p.B f.den.length p.d :: cellsF L
theorem cellsF_app : ∀ L M : List (Adr × Fr), cellsF (L ++ M) = cellsF L ++ cellsF M
  | [], M => rfl
  | (p, f) :: L, M => by simp only [List.cons_append, cellsF, cellsF_app L M]
theorem cellsF_at : ∀ (L : List (Adr × Fr)) (i : Nat) (p : Adr) (f : Fr), L[i]? = some (p, f) → (cellsF L)[i * 3]? = some (.bool f.neg) ∧ (cellsF L)[i * 3 + 1]? = some (.slice p.A f.num.length p.c) ∧ (cellsF L)[i * 3 + 2]? = some (.slice p.B f.den.length p.d)
  | [], i, p, f, h => by simp at h
  | (q, g) :: L, 0, p, f, h => by simp at h; obtain ⟨rfl, rfl⟩ := h; exact ⟨rfl, rfl, rfl⟩
  | (q, g) :: L, i + 1, p, f, h => by
    obtain ⟨h1, h2, h3⟩ := cellsF_at L i p f (by simpa using h)
    rw [show (i + 1) * 3 = i * 3 + 1 + 1 + 1 by omega]
    simp only [cellsF, List.getElem?_cons_succ]
    exact ⟨h1, h2, h3⟩
/-- a block or row holds them -/
def CellsAt (g : Nat) (L : List (Adr × Fr)) (w : World) : Prop := ∀ j u, (cellsF L)[j]? = some u → w.cell? ⟨g, j, none⟩ = some u
/-- the list's fractions, by an index over 2 n rows -/
def rowA (L : List (Adr × Fr)) (j : Nat) : Option Addr := if j % 2 = 0 then ((L[j / 2]?).map (·.1.A)).getD none else ((L[j / 2]?).map (·.1.B)).getD none
def rowC (L : List (Adr × Fr)) (j : Nat) : Nat := if j % 2 = 0 then ((L[j / 2]?).map (·.1.c)).getD 0 else ((L[j / 2]?).map (·.1.d)).getD 0
def rowX (L : List (Adr × Fr)) (j : Nat) : List Int := if j % 2 = 0 then ((L[j / 2]?).map (·.2.num)).getD [] else ((L[j / 2]?).map (·.2.den)).getD []
theorem row_even {L : List (Adr × Fr)} {i : Nat} {p : Adr} {f : Fr} (h : L[i]? = some (p, f)) : rowA L (2 * i) = p.A ∧ rowC L (2 * i) = p.c ∧ rowX L (2 * i) = f.num := by
  have e1 : 2 * i % 2 = 0 := by omega
  have e2 : 2 * i / 2 = i := by omega
  simp [rowA, rowC, rowX, e1, e2, h]
theorem row_odd {L : List (Adr × Fr)} {i : Nat} {p : Adr} {f : Fr} (h : L[i]? = some (p, f)) : rowA L (2 * i + 1) = p.B ∧ rowC L (2 * i + 1) = p.d ∧ rowX L (2 * i + 1) = f.den := by
  have e1 : (2 * i + 1) % 2 = 1 := by omega
  have e2 : (2 * i + 1) / 2 = i := by omega
  simp [rowA, rowC, rowX, e1, e2, h]
/-- rows picked out of a state's -/
def pick {α : Type} (R : List α) : List Nat → List α
  | [] => []
  | i :: I => match R[i]? with
    | some x => x :: pick R I
    | none => pick R I
section
variable {wb w0 w w' : World} {row : Option Nat} {V : List (Nat × List Value)} {R : List (Adr × Fr)}
end
section
variable {wb w0 w w' : World} {row : Option Nat} {V : List (Nat × List Value)} {R : List (Adr × Fr)}
end
end Go.Proofs.YtifonmdcicegdaaGreat

