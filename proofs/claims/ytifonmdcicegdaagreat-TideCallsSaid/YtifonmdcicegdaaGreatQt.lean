/- Texts of this claim, joined: B6 B7 B8 B9 A26 Y2 U3 Y4. -/
import Derived.Test.YtifonmdcicegdaaGreatQs
set_option linter.unusedVariables false
set_option linter.unusedSimpArgs false
namespace Go.Proofs.YtifonmdcicegdaaGreat
open Go Go.RowKit

theorem chks2 (e : Int) (r i : El tR) : chks e [r, i] = if e ≠ 0 then e else fchk2 (toFr r) (toFr i) := by
  show (if (if e ≠ 0 then e else fchk (toFr r)) ≠ 0 then (if e ≠ 0 then e else fchk (toFr r)) else fchk (toFr i)) = _
  by_cases h : e ≠ 0
  · simp [h]
  · rw [if_neg h, if_neg h]; rfl
theorem gchks1 (a : El tG) : gchks 0 [a] = gchk (toGa a) := (chks2 0 a.1 a.2.1).trans (if_neg (by simp))
noncomputable def sp_gCheck : Spec := { q := .un, ps := [tG], rs := [.it .i64], fresh := true, pre := fun _ _ => none, post := fun _ x => ((), (gchk (toGa x.1), ())) }
noncomputable def iv_gCheck (y : El sp_gCheck.q) (x : Els sp_gCheck.ps) : Nat → Option Inv := fun _ => none
noncomputable abbrev c_gCheck : Cfg := cfgS (Tryz.f40).ntmps false [(163, sp_asked.prim)]
set_option maxRecDepth 100000 in
theorem w_gCheck (y : El sp_gCheck.q) (x : Els sp_gCheck.ps) : aw c_gCheck (iv_gCheck y x) (codeOf Tryz.f40) 0 (retQ c_gCheck sp_gCheck (Tryz.f40).results.toList y x) (startT sp_gCheck x) (startO sp_gCheck y) 1 =
  (∀ (r : El Ty.un × Els [tW.pt]), r = ((), (gchks (0 : Int) [x.fst], ()), ()) → r.snd.fst = (gchk (toGa x.fst), ())) := by kernel_rfl
theorem m_gCheck (y : El (.un)) (x : Els [tG]) (h2 : wfE (.un) y) (h3 : wfEs [tG] x) :
  (∀ (r : El Ty.un × Els [tW.pt]), r = ((), (gchks (0 : Int) [x.fst], ()), ()) → r.snd.fst = (gchk (toGa x.fst), ())) := by
  rintro _ rfl
  exact congrArg (fun e => (e, ())) (gchks1 x.1)
set_option maxRecDepth 100000 in
theorem fo_gCheck : FnOk Tryz.prog 40 sp_gCheck := fnOk_of (C := c_gCheck) iv_gCheck Tryz.func40 rfl (by kernel_rfl) tys_ok (prims_cons (spec_prim fo_asked) prims_nil) mixed_ (Nat.le_refl _) rfl fun y x h1 h2 h3 h4 =>
  Eq.mpr (w_gCheck y x) (m_gCheck y x h2 h3)
noncomputable def sp_gScale : Spec := { q := .un, ps := [tR, tG], rs := [tG, .it .i64], fresh := true, pre := fun _ _ => none, post := fun _ x => pG (gscale (toFr x.1) (toGa x.2.1)) }
noncomputable def iv_gScale (y : El sp_gScale.q) (x : Els sp_gScale.ps) : Nat → Option Inv := fun _ => none
noncomputable abbrev c_gScale : Cfg := cfgS (Tryz.f67).ntmps false [(177, sp_wcheck.prim), (178, sp_wmul.prim), (167, p_told)]
set_option maxRecDepth 100000 in
theorem w_gScale (y : El sp_gScale.q) (x : Els sp_gScale.ps) : aw c_gScale (iv_gScale y x) (codeOf Tryz.f67) 0 (retQ c_gScale sp_gScale (Tryz.f67).results.toList y x) (startT sp_gScale x) (startO sp_gScale y) 1 =
  (∀ (r : El tW × Els []), r = ((chks (0 : Int) [x.fst, x.snd.fst.fst, x.snd.fst.snd.fst], ()), ()) → ∀ (r_1 : El tW × Els [tR]), r_1 = (((wmul r.fst.fst (toFr x.fst) (toFr x.snd.fst.fst)).snd, ()), ((wmul r.fst.fst (toFr x.fst) (toFr x.snd.fst.fst)).fst.neg, (wmul r.fst.fst (toFr x.fst) (toFr x.snd.fst.fst)).fst.num, (wmul r.fst.fst (toFr x.fst) (toFr x.snd.fst.fst)).fst.den, ()), ()) → ∀ (r : El tW × Els [tR]), r = (((wmul r_1.fst.fst (toFr x.fst) (toFr x.snd.fst.snd.fst)).snd, ()), ((wmul r_1.fst.fst (toFr x.fst) (toFr x.snd.fst.snd.fst)).fst.neg, (wmul r_1.fst.fst (toFr x.fst) (toFr x.snd.fst.snd.fst)).fst.num, (wmul r_1.fst.fst (toFr x.fst) (toFr x.snd.fst.snd.fst)).fst.den, ()), ()) → (((bif decide (r.fst.fst ≠ (0 : Int)) then false else r_1.snd.fst.fst, bif decide (r.fst.fst ≠ (0 : Int)) then [] else r_1.snd.fst.snd.fst, bif decide (r.fst.fst ≠ (0 : Int)) then [] else r_1.snd.fst.snd.snd.fst, ()), (bif decide (r.fst.fst ≠ (0 : Int)) then false else r.snd.fst.fst, bif decide (r.fst.fst ≠ (0 : Int)) then [] else r.snd.fst.snd.fst, bif decide (r.fst.fst ≠ (0 : Int)) then [] else r.snd.fst.snd.snd.fst, ()), ()), r.fst) = ((((gscale (toFr x.fst) (toGa x.snd.fst)).fst.re.neg, (gscale (toFr x.fst) (toGa x.snd.fst)).fst.re.num, (gscale (toFr x.fst) (toGa x.snd.fst)).fst.re.den, ()), ((gscale (toFr x.fst) (toGa x.snd.fst)).fst.im.neg, (gscale (toFr x.fst) (toGa x.snd.fst)).fst.im.num, (gscale (toFr x.fst) (toGa x.snd.fst)).fst.im.den, ()), ()), (gscale (toFr x.fst) (toGa x.snd.fst)).snd, ())) := by kernel_rfl
theorem m_gScale (y : El (.un)) (x : Els [tR, tG]) (h2 : wfE (.un) y) (h3 : wfEs [tR, tG] x) :
  (∀ (r : El tW × Els []), r = ((chks (0 : Int) [x.fst, x.snd.fst.fst, x.snd.fst.snd.fst], ()), ()) → ∀ (r_1 : El tW × Els [tR]), r_1 = (((wmul r.fst.fst (toFr x.fst) (toFr x.snd.fst.fst)).snd, ()), ((wmul r.fst.fst (toFr x.fst) (toFr x.snd.fst.fst)).fst.neg, (wmul r.fst.fst (toFr x.fst) (toFr x.snd.fst.fst)).fst.num, (wmul r.fst.fst (toFr x.fst) (toFr x.snd.fst.fst)).fst.den, ()), ()) → ∀ (r : El tW × Els [tR]), r = (((wmul r_1.fst.fst (toFr x.fst) (toFr x.snd.fst.snd.fst)).snd, ()), ((wmul r_1.fst.fst (toFr x.fst) (toFr x.snd.fst.snd.fst)).fst.neg, (wmul r_1.fst.fst (toFr x.fst) (toFr x.snd.fst.snd.fst)).fst.num, (wmul r_1.fst.fst (toFr x.fst) (toFr x.snd.fst.snd.fst)).fst.den, ()), ()) → (((bif decide (r.fst.fst ≠ (0 : Int)) then false else r_1.snd.fst.fst, bif decide (r.fst.fst ≠ (0 : Int)) then [] else r_1.snd.fst.snd.fst, bif decide (r.fst.fst ≠ (0 : Int)) then [] else r_1.snd.fst.snd.snd.fst, ()), (bif decide (r.fst.fst ≠ (0 : Int)) then false else r.snd.fst.fst, bif decide (r.fst.fst ≠ (0 : Int)) then [] else r.snd.fst.snd.fst, bif decide (r.fst.fst ≠ (0 : Int)) then [] else r.snd.fst.snd.snd.fst, ()), ()), r.fst) = ((((gscale (toFr x.fst) (toGa x.snd.fst)).fst.re.neg, (gscale (toFr x.fst) (toGa x.snd.fst)).fst.re.num, (gscale (toFr x.fst) (toGa x.snd.fst)).fst.re.den, ()), ((gscale (toFr x.fst) (toGa x.snd.fst)).fst.im.neg, (gscale (toFr x.fst) (toGa x.snd.fst)).fst.im.num, (gscale (toFr x.fst) (toGa x.snd.fst)).fst.im.den, ()), ()), (gscale (toFr x.fst) (toGa x.snd.fst)).snd, ())) := by
  rintro _ rfl _ rfl _ rfl
  have e : chks 0 [x.1, x.2.1.1, x.2.1.2.1] = if fchk (toFr x.1) ≠ 0 then fchk (toFr x.1) else gchk (toGa x.2.1) := by
    have e0 : chks 0 [x.1, x.2.1.1] = fchk2 (toFr x.1) (toFr x.2.1.1) := (chks2 0 _ _).trans (if_neg (by simp))
    show (if chks 0 [x.1, x.2.1.1] ≠ 0 then chks 0 [x.1, x.2.1.1] else fchk (toFr x.2.1.2.1)) = _
    rw [e0]
    unfold gchk fchk2
    by_cases k : fchk (toFr x.1) = 0 <;> simp [k]
  simp only [e, gscale, gtell]
  generalize (if fchk (toFr x.1) ≠ 0 then fchk (toFr x.1) else gchk (toGa x.2.1)) = E
  split <;> simp_all [Ga.zero, Fr.zero]
set_option maxRecDepth 100000 in
theorem fo_gScale : FnOk Tryz.prog 67 sp_gScale := fnOk_of (C := c_gScale) iv_gScale Tryz.func67 rfl (by kernel_rfl) tys_ok (prims_cons (spec_prim fo_wcheck) (prims_cons (spec_prim fo_wmul) (prims_cons pr_told prims_nil))) mixed_ (Nat.le_refl _) rfl fun y x h1 h2 h3 h4 =>
  Eq.mpr (w_gScale y x) (m_gScale y x h2 h3)
end Go.Proofs.YtifonmdcicegdaaGreat

namespace Go.Proofs.YtifonmdcicegdaaGreat
open Go Go.RowKit

theorem fneg_2 (a : Fr) : (fneg a).2 = fchk a := by
  unfold fneg
  by_cases h : fchk a = 0 <;> simp [h]
theorem gchk_0 {a : El tG} (h : gchk (toGa a) = 0) : fchk (toFr a.1) = 0 ∧ fchk (toFr a.2.1) = 0 := by
  unfold gchk fchk2 at h
  by_cases k : fchk (toFr a.1) = 0 <;> simp_all
theorem wf_i {l : List Int} (h : wfE tW32 l) : Wf l := fun x hx => ⟨(h.2 x hx).1, Int.lt_of_le_of_lt (h.2 x hx).2 (by decide)⟩
theorem wf_fr {a : El tR} (h : wfE tR a) : (toFr a).Wf := ⟨wf_i h.2.1, wf_i h.2.2.1⟩
theorem fsmall_nought_ : fsmall 0 1 = (enc 0, 0) := by
  unfold fsmall
  rw [if_neg (by decide), show (0 : Int).natAbs = 0 from rfl, sg_zero, show mkRat 0 (Int.natAbs 1) = 0 from rfl]
  exact tell_ok (lng_of (by rw [show (0 : Rat).num.natAbs = 0 from rfl, wd_zero]; decide) (by rw [show (0 : Rat).den = 1 from rfl, wd_one]; decide))
theorem wadd_nought {a : Fr} (wa : a.Wf) (h : fchk a = 0) : wadd 0 a (fsmall 0 1).1 = (a, 0) := by
  rw [fsmall_nought_]
  unfold wadd
  rw [stp_ok]
  exact fadd_nought wa h
noncomputable def sp_gConj : Spec := spG1 gconj
noncomputable def iv_gConj (y : El sp_gConj.q) (x : Els sp_gConj.ps) : Nat → Option Inv := fun _ => none
noncomputable abbrev c_gConj : Cfg := cfgS (Tryz.f46).ntmps false [(163, sp_asked.prim), (165, sp_rSmall.prim), (166, sp_wadd.prim), (23, sp_rNeg.prim), (168, p_made), (167, p_told)]
set_option maxRecDepth 100000 in
theorem w_gConj (y : El sp_gConj.q) (x : Els sp_gConj.ps) : aw c_gConj (iv_gConj y x) (codeOf Tryz.f46) 0 (retQ c_gConj sp_gConj (Tryz.f46).results.toList y x) (startT sp_gConj x) (startO sp_gConj y) 1 =
  (∀ (r : El Ty.un × Els [tW.pt]), r = ((), (gchks (0 : Int) [x.fst], ()), ()) → ∀ (r_1 : El Ty.un × Els [tR, Ty.it IntKind.i64]), r_1 = ((), ((fsmall (0 : Int) (1 : Int)).fst.neg, (fsmall (0 : Int) (1 : Int)).fst.num, (fsmall (0 : Int) (1 : Int)).fst.den, ()), (fsmall (0 : Int) (1 : Int)).snd, ()) → ∀ (r_2 : El tW × Els [tR]), r_2 = (((wadd r.snd.fst.fst (toFr x.fst.fst) (toFr r_1.snd.fst)).snd, ()), ((wadd r.snd.fst.fst (toFr x.fst.fst) (toFr r_1.snd.fst)).fst.neg, (wadd r.snd.fst.fst (toFr x.fst.fst) (toFr r_1.snd.fst)).fst.num, (wadd r.snd.fst.fst (toFr x.fst.fst) (toFr r_1.snd.fst)).fst.den, ()), ()) → ∀ (r : El Ty.un × Els [tR, Ty.it IntKind.i64]), r = ((), ((fneg (toFr x.fst.snd.fst)).fst.neg, (fneg (toFr x.fst.snd.fst)).fst.num, (fneg (toFr x.fst.snd.fst)).fst.den, ()), (fneg (toFr x.fst.snd.fst)).snd, ()) → (((bif decide ((if r_2.fst.fst ≠ (0 : Int) then r_2.fst.fst else r.snd.snd.fst) ≠ (0 : Int)) then false else r_2.snd.fst.fst, bif decide ((if r_2.fst.fst ≠ (0 : Int) then r_2.fst.fst else r.snd.snd.fst) ≠ (0 : Int)) then [] else r_2.snd.fst.snd.fst, bif decide ((if r_2.fst.fst ≠ (0 : Int) then r_2.fst.fst else r.snd.snd.fst) ≠ (0 : Int)) then [] else r_2.snd.fst.snd.snd.fst, ()), (bif decide ((if r_2.fst.fst ≠ (0 : Int) then r_2.fst.fst else r.snd.snd.fst) ≠ (0 : Int)) then false else bif decide (r_2.fst.fst ≠ (0 : Int)) then false else r.snd.fst.fst, bif decide ((if r_2.fst.fst ≠ (0 : Int) then r_2.fst.fst else r.snd.snd.fst) ≠ (0 : Int)) then [] else bif decide (r_2.fst.fst ≠ (0 : Int)) then [] else r.snd.fst.snd.fst, bif decide ((if r_2.fst.fst ≠ (0 : Int) then r_2.fst.fst else r.snd.snd.fst) ≠ (0 : Int)) then [] else bif decide (r_2.fst.fst ≠ (0 : Int)) then [] else r.snd.fst.snd.snd.fst, ()), ()), if r_2.fst.fst ≠ (0 : Int) then r_2.fst.fst else r.snd.snd.fst, ()) = ((((gconj (toGa x.fst)).fst.re.neg, (gconj (toGa x.fst)).fst.re.num, (gconj (toGa x.fst)).fst.re.den, ()), ((gconj (toGa x.fst)).fst.im.neg, (gconj (toGa x.fst)).fst.im.num, (gconj (toGa x.fst)).fst.im.den, ()), ()), (gconj (toGa x.fst)).snd, ())) := by kernel_rfl
theorem m_gConj (y : El (.un)) (x : Els [tG]) (h2 : wfE (.un) y) (h3 : wfEs [tG] x) :
  (∀ (r : El Ty.un × Els [tW.pt]), r = ((), (gchks (0 : Int) [x.fst], ()), ()) → ∀ (r_1 : El Ty.un × Els [tR, Ty.it IntKind.i64]), r_1 = ((), ((fsmall (0 : Int) (1 : Int)).fst.neg, (fsmall (0 : Int) (1 : Int)).fst.num, (fsmall (0 : Int) (1 : Int)).fst.den, ()), (fsmall (0 : Int) (1 : Int)).snd, ()) → ∀ (r_2 : El tW × Els [tR]), r_2 = (((wadd r.snd.fst.fst (toFr x.fst.fst) (toFr r_1.snd.fst)).snd, ()), ((wadd r.snd.fst.fst (toFr x.fst.fst) (toFr r_1.snd.fst)).fst.neg, (wadd r.snd.fst.fst (toFr x.fst.fst) (toFr r_1.snd.fst)).fst.num, (wadd r.snd.fst.fst (toFr x.fst.fst) (toFr r_1.snd.fst)).fst.den, ()), ()) → ∀ (r : El Ty.un × Els [tR, Ty.it IntKind.i64]), r = ((), ((fneg (toFr x.fst.snd.fst)).fst.neg, (fneg (toFr x.fst.snd.fst)).fst.num, (fneg (toFr x.fst.snd.fst)).fst.den, ()), (fneg (toFr x.fst.snd.fst)).snd, ()) → (((bif decide ((if r_2.fst.fst ≠ (0 : Int) then r_2.fst.fst else r.snd.snd.fst) ≠ (0 : Int)) then false else r_2.snd.fst.fst, bif decide ((if r_2.fst.fst ≠ (0 : Int) then r_2.fst.fst else r.snd.snd.fst) ≠ (0 : Int)) then [] else r_2.snd.fst.snd.fst, bif decide ((if r_2.fst.fst ≠ (0 : Int) then r_2.fst.fst else r.snd.snd.fst) ≠ (0 : Int)) then [] else r_2.snd.fst.snd.snd.fst, ()), (bif decide ((if r_2.fst.fst ≠ (0 : Int) then r_2.fst.fst else r.snd.snd.fst) ≠ (0 : Int)) then false else bif decide (r_2.fst.fst ≠ (0 : Int)) then false else r.snd.fst.fst, bif decide ((if r_2.fst.fst ≠ (0 : Int) then r_2.fst.fst else r.snd.snd.fst) ≠ (0 : Int)) then [] else bif decide (r_2.fst.fst ≠ (0 : Int)) then [] else r.snd.fst.snd.fst, bif decide ((if r_2.fst.fst ≠ (0 : Int) then r_2.fst.fst else r.snd.snd.fst) ≠ (0 : Int)) then [] else bif decide (r_2.fst.fst ≠ (0 : Int)) then [] else r.snd.fst.snd.snd.fst, ()), ()), if r_2.fst.fst ≠ (0 : Int) then r_2.fst.fst else r.snd.snd.fst, ()) = ((((gconj (toGa x.fst)).fst.re.neg, (gconj (toGa x.fst)).fst.re.num, (gconj (toGa x.fst)).fst.re.den, ()), ((gconj (toGa x.fst)).fst.im.neg, (gconj (toGa x.fst)).fst.im.num, (gconj (toGa x.fst)).fst.im.den, ()), ()), (gconj (toGa x.fst)).snd, ())) := by
  have wf : (toFr x.1.1).Wf := wf_fr h3.1.1
  rintro _ rfl _ rfl _ rfl _ rfl
  have e : gchks 0 [x.1] = gchk (toGa x.1) := gchks1 _
  simp only [e, gconj, fneg_2]
  by_cases h : gchk (toGa x.1) = 0
  · obtain ⟨p, q⟩ := gchk_0 h
    have hz : wadd 0 (toFr x.1.1) (fsmall 0 1).1 = (toFr x.1.1, 0) := wadd_nought wf p
    have hz' : wadd 0 (toFr x.1.1) ⟨(fsmall 0 1).1.neg, (fsmall 0 1).1.num, (fsmall 0 1).1.den⟩ = (toFr x.1.1, 0) := hz
    simp [h, p, q, hz]
  · have hw : ∀ b, wadd (gchk (toGa x.1)) (toFr x.1.1) b = (Fr.zero, gchk (toGa x.1)) := fun b => if_pos h
    simp [h, hw, Ga.zero, Fr.zero]
set_option maxRecDepth 100000 in
theorem fo_gConj : FnOk Tryz.prog 46 sp_gConj := fnOk_of (C := c_gConj) iv_gConj Tryz.func46 rfl (by kernel_rfl) tys_ok (prims_cons (spec_prim fo_asked) (prims_cons (spec_prim fo_rSmall) (prims_cons (spec_prim fo_wadd) (prims_cons (spec_prim fo_rNeg) (prims_cons pr_made (prims_cons pr_told prims_nil)))))) mixed_ (Nat.le_refl _) rfl fun y x h1 h2 h3 h4 =>
  Eq.mpr (w_gConj y x) (m_gConj y x h2 h3)
end Go.Proofs.YtifonmdcicegdaaGreat

namespace Go.Proofs.YtifonmdcicegdaaGreat
open Go Go.RowKit

noncomputable def sp_hCheck : Spec := { q := .un, ps := [tG], rs := [.it .i64], fresh := false, pre := fun _ _ => none, post := fun _ x => ((), (gchk (toGa x.1), ())) }
noncomputable def iv_hCheck (y : El sp_hCheck.q) (x : Els sp_hCheck.ps) : Nat → Option Inv := fun _ => none
noncomputable abbrev c_hCheck : Cfg := cfgS (Tryz.f41).ntmps false [(30, sp_nCheck.prim)]
set_option maxRecDepth 100000 in
theorem w_hCheck (y : El sp_hCheck.q) (x : Els sp_hCheck.ps) : aw c_hCheck (iv_hCheck y x) (codeOf Tryz.f41) 0 (retQ c_hCheck sp_hCheck (Tryz.f41).results.toList y x) (startT sp_hCheck x) (startO sp_hCheck y) 1 =
  (∀ (r : El Ty.un × Els [Ty.it IntKind.i64]), r = ((), fchk (toFr x.fst.fst), ()) → ((r.snd.fst != (0 : Int)) = true → r.snd = (gchk (toGa x.fst), ())) ∧ ((r.snd.fst != (0 : Int)) = false → ∀ (r : El Ty.un × Els [Ty.it IntKind.i64]), r = ((), fchk (toFr x.fst.snd.fst), ()) → r.snd = (gchk (toGa x.fst), ()))) := by kernel_rfl
theorem m_hCheck (y : El (.un)) (x : Els [tG]) (h2 : wfE (.un) y) (h3 : wfEs [tG] x) :
  (∀ (r : El Ty.un × Els [Ty.it IntKind.i64]), r = ((), fchk (toFr x.fst.fst), ()) → ((r.snd.fst != (0 : Int)) = true → r.snd = (gchk (toGa x.fst), ())) ∧ ((r.snd.fst != (0 : Int)) = false → ∀ (r : El Ty.un × Els [Ty.it IntKind.i64]), r = ((), fchk (toFr x.fst.snd.fst), ()) → r.snd = (gchk (toGa x.fst), ()))) := by
  rintro _ rfl
  refine ⟨fun h => ?_, fun h => ?_⟩
  · simp_all [gchk, fchk2]
  · rintro _ rfl
    simp_all [gchk, fchk2]
set_option maxRecDepth 100000 in
theorem fo_hCheck : FnOk Tryz.prog 41 sp_hCheck := fnOk_of (C := c_hCheck) iv_hCheck Tryz.func41 rfl (by kernel_rfl) tys_ok (prims_cons (spec_prim fo_nCheck) prims_nil) mixed_ (Nat.le_refl _) rfl fun y x h1 h2 h3 h4 =>
  Eq.mpr (w_hCheck y x) (m_hCheck y x h2 h3)
theorem ne_ {e : Int} (h : (e != 0) = true) : e ≠ 0 := by simpa using h
theorem eq_ {e : Int} (h : (e != 0) = false) : e = 0 := by simpa using h
theorem tG_ {t u : Ga × Int} (h : t = u) : (pG u).2 = (pG t).2 := by rw [h]
theorem wf_ga {a : El tG} (h : wfE tG a) : (toGa a).Wf := ⟨wf_fr h.1, wf_fr h.2.1⟩
noncomputable def sp_hConj : Spec := { q := .un, ps := [tG], rs := [tG, .it .i64], fresh := false, pre := fun _ _ => none, post := fun _ x => pG (gconj (toGa x.1)) }
noncomputable def iv_hConj (y : El sp_hConj.q) (x : Els sp_hConj.ps) : Nat → Option Inv := fun _ => none
noncomputable abbrev c_hConj : Cfg := cfgS (Tryz.f47).ntmps false [(41, sp_hCheck.prim), (24, sp_nNeg.prim)]
set_option maxRecDepth 100000 in
theorem w_hConj (y : El sp_hConj.q) (x : Els sp_hConj.ps) : aw c_hConj (iv_hConj y x) (codeOf Tryz.f47) 0 (retQ c_hConj sp_hConj (Tryz.f47).results.toList y x) (startT sp_hConj x) (startO sp_hConj y) 1 =
  (∀ (r : El Ty.un × Els [Ty.it IntKind.i64]), r = ((), gchk (toGa x.fst), ()) → ((r.snd.fst != (0 : Int)) = true → (((false, [], [], ()), (false, [], [], ()), ()), r.snd) = (pG (gconj (toGa x.fst))).snd) ∧ ((r.snd.fst != (0 : Int)) = false → ∀ (r : El Ty.un × Els [tR, Ty.it IntKind.i64]), r = pR (fneg (toFr x.fst.snd.fst)) → ((x.fst.fst, r.snd.fst, ()), (0 : Int), ()) = (pG (gconj (toGa x.fst))).snd)) := by kernel_rfl
theorem m_hConj (y : El (.un)) (x : Els [tG]) (h2 : wfE (.un) y) (h3 : wfEs [tG] x) :
  (∀ (r : El Ty.un × Els [Ty.it IntKind.i64]), r = ((), gchk (toGa x.fst), ()) → ((r.snd.fst != (0 : Int)) = true → (((false, [], [], ()), (false, [], [], ()), ()), r.snd) = (pG (gconj (toGa x.fst))).snd) ∧ ((r.snd.fst != (0 : Int)) = false → ∀ (r : El Ty.un × Els [tR, Ty.it IntKind.i64]), r = pR (fneg (toFr x.fst.snd.fst)) → ((x.fst.fst, r.snd.fst, ()), (0 : Int), ()) = (pG (gconj (toGa x.fst))).snd)) := by
  rintro _ rfl
  refine ⟨fun h => (tG_ (gconj_1 (a := toGa x.1) (ne_ h)) :), fun h => ?_⟩
  rintro _ rfl
  exact (tG_ (gconj_2 (a := toGa x.1) (eq_ h)) :)
set_option maxRecDepth 100000 in
theorem fo_hConj : FnOk Tryz.prog 47 sp_hConj := fnOk_of (C := c_hConj) iv_hConj Tryz.func47 rfl (by kernel_rfl) tys_ok (prims_cons (spec_prim fo_hCheck) (prims_cons (spec_prim fo_nNeg) prims_nil)) mixed_ (Nat.le_refl _) rfl fun y x h1 h2 h3 h4 =>
  Eq.mpr (w_hConj y x) (m_hConj y x h2 h3)
noncomputable def sp_hScale : Spec := { q := .un, ps := [tR, tG], rs := [tG, .it .i64], fresh := false, pre := fun _ _ => none, post := fun _ x => pG (gscale (toFr x.1) (toGa x.2.1)) }
noncomputable def iv_hScale (y : El sp_hScale.q) (x : Els sp_hScale.ps) : Nat → Option Inv := fun _ => none
noncomputable abbrev c_hScale : Cfg := cfgS (Tryz.f68).ntmps false [(30, sp_nCheck.prim), (41, sp_hCheck.prim), (20, sp_nMul.prim)]
set_option maxRecDepth 100000 in
theorem w_hScale (y : El sp_hScale.q) (x : Els sp_hScale.ps) : aw c_hScale (iv_hScale y x) (codeOf Tryz.f68) 0 (retQ c_hScale sp_hScale (Tryz.f68).results.toList y x) (startT sp_hScale x) (startO sp_hScale y) 1 =
  (∀ (r : El Ty.un × Els [Ty.it IntKind.i64]), r = ((), fchk (toFr x.fst), ()) → ((r.snd.fst != (0 : Int)) = true → (((false, [], [], ()), (false, [], [], ()), ()), r.snd) = (pG (gscale (toFr x.fst) (toGa x.snd.fst))).snd) ∧ ((r.snd.fst != (0 : Int)) = false → ∀ (r : El Ty.un × Els [Ty.it IntKind.i64]), r = ((), gchk (toGa x.snd.fst), ()) → ((r.snd.fst != (0 : Int)) = true → (((false, [], [], ()), (false, [], [], ()), ()), r.snd) = (pG (gscale (toFr x.fst) (toGa x.snd.fst))).snd) ∧ ((r.snd.fst != (0 : Int)) = false → ∀ (r : El Ty.un × Els [tR, Ty.it IntKind.i64]), r = pR (fmul (toFr x.fst) (toFr x.snd.fst.fst)) → ((r.snd.snd.fst != (0 : Int)) = true → (((false, [], [], ()), (false, [], [], ()), ()), r.snd.snd) = (pG (gscale (toFr x.fst) (toGa x.snd.fst))).snd) ∧ ((r.snd.snd.fst != (0 : Int)) = false → ∀ (r_1 : El Ty.un × Els [tR, Ty.it IntKind.i64]), r_1 = pR (fmul (toFr x.fst) (toFr x.snd.fst.snd.fst)) → ((r_1.snd.snd.fst != (0 : Int)) = true → (((false, [], [], ()), (false, [], [], ()), ()), r_1.snd.snd) = (pG (gscale (toFr x.fst) (toGa x.snd.fst))).snd) ∧ ((r_1.snd.snd.fst != (0 : Int)) = false → ((r.snd.fst, r_1.snd.fst, ()), (0 : Int), ()) = (pG (gscale (toFr x.fst) (toGa x.snd.fst))).snd))))) := by kernel_rfl
theorem m_hScale (y : El (.un)) (x : Els [tR, tG]) (h2 : wfE (.un) y) (h3 : wfEs [tR, tG] x) :
  (∀ (r : El Ty.un × Els [Ty.it IntKind.i64]), r = ((), fchk (toFr x.fst), ()) → ((r.snd.fst != (0 : Int)) = true → (((false, [], [], ()), (false, [], [], ()), ()), r.snd) = (pG (gscale (toFr x.fst) (toGa x.snd.fst))).snd) ∧ ((r.snd.fst != (0 : Int)) = false → ∀ (r : El Ty.un × Els [Ty.it IntKind.i64]), r = ((), gchk (toGa x.snd.fst), ()) → ((r.snd.fst != (0 : Int)) = true → (((false, [], [], ()), (false, [], [], ()), ()), r.snd) = (pG (gscale (toFr x.fst) (toGa x.snd.fst))).snd) ∧ ((r.snd.fst != (0 : Int)) = false → ∀ (r : El Ty.un × Els [tR, Ty.it IntKind.i64]), r = pR (fmul (toFr x.fst) (toFr x.snd.fst.fst)) → ((r.snd.snd.fst != (0 : Int)) = true → (((false, [], [], ()), (false, [], [], ()), ()), r.snd.snd) = (pG (gscale (toFr x.fst) (toGa x.snd.fst))).snd) ∧ ((r.snd.snd.fst != (0 : Int)) = false → ∀ (r_1 : El Ty.un × Els [tR, Ty.it IntKind.i64]), r_1 = pR (fmul (toFr x.fst) (toFr x.snd.fst.snd.fst)) → ((r_1.snd.snd.fst != (0 : Int)) = true → (((false, [], [], ()), (false, [], [], ()), ()), r_1.snd.snd) = (pG (gscale (toFr x.fst) (toGa x.snd.fst))).snd) ∧ ((r_1.snd.snd.fst != (0 : Int)) = false → ((r.snd.fst, r_1.snd.fst, ()), (0 : Int), ()) = (pG (gscale (toFr x.fst) (toGa x.snd.fst))).snd))))) := by
  rintro _ rfl
  refine ⟨fun h => (tG_ (gscale_1 (a := toGa x.2.1) (s := toFr x.1) (ne_ h)) :), fun h => ?_⟩
  rintro _ rfl
  refine ⟨fun k => (tG_ (gscale_2 (a := toGa x.2.1) (s := toFr x.1) (eq_ h) (ne_ k)) :), fun k => ?_⟩
  rintro _ rfl
  refine ⟨fun m => (tG_ (gscale_3 (a := toGa x.2.1) (s := toFr x.1) (eq_ h) (eq_ k) (ne_ m)) :), fun m => ?_⟩
  rintro _ rfl
  exact ⟨fun n => (tG_ (gscale_4 (a := toGa x.2.1) (s := toFr x.1) (eq_ h) (eq_ k) (eq_ m) (ne_ n)) :), fun n => (tG_ (gscale_5 (a := toGa x.2.1) (s := toFr x.1) (eq_ h) (eq_ k) (eq_ m) (eq_ n)) :)⟩
set_option maxRecDepth 100000 in
theorem fo_hScale : FnOk Tryz.prog 68 sp_hScale := fnOk_of (C := c_hScale) iv_hScale Tryz.func68 rfl (by kernel_rfl) tys_ok (prims_cons (spec_prim fo_nCheck) (prims_cons (spec_prim fo_hCheck) (prims_cons (spec_prim fo_nMul) prims_nil))) mixed_ (Nat.le_refl _) rfl fun y x h1 h2 h3 h4 =>
  Eq.mpr (w_hScale y x) (m_hScale y x h2 h3)
end Go.Proofs.YtifonmdcicegdaaGreat

namespace Go.Proofs.YtifonmdcicegdaaGreat
open Go Go.RowKit

noncomputable def sp_kSameWords : Spec := { q := .un, ps := [tW32, tW32], rs := [.bo], fresh := true, pre := fun _ _ => none, post := fun _ x => ((), (decide (x.1 = x.2.1), ())) }
noncomputable def iv_kSameWords (y : El sp_kSameWords.q) (x : Els sp_kSameWords.ps) : Nat → Option Inv := fun k => if k = 0 then some { X := Nat, tm := fun i => [(0, .c (.sl (.it .u32) x.1)), (1, .c (.sl (.it .u32) x.2.1)), (5, .c (.sc (.int .i64 i)))], ob := fun _ => [], n := 1, I := fun i => i ≤ x.1.length ∧ x.1.length = x.2.1.length ∧ x.1.take i = x.2.1.take i, μ := fun i => x.1.length - i } else none
noncomputable abbrev c_kSameWords : Cfg := cfgS (Tryz.f160).ntmps false []
set_option maxRecDepth 100000 in
theorem w_kSameWords (y : El sp_kSameWords.q) (x : Els sp_kSameWords.ps) : aw c_kSameWords (iv_kSameWords y x) (codeOf Tryz.f160) 0 (retQ c_kSameWords sp_kSameWords (Tryz.f160).results.toList y x) (startT sp_kSameWords x) (startO sp_kSameWords y) 1 =
  ((((↑(List.length x.fst) : Int) != (↑(List.length x.snd.fst) : Int)) = true → (false, ()) = (decide (x.fst = x.snd.fst), ())) ∧ (((↑(List.length x.fst) : Int) != (↑(List.length x.snd.fst) : Int)) = false → (∃ (x_1 : Nat), x.fst = x.fst ∧ x.snd.fst = x.snd.fst ∧ (↑x_1 : Int) = (0 : Int) ∧ x_1 ≤ List.length x.fst ∧ List.length x.fst = List.length x.snd.fst ∧ List.take x_1 x.fst = List.take x_1 x.snd.fst) ∧ ∀ (x_1 : Nat), x_1 ≤ List.length x.fst ∧ List.length x.fst = List.length x.snd.fst ∧ List.take x_1 x.fst = List.take x_1 x.snd.fst → (decide ((↑x_1 : Int) < (↑(List.length x.fst) : Int)) = true → ((0 : Int) ≤ (↑x_1 : Int) ∧ (↑x_1 : Int) < (↑(List.length x.fst) : Int)) ∧ ((0 : Int) ≤ (↑x_1 : Int) ∧ (↑x_1 : Int) < (↑(List.length x.snd.fst) : Int)) ∧ ((List.getD x.fst (↑x_1 : Int).toNat (dfl (Ty.it IntKind.u32)) != List.getD x.snd.fst (↑x_1 : Int).toNat (dfl (Ty.it IntKind.u32))) = true → (false, ()) = (decide (x.fst = x.snd.fst), ())) ∧ ((List.getD x.fst (↑x_1 : Int).toNat (dfl (Ty.it IntKind.u32)) != List.getD x.snd.fst (↑x_1 : Int).toNat (dfl (Ty.it IntKind.u32))) = false → ((-9223372036854775808 : Int) ≤ (↑x_1 : Int) + (1 : Int) ∧ (↑x_1 : Int) + (1 : Int) ≤ (9223372036854775807 : Int)) ∧ ∃ (x' : Nat), x.fst = x.fst ∧ x.snd.fst = x.snd.fst ∧ (↑x' : Int) = (↑x_1 : Int) + (1 : Int) ∧ (x' ≤ List.length x.fst ∧ List.length x.fst = List.length x.snd.fst ∧ List.take x' x.fst = List.take x' x.snd.fst) ∧ List.length x.fst - x' < List.length x.fst - x_1)) ∧ (decide ((↑x_1 : Int) < (↑(List.length x.fst) : Int)) = false → (true, ()) = (decide (x.fst = x.snd.fst), ())))) := by kernel_rfl
theorem m_kSameWords (y : El (.un)) (x : Els [tW32, tW32]) (h2 : wfE (.un) y) (h3 : wfEs [tW32, tW32] x) :
  ((((↑(List.length x.fst) : Int) != (↑(List.length x.snd.fst) : Int)) = true → (false, ()) = (decide (x.fst = x.snd.fst), ())) ∧ (((↑(List.length x.fst) : Int) != (↑(List.length x.snd.fst) : Int)) = false → (∃ (x_1 : Nat), x.fst = x.fst ∧ x.snd.fst = x.snd.fst ∧ (↑x_1 : Int) = (0 : Int) ∧ x_1 ≤ List.length x.fst ∧ List.length x.fst = List.length x.snd.fst ∧ List.take x_1 x.fst = List.take x_1 x.snd.fst) ∧ ∀ (x_1 : Nat), x_1 ≤ List.length x.fst ∧ List.length x.fst = List.length x.snd.fst ∧ List.take x_1 x.fst = List.take x_1 x.snd.fst → (decide ((↑x_1 : Int) < (↑(List.length x.fst) : Int)) = true → ((0 : Int) ≤ (↑x_1 : Int) ∧ (↑x_1 : Int) < (↑(List.length x.fst) : Int)) ∧ ((0 : Int) ≤ (↑x_1 : Int) ∧ (↑x_1 : Int) < (↑(List.length x.snd.fst) : Int)) ∧ ((List.getD x.fst (↑x_1 : Int).toNat (dfl (Ty.it IntKind.u32)) != List.getD x.snd.fst (↑x_1 : Int).toNat (dfl (Ty.it IntKind.u32))) = true → (false, ()) = (decide (x.fst = x.snd.fst), ())) ∧ ((List.getD x.fst (↑x_1 : Int).toNat (dfl (Ty.it IntKind.u32)) != List.getD x.snd.fst (↑x_1 : Int).toNat (dfl (Ty.it IntKind.u32))) = false → ((-9223372036854775808 : Int) ≤ (↑x_1 : Int) + (1 : Int) ∧ (↑x_1 : Int) + (1 : Int) ≤ (9223372036854775807 : Int)) ∧ ∃ (x' : Nat), x.fst = x.fst ∧ x.snd.fst = x.snd.fst ∧ (↑x' : Int) = (↑x_1 : Int) + (1 : Int) ∧ (x' ≤ List.length x.fst ∧ List.length x.fst = List.length x.snd.fst ∧ List.take x' x.fst = List.take x' x.snd.fst) ∧ List.length x.fst - x' < List.length x.fst - x_1)) ∧ (decide ((↑x_1 : Int) < (↑(List.length x.fst) : Int)) = false → (true, ()) = (decide (x.fst = x.snd.fst), ())))) := by
  have hL : x.1.length ≤ 9223372036854775807 := h3.1.1
  refine ⟨fun h => ?_, fun h => ⟨⟨0, rfl, rfl, rfl, Nat.zero_le _, by simpa [Int.ofNat_inj] using h, rfl⟩, fun i hi => ⟨fun hl => ?_, fun hl => ?_⟩⟩⟩
  · have : x.1 ≠ x.2.1 := fun e => by rw [e] at h; simp at h
    rw [decide_eq_false this]
  · obtain ⟨h0, h1, h2⟩ := hi
    have hl := of_decide_eq_true hl
    have a1 : i < x.1.length := by omega
    have a2 : i < x.2.1.length := by omega
    have g1 : x.1.getD ((i : Int)).toNat (dfl (Ty.it IntKind.u32)) = x.1[i] := by
      rw [Int.toNat_natCast, List.getD_eq_getElem?_getD, List.getElem?_eq_getElem a1]; rfl
    have g2 : x.2.1.getD ((i : Int)).toNat (dfl (Ty.it IntKind.u32)) = x.2.1[i] := by
      rw [Int.toNat_natCast, List.getD_eq_getElem?_getD, List.getElem?_eq_getElem a2]; rfl
    rw [g1, g2]
    refine ⟨⟨by omega, hl⟩, ⟨by omega, by omega⟩, fun k => ?_, fun k => ⟨by omega, i + 1, rfl, rfl, rfl, ⟨a1, h1, ?_⟩, by omega⟩⟩
    · have k := bne_iff_ne.1 k
      have : x.1 ≠ x.2.1 := fun e => k (by congr 1)
      rw [decide_eq_false this]
    · have k : x.1[i] = x.2.1[i] := by simpa using k
      rw [List.take_add_one, List.take_add_one, h2, List.getElem?_eq_getElem a1, List.getElem?_eq_getElem a2, k]
  · obtain ⟨h0, h1, h2⟩ := hi
    have hl := of_decide_eq_false hl
    rw [List.take_of_length_le (by omega), List.take_of_length_le (by omega)] at h2
    rw [decide_eq_true h2]
set_option maxRecDepth 100000 in
theorem fo_kSameWords : FnOk Tryz.prog 160 sp_kSameWords := fnOk_of (C := c_kSameWords) iv_kSameWords Tryz.func160 rfl (by kernel_rfl) tys_ok prims_nil mixed_ (Nat.le_refl _) rfl fun y x h1 h2 h3 h4 =>
  Eq.mpr (w_kSameWords y x) (m_kSameWords y x h2 h3)
noncomputable def sp_kSameRatio : Spec := { q := .un, ps := [tR, tR], rs := [.bo], fresh := true, pre := fun _ _ => none, post := fun _ x => ((), (decide (toFr x.1 = toFr x.2.1), ())) }
noncomputable def iv_kSameRatio (y : El sp_kSameRatio.q) (x : Els sp_kSameRatio.ps) : Nat → Option Inv := fun _ => none
noncomputable abbrev c_kSameRatio : Cfg := cfgS (Tryz.f55).ntmps false [(160, sp_kSameWords.prim)]
set_option maxRecDepth 100000 in
theorem w_kSameRatio (y : El sp_kSameRatio.q) (x : Els sp_kSameRatio.ps) : aw c_kSameRatio (iv_kSameRatio y x) (codeOf Tryz.f55) 0 (retQ c_kSameRatio sp_kSameRatio (Tryz.f55).results.toList y x) (startT sp_kSameRatio x) (startO sp_kSameRatio y) 1 =
  (((x.fst.fst == x.snd.fst.fst) = true → ∀ (r : El Ty.un × Els [Ty.bo]), r = ((), decide (x.fst.snd.fst = x.snd.fst.snd.fst), ()) → (r.snd.fst = true → ∀ (r : El Ty.un × Els [Ty.bo]), r = ((), decide (x.fst.snd.snd.fst = x.snd.fst.snd.snd.fst), ()) → r.snd = (decide (toFr x.fst = toFr x.snd.fst), ())) ∧ (r.snd.fst = false → (false, ()) = (decide (toFr x.fst = toFr x.snd.fst), ()))) ∧ ((x.fst.fst == x.snd.fst.fst) = false → (false, ()) = (decide (toFr x.fst = toFr x.snd.fst), ()))) := by kernel_rfl
theorem m_kSameRatio (y : El (.un)) (x : Els [tR, tR]) (h2 : wfE (.un) y) (h3 : wfEs [tR, tR] x) :
  (((x.fst.fst == x.snd.fst.fst) = true → ∀ (r : El Ty.un × Els [Ty.bo]), r = ((), decide (x.fst.snd.fst = x.snd.fst.snd.fst), ()) → (r.snd.fst = true → ∀ (r : El Ty.un × Els [Ty.bo]), r = ((), decide (x.fst.snd.snd.fst = x.snd.fst.snd.snd.fst), ()) → r.snd = (decide (toFr x.fst = toFr x.snd.fst), ())) ∧ (r.snd.fst = false → (false, ()) = (decide (toFr x.fst = toFr x.snd.fst), ()))) ∧ ((x.fst.fst == x.snd.fst.fst) = false → (false, ()) = (decide (toFr x.fst = toFr x.snd.fst), ()))) := by
  obtain ⟨⟨s, a, b, _⟩, ⟨t, c, d, _⟩, _⟩ := x
  refine ⟨fun h => ?_, fun h => ?_⟩
  · rintro _ rfl
    refine ⟨fun k => ?_, fun k => ?_⟩
    · rintro _ rfl
      have hs : s = t := by simpa using h
      have hk : a = c := by simpa using k
      subst hs
      subst hk
      simp [toFr]
    · have k : a ≠ c := by simpa using k
      simp [toFr, k]
  · have h : s ≠ t := by simpa using h
    simp [toFr, h]
set_option maxRecDepth 100000 in
theorem fo_kSameRatio : FnOk Tryz.prog 55 sp_kSameRatio := fnOk_of (C := c_kSameRatio) iv_kSameRatio Tryz.func55 rfl (by kernel_rfl) tys_ok (prims_cons (spec_prim fo_kSameWords) prims_nil) mixed_ (Nat.le_refl _) rfl fun y x h1 h2 h3 h4 =>
  Eq.mpr (w_kSameRatio y x) (m_kSameRatio y x h2 h3)
noncomputable def sp_kSameGauss : Spec := { q := .un, ps := [tG, tG], rs := [.bo], fresh := true, pre := fun _ _ => none, post := fun _ x => ((), (decide (toGa x.1 = toGa x.2.1), ())) }
noncomputable def iv_kSameGauss (y : El sp_kSameGauss.q) (x : Els sp_kSameGauss.ps) : Nat → Option Inv := fun _ => none
noncomputable abbrev c_kSameGauss : Cfg := cfgS (Tryz.f89).ntmps false [(55, sp_kSameRatio.prim)]
set_option maxRecDepth 100000 in
theorem w_kSameGauss (y : El sp_kSameGauss.q) (x : Els sp_kSameGauss.ps) : aw c_kSameGauss (iv_kSameGauss y x) (codeOf Tryz.f89) 0 (retQ c_kSameGauss sp_kSameGauss (Tryz.f89).results.toList y x) (startT sp_kSameGauss x) (startO sp_kSameGauss y) 1 =
  (∀ (r : El Ty.un × Els [Ty.bo]), r = ((), decide (toFr x.fst.fst = toFr x.snd.fst.fst), ()) → (r.snd.fst = true → ∀ (r : El Ty.un × Els [Ty.bo]), r = ((), decide (toFr x.fst.snd.fst = toFr x.snd.fst.snd.fst), ()) → r.snd = (decide (toGa x.fst = toGa x.snd.fst), ())) ∧ (r.snd.fst = false → (false, ()) = (decide (toGa x.fst = toGa x.snd.fst), ()))) := by kernel_rfl
theorem m_kSameGauss (y : El (.un)) (x : Els [tG, tG]) (h2 : wfE (.un) y) (h3 : wfEs [tG, tG] x) :
  (∀ (r : El Ty.un × Els [Ty.bo]), r = ((), decide (toFr x.fst.fst = toFr x.snd.fst.fst), ()) → (r.snd.fst = true → ∀ (r : El Ty.un × Els [Ty.bo]), r = ((), decide (toFr x.fst.snd.fst = toFr x.snd.fst.snd.fst), ()) → r.snd = (decide (toGa x.fst = toGa x.snd.fst), ())) ∧ (r.snd.fst = false → (false, ()) = (decide (toGa x.fst = toGa x.snd.fst), ()))) := by
  rintro _ rfl
  refine ⟨fun k => ?_, fun k => ?_⟩
  · rintro _ rfl
    simp_all
  · simp_all
set_option maxRecDepth 100000 in
theorem fo_kSameGauss : FnOk Tryz.prog 89 sp_kSameGauss := fnOk_of (C := c_kSameGauss) iv_kSameGauss Tryz.func89 rfl (by kernel_rfl) tys_ok (prims_cons (spec_prim fo_kSameRatio) prims_nil) mixed_ (Nat.le_refl _) rfl fun y x h1 h2 h3 h4 =>
  Eq.mpr (w_kSameGauss y x) (m_kSameGauss y x h2 h3)
def smallW (l : List Int) (m : Int) : Bool := decide ((l.length : Int) ≤ m) || decide (2048 < l.length ∧ l.length < 2057)
noncomputable def sp_lsmall : Spec := { q := .un, ps := [tW32, .it .i64], rs := [.bo], fresh := true, pre := fun _ _ => none, post := fun _ x => ((), (smallW x.1 x.2.1, ())) }
noncomputable def iv_lsmall (y : El sp_lsmall.q) (x : Els sp_lsmall.ps) : Nat → Option Inv := fun _ => none
noncomputable abbrev c_lsmall : Cfg := cfgS (Tryz.f172).ntmps false []
set_option maxRecDepth 100000 in
theorem w_lsmall (y : El sp_lsmall.q) (x : Els sp_lsmall.ps) : aw c_lsmall (iv_lsmall y x) (codeOf Tryz.f172) 0 (retQ c_lsmall sp_lsmall (Tryz.f172).results.toList y x) (startT sp_lsmall x) (startO sp_lsmall y) 1 =
  ((decide ((↑(List.length x.fst) : Int) ≤ x.snd.fst) = true → (true, ()) = (smallW x.fst x.snd.fst, ())) ∧ (decide ((↑(List.length x.fst) : Int) ≤ x.snd.fst) = false → (decide ((↑(List.length x.fst) : Int) > (2048 : Int)) = true → (decide ((↑(List.length x.fst) : Int) < (2057 : Int)), ()) = (smallW x.fst x.snd.fst, ())) ∧ (decide ((↑(List.length x.fst) : Int) > (2048 : Int)) = false → (false, ()) = (smallW x.fst x.snd.fst, ())))) := by kernel_rfl
theorem m_lsmall (y : El (.un)) (x : Els [tW32, .it .i64]) (h2 : wfE (.un) y) (h3 : wfEs [tW32, .it .i64] x) :
  ((decide ((↑(List.length x.fst) : Int) ≤ x.snd.fst) = true → (true, ()) = (smallW x.fst x.snd.fst, ())) ∧ (decide ((↑(List.length x.fst) : Int) ≤ x.snd.fst) = false → (decide ((↑(List.length x.fst) : Int) > (2048 : Int)) = true → (decide ((↑(List.length x.fst) : Int) < (2057 : Int)), ()) = (smallW x.fst x.snd.fst, ())) ∧ (decide ((↑(List.length x.fst) : Int) > (2048 : Int)) = false → (false, ()) = (smallW x.fst x.snd.fst, ())))) := by
  unfold smallW
  refine ⟨fun h => ?_, fun h => ⟨fun k => ?_, fun k => ?_⟩⟩
  · rw [h]; rfl
  · rw [h]
    have k := of_decide_eq_true k
    by_cases m : x.1.length < 2057
    · rw [decide_eq_true (by omega), decide_eq_true (by omega)]; rfl
    · rw [decide_eq_false (by omega), decide_eq_false (by omega)]; rfl
  · rw [h]
    have k := of_decide_eq_false k
    rw [decide_eq_false (by omega)]; rfl
set_option maxRecDepth 100000 in
theorem fo_lsmall : FnOk Tryz.prog 172 sp_lsmall := fnOk_of (C := c_lsmall) iv_lsmall Tryz.func172 rfl (by kernel_rfl) tys_ok prims_nil mixed_ (Nat.le_refl _) rfl fun y x h1 h2 h3 h4 =>
  Eq.mpr (w_lsmall y x) (m_lsmall y x h2 h3)
noncomputable def sp_lSmall : Spec := { q := .un, ps := [tR, .it .i64], rs := [.bo], fresh := true, pre := fun _ _ => none, post := fun _ x => ((), (smallW x.1.2.1 x.2.1 && smallW x.1.2.2.1 x.2.1, ())) }
noncomputable def iv_lSmall (y : El sp_lSmall.q) (x : Els sp_lSmall.ps) : Nat → Option Inv := fun _ => none
noncomputable abbrev c_lSmall : Cfg := cfgS (Tryz.f58).ntmps false [(172, sp_lsmall.prim)]
set_option maxRecDepth 100000 in
theorem w_lSmall (y : El sp_lSmall.q) (x : Els sp_lSmall.ps) : aw c_lSmall (iv_lSmall y x) (codeOf Tryz.f58) 0 (retQ c_lSmall sp_lSmall (Tryz.f58).results.toList y x) (startT sp_lSmall x) (startO sp_lSmall y) 1 =
  (∀ (r : El Ty.un × Els [Ty.bo]), r = ((), smallW x.fst.snd.fst x.snd.fst, ()) → (r.snd.fst = true → ∀ (r : El Ty.un × Els [Ty.bo]), r = ((), smallW x.fst.snd.snd.fst x.snd.fst, ()) → r.snd = (smallW x.fst.snd.fst x.snd.fst && smallW x.fst.snd.snd.fst x.snd.fst, ())) ∧ (r.snd.fst = false → (false, ()) = (smallW x.fst.snd.fst x.snd.fst && smallW x.fst.snd.snd.fst x.snd.fst, ()))) := by kernel_rfl
theorem m_lSmall (y : El (.un)) (x : Els [tR, .it .i64]) (h2 : wfE (.un) y) (h3 : wfEs [tR, .it .i64] x) :
  (∀ (r : El Ty.un × Els [Ty.bo]), r = ((), smallW x.fst.snd.fst x.snd.fst, ()) → (r.snd.fst = true → ∀ (r : El Ty.un × Els [Ty.bo]), r = ((), smallW x.fst.snd.snd.fst x.snd.fst, ()) → r.snd = (smallW x.fst.snd.fst x.snd.fst && smallW x.fst.snd.snd.fst x.snd.fst, ())) ∧ (r.snd.fst = false → (false, ()) = (smallW x.fst.snd.fst x.snd.fst && smallW x.fst.snd.snd.fst x.snd.fst, ()))) := by
  rintro _ rfl
  refine ⟨fun k => ?_, fun k => ?_⟩
  · rintro _ rfl
    simp_all
  · simp_all
set_option maxRecDepth 100000 in
theorem fo_lSmall : FnOk Tryz.prog 58 sp_lSmall := fnOk_of (C := c_lSmall) iv_lSmall Tryz.func58 rfl (by kernel_rfl) tys_ok (prims_cons (spec_prim fo_lsmall) prims_nil) mixed_ (Nat.le_refl _) rfl fun y x h1 h2 h3 h4 =>
  Eq.mpr (w_lSmall y x) (m_lSmall y x h2 h3)
def smallF (f : Fr) (m : Int) : Bool := smallW f.num m && smallW f.den m
theorem beq_dec (a b : Int) : (a == b) = decide (a = b) := by rw [Bool.eq_iff_iff]; simp
end Go.Proofs.YtifonmdcicegdaaGreat

namespace Go.Proofs.YtifonmdcicegdaaGreat
open Go Go.RowKit

section
variable {gp : Option Nat} {Z0 : Nat → Prop} {w0 w w' : World} {D : Nat → Prop} {c : Cf} {T : Nat → Option AV} {O : Store} {a : Act} {N : Nat}
/-- THINGS MORE IN NEW BLOCKS -/
theorem Sim.news (S : Sim gp Z0 w0 N D c T O a.tmps w) (hx : Below w.heap.size w w') {es : List Ent} {n : Nat} {ob : OB} {v : Value} {av : AV} (hfr : ∀ i, n ≤ i → i < n + es.length → ¬ D i) (hnd : (es.flatMap Ent.all).Nodup) (hbase : ∀ g ∈ es.flatMap Ent.all, w.heap.size ≤ g)
    (hob : ∀ c' : Cf, Put c' n es → c.Le c' → Stay c.Z w w' → ObsOk c' w' n (n + es.length) ob ∧ RA c' w' v av) :
    ∃ c', c.Le c' ∧ ∀ d, dstOk N d = true → Sim gp Z0 w0 N (fun j => D j ∨ n ≤ j ∧ j < n + es.length) c' (upT T d av) (upO O ob) (a.put d v).tmps w' := by
  have hext : Ext w w' := hx
  let c' : Cf := ⟨fun i => if n ≤ i ∧ i < n + es.length then es[i - n]? else c.m i, c.Z⟩
  have put : Put c' n es := fun k e hk => by
    have := (List.getElem?_eq_some_iff.1 hk).1
    show (if n ≤ n + k ∧ n + k < n + es.length then es[n + k - n]? else c.m (n + k)) = some e
    rw [if_pos ⟨by omega, by omega⟩, show n + k - n = k by omega]
    exact hk
  have le : c.Le c' := ⟨fun i e hi => by
    show (if n ≤ i ∧ i < n + es.length then es[i - n]? else c.m i) = some e
    rw [if_neg (fun h => hfr i h.1 h.2 (S.dom i e hi))]
    exact hi, fun _ h => h⟩
  have st : Stay c.Z w w' := fun g hz => hext.block g (S.zl g hz)
  obtain ⟨q2, q1⟩ := hob c' put le st
  have lk : ∀ i o, look ob i = some o → (n ≤ i ∧ i < n + es.length) ∧ ObOk c' w' i o ∧ c'.m i = es[i - n]? := fun i o h => by
    obtain ⟨r1, r2, r3⟩ := q2 _ (look_mem h)
    exact ⟨⟨r1, r2⟩, r3, if_pos ⟨r1, r2⟩⟩
  refine ⟨c', le, fun d hd => S.step hd le st q1 (fun i o h1 _ h3 e g h4 h5 => hext.block g ((S.obj i o h1).lt h3 e g h4 h5)) (fun i o h => (lk i o h).2.1) (fun i o e g h1 h2 h3 h4 => ?_) (fun i j o p e f g h1 h2 h3 h4 h5 h6 h7 h8 => ?_) (fun g hz => ⟨Nat.lt_of_lt_of_le (S.zl g hz) hext.size, S.zz g hz, fun i o e h1 _ h3 h4 h5 => S.zo i o e g h1 h3 h4 h5 hz⟩) (fun i e h => ?_) (grown_trans S.gr (hext.by_ _)) (fun i cs o h1 h2 => ?_)⟩
  · obtain ⟨l1, _, l3⟩ := lk i o h1
    rw [l3] at h3
    have hgb : g ∈ es.flatMap Ent.all := List.mem_flatMap.2 ⟨e, List.mem_of_getElem? h3, h4⟩
    refine ⟨.inr (hbase g hgb), fun hz => ?_⟩
    have := S.zl g hz
    have := hbase g hgb
    omega
  · intro h9
    obtain ⟨l1, _, l3⟩ := lk i o h1
    obtain ⟨m1, _, m3⟩ := lk j p h2
    rw [l3] at h6
    rw [m3] at h7
    have := flat_inj hnd _ _ e f g h6 h7 h8 h9
    omega
  · have h' : (if n ≤ i ∧ i < n + es.length then es[i - n]? else c.m i) = some e := h
    split at h'
    · rename_i hr; exact .inr hr
    · exact .inl (S.dom i e h')
  · obtain ⟨l1, _, _⟩ := lk i o h2
    obtain ⟨e, _, _, _, y, _⟩ := S.obj i _ h1
    exact absurd (S.dom i e y) (hfr i l1.1 l1.2)
end
end Go.Proofs.YtifonmdcicegdaaGreat

namespace Go.Proofs.YtifonmdcicegdaaGreat
open Go Go.RowKit

theorem look_push {α : Type} {l : List α} {x y : α} {i : Nat} (h : (l ++ [x])[i]? = some y) : l[i]? = some y ∨ (i = l.length ∧ x = y) := by
  by_cases hi : i < l.length
  · rw [List.getElem?_append_left hi] at h; exact .inl h
  · rw [List.getElem?_append_right (by omega)] at h
    by_cases h0 : i - l.length = 0
    · rw [h0] at h; simp at h; exact .inr ⟨by omega, h⟩
    · rw [List.getElem?_eq_none (by simp; omega)] at h; cases h
/-- V: blocks with what they hold; R: fractions with where they lie. row: a block that was there and is written; wb: a world before it -/
structure Sta (wb w0 : World) (row : Option Nat) (V : List (Nat × List Value)) (R : List (Adr × Fr)) (w : World) : Prop where
  v : ∀ (i k : Nat) (vs : List Value), V[i]? = some (k, vs) → Var k vs w
  vn : ∀ (i j k : Nat) (vs us : List Value), V[i]? = some (k, vs) → V[j]? = some (k, us) → i = j
  vb : ∀ (i k : Nat) (vs : List Value), V[i]? = some (k, vs) → w0.heap.size ≤ k ∨ row = some k
  vw : ∀ (i k : Nat) (vs : List Value), V[i]? = some (k, vs) → wb.heap.size ≤ k
  r : ∀ (i : Nat) (p : Adr) (f : Fr), R[i]? = some (p, f) → OF w w0.heap.size p f
  ro : ∀ (i : Nat) (p : Adr) (f : Fr) (j k : Nat) (vs : List Value), R[i]? = some (p, f) → V[j]? = some (k, vs) → p.Off k
  rd : ∀ (i j : Nat) (p : Adr) (f : Fr) (q : Adr) (g : Fr), i < j → R[i]? = some (p, f) → R[j]? = some (q, g) → p.Dis q
  x : Below wb.heap.size wb w
  g : w0.grownBy w row
  hb : wb.heap.size ≤ w0.heap.size

section
variable {wb w0 w w' : World} {row : Option Nat} {V : List (Nat × List Value)} {R : List (Adr × Fr)}

theorem Sta.start (w : World) : Sta w w none [] [] w :=
  ⟨fun _ _ _ h => by simp at h, fun _ _ _ _ _ h => by simp at h, fun _ _ _ h => by simp at h, fun _ _ _ h => by simp at h, fun _ _ _ h => by simp at h, fun _ _ _ _ _ _ h => by simp at h, fun _ _ _ _ _ _ _ h => by simp at h, Below.refl _ _, World.grownBy.refl _ _, Nat.le_refl _⟩
theorem Sta.ext (S : Sta wb w0 row V R w) (x : Below w.heap.size w w') : Sta wb w0 row V R w' :=
  ⟨fun i k vs h => (S.v i k vs h).ext x, S.vn, S.vb, S.vw, fun i p f h => (S.r i p f h).ext x, S.ro, S.rd, Below.join S.x x, grown_ext S.g x, S.hb⟩
theorem Sta.drew (S : Sta wb w0 row V R w) : Sta wb w0 row V R w.drew := S.ext (Ext.refl w).drew
theorem Sta.new (S : Sta wb w0 row V R w) (vs : List Value) (t : TypeId) : Sta wb w0 row (V ++ [(w.heap.size, vs)]) R (w.alloc (.cells vs.toArray t)) := by
  have x := (Ext.refl w).alloc (.cells vs.toArray t)
  have hs := S.g.size
  refine ⟨fun i k us h => ?_, fun i j k us zs h h' => ?_, fun i k us h => ?_, fun i k us h => ?_, fun i p f h => (S.r i p f h).ext x, fun i p f j k us h h' => ?_, S.rd, Below.join S.x x, grown_ext S.g x, S.hb⟩
  · rcases look_push h with h | ⟨_, h⟩
    · exact (S.v i k us h).ext x
    · cases h; exact Var.new w vs t
  · rcases look_push h with h | ⟨e, h⟩ <;> rcases look_push h' with h' | ⟨e', h'⟩
    · exact S.vn i j k us zs h h'
    · cases h'; exact absurd (S.v i _ us h).lt (Nat.lt_irrefl _)
    · cases h; exact absurd (S.v j _ zs h').lt (Nat.lt_irrefl _)
    · omega
  · rcases look_push h with h | ⟨_, h⟩
    · exact S.vb i k us h
    · cases h; exact .inl hs
  · rcases look_push h with h | ⟨_, h⟩
    · exact S.vw i k us h
    · cases h; exact Nat.le_trans S.hb hs
  · rcases look_push h' with h' | ⟨_, h'⟩
    · exact S.ro i p f j k us h h'
    · cases h'; exact (S.r i p f h).offHi (Nat.le_refl _)
/-- a row more, behind a call that began in w -/
theorem Sta.add {V' : List (Nat × List Value)} (S : Sta wb w0 row V R w) (T : Sta wb w0 row V' R w') (hV : ∀ (i k : Nat) (vs : List Value), V'[i]? = some (k, vs) → k < w.heap.size) {p : Adr} {f : Fr} (o : OF w' w.heap.size p f) : Sta wb w0 row V' (R ++ [(p, f)]) w' := by
  refine ⟨T.v, T.vn, T.vb, T.vw, fun i q g h => ?_, fun i q g j k vs h h' => ?_, fun i j q g s h hij h1 h2 => ?_, T.x, T.g, T.hb⟩
  · rcases look_push h with h | ⟨_, h⟩
    · exact T.r i q g h
    · cases h; exact o.lower S.g.size
  · rcases look_push h with h | ⟨_, h⟩
    · exact T.ro i q g j k vs h h'
    · cases h; exact o.offLo (hV j k vs h')
  · rcases look_push h2 with h2 | ⟨e2, h2⟩
    · rcases look_push h1 with h1 | ⟨e1, h1⟩
      · exact T.rd i j q g s h hij h1 h2
      · have := (List.getElem?_eq_some_iff.1 h2).1; omega
    · rcases look_push h1 with h1 | ⟨e1, h1⟩
      · cases h2; exact (S.r i q g h1).dis o (Nat.le_refl _)
      · omega
/-- a call that tells a fraction in new memory -/
theorem Sta.call (S : Sta wb w0 row V R w) (x : Below w.heap.size w w') {p : Adr} {f : Fr} (o : OF w' w.heap.size p f) : Sta wb w0 row V (R ++ [(p, f)]) w' :=
  S.add (S.ext x) (fun i k vs h => (S.v i k vs h).lt) o
/-- a row more, that lies apart -/
theorem Sta.plus (T : Sta wb w0 row V R w) {p : Adr} {f : Fr} (o : OF w w0.heap.size p f) (ho : ∀ (i k : Nat) (vs : List Value), V[i]? = some (k, vs) → p.Off k) (hd : ∀ (i : Nat) (q : Adr) (g : Fr), R[i]? = some (q, g) → q.Dis p) : Sta wb w0 row V (R ++ [(p, f)]) w := by
  refine ⟨T.v, T.vn, T.vb, T.vw, fun i q g h => ?_, fun i q g j k vs h h' => ?_, fun i j q g s h hij h1 h2 => ?_, T.x, T.g, T.hb⟩
  · rcases look_push h with h | ⟨_, h⟩
    · exact T.r i q g h
    · cases h; exact o
  · rcases look_push h with h | ⟨_, h⟩
    · exact T.ro i q g j k vs h h'
    · cases h; exact ho j k vs h'
  · rcases look_push h2 with h2 | ⟨e2, h2⟩
    · rcases look_push h1 with h1 | ⟨e1, h1⟩
      · exact T.rd i j q g s h hij h1 h2
      · have := (List.getElem?_eq_some_iff.1 h2).1; omega
    · rcases look_push h1 with h1 | ⟨e1, h1⟩
      · cases h2; exact hd i q g h1
      · omega
theorem Sta.conv {V' : List (Nat × List Value)} {R' : List (Adr × Fr)} (S : Sta wb w0 row V R w) (h : V = V') (h' : R = R') : Sta wb w0 row V' R' w := h ▸ h' ▸ S
theorem Sta.name (S : Sta wb w0 row V R w) : ∃ V' R', V' = V ∧ R' = R ∧ Sta wb w0 row V' R' w := ⟨V, R, rfl, rfl, S⟩
theorem Sta.c3 (S : Sta wb w0 row V R w) (i : Nat) {k : Nat} {a b c : Value} (hi : V[i]? = some (k, [a, b, c])) : w.cell? ⟨k, 0, none⟩ = some a ∧ w.cell? ⟨k, 1, none⟩ = some b ∧ w.cell? ⟨k, 2, none⟩ = some c := (S.v i k _ hi).c3
theorem Sta.c6 (S : Sta wb w0 row V R w) (i : Nat) {k : Nat} {a b c d e f : Value} (hi : V[i]? = some (k, [a, b, c, d, e, f])) : w.cell? ⟨k, 0, none⟩ = some a ∧ w.cell? ⟨k, 1, none⟩ = some b ∧ w.cell? ⟨k, 2, none⟩ = some c ∧ w.cell? ⟨k, 3, none⟩ = some d ∧ w.cell? ⟨k, 4, none⟩ = some e ∧ w.cell? ⟨k, 5, none⟩ = some f := (S.v i k _ hi).c6
theorem Var.f6 {g : Nat} {vs : List Value} {w : World} (h : Var g vs w) : w.frozen? ⟨g, 0, none⟩ = false ∧ w.frozen? ⟨g, 1, none⟩ = false ∧ w.frozen? ⟨g, 2, none⟩ = false ∧ w.frozen? ⟨g, 3, none⟩ = false ∧ w.frozen? ⟨g, 4, none⟩ = false ∧ w.frozen? ⟨g, 5, none⟩ = false := ⟨h.fr 0, h.fr 1, h.fr 2, h.fr 3, h.fr 4, h.fr 5⟩
theorem Sta.f3 (S : Sta wb w0 row V R w) (i : Nat) {k : Nat} {vs : List Value} (hi : V[i]? = some (k, vs)) : w.frozen? ⟨k, 0, none⟩ = false ∧ w.frozen? ⟨k, 1, none⟩ = false ∧ w.frozen? ⟨k, 2, none⟩ = false := (S.v i k _ hi).f3
theorem Sta.f6 (S : Sta wb w0 row V R w) (i : Nat) {k : Nat} {vs : List Value} (hi : V[i]? = some (k, vs)) : w.frozen? ⟨k, 0, none⟩ = false ∧ w.frozen? ⟨k, 1, none⟩ = false ∧ w.frozen? ⟨k, 2, none⟩ = false ∧ w.frozen? ⟨k, 3, none⟩ = false ∧ w.frozen? ⟨k, 4, none⟩ = false ∧ w.frozen? ⟨k, 5, none⟩ = false := (S.v i k _ hi).f6
theorem Sta.rf (S : Sta wb w0 row V R w) (i : Nat) {p : Adr} {f : Fr} (hi : R[i]? = some (p, f)) : RF w p f := (S.r i p f hi).rf
theorem Sta.below (S : Sta wb w0 none V R w) : Below w0.heap.size w0 w := Ext.grownNone (Ext.refl w0) S.g
/-- what was in R, without the rest -/
theorem Sta.more (S : Sta wb w0 row V R w) : w0.heap.size ≤ w.heap.size := S.g.size
end

/-- cells below N read as in W, but for two blocks -/
abbrev Sk (W : World) (N k m : Nat) (w : World) : Prop := ∀ b o, b < N → b ≠ k → b ≠ m → w.cell? ⟨b, o, none⟩ = W.cell? ⟨b, o, none⟩
theorem Sk.refl (W : World) (N k m : Nat) : Sk W N k m W := fun _ _ _ _ _ => rfl
theorem Sk.ext {W w w' : World} {N k m : Nat} (h : Sk W N k m w) (x : Below w.heap.size w w') (hN : N ≤ w.heap.size) : Sk W N k m w' := fun b o hb hk hm => ((bcell x).1 b o (by omega)).trans (h b o hb hk hm)
theorem Sk.drew {W w : World} {N k m : Nat} (h : Sk W N k m w) : Sk W N k m w.drew := h
theorem Sk.alloc {W w : World} {N k m : Nat} {o : Obj} (h : Sk W N k m w) (hN : N ≤ w.heap.size) : Sk W N k m (w.alloc o) := h.ext ((Ext.refl w).alloc o) hN
theorem Sk.set {W w : World} {N k m o : Nat} {u : Value} (h : Sk W N k m w) : Sk W N k m (w.setCell ⟨m, o, none⟩ u) := fun b i hb hk hm => (World.cell?_setCell_far w ⟨m, o, none⟩ ⟨b, i, none⟩ u (fun e => hm e.symm)).trans (h b i hb hk hm)
theorem Sk.same {W w : World} {N k m : Nat} {p : Addr} {u : Value} (h : Sk W N k m w) (hp : w.cell? p = some u) : Sk W N k m (w.setCell p u) := fun b i hb hk hm => by
  refine Eq.trans ?_ (h b i hb hk hm)
  by_cases e : p = ⟨b, i, none⟩
  · rw [← e, World.cell?_setCell_same _ _ _ hp, hp]
  · exact World.cell?_setCell_other _ _ _ _ e
/-- the cells of W read as they were -/
abbrev Sk0 (W w : World) : Prop := ∀ b o, b < W.heap.size → w.cell? ⟨b, o, none⟩ = W.cell? ⟨b, o, none⟩
theorem Sk0.of {W w : World} (x : Below W.heap.size W w) : Sk0 W w := fun b o h => (bcell x).1 b o h
theorem Sk0.grown {W X w : World} {r : Option Nat} (h : Sk0 W X) (g : X.grownBy w r) (hr : ∀ b, r = some b → W.heap.size ≤ b) (hN : W.heap.size ≤ X.heap.size) : Sk0 W w := fun b o hb =>
  (World.cell?_of_block (a := ⟨b, o, none⟩) (g.block b (by omega) (fun e => by have := hr b e.symm; omega))).trans (h b o hb)
/-- .. and nothing is gone -/
abbrev Skz (W w : World) : Prop := (∀ b o, b < W.heap.size → w.cell? ⟨b, o, none⟩ = W.cell? ⟨b, o, none⟩) ∧ W.heap.size ≤ w.heap.size
theorem Skz.start (W : World) : Skz W W.drew := ⟨fun _ _ _ => rfl, Nat.le_refl _⟩
theorem Skz.alloc {W w : World} {o : Obj} (h : Skz W w) : Skz W (w.alloc o) := ⟨fun b i hb => ((bcell ((Ext.refl w).alloc o)).1 b i (by have := h.2; omega)).trans (h.1 b i hb), by simp only [World.size_alloc]; have := h.2; omega⟩
theorem Skz.drew {W w : World} (h : Skz W w) : Skz W w.drew := h
theorem Skz.ext {W w w' : World} (h : Skz W w) (x : Below w.heap.size w w') : Skz W w' := ⟨fun b i hb => ((bcell x).1 b i (by have := h.2; omega)).trans (h.1 b i hb), Nat.le_trans h.2 (Ext.size x)⟩
theorem Skz.grown {W X w : World} {r : Option Nat} (h : Skz W X) (g : X.grownBy w r) (hr : ∀ b, r = some b → W.heap.size ≤ b) : Skz W w :=
  ⟨fun b i hb => (World.cell?_of_block (a := ⟨b, i, none⟩) (g.block b (by have := h.2; omega) (fun e => by have := hr b e.symm; omega))).trans (h.1 b i hb), Nat.le_trans h.2 g.size⟩
end Go.Proofs.YtifonmdcicegdaaGreat

namespace Go.Proofs.YtifonmdcicegdaaGreat
open Go Go.RowKit

/-- a complex fraction that is read -/
structure RG (w : World) (p q : Adr) (a : Ga) : Prop where
  re : RF w p a.re
  im : RF w q a.im
theorem RG.ext {w w' : World} {p q : Adr} {a : Ga} (h : RG w p q a) (x : Ext w w') : RG w' p q a := ⟨h.re.ext x, h.im.ext x⟩
theorem RG.wf {w : World} {p q : Adr} {a : Ga} (h : RG w p q a) : a.Wf := ⟨h.re.wf, h.im.wf⟩
end Go.Proofs.YtifonmdcicegdaaGreat

namespace Go.Proofs.YtifonmdcicegdaaGreat
open Go Go.RowKit

/-- a fraction's words with what stands behind them when it is lent -/
def lentF (f : Fr) : Fr := ⟨f.neg, f.num ++ marks, f.den ++ marks⟩
theorem wf_app {xs ys : List Int} (h : Wf xs) (k : Wf ys) : Wf (xs ++ ys) := fun x hx => (List.mem_append.1 hx).elim (h x) (k x)
theorem lentF_wf {f : Fr} (h : f.Wf) : (lentF f).Wf := ⟨wf_app h.num wf_marks, wf_app h.den wf_marks⟩
/-- few enough words -/
def Few (f : Fr) : Prop := f.num.length ≤ 1000000 ∧ f.den.length ≤ 1000000
theorem few_zero : Few Fr.zero := ⟨Nat.zero_le _, Nat.zero_le _⟩
theorem few_enc {q : Rat} (h : ¬ lng q = true) : Few (enc q) := by
  have h1 := not_lng h
  exact ⟨by show (wd _).length ≤ _; omega, by show (wd _).length ≤ _; omega⟩
theorem Good.few {t : Fr × Int} (h : Good t) : Few t.1 := by
  by_cases e : t.2 = 0
  · obtain ⟨q, hq, hl⟩ := h.1 e; rw [hq]; exact few_enc hl
  · rw [h.2 e]; exact few_zero
theorem fneg_few {a : Fr} (wa : a.Wf) : Few (fneg a).1 := by
  by_cases h : fchk a ≠ 0
  · unfold fneg; rw [if_pos h]; exact few_zero
  · obtain ⟨q, rfl, lq⟩ := fchk_ok wa (by simpa using h)
    rw [fneg_enc lq]
    exact few_enc (by rw [lng_negQ]; exact lq)
/-- few words in both parts -/
def FewG (a : Ga) : Prop := Few a.re ∧ Few a.im
theorem gconj_few {a : Ga} (wa : a.Wf) (h : FewG a) : FewG (gconj a).1 := by
  by_cases h0 : gchk a ≠ 0
  · rw [gconj_1 h0]; exact ⟨few_zero, few_zero⟩
  · rw [gconj_2 (by simpa using h0)]; exact ⟨h.1, fneg_few wa.im⟩
theorem kLent (f : Fr) (p : Adr) (w : World) (h : RF w p f) (hm : Few f) : Calls Tryz.prog 13 #[.agg #[.bool f.neg, .slice p.A f.num.length p.c, .slice p.B f.den.length p.d]] w fun e w' =>
    ∃ p' : Adr, e = .returned (.agg #[.bool f.neg, .slice p'.A f.num.length p'.c, .slice p'.B f.den.length p'.d]) ∧ OF w' w.heap.size p' (lentF f) ∧ Below w.heap.size w w' :=
  (klentR_any f _ _ _ _ w h.num h.den hm.1 hm.2).mono fun _ _ ⟨A, c, B, d, h1, h2, h3, h4, h5⟩ => ⟨⟨A, c, B, d⟩, h1, ⟨h2, h3, h4, lentF_wf h.wf⟩, h5⟩
end Go.Proofs.YtifonmdcicegdaaGreat

