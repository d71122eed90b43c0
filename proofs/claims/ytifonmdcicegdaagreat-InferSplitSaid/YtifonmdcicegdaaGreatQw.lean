/- Texts of this claim, joined: B8 B9 A26 Y2 U3 Y4. -/
import Derived.Test.YtifonmdcicegdaaGreatQv
set_option linter.unusedVariables false
set_option linter.unusedSimpArgs false
namespace Go.Proofs.YtifonmdcicegdaaGreat
open Go Go.RowKit

noncomputable def sp_hCheck : Spec := { q := .un, ps := [tG], rs := [.it .i64], fresh := false, pre := fun _ _ => none, post := fun _ x => ((), (gchk (toGa x.1), ())) }
noncomputable def iv_hCheck (y : El sp_hCheck.q) (x : Els sp_hCheck.ps) : Nat → Option Inv := fun _ => none
noncomputable abbrev c_hCheck : Cfg := cfgS (Tryz.f41).ntmps false [(30, sp_nCheck.prim)]
set_option maxRecDepth 100000 in
theorem w_hCheck (y : El sp_hCheck.q) (x : Els sp_hCheck.ps) : aw c_hCheck (iv_hCheck y x) (codeOf Tryz.f41) 0 (retQ c_hCheck sp_hCheck (Tryz.f41).results.toList y x) (startT sp_hCheck x) (startO sp_hCheck y) 1 =
  (∀ (r : El Ty.un × Els [Ty.it IntKind.i64]), r = ((), fchk (toFr x.fst.fst), ()) → ((r.snd.fst != (0 : Int)) = true → r.snd = (gchk (toGa x.fst), ())) ∧ ((r.snd.fst != (0 : Int)) = false → ∀ (r : El Ty.un × Els [Ty.it IntKind.i64]), r = ((), fchk (toFr x.fst.snd.fst), ()) → r.snd = (gchk (toGa x.fst), ()))) := by kernel_rfl
theorem m_hCheck (y : El (.un)) (x : Els [tG]) (h2 : wfE (.un) y) (h3 : wfEs [tG] x) :
  (∀ (r : El Ty.un × Els [Ty.it IntKind.i64]), r = ((), fchk (toFr x.fst.fst), ()) → ((r.snd.fst != (0 : Int)) = true → r.snd = (gchk (toGa x.fst), ())) ∧ ((r.snd.fst != (0 : Int)) = false → ∀ (r : El Ty.un × Els [Ty.it IntKind.i64]), r = ((), fchk (toFr x.fst.snd.fst), ()) → r.snd = (gchk (toGa x.fst), ()))) := by
  rintro _ rfl
  refine ⟨fun h => ?_, fun h => ?_⟩
  · simp_all [gchk, fchk2]
  · rintro _ rfl
    simp_all [gchk, fchk2]
set_option maxRecDepth 100000 in
theorem fo_hCheck : FnOk Tryz.prog 41 sp_hCheck := fnOk_of (C := c_hCheck) iv_hCheck Tryz.func41 rfl (by kernel_rfl) tys_ok (prims_cons (spec_prim fo_nCheck) prims_nil) mixed_ (Nat.le_refl _) rfl fun y x h1 h2 h3 h4 =>
  Eq.mpr (w_hCheck y x) (m_hCheck y x h2 h3)
noncomputable def sp_hboth : Spec := { q := .un, ps := [tG, tG], rs := [.it .i64], fresh := false, pre := fun _ _ => none, post := fun _ x => ((), (gchk2 (toGa x.1) (toGa x.2.1), ())) }
noncomputable def iv_hboth (y : El sp_hboth.q) (x : Els sp_hboth.ps) : Nat → Option Inv := fun _ => none
noncomputable abbrev c_hboth : Cfg := cfgS (Tryz.f164).ntmps false [(41, sp_hCheck.prim)]
set_option maxRecDepth 100000 in
theorem w_hboth (y : El sp_hboth.q) (x : Els sp_hboth.ps) : aw c_hboth (iv_hboth y x) (codeOf Tryz.f164) 0 (retQ c_hboth sp_hboth (Tryz.f164).results.toList y x) (startT sp_hboth x) (startO sp_hboth y) 1 =
  (∀ (r : El Ty.un × Els [Ty.it IntKind.i64]), r = ((), gchk (toGa x.fst), ()) → ((r.snd.fst != (0 : Int)) = true → r.snd = (gchk2 (toGa x.fst) (toGa x.snd.fst), ())) ∧ ((r.snd.fst != (0 : Int)) = false → ∀ (r : El Ty.un × Els [Ty.it IntKind.i64]), r = ((), gchk (toGa x.snd.fst), ()) → r.snd = (gchk2 (toGa x.fst) (toGa x.snd.fst), ()))) := by kernel_rfl
theorem m_hboth (y : El (.un)) (x : Els [tG, tG]) (h2 : wfE (.un) y) (h3 : wfEs [tG, tG] x) :
  (∀ (r : El Ty.un × Els [Ty.it IntKind.i64]), r = ((), gchk (toGa x.fst), ()) → ((r.snd.fst != (0 : Int)) = true → r.snd = (gchk2 (toGa x.fst) (toGa x.snd.fst), ())) ∧ ((r.snd.fst != (0 : Int)) = false → ∀ (r : El Ty.un × Els [Ty.it IntKind.i64]), r = ((), gchk (toGa x.snd.fst), ()) → r.snd = (gchk2 (toGa x.fst) (toGa x.snd.fst), ()))) := by
  rintro _ rfl
  refine ⟨fun h => ?_, fun h => ?_⟩
  · simp_all [gchk2]
  · rintro _ rfl
    simp_all [gchk2]
set_option maxRecDepth 100000 in
theorem fo_hboth : FnOk Tryz.prog 164 sp_hboth := fnOk_of (C := c_hboth) iv_hboth Tryz.func164 rfl (by kernel_rfl) tys_ok (prims_cons (spec_prim fo_hCheck) prims_nil) mixed_ (Nat.le_refl _) rfl fun y x h1 h2 h3 h4 =>
  Eq.mpr (w_hboth y x) (m_hboth y x h2 h3)
noncomputable def sp_hZero : Spec := { q := .un, ps := [tG], rs := [.bo], fresh := false, pre := fun _ _ => none, post := fun _ x => ((), (gzero (toGa x.1), ())) }
noncomputable def iv_hZero (y : El sp_hZero.q) (x : Els sp_hZero.ps) : Nat → Option Inv := fun _ => none
noncomputable abbrev c_hZero : Cfg := cfgS (Tryz.f45).ntmps false [(41, sp_hCheck.prim)]
set_option maxRecDepth 100000 in
theorem w_hZero (y : El sp_hZero.q) (x : Els sp_hZero.ps) : aw c_hZero (iv_hZero y x) (codeOf Tryz.f45) 0 (retQ c_hZero sp_hZero (Tryz.f45).results.toList y x) (startT sp_hZero x) (startO sp_hZero y) 1 =
  (∀ (r : El Ty.un × Els [Ty.it IntKind.i64]), r = ((), gchk (toGa x.fst), ()) → ((r.snd.fst == (0 : Int)) = true → (((↑(List.length x.fst.fst.snd.fst) : Int) == (0 : Int)) = true → ((↑(List.length x.fst.snd.fst.snd.fst) : Int) == (0 : Int), ()) = (gzero (toGa x.fst), ())) ∧ (((↑(List.length x.fst.fst.snd.fst) : Int) == (0 : Int)) = false → (false, ()) = (gzero (toGa x.fst), ()))) ∧ ((r.snd.fst == (0 : Int)) = false → (false, ()) = (gzero (toGa x.fst), ()))) := by kernel_rfl
theorem m_hZero (y : El (.un)) (x : Els [tG]) (h2 : wfE (.un) y) (h3 : wfEs [tG] x) :
  (∀ (r : El Ty.un × Els [Ty.it IntKind.i64]), r = ((), gchk (toGa x.fst), ()) → ((r.snd.fst == (0 : Int)) = true → (((↑(List.length x.fst.fst.snd.fst) : Int) == (0 : Int)) = true → ((↑(List.length x.fst.snd.fst.snd.fst) : Int) == (0 : Int), ()) = (gzero (toGa x.fst), ())) ∧ (((↑(List.length x.fst.fst.snd.fst) : Int) == (0 : Int)) = false → (false, ()) = (gzero (toGa x.fst), ()))) ∧ ((r.snd.fst == (0 : Int)) = false → (false, ()) = (gzero (toGa x.fst), ()))) := by
  rintro _ rfl
  refine ⟨fun h => ⟨fun k => ?_, fun k => ?_⟩, fun h => ?_⟩
  all_goals
    try simp only [len0] at *
    simp_all [gzero]
set_option maxRecDepth 100000 in
theorem fo_hZero : FnOk Tryz.prog 45 sp_hZero := fnOk_of (C := c_hZero) iv_hZero Tryz.func45 rfl (by kernel_rfl) tys_ok (prims_cons (spec_prim fo_hCheck) prims_nil) mixed_ (Nat.le_refl _) rfl fun y x h1 h2 h3 h4 =>
  Eq.mpr (w_hZero y x) (m_hZero y x h2 h3)
theorem ne_ {e : Int} (h : (e != 0) = true) : e ≠ 0 := by simpa using h
theorem eq_ {e : Int} (h : (e != 0) = false) : e = 0 := by simpa using h
theorem tG_ {t u : Ga × Int} (h : t = u) : (pG u).2 = (pG t).2 := by rw [h]
theorem tR_ {t u : Fr × Int} (h : t = u) : (pR u).2 = (pR t).2 := by rw [h]
theorem wf_ga {a : El tG} (h : wfE tG a) : (toGa a).Wf := ⟨wf_fr h.1, wf_fr h.2.1⟩
noncomputable def sp_hAdd : Spec := { q := .un, ps := [tG, tG], rs := [tG, .it .i64], fresh := false, pre := fun _ _ => none, post := fun _ x => pG (gadd (toGa x.1) (toGa x.2.1)) }
noncomputable def iv_hAdd (y : El sp_hAdd.q) (x : Els sp_hAdd.ps) : Nat → Option Inv := fun _ => none
noncomputable abbrev c_hAdd : Cfg := cfgS (Tryz.f60).ntmps false [(164, sp_hboth.prim), (15, sp_nAdd.prim)]
set_option maxRecDepth 100000 in
theorem w_hAdd (y : El sp_hAdd.q) (x : Els sp_hAdd.ps) : aw c_hAdd (iv_hAdd y x) (codeOf Tryz.f60) 0 (retQ c_hAdd sp_hAdd (Tryz.f60).results.toList y x) (startT sp_hAdd x) (startO sp_hAdd y) 1 =
  (∀ (r : El Ty.un × Els [Ty.it IntKind.i64]), r = ((), gchk2 (toGa x.fst) (toGa x.snd.fst), ()) → ((r.snd.fst != (0 : Int)) = true → (((false, [], [], ()), (false, [], [], ()), ()), r.snd) = (pG (gadd (toGa x.fst) (toGa x.snd.fst))).snd) ∧ ((r.snd.fst != (0 : Int)) = false → ∀ (r : El Ty.un × Els [tR, Ty.it IntKind.i64]), r = pR (fadd (toFr x.fst.fst) (toFr x.snd.fst.fst)) → ((r.snd.snd.fst != (0 : Int)) = true → (((false, [], [], ()), (false, [], [], ()), ()), r.snd.snd) = (pG (gadd (toGa x.fst) (toGa x.snd.fst))).snd) ∧ ((r.snd.snd.fst != (0 : Int)) = false → ∀ (r_1 : El Ty.un × Els [tR, Ty.it IntKind.i64]), r_1 = pR (fadd (toFr x.fst.snd.fst) (toFr x.snd.fst.snd.fst)) → ((r_1.snd.snd.fst != (0 : Int)) = true → (((false, [], [], ()), (false, [], [], ()), ()), r_1.snd.snd) = (pG (gadd (toGa x.fst) (toGa x.snd.fst))).snd) ∧ ((r_1.snd.snd.fst != (0 : Int)) = false → ((r.snd.fst, r_1.snd.fst, ()), (0 : Int), ()) = (pG (gadd (toGa x.fst) (toGa x.snd.fst))).snd)))) := by kernel_rfl
theorem m_hAdd (y : El (.un)) (x : Els [tG, tG]) (h2 : wfE (.un) y) (h3 : wfEs [tG, tG] x) :
  (∀ (r : El Ty.un × Els [Ty.it IntKind.i64]), r = ((), gchk2 (toGa x.fst) (toGa x.snd.fst), ()) → ((r.snd.fst != (0 : Int)) = true → (((false, [], [], ()), (false, [], [], ()), ()), r.snd) = (pG (gadd (toGa x.fst) (toGa x.snd.fst))).snd) ∧ ((r.snd.fst != (0 : Int)) = false → ∀ (r : El Ty.un × Els [tR, Ty.it IntKind.i64]), r = pR (fadd (toFr x.fst.fst) (toFr x.snd.fst.fst)) → ((r.snd.snd.fst != (0 : Int)) = true → (((false, [], [], ()), (false, [], [], ()), ()), r.snd.snd) = (pG (gadd (toGa x.fst) (toGa x.snd.fst))).snd) ∧ ((r.snd.snd.fst != (0 : Int)) = false → ∀ (r_1 : El Ty.un × Els [tR, Ty.it IntKind.i64]), r_1 = pR (fadd (toFr x.fst.snd.fst) (toFr x.snd.fst.snd.fst)) → ((r_1.snd.snd.fst != (0 : Int)) = true → (((false, [], [], ()), (false, [], [], ()), ()), r_1.snd.snd) = (pG (gadd (toGa x.fst) (toGa x.snd.fst))).snd) ∧ ((r_1.snd.snd.fst != (0 : Int)) = false → ((r.snd.fst, r_1.snd.fst, ()), (0 : Int), ()) = (pG (gadd (toGa x.fst) (toGa x.snd.fst))).snd)))) := by
  rintro _ rfl
  refine ⟨fun h => (tG_ (gadd_1 (a := toGa x.1) (b := toGa x.2.1) (ne_ h)) :), fun h => ?_⟩
  rintro _ rfl
  refine ⟨fun k => (tG_ (gadd_2 (a := toGa x.1) (b := toGa x.2.1) (eq_ h) (ne_ k)) :), fun k => ?_⟩
  rintro _ rfl
  exact ⟨fun m => (tG_ (gadd_3 (a := toGa x.1) (b := toGa x.2.1) (eq_ h) (eq_ k) (ne_ m)) :), fun m => (tG_ (gadd_4 (a := toGa x.1) (b := toGa x.2.1) (eq_ h) (eq_ k) (eq_ m)) :)⟩
set_option maxRecDepth 100000 in
theorem fo_hAdd : FnOk Tryz.prog 60 sp_hAdd := fnOk_of (C := c_hAdd) iv_hAdd Tryz.func60 rfl (by kernel_rfl) tys_ok (prims_cons (spec_prim fo_hboth) (prims_cons (spec_prim fo_nAdd) prims_nil)) mixed_ (Nat.le_refl _) rfl fun y x h1 h2 h3 h4 =>
  Eq.mpr (w_hAdd y x) (m_hAdd y x h2 h3)
noncomputable def sp_hConj : Spec := { q := .un, ps := [tG], rs := [tG, .it .i64], fresh := false, pre := fun _ _ => none, post := fun _ x => pG (gconj (toGa x.1)) }
noncomputable def iv_hConj (y : El sp_hConj.q) (x : Els sp_hConj.ps) : Nat → Option Inv := fun _ => none
noncomputable abbrev c_hConj : Cfg := cfgS (Tryz.f47).ntmps false [(41, sp_hCheck.prim), (24, sp_nNeg.prim)]
set_option maxRecDepth 100000 in
theorem w_hConj (y : El sp_hConj.q) (x : Els sp_hConj.ps) : aw c_hConj (iv_hConj y x) (codeOf Tryz.f47) 0 (retQ c_hConj sp_hConj (Tryz.f47).results.toList y x) (startT sp_hConj x) (startO sp_hConj y) 1 =
  (∀ (r : El Ty.un × Els [Ty.it IntKind.i64]), r = ((), gchk (toGa x.fst), ()) → ((r.snd.fst != (0 : Int)) = true → (((false, [], [], ()), (false, [], [], ()), ()), r.snd) = (pG (gconj (toGa x.fst))).snd) ∧ ((r.snd.fst != (0 : Int)) = false → ∀ (r : El Ty.un × Els [tR, Ty.it IntKind.i64]), r = pR (fneg (toFr x.fst.snd.fst)) → ((x.fst.fst, r.snd.fst, ()), (0 : Int), ()) = (pG (gconj (toGa x.fst))).snd)) := by kernel_rfl
theorem m_hConj (y : El (.un)) (x : Els [tG]) (h2 : wfE (.un) y) (h3 : wfEs [tG] x) :
  (∀ (r : El Ty.un × Els [Ty.it IntKind.i64]), r = ((), gchk (toGa x.fst), ()) → ((r.snd.fst != (0 : Int)) = true → (((false, [], [], ()), (false, [], [], ()), ()), r.snd) = (pG (gconj (toGa x.fst))).snd) ∧ ((r.snd.fst != (0 : Int)) = false → ∀ (r : El Ty.un × Els [tR, Ty.it IntKind.i64]), r = pR (fneg (toFr x.fst.snd.fst)) → ((x.fst.fst, r.snd.fst, ()), (0 : Int), ()) = (pG (gconj (toGa x.fst))).snd)) := by
  rintro _ rfl
  refine ⟨fun h => (tG_ (gconj_1 (a := toGa x.1) (ne_ h)) :), fun h => ?_⟩
  rintro _ rfl
  exact (tG_ (gconj_2 (a := toGa x.1) (eq_ h)) :)
set_option maxRecDepth 100000 in
theorem fo_hConj : FnOk Tryz.prog 47 sp_hConj := fnOk_of (C := c_hConj) iv_hConj Tryz.func47 rfl (by kernel_rfl) tys_ok (prims_cons (spec_prim fo_hCheck) (prims_cons (spec_prim fo_nNeg) prims_nil)) mixed_ (Nat.le_refl _) rfl fun y x h1 h2 h3 h4 =>
  Eq.mpr (w_hConj y x) (m_hConj y x h2 h3)
noncomputable def sp_hpair : Spec := { q := .un, ps := [tR, tR, tR, tR, .bo], rs := [tR, .it .i64], fresh := false, pre := fun _ _ => none, post := fun _ x => pR (wpair 0 (toFr x.1) (toFr x.2.1) (toFr x.2.2.1) (toFr x.2.2.2.1) x.2.2.2.2.1) }
noncomputable def iv_hpair (y : El sp_hpair.q) (x : Els sp_hpair.ps) : Nat → Option Inv := fun _ => none
noncomputable abbrev c_hpair : Cfg := cfgS (Tryz.f170).ntmps false [(20, sp_nMul.prim), (18, sp_nSub.prim), (15, sp_nAdd.prim)]
set_option maxRecDepth 100000 in
theorem w_hpair (y : El sp_hpair.q) (x : Els sp_hpair.ps) : aw c_hpair (iv_hpair y x) (codeOf Tryz.f170) 0 (retQ c_hpair sp_hpair (Tryz.f170).results.toList y x) (startT sp_hpair x) (startO sp_hpair y) 1 =
  (∀ (r : El Ty.un × Els [tR, Ty.it IntKind.i64]), r = pR (fmul (toFr x.fst) (toFr x.snd.fst)) → ((r.snd.snd.fst != (0 : Int)) = true → ((false, [], [], ()), r.snd.snd) = (pR (wpair (0 : Int) (toFr x.fst) (toFr x.snd.fst) (toFr x.snd.snd.fst) (toFr x.snd.snd.snd.fst) x.snd.snd.snd.snd.fst)).snd) ∧ ((r.snd.snd.fst != (0 : Int)) = false → ∀ (r_1 : El Ty.un × Els [tR, Ty.it IntKind.i64]), r_1 = pR (fmul (toFr x.snd.snd.fst) (toFr x.snd.snd.snd.fst)) → ((r_1.snd.snd.fst != (0 : Int)) = true → ((false, [], [], ()), r_1.snd.snd) = (pR (wpair (0 : Int) (toFr x.fst) (toFr x.snd.fst) (toFr x.snd.snd.fst) (toFr x.snd.snd.snd.fst) x.snd.snd.snd.snd.fst)).snd) ∧ ((r_1.snd.snd.fst != (0 : Int)) = false → (x.snd.snd.snd.snd.fst = true → ∀ (r_2 : El Ty.un × Els [tR, Ty.it IntKind.i64]), r_2 = pR (fsub (toFr r.snd.fst) (toFr r_1.snd.fst)) → r_2.snd = (pR (wpair (0 : Int) (toFr x.fst) (toFr x.snd.fst) (toFr x.snd.snd.fst) (toFr x.snd.snd.snd.fst) x.snd.snd.snd.snd.fst)).snd) ∧ (x.snd.snd.snd.snd.fst = false → ∀ (r_2 : El Ty.un × Els [tR, Ty.it IntKind.i64]), r_2 = pR (fadd (toFr r.snd.fst) (toFr r_1.snd.fst)) → r_2.snd = (pR (wpair (0 : Int) (toFr x.fst) (toFr x.snd.fst) (toFr x.snd.snd.fst) (toFr x.snd.snd.snd.fst) x.snd.snd.snd.snd.fst)).snd)))) := by kernel_rfl
theorem m_hpair (y : El (.un)) (x : Els [tR, tR, tR, tR, .bo]) (h2 : wfE (.un) y) (h3 : wfEs [tR, tR, tR, tR, .bo] x) :
  (∀ (r : El Ty.un × Els [tR, Ty.it IntKind.i64]), r = pR (fmul (toFr x.fst) (toFr x.snd.fst)) → ((r.snd.snd.fst != (0 : Int)) = true → ((false, [], [], ()), r.snd.snd) = (pR (wpair (0 : Int) (toFr x.fst) (toFr x.snd.fst) (toFr x.snd.snd.fst) (toFr x.snd.snd.snd.fst) x.snd.snd.snd.snd.fst)).snd) ∧ ((r.snd.snd.fst != (0 : Int)) = false → ∀ (r_1 : El Ty.un × Els [tR, Ty.it IntKind.i64]), r_1 = pR (fmul (toFr x.snd.snd.fst) (toFr x.snd.snd.snd.fst)) → ((r_1.snd.snd.fst != (0 : Int)) = true → ((false, [], [], ()), r_1.snd.snd) = (pR (wpair (0 : Int) (toFr x.fst) (toFr x.snd.fst) (toFr x.snd.snd.fst) (toFr x.snd.snd.snd.fst) x.snd.snd.snd.snd.fst)).snd) ∧ ((r_1.snd.snd.fst != (0 : Int)) = false → (x.snd.snd.snd.snd.fst = true → ∀ (r_2 : El Ty.un × Els [tR, Ty.it IntKind.i64]), r_2 = pR (fsub (toFr r.snd.fst) (toFr r_1.snd.fst)) → r_2.snd = (pR (wpair (0 : Int) (toFr x.fst) (toFr x.snd.fst) (toFr x.snd.snd.fst) (toFr x.snd.snd.snd.fst) x.snd.snd.snd.snd.fst)).snd) ∧ (x.snd.snd.snd.snd.fst = false → ∀ (r_2 : El Ty.un × Els [tR, Ty.it IntKind.i64]), r_2 = pR (fadd (toFr r.snd.fst) (toFr r_1.snd.fst)) → r_2.snd = (pR (wpair (0 : Int) (toFr x.fst) (toFr x.snd.fst) (toFr x.snd.snd.fst) (toFr x.snd.snd.snd.fst) x.snd.snd.snd.snd.fst)).snd)))) := by
  obtain ⟨a, b, c, d, l, u⟩ := x
  rintro _ rfl
  refine ⟨fun h => (tR_ (wpair_1 (a := toFr a) (b := toFr b) (c := toFr c) (d := toFr d) (l := l) (ne_ h)) :), fun h => ?_⟩
  rintro _ rfl
  refine ⟨fun k => (tR_ (wpair_2 (a := toFr a) (b := toFr b) (c := toFr c) (d := toFr d) (l := l) (eq_ h) (ne_ k)) :), fun k => ?_⟩
  refine ⟨fun m => ?_, fun m => ?_⟩
  · have m : l = true := m
    subst m
    rintro _ rfl
    exact (tR_ (wpair_3 (a := toFr a) (b := toFr b) (c := toFr c) (d := toFr d) (eq_ h) (eq_ k)) :)
  · have m : l = false := m
    subst m
    rintro _ rfl
    exact (tR_ (wpair_4 (a := toFr a) (b := toFr b) (c := toFr c) (d := toFr d) (eq_ h) (eq_ k)) :)
set_option maxRecDepth 100000 in
theorem fo_hpair : FnOk Tryz.prog 170 sp_hpair := fnOk_of (C := c_hpair) iv_hpair Tryz.func170 rfl (by kernel_rfl) tys_ok (prims_cons (spec_prim fo_nMul) (prims_cons (spec_prim fo_nSub) (prims_cons (spec_prim fo_nAdd) prims_nil))) mixed_ (Nat.le_refl _) rfl fun y x h1 h2 h3 h4 =>
  Eq.mpr (w_hpair y x) (m_hpair y x h2 h3)
noncomputable def sp_hMul : Spec := { q := .un, ps := [tG, tG], rs := [tG, .it .i64], fresh := false, pre := fun _ _ => none, post := fun _ x => pG (gmul (toGa x.1) (toGa x.2.1)) }
noncomputable def iv_hMul (y : El sp_hMul.q) (x : Els sp_hMul.ps) : Nat → Option Inv := fun _ => none
noncomputable abbrev c_hMul : Cfg := cfgS (Tryz.f64).ntmps false [(164, sp_hboth.prim), (170, sp_hpair.prim)]
set_option maxRecDepth 100000 in
theorem w_hMul (y : El sp_hMul.q) (x : Els sp_hMul.ps) : aw c_hMul (iv_hMul y x) (codeOf Tryz.f64) 0 (retQ c_hMul sp_hMul (Tryz.f64).results.toList y x) (startT sp_hMul x) (startO sp_hMul y) 1 =
  (∀ (r : El Ty.un × Els [Ty.it IntKind.i64]), r = ((), gchk2 (toGa x.fst) (toGa x.snd.fst), ()) → ((r.snd.fst != (0 : Int)) = true → (((false, [], [], ()), (false, [], [], ()), ()), r.snd) = (pG (gmul (toGa x.fst) (toGa x.snd.fst))).snd) ∧ ((r.snd.fst != (0 : Int)) = false → ∀ (r : El Ty.un × Els [tR, Ty.it IntKind.i64]), r = pR (wpair (0 : Int) (toFr x.fst.fst) (toFr x.snd.fst.fst) (toFr x.fst.snd.fst) (toFr x.snd.fst.snd.fst) true) → ((r.snd.snd.fst != (0 : Int)) = true → (((false, [], [], ()), (false, [], [], ()), ()), r.snd.snd) = (pG (gmul (toGa x.fst) (toGa x.snd.fst))).snd) ∧ ((r.snd.snd.fst != (0 : Int)) = false → ∀ (r_1 : El Ty.un × Els [tR, Ty.it IntKind.i64]), r_1 = pR (wpair (0 : Int) (toFr x.fst.fst) (toFr x.snd.fst.snd.fst) (toFr x.fst.snd.fst) (toFr x.snd.fst.fst) false) → ((r_1.snd.snd.fst != (0 : Int)) = true → (((false, [], [], ()), (false, [], [], ()), ()), r_1.snd.snd) = (pG (gmul (toGa x.fst) (toGa x.snd.fst))).snd) ∧ ((r_1.snd.snd.fst != (0 : Int)) = false → ((r.snd.fst, r_1.snd.fst, ()), (0 : Int), ()) = (pG (gmul (toGa x.fst) (toGa x.snd.fst))).snd)))) := by kernel_rfl
theorem m_hMul (y : El (.un)) (x : Els [tG, tG]) (h2 : wfE (.un) y) (h3 : wfEs [tG, tG] x) :
  (∀ (r : El Ty.un × Els [Ty.it IntKind.i64]), r = ((), gchk2 (toGa x.fst) (toGa x.snd.fst), ()) → ((r.snd.fst != (0 : Int)) = true → (((false, [], [], ()), (false, [], [], ()), ()), r.snd) = (pG (gmul (toGa x.fst) (toGa x.snd.fst))).snd) ∧ ((r.snd.fst != (0 : Int)) = false → ∀ (r : El Ty.un × Els [tR, Ty.it IntKind.i64]), r = pR (wpair (0 : Int) (toFr x.fst.fst) (toFr x.snd.fst.fst) (toFr x.fst.snd.fst) (toFr x.snd.fst.snd.fst) true) → ((r.snd.snd.fst != (0 : Int)) = true → (((false, [], [], ()), (false, [], [], ()), ()), r.snd.snd) = (pG (gmul (toGa x.fst) (toGa x.snd.fst))).snd) ∧ ((r.snd.snd.fst != (0 : Int)) = false → ∀ (r_1 : El Ty.un × Els [tR, Ty.it IntKind.i64]), r_1 = pR (wpair (0 : Int) (toFr x.fst.fst) (toFr x.snd.fst.snd.fst) (toFr x.fst.snd.fst) (toFr x.snd.fst.fst) false) → ((r_1.snd.snd.fst != (0 : Int)) = true → (((false, [], [], ()), (false, [], [], ()), ()), r_1.snd.snd) = (pG (gmul (toGa x.fst) (toGa x.snd.fst))).snd) ∧ ((r_1.snd.snd.fst != (0 : Int)) = false → ((r.snd.fst, r_1.snd.fst, ()), (0 : Int), ()) = (pG (gmul (toGa x.fst) (toGa x.snd.fst))).snd)))) := by
  rintro _ rfl
  refine ⟨fun h => (tG_ (gmul_1 (a := toGa x.1) (b := toGa x.2.1) (ne_ h)) :), fun h => ?_⟩
  rintro _ rfl
  refine ⟨fun k => (tG_ (gmul_2 (a := toGa x.1) (b := toGa x.2.1) (eq_ h) (ne_ k)) :), fun k => ?_⟩
  rintro _ rfl
  exact ⟨fun m => (tG_ (gmul_3 (a := toGa x.1) (b := toGa x.2.1) (eq_ h) (eq_ k) (ne_ m)) :), fun m => (tG_ (gmul_4 (a := toGa x.1) (b := toGa x.2.1) (eq_ h) (eq_ k) (eq_ m)) :)⟩
set_option maxRecDepth 100000 in
theorem fo_hMul : FnOk Tryz.prog 64 sp_hMul := fnOk_of (C := c_hMul) iv_hMul Tryz.func64 rfl (by kernel_rfl) tys_ok (prims_cons (spec_prim fo_hboth) (prims_cons (spec_prim fo_hpair) prims_nil)) mixed_ (Nat.le_refl _) rfl fun y x h1 h2 h3 h4 =>
  Eq.mpr (w_hMul y x) (m_hMul y x h2 h3)
noncomputable def sp_hNorm : Spec := { q := .un, ps := [tG], rs := [tR, .it .i64], fresh := false, pre := fun _ _ => none, post := fun _ x => pR (gnorm (toGa x.1)) }
noncomputable def iv_hNorm (y : El sp_hNorm.q) (x : Els sp_hNorm.ps) : Nat → Option Inv := fun _ => none
noncomputable abbrev c_hNorm : Cfg := cfgS (Tryz.f51).ntmps false [(41, sp_hCheck.prim), (170, sp_hpair.prim)]
set_option maxRecDepth 100000 in
theorem w_hNorm (y : El sp_hNorm.q) (x : Els sp_hNorm.ps) : aw c_hNorm (iv_hNorm y x) (codeOf Tryz.f51) 0 (retQ c_hNorm sp_hNorm (Tryz.f51).results.toList y x) (startT sp_hNorm x) (startO sp_hNorm y) 1 =
  (∀ (r : El Ty.un × Els [Ty.it IntKind.i64]), r = ((), gchk (toGa x.fst), ()) → ((r.snd.fst != (0 : Int)) = true → ((false, [], [], ()), r.snd) = (pR (gnorm (toGa x.fst))).snd) ∧ ((r.snd.fst != (0 : Int)) = false → ∀ (r : El Ty.un × Els [tR, Ty.it IntKind.i64]), r = pR (wpair (0 : Int) (toFr x.fst.fst) (toFr x.fst.fst) (toFr x.fst.snd.fst) (toFr x.fst.snd.fst) false) → r.snd = (pR (gnorm (toGa x.fst))).snd)) := by kernel_rfl
theorem m_hNorm (y : El (.un)) (x : Els [tG]) (h2 : wfE (.un) y) (h3 : wfEs [tG] x) :
  (∀ (r : El Ty.un × Els [Ty.it IntKind.i64]), r = ((), gchk (toGa x.fst), ()) → ((r.snd.fst != (0 : Int)) = true → ((false, [], [], ()), r.snd) = (pR (gnorm (toGa x.fst))).snd) ∧ ((r.snd.fst != (0 : Int)) = false → ∀ (r : El Ty.un × Els [tR, Ty.it IntKind.i64]), r = pR (wpair (0 : Int) (toFr x.fst.fst) (toFr x.fst.fst) (toFr x.fst.snd.fst) (toFr x.fst.snd.fst) false) → r.snd = (pR (gnorm (toGa x.fst))).snd)) := by
  rintro _ rfl
  refine ⟨fun h => (tR_ (gnorm_1 (a := toGa x.1) (ne_ h)) :), fun h => ?_⟩
  rintro _ rfl
  exact (tR_ (gnorm_2 (a := toGa x.1) (eq_ h)) :)
set_option maxRecDepth 100000 in
theorem fo_hNorm : FnOk Tryz.prog 51 sp_hNorm := fnOk_of (C := c_hNorm) iv_hNorm Tryz.func51 rfl (by kernel_rfl) tys_ok (prims_cons (spec_prim fo_hCheck) (prims_cons (spec_prim fo_hpair) prims_nil)) mixed_ (Nat.le_refl _) rfl fun y x h1 h2 h3 h4 =>
  Eq.mpr (w_hNorm y x) (m_hNorm y x h2 h3)
theorem gtq_1 {t : Fr × Int} {a b : Fr} (h : t.2 ≠ 0) : gtell (wquo t.2 a b).2 t.1 (wquo t.2 a b).1 = (Ga.zero, t.2) := by simp [wquo, stp, gtell, h]
theorem gtq_2 {t : Fr × Int} {a b : Fr} (h : t.2 = 0) (k : (fquo a b).2 ≠ 0) : gtell (wquo t.2 a b).2 t.1 (wquo t.2 a b).1 = (Ga.zero, (fquo a b).2) := by simp [wquo, stp, gtell, h, k]
theorem gtq_3 {t : Fr × Int} {a b : Fr} (h : t.2 = 0) (k : (fquo a b).2 = 0) : gtell (wquo t.2 a b).2 t.1 (wquo t.2 a b).1 = (⟨t.1, (fquo a b).1⟩, 0) := by simp [wquo, stp, gtell, h, k]
noncomputable def sp_hQuo : Spec := { q := .un, ps := [tG, tG], rs := [tG, .it .i64], fresh := false, pre := fun _ _ => none, post := fun _ x => pG (gquo (toGa x.1) (toGa x.2.1)) }
noncomputable def iv_hQuo (y : El sp_hQuo.q) (x : Els sp_hQuo.ps) : Nat → Option Inv := fun _ => none
noncomputable abbrev c_hQuo : Cfg := cfgS (Tryz.f66).ntmps false [(164, sp_hboth.prim), (45, sp_hZero.prim), (51, sp_hNorm.prim), (47, sp_hConj.prim), (64, sp_hMul.prim), (22, sp_nQuo.prim)]
set_option maxRecDepth 100000 in
theorem w_hQuo (y : El sp_hQuo.q) (x : Els sp_hQuo.ps) : aw c_hQuo (iv_hQuo y x) (codeOf Tryz.f66) 0 (retQ c_hQuo sp_hQuo (Tryz.f66).results.toList y x) (startT sp_hQuo x) (startO sp_hQuo y) 1 =
  (∀ (r : El Ty.un × Els [Ty.it IntKind.i64]), r = ((), gchk2 (toGa x.fst) (toGa x.snd.fst), ()) → ((r.snd.fst != (0 : Int)) = true → (((false, [], [], ()), (false, [], [], ()), ()), r.snd) = (pG (gquo (toGa x.fst) (toGa x.snd.fst))).snd) ∧ ((r.snd.fst != (0 : Int)) = false → ∀ (r : El Ty.un × Els [Ty.bo]), r = ((), gzero (toGa x.snd.fst), ()) → (r.snd.fst = true → (((false, [], [], ()), (false, [], [], ()), ()), (7 : Int), ()) = (pG (gquo (toGa x.fst) (toGa x.snd.fst))).snd) ∧ (r.snd.fst = false → ∀ (r : El Ty.un × Els [tR, Ty.it IntKind.i64]), r = pR (gnorm (toGa x.snd.fst)) → ((r.snd.snd.fst != (0 : Int)) = true → (((false, [], [], ()), (false, [], [], ()), ()), r.snd.snd) = (pG (gquo (toGa x.fst) (toGa x.snd.fst))).snd) ∧ ((r.snd.snd.fst != (0 : Int)) = false → ∀ (r_1 : El Ty.un × Els [tG, Ty.it IntKind.i64]), r_1 = pG (gconj (toGa x.snd.fst)) → ∀ (r_2 : El Ty.un × Els [tG, Ty.it IntKind.i64]), r_2 = pG (gmul (toGa x.fst) (toGa r_1.snd.fst)) → ((r_2.snd.snd.fst != (0 : Int)) = true → (((false, [], [], ()), (false, [], [], ()), ()), r_2.snd.snd) = (pG (gquo (toGa x.fst) (toGa x.snd.fst))).snd) ∧ ((r_2.snd.snd.fst != (0 : Int)) = false → ∀ (r_3 : El Ty.un × Els [tR, Ty.it IntKind.i64]), r_3 = pR (fquo (toFr r_2.snd.fst.fst) (toFr r.snd.fst)) → ((r_3.snd.snd.fst != (0 : Int)) = true → (((false, [], [], ()), (false, [], [], ()), ()), r_3.snd.snd) = (pG (gquo (toGa x.fst) (toGa x.snd.fst))).snd) ∧ ((r_3.snd.snd.fst != (0 : Int)) = false → ∀ (r_4 : El Ty.un × Els [tR, Ty.it IntKind.i64]), r_4 = pR (fquo (toFr r_2.snd.fst.snd.fst) (toFr r.snd.fst)) → ((r_4.snd.snd.fst != (0 : Int)) = true → (((false, [], [], ()), (false, [], [], ()), ()), r_4.snd.snd) = (pG (gquo (toGa x.fst) (toGa x.snd.fst))).snd) ∧ ((r_4.snd.snd.fst != (0 : Int)) = false → ((r_3.snd.fst, r_4.snd.fst, ()), (0 : Int), ()) = (pG (gquo (toGa x.fst) (toGa x.snd.fst))).snd))))))) := by kernel_rfl
theorem m_hQuo (y : El (.un)) (x : Els [tG, tG]) (h2 : wfE (.un) y) (h3 : wfEs [tG, tG] x) :
  (∀ (r : El Ty.un × Els [Ty.it IntKind.i64]), r = ((), gchk2 (toGa x.fst) (toGa x.snd.fst), ()) → ((r.snd.fst != (0 : Int)) = true → (((false, [], [], ()), (false, [], [], ()), ()), r.snd) = (pG (gquo (toGa x.fst) (toGa x.snd.fst))).snd) ∧ ((r.snd.fst != (0 : Int)) = false → ∀ (r : El Ty.un × Els [Ty.bo]), r = ((), gzero (toGa x.snd.fst), ()) → (r.snd.fst = true → (((false, [], [], ()), (false, [], [], ()), ()), (7 : Int), ()) = (pG (gquo (toGa x.fst) (toGa x.snd.fst))).snd) ∧ (r.snd.fst = false → ∀ (r : El Ty.un × Els [tR, Ty.it IntKind.i64]), r = pR (gnorm (toGa x.snd.fst)) → ((r.snd.snd.fst != (0 : Int)) = true → (((false, [], [], ()), (false, [], [], ()), ()), r.snd.snd) = (pG (gquo (toGa x.fst) (toGa x.snd.fst))).snd) ∧ ((r.snd.snd.fst != (0 : Int)) = false → ∀ (r_1 : El Ty.un × Els [tG, Ty.it IntKind.i64]), r_1 = pG (gconj (toGa x.snd.fst)) → ∀ (r_2 : El Ty.un × Els [tG, Ty.it IntKind.i64]), r_2 = pG (gmul (toGa x.fst) (toGa r_1.snd.fst)) → ((r_2.snd.snd.fst != (0 : Int)) = true → (((false, [], [], ()), (false, [], [], ()), ()), r_2.snd.snd) = (pG (gquo (toGa x.fst) (toGa x.snd.fst))).snd) ∧ ((r_2.snd.snd.fst != (0 : Int)) = false → ∀ (r_3 : El Ty.un × Els [tR, Ty.it IntKind.i64]), r_3 = pR (fquo (toFr r_2.snd.fst.fst) (toFr r.snd.fst)) → ((r_3.snd.snd.fst != (0 : Int)) = true → (((false, [], [], ()), (false, [], [], ()), ()), r_3.snd.snd) = (pG (gquo (toGa x.fst) (toGa x.snd.fst))).snd) ∧ ((r_3.snd.snd.fst != (0 : Int)) = false → ∀ (r_4 : El Ty.un × Els [tR, Ty.it IntKind.i64]), r_4 = pR (fquo (toFr r_2.snd.fst.snd.fst) (toFr r.snd.fst)) → ((r_4.snd.snd.fst != (0 : Int)) = true → (((false, [], [], ()), (false, [], [], ()), ()), r_4.snd.snd) = (pG (gquo (toGa x.fst) (toGa x.snd.fst))).snd) ∧ ((r_4.snd.snd.fst != (0 : Int)) = false → ((r_3.snd.fst, r_4.snd.fst, ()), (0 : Int), ()) = (pG (gquo (toGa x.fst) (toGa x.snd.fst))).snd))))))) := by
  rintro _ rfl
  refine ⟨fun h => (tG_ (gquo_1 (a := toGa x.1) (b := toGa x.2.1) (ne_ h)) :), fun h => ?_⟩
  have wb := wf_ga h3.2.1
  rintro _ rfl
  refine ⟨fun k => (tG_ (gquo_2 (a := toGa x.1) (b := toGa x.2.1) (eq_ h) k) :), fun k => ?_⟩
  rintro _ rfl
  refine ⟨fun n => (tG_ (gquo_3 (a := toGa x.1) (b := toGa x.2.1) (eq_ h) k (ne_ n)) :), fun n => ?_⟩
  rintro _ rfl _ rfl
  refine ⟨fun m => (tG_ (gquo_4 (a := toGa x.1) (b := toGa x.2.1) (eq_ h) k (eq_ n) wb (ne_ m)) :), fun m => ?_⟩
  have q5 := gquo_5 (a := toGa x.1) (b := toGa x.2.1) (eq_ h) k (eq_ n) wb (eq_ m)
  rintro _ rfl
  refine ⟨fun o => (tG_ (q5.trans (gtq_1 (ne_ o))) :), fun o => ?_⟩
  rintro _ rfl
  exact ⟨fun u => (tG_ (q5.trans (gtq_2 (eq_ o) (ne_ u))) :), fun u => (tG_ (q5.trans (gtq_3 (eq_ o) (eq_ u))) :)⟩
set_option maxRecDepth 100000 in
theorem fo_hQuo : FnOk Tryz.prog 66 sp_hQuo := fnOk_of (C := c_hQuo) iv_hQuo Tryz.func66 rfl (by kernel_rfl) tys_ok (prims_cons (spec_prim fo_hboth) (prims_cons (spec_prim fo_hZero) (prims_cons (spec_prim fo_hNorm) (prims_cons (spec_prim fo_hConj) (prims_cons (spec_prim fo_hMul) (prims_cons (spec_prim fo_nQuo) prims_nil)))))) mixed_ (Nat.le_refl _) rfl fun y x h1 h2 h3 h4 =>
  Eq.mpr (w_hQuo y x) (m_hQuo y x h2 h3)
end Go.Proofs.YtifonmdcicegdaaGreat

namespace Go.Proofs.YtifonmdcicegdaaGreat
open Go Go.RowKit

noncomputable def sp_kSameWords : Spec := { q := .un, ps := [tW32, tW32], rs := [.bo], fresh := true, pre := fun _ _ => none, post := fun _ x => ((), (decide (x.1 = x.2.1), ())) }
noncomputable def iv_kSameWords (y : El sp_kSameWords.q) (x : Els sp_kSameWords.ps) : Nat → Option Inv := fun k => if k = 0 then some { X := Nat, tm := fun i => [(0, .c (.sl (.it .u32) x.1)), (1, .c (.sl (.it .u32) x.2.1)), (5, .c (.sc (.int .i64 i)))], ob := fun _ => [], n := 1, I := fun i => i ≤ x.1.length ∧ x.1.length = x.2.1.length ∧ x.1.take i = x.2.1.take i, μ := fun i => x.1.length - i } else none
noncomputable abbrev c_kSameWords : Cfg := cfgS (Tryz.f160).ntmps false []
set_option maxRecDepth 100000 in
theorem w_kSameWords (y : El sp_kSameWords.q) (x : Els sp_kSameWords.ps) : aw c_kSameWords (iv_kSameWords y x) (codeOf Tryz.f160) 0 (retQ c_kSameWords sp_kSameWords (Tryz.f160).results.toList y x) (startT sp_kSameWords x) (startO sp_kSameWords y) 1 =
  ((((↑(List.length x.fst) : Int) != (↑(List.length x.snd.fst) : Int)) = true → (false, ()) = (decide (x.fst = x.snd.fst), ())) ∧ (((↑(List.length x.fst) : Int) != (↑(List.length x.snd.fst) : Int)) = false → (∃ (x_1 : Nat), x.fst = x.fst ∧ x.snd.fst = x.snd.fst ∧ (↑x_1 : Int) = (0 : Int) ∧ x_1 ≤ List.length x.fst ∧ List.length x.fst = List.length x.snd.fst ∧ List.take x_1 x.fst = List.take x_1 x.snd.fst) ∧ ∀ (x_1 : Nat), x_1 ≤ List.length x.fst ∧ List.length x.fst = List.length x.snd.fst ∧ List.take x_1 x.fst = List.take x_1 x.snd.fst → (decide ((↑x_1 : Int) < (↑(List.length x.fst) : Int)) = true → ((0 : Int) ≤ (↑x_1 : Int) ∧ (↑x_1 : Int) < (↑(List.length x.fst) : Int)) ∧ ((0 : Int) ≤ (↑x_1 : Int) ∧ (↑x_1 : Int) < (↑(List.length x.snd.fst) : Int)) ∧ ((List.getD x.fst (↑x_1 : Int).toNat (dfl (Ty.it IntKind.u32)) != List.getD x.snd.fst (↑x_1 : Int).toNat (dfl (Ty.it IntKind.u32))) = true → (false, ()) = (decide (x.fst = x.snd.fst), ())) ∧ ((List.getD x.fst (↑x_1 : Int).toNat (dfl (Ty.it IntKind.u32)) != List.getD x.snd.fst (↑x_1 : Int).toNat (dfl (Ty.it IntKind.u32))) = false → ((-9223372036854775808 : Int) ≤ (↑x_1 : Int) + (1 : Int) ∧ (↑x_1 : Int) + (1 : Int) ≤ (9223372036854775807 : Int)) ∧ ∃ (x' : Nat), x.fst = x.fst ∧ x.snd.fst = x.snd.fst ∧ (↑x' : Int) = (↑x_1 : Int) + (1 : Int) ∧ (x' ≤ List.length x.fst ∧ List.length x.fst = List.length x.snd.fst ∧ List.take x' x.fst = List.take x' x.snd.fst) ∧ List.length x.fst - x' < List.length x.fst - x_1)) ∧ (decide ((↑x_1 : Int) < (↑(List.length x.fst) : Int)) = false → (true, ()) = (decide (x.fst = x.snd.fst), ())))) := by kernel_rfl
theorem m_kSameWords (y : El (.un)) (x : Els [tW32, tW32]) (h2 : wfE (.un) y) (h3 : wfEs [tW32, tW32] x) :
  ((((↑(List.length x.fst) : Int) != (↑(List.length x.snd.fst) : Int)) = true → (false, ()) = (decide (x.fst = x.snd.fst), ())) ∧ (((↑(List.length x.fst) : Int) != (↑(List.length x.snd.fst) : Int)) = false → (∃ (x_1 : Nat), x.fst = x.fst ∧ x.snd.fst = x.snd.fst ∧ (↑x_1 : Int) = (0 : Int) ∧ x_1 ≤ List.length x.fst ∧ List.length x.fst = List.length x.snd.fst ∧ List.take x_1 x.fst = List.take x_1 x.snd.fst) ∧ ∀ (x_1 : Nat), x_1 ≤ List.length x.fst ∧ List.length x.fst = List.length x.snd.fst ∧ List.take x_1 x.fst = List.take x_1 x.snd.fst → (decide ((↑x_1 : Int) < (↑(List.length x.fst) : Int)) = true → ((0 : Int) ≤ (↑x_1 : Int) ∧ (↑x_1 : Int) < (↑(List.length x.fst) : Int)) ∧ ((0 : Int) ≤ (↑x_1 : Int) ∧ (↑x_1 : Int) < (↑(List.length x.snd.fst) : Int)) ∧ ((List.getD x.fst (↑x_1 : Int).toNat (dfl (Ty.it IntKind.u32)) != List.getD x.snd.fst (↑x_1 : Int).toNat (dfl (Ty.it IntKind.u32))) = true → (false, ()) = (decide (x.fst = x.snd.fst), ())) ∧ ((List.getD x.fst (↑x_1 : Int).toNat (dfl (Ty.it IntKind.u32)) != List.getD x.snd.fst (↑x_1 : Int).toNat (dfl (Ty.it IntKind.u32))) = false → ((-9223372036854775808 : Int) ≤ (↑x_1 : Int) + (1 : Int) ∧ (↑x_1 : Int) + (1 : Int) ≤ (9223372036854775807 : Int)) ∧ ∃ (x' : Nat), x.fst = x.fst ∧ x.snd.fst = x.snd.fst ∧ (↑x' : Int) = (↑x_1 : Int) + (1 : Int) ∧ (x' ≤ List.length x.fst ∧ List.length x.fst = List.length x.snd.fst ∧ List.take x' x.fst = List.take x' x.snd.fst) ∧ List.length x.fst - x' < List.length x.fst - x_1)) ∧ (decide ((↑x_1 : Int) < (↑(List.length x.fst) : Int)) = false → (true, ()) = (decide (x.fst = x.snd.fst), ())))) := by
  have hL : x.1.length ≤ 9223372036854775807 := h3.1.1
  refine ⟨fun h => ?_, fun h => ⟨⟨0, rfl, rfl, rfl, Nat.zero_le _, by simpa [Int.ofNat_inj] using h, rfl⟩, fun i hi => ⟨fun hl => ?_, fun hl => ?_⟩⟩⟩
  · have : x.1 ≠ x.2.1 := fun e => by rw [e] at h; simp at h
    rw [decide_eq_false this]
  · obtain ⟨h0, h1, h2⟩ := hi
    have hl := of_decide_eq_true hl
    have a1 : i < x.1.length := by omega
    have a2 : i < x.2.1.length := by omega
    have g1 : x.1.getD ((i : Int)).toNat (dfl (Ty.it IntKind.u32)) = x.1[i] := by
      rw [Int.toNat_natCast, List.getD_eq_getElem?_getD, List.getElem?_eq_getElem a1]; rfl
    have g2 : x.2.1.getD ((i : Int)).toNat (dfl (Ty.it IntKind.u32)) = x.2.1[i] := by
      rw [Int.toNat_natCast, List.getD_eq_getElem?_getD, List.getElem?_eq_getElem a2]; rfl
    rw [g1, g2]
    refine ⟨⟨by omega, hl⟩, ⟨by omega, by omega⟩, fun k => ?_, fun k => ⟨by omega, i + 1, rfl, rfl, rfl, ⟨a1, h1, ?_⟩, by omega⟩⟩
    · have k := bne_iff_ne.1 k
      have : x.1 ≠ x.2.1 := fun e => k (by congr 1)
      rw [decide_eq_false this]
    · have k : x.1[i] = x.2.1[i] := by simpa using k
      rw [List.take_add_one, List.take_add_one, h2, List.getElem?_eq_getElem a1, List.getElem?_eq_getElem a2, k]
  · obtain ⟨h0, h1, h2⟩ := hi
    have hl := of_decide_eq_false hl
    rw [List.take_of_length_le (by omega), List.take_of_length_le (by omega)] at h2
    rw [decide_eq_true h2]
set_option maxRecDepth 100000 in
theorem fo_kSameWords : FnOk Tryz.prog 160 sp_kSameWords := fnOk_of (C := c_kSameWords) iv_kSameWords Tryz.func160 rfl (by kernel_rfl) tys_ok prims_nil mixed_ (Nat.le_refl _) rfl fun y x h1 h2 h3 h4 =>
  Eq.mpr (w_kSameWords y x) (m_kSameWords y x h2 h3)
noncomputable def sp_kSameRatio : Spec := { q := .un, ps := [tR, tR], rs := [.bo], fresh := true, pre := fun _ _ => none, post := fun _ x => ((), (decide (toFr x.1 = toFr x.2.1), ())) }
noncomputable def iv_kSameRatio (y : El sp_kSameRatio.q) (x : Els sp_kSameRatio.ps) : Nat → Option Inv := fun _ => none
noncomputable abbrev c_kSameRatio : Cfg := cfgS (Tryz.f55).ntmps false [(160, sp_kSameWords.prim)]
set_option maxRecDepth 100000 in
theorem w_kSameRatio (y : El sp_kSameRatio.q) (x : Els sp_kSameRatio.ps) : aw c_kSameRatio (iv_kSameRatio y x) (codeOf Tryz.f55) 0 (retQ c_kSameRatio sp_kSameRatio (Tryz.f55).results.toList y x) (startT sp_kSameRatio x) (startO sp_kSameRatio y) 1 =
  (((x.fst.fst == x.snd.fst.fst) = true → ∀ (r : El Ty.un × Els [Ty.bo]), r = ((), decide (x.fst.snd.fst = x.snd.fst.snd.fst), ()) → (r.snd.fst = true → ∀ (r : El Ty.un × Els [Ty.bo]), r = ((), decide (x.fst.snd.snd.fst = x.snd.fst.snd.snd.fst), ()) → r.snd = (decide (toFr x.fst = toFr x.snd.fst), ())) ∧ (r.snd.fst = false → (false, ()) = (decide (toFr x.fst = toFr x.snd.fst), ()))) ∧ ((x.fst.fst == x.snd.fst.fst) = false → (false, ()) = (decide (toFr x.fst = toFr x.snd.fst), ()))) := by kernel_rfl
theorem m_kSameRatio (y : El (.un)) (x : Els [tR, tR]) (h2 : wfE (.un) y) (h3 : wfEs [tR, tR] x) :
  (((x.fst.fst == x.snd.fst.fst) = true → ∀ (r : El Ty.un × Els [Ty.bo]), r = ((), decide (x.fst.snd.fst = x.snd.fst.snd.fst), ()) → (r.snd.fst = true → ∀ (r : El Ty.un × Els [Ty.bo]), r = ((), decide (x.fst.snd.snd.fst = x.snd.fst.snd.snd.fst), ()) → r.snd = (decide (toFr x.fst = toFr x.snd.fst), ())) ∧ (r.snd.fst = false → (false, ()) = (decide (toFr x.fst = toFr x.snd.fst), ()))) ∧ ((x.fst.fst == x.snd.fst.fst) = false → (false, ()) = (decide (toFr x.fst = toFr x.snd.fst), ()))) := by
  obtain ⟨⟨s, a, b, _⟩, ⟨t, c, d, _⟩, _⟩ := x
  refine ⟨fun h => ?_, fun h => ?_⟩
  · rintro _ rfl
    refine ⟨fun k => ?_, fun k => ?_⟩
    · rintro _ rfl
      have hs : s = t := by simpa using h
      have hk : a = c := by simpa using k
      subst hs
      subst hk
      simp [toFr]
    · have k : a ≠ c := by simpa using k
      simp [toFr, k]
  · have h : s ≠ t := by simpa using h
    simp [toFr, h]
set_option maxRecDepth 100000 in
theorem fo_kSameRatio : FnOk Tryz.prog 55 sp_kSameRatio := fnOk_of (C := c_kSameRatio) iv_kSameRatio Tryz.func55 rfl (by kernel_rfl) tys_ok (prims_cons (spec_prim fo_kSameWords) prims_nil) mixed_ (Nat.le_refl _) rfl fun y x h1 h2 h3 h4 =>
  Eq.mpr (w_kSameRatio y x) (m_kSameRatio y x h2 h3)
noncomputable def sp_kSameGauss : Spec := { q := .un, ps := [tG, tG], rs := [.bo], fresh := true, pre := fun _ _ => none, post := fun _ x => ((), (decide (toGa x.1 = toGa x.2.1), ())) }
noncomputable def iv_kSameGauss (y : El sp_kSameGauss.q) (x : Els sp_kSameGauss.ps) : Nat → Option Inv := fun _ => none
noncomputable abbrev c_kSameGauss : Cfg := cfgS (Tryz.f89).ntmps false [(55, sp_kSameRatio.prim)]
set_option maxRecDepth 100000 in
theorem w_kSameGauss (y : El sp_kSameGauss.q) (x : Els sp_kSameGauss.ps) : aw c_kSameGauss (iv_kSameGauss y x) (codeOf Tryz.f89) 0 (retQ c_kSameGauss sp_kSameGauss (Tryz.f89).results.toList y x) (startT sp_kSameGauss x) (startO sp_kSameGauss y) 1 =
  (∀ (r : El Ty.un × Els [Ty.bo]), r = ((), decide (toFr x.fst.fst = toFr x.snd.fst.fst), ()) → (r.snd.fst = true → ∀ (r : El Ty.un × Els [Ty.bo]), r = ((), decide (toFr x.fst.snd.fst = toFr x.snd.fst.snd.fst), ()) → r.snd = (decide (toGa x.fst = toGa x.snd.fst), ())) ∧ (r.snd.fst = false → (false, ()) = (decide (toGa x.fst = toGa x.snd.fst), ()))) := by kernel_rfl
theorem m_kSameGauss (y : El (.un)) (x : Els [tG, tG]) (h2 : wfE (.un) y) (h3 : wfEs [tG, tG] x) :
  (∀ (r : El Ty.un × Els [Ty.bo]), r = ((), decide (toFr x.fst.fst = toFr x.snd.fst.fst), ()) → (r.snd.fst = true → ∀ (r : El Ty.un × Els [Ty.bo]), r = ((), decide (toFr x.fst.snd.fst = toFr x.snd.fst.snd.fst), ()) → r.snd = (decide (toGa x.fst = toGa x.snd.fst), ())) ∧ (r.snd.fst = false → (false, ()) = (decide (toGa x.fst = toGa x.snd.fst), ()))) := by
  rintro _ rfl
  refine ⟨fun k => ?_, fun k => ?_⟩
  · rintro _ rfl
    simp_all
  · simp_all
set_option maxRecDepth 100000 in
theorem fo_kSameGauss : FnOk Tryz.prog 89 sp_kSameGauss := fnOk_of (C := c_kSameGauss) iv_kSameGauss Tryz.func89 rfl (by kernel_rfl) tys_ok (prims_cons (spec_prim fo_kSameRatio) prims_nil) mixed_ (Nat.le_refl _) rfl fun y x h1 h2 h3 h4 =>
  Eq.mpr (w_kSameGauss y x) (m_kSameGauss y x h2 h3)
end Go.Proofs.YtifonmdcicegdaaGreat

namespace Go.Proofs.YtifonmdcicegdaaGreat
open Go Go.RowKit

section
variable {gp : Option Nat} {Z0 : Nat → Prop} {w0 w w' : World} {D : Nat → Prop} {c : Cf} {T : Nat → Option AV} {O : Store} {a : Act} {N : Nat}
/-- THINGS MORE IN NEW BLOCKS -/
theorem Sim.news (S : Sim gp Z0 w0 N D c T O a.tmps w) (hx : Below w.heap.size w w') {es : List Ent} {n : Nat} {ob : OB} {v : Value} {av : AV} (hfr : ∀ i, n ≤ i → i < n + es.length → ¬ D i) (hnd : (es.flatMap Ent.all).Nodup) (hbase : ∀ g ∈ es.flatMap Ent.all, w.heap.size ≤ g)
    (hob : ∀ c' : Cf, Put c' n es → c.Le c' → Stay c.Z w w' → ObsOk c' w' n (n + es.length) ob ∧ RA c' w' v av) :
    ∃ c', c.Le c' ∧ ∀ d, dstOk N d = true → Sim gp Z0 w0 N (fun j => D j ∨ n ≤ j ∧ j < n + es.length) c' (upT T d av) (upO O ob) (a.put d v).tmps w' := by
  have hext : Ext w w' := hx
  let c' : Cf := ⟨fun i => if n ≤ i ∧ i < n + es.length then es[i - n]? else c.m i, c.Z⟩
  have put : Put c' n es := fun k e hk => by
    have := (List.getElem?_eq_some_iff.1 hk).1
    show (if n ≤ n + k ∧ n + k < n + es.length then es[n + k - n]? else c.m (n + k)) = some e
    rw [if_pos ⟨by omega, by omega⟩, show n + k - n = k by omega]
    exact hk
  have le : c.Le c' := ⟨fun i e hi => by
    show (if n ≤ i ∧ i < n + es.length then es[i - n]? else c.m i) = some e
    rw [if_neg (fun h => hfr i h.1 h.2 (S.dom i e hi))]
    exact hi, fun _ h => h⟩
  have st : Stay c.Z w w' := fun g hz => hext.block g (S.zl g hz)
  obtain ⟨q2, q1⟩ := hob c' put le st
  have lk : ∀ i o, look ob i = some o → (n ≤ i ∧ i < n + es.length) ∧ ObOk c' w' i o ∧ c'.m i = es[i - n]? := fun i o h => by
    obtain ⟨r1, r2, r3⟩ := q2 _ (look_mem h)
    exact ⟨⟨r1, r2⟩, r3, if_pos ⟨r1, r2⟩⟩
  refine ⟨c', le, fun d hd => S.step hd le st q1 (fun i o h1 _ h3 e g h4 h5 => hext.block g ((S.obj i o h1).lt h3 e g h4 h5)) (fun i o h => (lk i o h).2.1) (fun i o e g h1 h2 h3 h4 => ?_) (fun i j o p e f g h1 h2 h3 h4 h5 h6 h7 h8 => ?_) (fun g hz => ⟨Nat.lt_of_lt_of_le (S.zl g hz) hext.size, S.zz g hz, fun i o e h1 _ h3 h4 h5 => S.zo i o e g h1 h3 h4 h5 hz⟩) (fun i e h => ?_) (grown_trans S.gr (hext.by_ _)) (fun i cs o h1 h2 => ?_)⟩
  · obtain ⟨l1, _, l3⟩ := lk i o h1
    rw [l3] at h3
    have hgb : g ∈ es.flatMap Ent.all := List.mem_flatMap.2 ⟨e, List.mem_of_getElem? h3, h4⟩
    refine ⟨.inr (hbase g hgb), fun hz => ?_⟩
    have := S.zl g hz
    have := hbase g hgb
    omega
  · intro h9
    obtain ⟨l1, _, l3⟩ := lk i o h1
    obtain ⟨m1, _, m3⟩ := lk j p h2
    rw [l3] at h6
    rw [m3] at h7
    have := flat_inj hnd _ _ e f g h6 h7 h8 h9
    omega
  · have h' : (if n ≤ i ∧ i < n + es.length then es[i - n]? else c.m i) = some e := h
    split at h'
    · rename_i hr; exact .inr hr
    · exact .inl (S.dom i e h')
  · obtain ⟨l1, _, _⟩ := lk i o h2
    obtain ⟨e, _, _, _, y, _⟩ := S.obj i _ h1
    exact absurd (S.dom i e y) (hfr i l1.1 l1.2)
end
end Go.Proofs.YtifonmdcicegdaaGreat

namespace Go.Proofs.YtifonmdcicegdaaGreat
open Go Go.RowKit

theorem look_push {α : Type} {l : List α} {x y : α} {i : Nat} (h : (l ++ [x])[i]? = some y) : l[i]? = some y ∨ (i = l.length ∧ x = y) := by
  by_cases hi : i < l.length
  · rw [List.getElem?_append_left hi] at h; exact .inl h
  · rw [List.getElem?_append_right (by omega)] at h
    by_cases h0 : i - l.length = 0
    · rw [h0] at h; simp at h; exact .inr ⟨by omega, h⟩
    · rw [List.getElem?_eq_none (by simp; omega)] at h; cases h
/-- V: blocks with what they hold; R: fractions with where they lie. row: a block that was there and is written; wb: a world before it -/
structure Sta (wb w0 : World) (row : Option Nat) (V : List (Nat × List Value)) (R : List (Adr × Fr)) (w : World) : Prop where
  v : ∀ (i k : Nat) (vs : List Value), V[i]? = some (k, vs) → Var k vs w
  vn : ∀ (i j k : Nat) (vs us : List Value), V[i]? = some (k, vs) → V[j]? = some (k, us) → i = j
  vb : ∀ (i k : Nat) (vs : List Value), V[i]? = some (k, vs) → w0.heap.size ≤ k ∨ row = some k
  vw : ∀ (i k : Nat) (vs : List Value), V[i]? = some (k, vs) → wb.heap.size ≤ k
  r : ∀ (i : Nat) (p : Adr) (f : Fr), R[i]? = some (p, f) → OF w w0.heap.size p f
  ro : ∀ (i : Nat) (p : Adr) (f : Fr) (j k : Nat) (vs : List Value), R[i]? = some (p, f) → V[j]? = some (k, vs) → p.Off k
  rd : ∀ (i j : Nat) (p : Adr) (f : Fr) (q : Adr) (g : Fr), i < j → R[i]? = some (p, f) → R[j]? = some (q, g) → p.Dis q
  x : Below wb.heap.size wb w
  g : w0.grownBy w row
  hb : wb.heap.size ≤ w0.heap.size

section
variable {wb w0 w w' : World} {row : Option Nat} {V : List (Nat × List Value)} {R : List (Adr × Fr)}

theorem Sta.start (w : World) : Sta w w none [] [] w :=
  ⟨fun _ _ _ h => by simp at h, fun _ _ _ _ _ h => by simp at h, fun _ _ _ h => by simp at h, fun _ _ _ h => by simp at h, fun _ _ _ h => by simp at h, fun _ _ _ _ _ _ h => by simp at h, fun _ _ _ _ _ _ _ h => by simp at h, Below.refl _ _, World.grownBy.refl _ _, Nat.le_refl _⟩
theorem Sta.ext (S : Sta wb w0 row V R w) (x : Below w.heap.size w w') : Sta wb w0 row V R w' :=
  ⟨fun i k vs h => (S.v i k vs h).ext x, S.vn, S.vb, S.vw, fun i p f h => (S.r i p f h).ext x, S.ro, S.rd, Below.join S.x x, grown_ext S.g x, S.hb⟩
theorem Sta.drew (S : Sta wb w0 row V R w) : Sta wb w0 row V R w.drew := S.ext (Ext.refl w).drew
theorem Sta.new (S : Sta wb w0 row V R w) (vs : List Value) (t : TypeId) : Sta wb w0 row (V ++ [(w.heap.size, vs)]) R (w.alloc (.cells vs.toArray t)) := by
  have x := (Ext.refl w).alloc (.cells vs.toArray t)
  have hs := S.g.size
  refine ⟨fun i k us h => ?_, fun i j k us zs h h' => ?_, fun i k us h => ?_, fun i k us h => ?_, fun i p f h => (S.r i p f h).ext x, fun i p f j k us h h' => ?_, S.rd, Below.join S.x x, grown_ext S.g x, S.hb⟩
  · rcases look_push h with h | ⟨_, h⟩
    · exact (S.v i k us h).ext x
    · cases h; exact Var.new w vs t
  · rcases look_push h with h | ⟨e, h⟩ <;> rcases look_push h' with h' | ⟨e', h'⟩
    · exact S.vn i j k us zs h h'
    · cases h'; exact absurd (S.v i _ us h).lt (Nat.lt_irrefl _)
    · cases h; exact absurd (S.v j _ zs h').lt (Nat.lt_irrefl _)
    · omega
  · rcases look_push h with h | ⟨_, h⟩
    · exact S.vb i k us h
    · cases h; exact .inl hs
  · rcases look_push h with h | ⟨_, h⟩
    · exact S.vw i k us h
    · cases h; exact Nat.le_trans S.hb hs
  · rcases look_push h' with h' | ⟨_, h'⟩
    · exact S.ro i p f j k us h h'
    · cases h'; exact (S.r i p f h).offHi (Nat.le_refl _)
/-- a row more, behind a call that began in w -/
theorem Sta.add {V' : List (Nat × List Value)} (S : Sta wb w0 row V R w) (T : Sta wb w0 row V' R w') (hV : ∀ (i k : Nat) (vs : List Value), V'[i]? = some (k, vs) → k < w.heap.size) {p : Adr} {f : Fr} (o : OF w' w.heap.size p f) : Sta wb w0 row V' (R ++ [(p, f)]) w' := by
  refine ⟨T.v, T.vn, T.vb, T.vw, fun i q g h => ?_, fun i q g j k vs h h' => ?_, fun i j q g s h hij h1 h2 => ?_, T.x, T.g, T.hb⟩
  · rcases look_push h with h | ⟨_, h⟩
    · exact T.r i q g h
    · cases h; exact o.lower S.g.size
  · rcases look_push h with h | ⟨_, h⟩
    · exact T.ro i q g j k vs h h'
    · cases h; exact o.offLo (hV j k vs h')
  · rcases look_push h2 with h2 | ⟨e2, h2⟩
    · rcases look_push h1 with h1 | ⟨e1, h1⟩
      · exact T.rd i j q g s h hij h1 h2
      · have := (List.getElem?_eq_some_iff.1 h2).1; omega
    · rcases look_push h1 with h1 | ⟨e1, h1⟩
      · cases h2; exact (S.r i q g h1).dis o (Nat.le_refl _)
      · omega
/-- a call that tells a fraction in new memory -/
theorem Sta.call (S : Sta wb w0 row V R w) (x : Below w.heap.size w w') {p : Adr} {f : Fr} (o : OF w' w.heap.size p f) : Sta wb w0 row V (R ++ [(p, f)]) w' :=
  S.add (S.ext x) (fun i k vs h => (S.v i k vs h).lt) o
/-- a row more, that lies apart -/
theorem Sta.plus (T : Sta wb w0 row V R w) {p : Adr} {f : Fr} (o : OF w w0.heap.size p f) (ho : ∀ (i k : Nat) (vs : List Value), V[i]? = some (k, vs) → p.Off k) (hd : ∀ (i : Nat) (q : Adr) (g : Fr), R[i]? = some (q, g) → q.Dis p) : Sta wb w0 row V (R ++ [(p, f)]) w := by
  refine ⟨T.v, T.vn, T.vb, T.vw, fun i q g h => ?_, fun i q g j k vs h h' => ?_, fun i j q g s h hij h1 h2 => ?_, T.x, T.g, T.hb⟩
  · rcases look_push h with h | ⟨_, h⟩
    · exact T.r i q g h
    · cases h; exact o
  · rcases look_push h with h | ⟨_, h⟩
    · exact T.ro i q g j k vs h h'
    · cases h; exact ho j k vs h'
  · rcases look_push h2 with h2 | ⟨e2, h2⟩
    · rcases look_push h1 with h1 | ⟨e1, h1⟩
      · exact T.rd i j q g s h hij h1 h2
      · have := (List.getElem?_eq_some_iff.1 h2).1; omega
    · rcases look_push h1 with h1 | ⟨e1, h1⟩
      · cases h2; exact hd i q g h1
      · omega
theorem Sta.conv {V' : List (Nat × List Value)} {R' : List (Adr × Fr)} (S : Sta wb w0 row V R w) (h : V = V') (h' : R = R') : Sta wb w0 row V' R' w := h ▸ h' ▸ S
theorem Sta.name (S : Sta wb w0 row V R w) : ∃ V' R', V' = V ∧ R' = R ∧ Sta wb w0 row V' R' w := ⟨V, R, rfl, rfl, S⟩
theorem Sta.c3 (S : Sta wb w0 row V R w) (i : Nat) {k : Nat} {a b c : Value} (hi : V[i]? = some (k, [a, b, c])) : w.cell? ⟨k, 0, none⟩ = some a ∧ w.cell? ⟨k, 1, none⟩ = some b ∧ w.cell? ⟨k, 2, none⟩ = some c := (S.v i k _ hi).c3
theorem Sta.c6 (S : Sta wb w0 row V R w) (i : Nat) {k : Nat} {a b c d e f : Value} (hi : V[i]? = some (k, [a, b, c, d, e, f])) : w.cell? ⟨k, 0, none⟩ = some a ∧ w.cell? ⟨k, 1, none⟩ = some b ∧ w.cell? ⟨k, 2, none⟩ = some c ∧ w.cell? ⟨k, 3, none⟩ = some d ∧ w.cell? ⟨k, 4, none⟩ = some e ∧ w.cell? ⟨k, 5, none⟩ = some f := (S.v i k _ hi).c6
theorem Var.f6 {g : Nat} {vs : List Value} {w : World} (h : Var g vs w) : w.frozen? ⟨g, 0, none⟩ = false ∧ w.frozen? ⟨g, 1, none⟩ = false ∧ w.frozen? ⟨g, 2, none⟩ = false ∧ w.frozen? ⟨g, 3, none⟩ = false ∧ w.frozen? ⟨g, 4, none⟩ = false ∧ w.frozen? ⟨g, 5, none⟩ = false := ⟨h.fr 0, h.fr 1, h.fr 2, h.fr 3, h.fr 4, h.fr 5⟩
theorem Sta.f3 (S : Sta wb w0 row V R w) (i : Nat) {k : Nat} {vs : List Value} (hi : V[i]? = some (k, vs)) : w.frozen? ⟨k, 0, none⟩ = false ∧ w.frozen? ⟨k, 1, none⟩ = false ∧ w.frozen? ⟨k, 2, none⟩ = false := (S.v i k _ hi).f3
theorem Sta.f6 (S : Sta wb w0 row V R w) (i : Nat) {k : Nat} {vs : List Value} (hi : V[i]? = some (k, vs)) : w.frozen? ⟨k, 0, none⟩ = false ∧ w.frozen? ⟨k, 1, none⟩ = false ∧ w.frozen? ⟨k, 2, none⟩ = false ∧ w.frozen? ⟨k, 3, none⟩ = false ∧ w.frozen? ⟨k, 4, none⟩ = false ∧ w.frozen? ⟨k, 5, none⟩ = false := (S.v i k _ hi).f6
theorem Sta.rf (S : Sta wb w0 row V R w) (i : Nat) {p : Adr} {f : Fr} (hi : R[i]? = some (p, f)) : RF w p f := (S.r i p f hi).rf
theorem Sta.below (S : Sta wb w0 none V R w) : Below w0.heap.size w0 w := Ext.grownNone (Ext.refl w0) S.g
/-- what was in R, without the rest -/
theorem Sta.more (S : Sta wb w0 row V R w) : w0.heap.size ≤ w.heap.size := S.g.size
end

/-- cells below N read as in W, but for two blocks -/
abbrev Sk (W : World) (N k m : Nat) (w : World) : Prop := ∀ b o, b < N → b ≠ k → b ≠ m → w.cell? ⟨b, o, none⟩ = W.cell? ⟨b, o, none⟩
theorem Sk.refl (W : World) (N k m : Nat) : Sk W N k m W := fun _ _ _ _ _ => rfl
theorem Sk.ext {W w w' : World} {N k m : Nat} (h : Sk W N k m w) (x : Below w.heap.size w w') (hN : N ≤ w.heap.size) : Sk W N k m w' := fun b o hb hk hm => ((bcell x).1 b o (by omega)).trans (h b o hb hk hm)
theorem Sk.drew {W w : World} {N k m : Nat} (h : Sk W N k m w) : Sk W N k m w.drew := h
theorem Sk.alloc {W w : World} {N k m : Nat} {o : Obj} (h : Sk W N k m w) (hN : N ≤ w.heap.size) : Sk W N k m (w.alloc o) := h.ext ((Ext.refl w).alloc o) hN
theorem Sk.set {W w : World} {N k m o : Nat} {u : Value} (h : Sk W N k m w) : Sk W N k m (w.setCell ⟨m, o, none⟩ u) := fun b i hb hk hm => (World.cell?_setCell_far w ⟨m, o, none⟩ ⟨b, i, none⟩ u (fun e => hm e.symm)).trans (h b i hb hk hm)
theorem Sk.same {W w : World} {N k m : Nat} {p : Addr} {u : Value} (h : Sk W N k m w) (hp : w.cell? p = some u) : Sk W N k m (w.setCell p u) := fun b i hb hk hm => by
  refine Eq.trans ?_ (h b i hb hk hm)
  by_cases e : p = ⟨b, i, none⟩
  · rw [← e, World.cell?_setCell_same _ _ _ hp, hp]
  · exact World.cell?_setCell_other _ _ _ _ e
/-- the cells of W read as they were -/
abbrev Sk0 (W w : World) : Prop := ∀ b o, b < W.heap.size → w.cell? ⟨b, o, none⟩ = W.cell? ⟨b, o, none⟩
theorem Sk0.of {W w : World} (x : Below W.heap.size W w) : Sk0 W w := fun b o h => (bcell x).1 b o h
theorem Sk0.grown {W X w : World} {r : Option Nat} (h : Sk0 W X) (g : X.grownBy w r) (hr : ∀ b, r = some b → W.heap.size ≤ b) (hN : W.heap.size ≤ X.heap.size) : Sk0 W w := fun b o hb =>
  (World.cell?_of_block (a := ⟨b, o, none⟩) (g.block b (by omega) (fun e => by have := hr b e.symm; omega))).trans (h b o hb)
/-- .. and nothing is gone -/
abbrev Skz (W w : World) : Prop := (∀ b o, b < W.heap.size → w.cell? ⟨b, o, none⟩ = W.cell? ⟨b, o, none⟩) ∧ W.heap.size ≤ w.heap.size
theorem Skz.start (W : World) : Skz W W.drew := ⟨fun _ _ _ => rfl, Nat.le_refl _⟩
theorem Skz.alloc {W w : World} {o : Obj} (h : Skz W w) : Skz W (w.alloc o) := ⟨fun b i hb => ((bcell ((Ext.refl w).alloc o)).1 b i (by have := h.2; omega)).trans (h.1 b i hb), by simp only [World.size_alloc]; have := h.2; omega⟩
theorem Skz.drew {W w : World} (h : Skz W w) : Skz W w.drew := h
theorem Skz.ext {W w w' : World} (h : Skz W w) (x : Below w.heap.size w w') : Skz W w' := ⟨fun b i hb => ((bcell x).1 b i (by have := h.2; omega)).trans (h.1 b i hb), Nat.le_trans h.2 (Ext.size x)⟩
theorem Skz.grown {W X w : World} {r : Option Nat} (h : Skz W X) (g : X.grownBy w r) (hr : ∀ b, r = some b → W.heap.size ≤ b) : Skz W w :=
  ⟨fun b i hb => (World.cell?_of_block (a := ⟨b, i, none⟩) (g.block b (by have := h.2; omega) (fun e => by have := hr b e.symm; omega))).trans (h.1 b i hb), Nat.le_trans h.2 g.size⟩
end Go.Proofs.YtifonmdcicegdaaGreat

namespace Go.Proofs.YtifonmdcicegdaaGreat
open Go Go.RowKit

/-- a complex fraction that is read -/
structure RG (w : World) (p q : Adr) (a : Ga) : Prop where
  re : RF w p a.re
  im : RF w q a.im
theorem RG.ext {w w' : World} {p q : Adr} {a : Ga} (h : RG w p q a) (x : Ext w w') : RG w' p q a := ⟨h.re.ext x, h.im.ext x⟩
theorem RG.wf {w : World} {p q : Adr} {a : Ga} (h : RG w p q a) : a.Wf := ⟨h.re.wf, h.im.wf⟩
end Go.Proofs.YtifonmdcicegdaaGreat

namespace Go.Proofs.YtifonmdcicegdaaGreat
open Go Go.RowKit

/-- a fraction's words with what stands behind them when it is lent -/
def lentF (f : Fr) : Fr := ⟨f.neg, f.num ++ marks, f.den ++ marks⟩
theorem wf_app {xs ys : List Int} (h : Wf xs) (k : Wf ys) : Wf (xs ++ ys) := fun x hx => (List.mem_append.1 hx).elim (h x) (k x)
theorem lentF_wf {f : Fr} (h : f.Wf) : (lentF f).Wf := ⟨wf_app h.num wf_marks, wf_app h.den wf_marks⟩
/-- few enough words -/
def Few (f : Fr) : Prop := f.num.length ≤ 1000000 ∧ f.den.length ≤ 1000000
theorem few_zero : Few Fr.zero := ⟨Nat.zero_le _, Nat.zero_le _⟩
theorem few_enc {q : Rat} (h : ¬ lng q = true) : Few (enc q) := by
  have h1 := not_lng h
  exact ⟨by show (wd _).length ≤ _; omega, by show (wd _).length ≤ _; omega⟩
theorem Good.few {t : Fr × Int} (h : Good t) : Few t.1 := by
  by_cases e : t.2 = 0
  · obtain ⟨q, hq, hl⟩ := h.1 e; rw [hq]; exact few_enc hl
  · rw [h.2 e]; exact few_zero
/-- few words in both parts -/
def FewG (a : Ga) : Prop := Few a.re ∧ Few a.im
theorem kLent (f : Fr) (p : Adr) (w : World) (h : RF w p f) (hm : Few f) : Calls Tryz.prog 13 #[.agg #[.bool f.neg, .slice p.A f.num.length p.c, .slice p.B f.den.length p.d]] w fun e w' =>
    ∃ p' : Adr, e = .returned (.agg #[.bool f.neg, .slice p'.A f.num.length p'.c, .slice p'.B f.den.length p'.d]) ∧ OF w' w.heap.size p' (lentF f) ∧ Below w.heap.size w w' :=
  (klentR_any f _ _ _ _ w h.num h.den hm.1 hm.2).mono fun _ _ ⟨A, c, B, d, h1, h2, h3, h4, h5⟩ => ⟨⟨A, c, B, d⟩, h1, ⟨h2, h3, h4, lentF_wf h.wf⟩, h5⟩
end Go.Proofs.YtifonmdcicegdaaGreat

