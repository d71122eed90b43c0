/- Texts of this claim, joined: F6. -/
import Derived.Test.YtjoonfegjobgbaaGreatDoorRy
set_option linter.unusedVariables false
set_option linter.unusedSimpArgs false
set_option maxRecDepth 100000
namespace Go.Proofs.YtjoonfegjobgbaaGreatDoor
open Go Go.RowKit
def roconj (r : El tRot) : El tRot × Int × Unit := if rotC r ≠ 0 then ((0, 0, ()), rotC r, ()) else ((r.1, -r.2.1, ()), 0, ())
theorem i32_neg {q : Int} (h : -1000 ≤ q) (k : q ≤ 1000) : IntKind.i32.wrap ((0 : Int) - q) = -q := by
  rw [Go.IntWalk.i32_left, Go.IntWalk.wrap32_in _ (by omega)]
  omega
noncomputable def sp_roConj : Spec := { q := .un, ps := [tRot], rs := [tRot, .it .i64], fresh := true, pre := fun _ _ => none, post := fun _ x => ((), roconj x.1) }
noncomputable def iv_roConj (y : El sp_roConj.q) (x : Els sp_roConj.ps) : Nat → Option Inv := fun _ => none
noncomputable abbrev c_roConj : Cfg := cfgS (Tryz.f67).ntmps false [(36, sp_rCk.prim)]
def F_roConj (y : El sp_roConj.q) (x : Els sp_roConj.ps) : Prop :=
  ∀ (r : Ro [Ty.it IntKind.i64]), r = ((), rotC x.1, ()) → ((r.2.1 != (0 : Int)) = true → (((0 : Int), (0 : Int), ()), r.2) = roconj x.1) ∧ ((r.2.1 != (0 : Int)) = false → ((x.1.1, IntKind.i32.wrap ((0 : Int) - x.1.2.1), ()), (0 : Int), ()) = roconj x.1)
theorem w_roConj (y : El sp_roConj.q) (x : Els sp_roConj.ps) : aW c_roConj (iv_roConj y x) Tryz.f67 sp_roConj y x = F_roConj y x := by kernel_rfl
theorem m_roConj (y : El (.un)) (x : Els [tRot]) (h2 : wfE (.un) y) (h3 : wfEs [tRot] x) : F_roConj y x := by
  unfold F_roConj
  rintro _ rfl
  refine ⟨fun h => ?_, fun h => ?_⟩
  · have h : rotC x.1 ≠ 0 := neT h
    exact (if_pos h).symm
  · have h : rotC x.1 = 0 := neF h
    obtain ⟨r1, r2, r3, r4⟩ := rotC_un h
    have e : IntKind.i32.wrap ((0 : Int) - x.1.2.1) = -x.1.2.1 := i32_neg r3 r4
    rw [e]
    exact (if_neg (fun k => k h)).symm
theorem fo_roConj : FnOk Tryz.prog 67 sp_roConj := fnOk_of (C := c_roConj) iv_roConj Tryz.func67 rfl (by kernel_rfl) tys_ok (prims_cons (spec_prim fo_rCk) prims_nil) mixed_ (Nat.le_refl _) rfl fun y x h1 h2 h3 h4 =>
  Eq.mpr (w_roConj y x) (m_roConj y x h2 h3)
abbrev stE6 (t : ByteArray × Int × Unit) : El .un × Els [.st, .it .i64] := ((), t)
abbrev tiE6 (t : El tTide × Int × Unit) : El .un × Els [tTide, .it .i64] := ((), t)
abbrev roE6 (t : El tRot × Int × Unit) : El .un × Els [tRot, .it .i64] := ((), t)
theorem small_q {f : Fr} (wf : f.Wf) (h : fchk f = 0) (k : smallF f 20 = true) : ∃ q : Rat, f = enc q ∧ szw 20 q := by
  obtain ⟨l1, l2⟩ := fchk_ln h
  obtain ⟨q, rfl, _⟩ := fchk_ok wf h
  unfold smallF smallW at k
  simp only [Bool.and_eq_true, Bool.or_eq_true, decide_eq_true_eq] at k
  refine ⟨q, rfl, ?_, ?_⟩
  · show (enc q).num.length ≤ 20
    omega
  · show (enc q).den.length ≤ 20
    omega
theorem small_ge {c : El tTide} (wf : (toGa c.2.2.1).Wf) (h : tchk c = 0) (k : (smallF (toFr c.2.2.1.1) 20 && smallF (toFr c.2.2.1.2.1) 20) = true) : ∃ a b : Rat, toGa c.2.2.1 = ge a b ∧ szw 20 a ∧ szw 20 b := by
  obtain ⟨_, _, g0⟩ := tchk_un h
  obtain ⟨f1, f2⟩ := gchk_zr g0
  rw [Bool.and_eq_true] at k
  obtain ⟨a, ea, ha⟩ := small_q wf.1 f1 k.1
  obtain ⟨b, eb, hb⟩ := small_q wf.2 f2 k.2
  refine ⟨a, b, ?_, ha, hb⟩
  show (⟨(toGa c.2.2.1).re, (toGa c.2.2.1).im⟩ : Ga) = ⟨enc a, enc b⟩
  rw [ea, eb]
theorem sameT_self (c : El tTide) : sameT c c = true := by
  unfold sameT
  rw [decide_eq_true rfl, decide_eq_true rfl, decide_eq_true rfl]
  rfl
theorem sameT_g {c : El tTide} {g : Ga} (e : toGa c.2.2.1 = g) : sameT c (c.1, c.2.1, ofGa g, ()) = true ∧ sameT (c.1, c.2.1, ofGa g, ()) c = true := by
  have k1 : toGa (c.1, c.2.1, ofGa g, ()).2.2.1 = toGa c.2.2.1 := (toGa_of g).trans e.symm
  unfold sameT
  rw [k1]
  constructor
  all_goals
    rw [decide_eq_true rfl, decide_eq_true rfl, decide_eq_true rfl]
    rfl
theorem ro_ok {c : El tTide} (h : tchk c = 0) : roconj c.2.1 = ((c.2.1.1, -c.2.1.2.1, ()), 0, ()) := if_neg (fun k => k (tchk_un h).2.1)
theorem frac_of {f : Fr} (wf : f.Wf) (h : fchk f = 0) (k : fsign f ≠ 0) (l1 : f.num.length ≤ 20) (l2 : f.den.length ≤ 20) : ∃ s : Rat, f = enc s ∧ s ≠ 0 ∧ szw 20 s := by
  obtain ⟨q, rfl, _⟩ := fchk_ok wf h
  exact ⟨q, rfl, fun e => k (by rw [e]; decide +kernel), l1, l2⟩
theorem m13_20 : fsmall 1 1 = (enc 1, 0) := by decide +kernel
theorem bl_no {b : ByteArray} (h : (!(b.toList == b.toList)) = true) : False := by
  rw [beq_self_eq_true] at h
  cases h
theorem par_no {s : ByteArray} (h3 : s.size ≤ 3000) (h : ¬ (okTi s = true ∧ rotC (rotT s) = 0)) : ∃ e : Int, e ≠ 0 ∧ parT s = (tZ, e, ()) := by
  by_cases k : okTi s = true
  · have l : rotC (rotT s) ≠ 0 := fun e => h ⟨k, e⟩
    exact ⟨_, l, pt_rot h3 k l⟩
  · exact ⟨230, by decide, pt_bad h3 k⟩
noncomputable def sp_lawTideBack : Spec := { q := .un, ps := [tTide, tR, .st], rs := [.bo], fresh := true, pre := fun _ _ => none, post := fun _ _ => ((), (true, ())) }
noncomputable def iv_lawTideBack (y : El sp_lawTideBack.q) (x : Els sp_lawTideBack.ps) : Nat → Option Inv := fun _ => none
noncomputable abbrev c_lawTideBack : Cfg := cfgS (Tryz.f11).ntmps false [(63, p_sure (sp_l13awake.prim)), (58, sp_tParse.prim), (56, sp_tPrint.prim), (64, sp_tCk.prim), (54, sp_tSmall.prim), (65, p_sure (sp_tSame.prim)), (66, sp_tConj.prim), (67, sp_roConj.prim), (68, sp_gConj.prim), (48, p_sure (sp_kSameGauss.prim)), (24, sp_rCheck.prim), (20, sp_rSgn.prim), (69, sp_rSmall.prim), (21, sp_rQuo.prim), (70, sp_tScale.prim)]
def F_lawTideBack (y : El sp_lawTideBack.q) (x : Els sp_lawTideBack.ps) : Prop :=
  true = true ∧ (decide ((↑(ByteArray.size x.2.2.1) : Int) > (2000 : Int)) = true → ((0 : Int) ≤ (0 : Int) ∧ (0 : Int) ≤ (2000 : Int) ∧ (2000 : Int) ≤ (↑(ByteArray.size x.2.2.1) : Int)) ∧ ((ByteArray.extract x.2.2.1 (Int.toNat (0 : Int)) (Int.toNat (2000 : Int))).size ≤ (3000 : Nat) ∨ (65536 : Nat) < (ByteArray.extract x.2.2.1 (Int.toNat (0 : Int)) (Int.toNat (2000 : Int))).size) ∧ ∀ (r : Ro [tTide, Ty.it IntKind.i64]), r = ((), parT (ByteArray.extract x.2.2.1 (Int.toNat (0 : Int)) (Int.toNat (2000 : Int)))) → ((r.2.2.1 == (0 : Int)) = true → ∀ (r_1 : Ro [Ty.st, Ty.it IntKind.i64]), r_1 = ((), prT r.2.1) → ((r_1.2.2.1 != (0 : Int)) = true → (false, ()) = (true, ())) ∧ ((r_1.2.2.1 != (0 : Int)) = false → ((!ByteArray.toList r_1.2.1 == (ByteArray.extract x.2.2.1 (Int.toNat (0 : Int)) (Int.toNat (2000 : Int))).toList) = true → (false, ()) = (true, ())) ∧ ((!ByteArray.toList r_1.2.1 == (ByteArray.extract x.2.2.1 (Int.toNat (0 : Int)) (Int.toNat (2000 : Int))).toList) = false → ∀ (r_2 : Ro [Ty.it IntKind.i64]), r_2 = ((), tchk r.2.1, ()) → ((r_2.2.1 != (0 : Int)) = true → (false, ()) = (true, ())) ∧ ((r_2.2.1 != (0 : Int)) = false → ∀ (r : Ro [Ty.it IntKind.i64]), r = ((), tchk x.1, ()) → ((r.2.1 != (0 : Int)) = true → (true, ()) = (true, ())) ∧ ((r.2.1 != (0 : Int)) = false → ∀ (r : Ro [Ty.bo]), r = ((), smallF (toFr x.1.2.2.1.1) (20 : Int) && smallF (toFr x.1.2.2.1.2.1) (20 : Int), ()) → ((!r.2.1) = true → (true, ()) = (true, ())) ∧ ((!r.2.1) = false → (decide ((x.1.2.2.1.1.2.1.length : Int) > (20 : Int)) = true → (true, ()) = (true, ())) ∧ (decide ((x.1.2.2.1.1.2.1.length : Int) > (20 : Int)) = false → ∀ (r : Ro [Ty.st, Ty.it IntKind.i64]), r = ((), prT x.1) → (ByteArray.size r.2.1 ≤ (3000 : Nat) ∨ (65536 : Nat) < ByteArray.size r.2.1) ∧ ∀ (r_3 : Ro [tTide, Ty.it IntKind.i64]), r_3 = ((), parT r.2.1) → ((r.2.2.1 != (0 : Int)) = true → (false, ()) = (true, ())) ∧ ((r.2.2.1 != (0 : Int)) = false → ((r_3.2.2.1 != (0 : Int)) = true → (false, ()) = (true, ())) ∧ ((r_3.2.2.1 != (0 : Int)) = false → sameT x.1 r_3.2.1 = true ∧ ∀ (r : Ro [tTide, Ty.it IntKind.i64]), r = ((), tconj x.1) → ∀ (r_4 : Ro [tTide, Ty.it IntKind.i64]), r_4 = ((), tconj r.2.1) → ∀ (r_5 : Ro [tRot, Ty.it IntKind.i64]), r_5 = ((), roconj x.1.2.1) → ∀ (r_6 : Ro [tG, Ty.it IntKind.i64]), r_6 = pG (gconj (toGa x.1.2.2.1)) → ((r.2.2.1 != (0 : Int)) = true → (false, ()) = (true, ())) ∧ ((r.2.2.1 != (0 : Int)) = false → ((r_4.2.2.1 != (0 : Int)) = true → (false, ()) = (true, ())) ∧ ((r_4.2.2.1 != (0 : Int)) = false → ((r_5.2.2.1 != (0 : Int)) = true → (false, ()) = (true, ())) ∧ ((r_5.2.2.1 != (0 : Int)) = false → ((r_6.2.2.1 != (0 : Int)) = true → (false, ()) = (true, ())) ∧ ((r_6.2.2.1 != (0 : Int)) = false → sameT x.1 r_4.2.1 = true ∧ ((!eqV tRot r.2.1.2.1 r_5.2.1) = true → (false, ()) = (true, ())) ∧ ((!eqV tRot r.2.1.2.1 r_5.2.1) = false → decide (toGa r.2.1.2.2.1 = toGa r_6.2.1) = true ∧ ((!ByteArray.toList r.2.1.1 == ByteArray.toList x.1.1) = true → (false, ()) = (true, ())) ∧ ((!ByteArray.toList r.2.1.1 == ByteArray.toList x.1.1) = false → ∀ (r : Ro [Ty.it IntKind.i64]), r = ((), fchk (toFr x.2.1), ()) → ((r.2.1 != (0 : Int)) = true → (true, ()) = (true, ())) ∧ ((r.2.1 != (0 : Int)) = false → ∀ (r : Ro [Ty.it IntKind.i64]), r = ((), fsign (toFr x.2.1), ()) → ((r.2.1 == (0 : Int)) = true → (true, ()) = (true, ())) ∧ ((r.2.1 == (0 : Int)) = false → (decide ((x.2.1.2.1.length : Int) > (20 : Int)) = true → (true, ()) = (true, ())) ∧ (decide ((x.2.1.2.1.length : Int) > (20 : Int)) = false → (decide ((x.2.1.2.2.1.length : Int) > (20 : Int)) = true → (true, ()) = (true, ())) ∧ (decide ((x.2.1.2.2.1.length : Int) > (20 : Int)) = false → ∀ (r : Ro [tR, Ty.it IntKind.i64]), r = pR (fsmall (1 : Int) (1 : Int)) → ∀ (r_7 : Ro [tR, Ty.it IntKind.i64]), r_7 = pR (fquo (toFr r.2.1) (toFr x.2.1)) → ∀ (r : Ro [tTide, Ty.it IntKind.i64]), r = ((), tscale x.2.1 x.1) → ∀ (r_8 : Ro [tTide, Ty.it IntKind.i64]), r_8 = ((), tscale r_7.2.1 r.2.1) → ((r_7.2.2.1 == (0 : Int)) = true → ((r.2.2.1 == (0 : Int)) = true → ((r_8.2.2.1 == (0 : Int)) = true → sameT r_8.2.1 x.1 = true ∧ (true, ()) = (true, ())) ∧ ((r_8.2.2.1 == (0 : Int)) = false → (false, ()) = (true, ()))) ∧ ((r.2.2.1 == (0 : Int)) = false → (false, ()) = (true, ()))) ∧ ((r_7.2.2.1 == (0 : Int)) = false → (false, ()) = (true, ()))))))))))))))))))))) ∧ ((r.2.2.1 == (0 : Int)) = false → ∀ (r : Ro [Ty.it IntKind.i64]), r = ((), tchk x.1, ()) → ((r.2.1 != (0 : Int)) = true → (true, ()) = (true, ())) ∧ ((r.2.1 != (0 : Int)) = false → ∀ (r : Ro [Ty.bo]), r = ((), smallF (toFr x.1.2.2.1.1) (20 : Int) && smallF (toFr x.1.2.2.1.2.1) (20 : Int), ()) → ((!r.2.1) = true → (true, ()) = (true, ())) ∧ ((!r.2.1) = false → (decide ((x.1.2.2.1.1.2.1.length : Int) > (20 : Int)) = true → (true, ()) = (true, ())) ∧ (decide ((x.1.2.2.1.1.2.1.length : Int) > (20 : Int)) = false → ∀ (r : Ro [Ty.st, Ty.it IntKind.i64]), r = ((), prT x.1) → (ByteArray.size r.2.1 ≤ (3000 : Nat) ∨ (65536 : Nat) < ByteArray.size r.2.1) ∧ ∀ (r_1 : Ro [tTide, Ty.it IntKind.i64]), r_1 = ((), parT r.2.1) → ((r.2.2.1 != (0 : Int)) = true → (false, ()) = (true, ())) ∧ ((r.2.2.1 != (0 : Int)) = false → ((r_1.2.2.1 != (0 : Int)) = true → (false, ()) = (true, ())) ∧ ((r_1.2.2.1 != (0 : Int)) = false → sameT x.1 r_1.2.1 = true ∧ ∀ (r : Ro [tTide, Ty.it IntKind.i64]), r = ((), tconj x.1) → ∀ (r_2 : Ro [tTide, Ty.it IntKind.i64]), r_2 = ((), tconj r.2.1) → ∀ (r_3 : Ro [tRot, Ty.it IntKind.i64]), r_3 = ((), roconj x.1.2.1) → ∀ (r_4 : Ro [tG, Ty.it IntKind.i64]), r_4 = pG (gconj (toGa x.1.2.2.1)) → ((r.2.2.1 != (0 : Int)) = true → (false, ()) = (true, ())) ∧ ((r.2.2.1 != (0 : Int)) = false → ((r_2.2.2.1 != (0 : Int)) = true → (false, ()) = (true, ())) ∧ ((r_2.2.2.1 != (0 : Int)) = false → ((r_3.2.2.1 != (0 : Int)) = true → (false, ()) = (true, ())) ∧ ((r_3.2.2.1 != (0 : Int)) = false → ((r_4.2.2.1 != (0 : Int)) = true → (false, ()) = (true, ())) ∧ ((r_4.2.2.1 != (0 : Int)) = false → sameT x.1 r_2.2.1 = true ∧ ((!eqV tRot r.2.1.2.1 r_3.2.1) = true → (false, ()) = (true, ())) ∧ ((!eqV tRot r.2.1.2.1 r_3.2.1) = false → decide (toGa r.2.1.2.2.1 = toGa r_4.2.1) = true ∧ ((!ByteArray.toList r.2.1.1 == ByteArray.toList x.1.1) = true → (false, ()) = (true, ())) ∧ ((!ByteArray.toList r.2.1.1 == ByteArray.toList x.1.1) = false → ∀ (r : Ro [Ty.it IntKind.i64]), r = ((), fchk (toFr x.2.1), ()) → ((r.2.1 != (0 : Int)) = true → (true, ()) = (true, ())) ∧ ((r.2.1 != (0 : Int)) = false → ∀ (r : Ro [Ty.it IntKind.i64]), r = ((), fsign (toFr x.2.1), ()) → ((r.2.1 == (0 : Int)) = true → (true, ()) = (true, ())) ∧ ((r.2.1 == (0 : Int)) = false → (decide ((x.2.1.2.1.length : Int) > (20 : Int)) = true → (true, ()) = (true, ())) ∧ (decide ((x.2.1.2.1.length : Int) > (20 : Int)) = false → (decide ((x.2.1.2.2.1.length : Int) > (20 : Int)) = true → (true, ()) = (true, ())) ∧ (decide ((x.2.1.2.2.1.length : Int) > (20 : Int)) = false → ∀ (r : Ro [tR, Ty.it IntKind.i64]), r = pR (fsmall (1 : Int) (1 : Int)) → ∀ (r_5 : Ro [tR, Ty.it IntKind.i64]), r_5 = pR (fquo (toFr r.2.1) (toFr x.2.1)) → ∀ (r : Ro [tTide, Ty.it IntKind.i64]), r = ((), tscale x.2.1 x.1) → ∀ (r_6 : Ro [tTide, Ty.it IntKind.i64]), r_6 = ((), tscale r_5.2.1 r.2.1) → ((r_5.2.2.1 == (0 : Int)) = true → ((r.2.2.1 == (0 : Int)) = true → ((r_6.2.2.1 == (0 : Int)) = true → sameT r_6.2.1 x.1 = true ∧ (true, ()) = (true, ())) ∧ ((r_6.2.2.1 == (0 : Int)) = false → (false, ()) = (true, ()))) ∧ ((r.2.2.1 == (0 : Int)) = false → (false, ()) = (true, ()))) ∧ ((r_5.2.2.1 == (0 : Int)) = false → (false, ()) = (true, ()))))))))))))))))))) ∧ (decide ((↑(ByteArray.size x.2.2.1) : Int) > (2000 : Int)) = false → (ByteArray.size x.2.2.1 ≤ (3000 : Nat) ∨ (65536 : Nat) < ByteArray.size x.2.2.1) ∧ ∀ (r : Ro [tTide, Ty.it IntKind.i64]), r = ((), parT x.2.2.1) → ((r.2.2.1 == (0 : Int)) = true → ∀ (r_1 : Ro [Ty.st, Ty.it IntKind.i64]), r_1 = ((), prT r.2.1) → ((r_1.2.2.1 != (0 : Int)) = true → (false, ()) = (true, ())) ∧ ((r_1.2.2.1 != (0 : Int)) = false → ((!ByteArray.toList r_1.2.1 == ByteArray.toList x.2.2.1) = true → (false, ()) = (true, ())) ∧ ((!ByteArray.toList r_1.2.1 == ByteArray.toList x.2.2.1) = false → ∀ (r_2 : Ro [Ty.it IntKind.i64]), r_2 = ((), tchk r.2.1, ()) → ((r_2.2.1 != (0 : Int)) = true → (false, ()) = (true, ())) ∧ ((r_2.2.1 != (0 : Int)) = false → ∀ (r : Ro [Ty.it IntKind.i64]), r = ((), tchk x.1, ()) → ((r.2.1 != (0 : Int)) = true → (true, ()) = (true, ())) ∧ ((r.2.1 != (0 : Int)) = false → ∀ (r : Ro [Ty.bo]), r = ((), smallF (toFr x.1.2.2.1.1) (20 : Int) && smallF (toFr x.1.2.2.1.2.1) (20 : Int), ()) → ((!r.2.1) = true → (true, ()) = (true, ())) ∧ ((!r.2.1) = false → (decide ((x.1.2.2.1.1.2.1.length : Int) > (20 : Int)) = true → (true, ()) = (true, ())) ∧ (decide ((x.1.2.2.1.1.2.1.length : Int) > (20 : Int)) = false → ∀ (r : Ro [Ty.st, Ty.it IntKind.i64]), r = ((), prT x.1) → (ByteArray.size r.2.1 ≤ (3000 : Nat) ∨ (65536 : Nat) < ByteArray.size r.2.1) ∧ ∀ (r_3 : Ro [tTide, Ty.it IntKind.i64]), r_3 = ((), parT r.2.1) → ((r.2.2.1 != (0 : Int)) = true → (false, ()) = (true, ())) ∧ ((r.2.2.1 != (0 : Int)) = false → ((r_3.2.2.1 != (0 : Int)) = true → (false, ()) = (true, ())) ∧ ((r_3.2.2.1 != (0 : Int)) = false → sameT x.1 r_3.2.1 = true ∧ ∀ (r : Ro [tTide, Ty.it IntKind.i64]), r = ((), tconj x.1) → ∀ (r_4 : Ro [tTide, Ty.it IntKind.i64]), r_4 = ((), tconj r.2.1) → ∀ (r_5 : Ro [tRot, Ty.it IntKind.i64]), r_5 = ((), roconj x.1.2.1) → ∀ (r_6 : Ro [tG, Ty.it IntKind.i64]), r_6 = pG (gconj (toGa x.1.2.2.1)) → ((r.2.2.1 != (0 : Int)) = true → (false, ()) = (true, ())) ∧ ((r.2.2.1 != (0 : Int)) = false → ((r_4.2.2.1 != (0 : Int)) = true → (false, ()) = (true, ())) ∧ ((r_4.2.2.1 != (0 : Int)) = false → ((r_5.2.2.1 != (0 : Int)) = true → (false, ()) = (true, ())) ∧ ((r_5.2.2.1 != (0 : Int)) = false → ((r_6.2.2.1 != (0 : Int)) = true → (false, ()) = (true, ())) ∧ ((r_6.2.2.1 != (0 : Int)) = false → sameT x.1 r_4.2.1 = true ∧ ((!eqV tRot r.2.1.2.1 r_5.2.1) = true → (false, ()) = (true, ())) ∧ ((!eqV tRot r.2.1.2.1 r_5.2.1) = false → decide (toGa r.2.1.2.2.1 = toGa r_6.2.1) = true ∧ ((!ByteArray.toList r.2.1.1 == ByteArray.toList x.1.1) = true → (false, ()) = (true, ())) ∧ ((!ByteArray.toList r.2.1.1 == ByteArray.toList x.1.1) = false → ∀ (r : Ro [Ty.it IntKind.i64]), r = ((), fchk (toFr x.2.1), ()) → ((r.2.1 != (0 : Int)) = true → (true, ()) = (true, ())) ∧ ((r.2.1 != (0 : Int)) = false → ∀ (r : Ro [Ty.it IntKind.i64]), r = ((), fsign (toFr x.2.1), ()) → ((r.2.1 == (0 : Int)) = true → (true, ()) = (true, ())) ∧ ((r.2.1 == (0 : Int)) = false → (decide ((x.2.1.2.1.length : Int) > (20 : Int)) = true → (true, ()) = (true, ())) ∧ (decide ((x.2.1.2.1.length : Int) > (20 : Int)) = false → (decide ((x.2.1.2.2.1.length : Int) > (20 : Int)) = true → (true, ()) = (true, ())) ∧ (decide ((x.2.1.2.2.1.length : Int) > (20 : Int)) = false → ∀ (r : Ro [tR, Ty.it IntKind.i64]), r = pR (fsmall (1 : Int) (1 : Int)) → ∀ (r_7 : Ro [tR, Ty.it IntKind.i64]), r_7 = pR (fquo (toFr r.2.1) (toFr x.2.1)) → ∀ (r : Ro [tTide, Ty.it IntKind.i64]), r = ((), tscale x.2.1 x.1) → ∀ (r_8 : Ro [tTide, Ty.it IntKind.i64]), r_8 = ((), tscale r_7.2.1 r.2.1) → ((r_7.2.2.1 == (0 : Int)) = true → ((r.2.2.1 == (0 : Int)) = true → ((r_8.2.2.1 == (0 : Int)) = true → sameT r_8.2.1 x.1 = true ∧ (true, ()) = (true, ())) ∧ ((r_8.2.2.1 == (0 : Int)) = false → (false, ()) = (true, ()))) ∧ ((r.2.2.1 == (0 : Int)) = false → (false, ()) = (true, ()))) ∧ ((r_7.2.2.1 == (0 : Int)) = false → (false, ()) = (true, ()))))))))))))))))))))) ∧ ((r.2.2.1 == (0 : Int)) = false → ∀ (r : Ro [Ty.it IntKind.i64]), r = ((), tchk x.1, ()) → ((r.2.1 != (0 : Int)) = true → (true, ()) = (true, ())) ∧ ((r.2.1 != (0 : Int)) = false → ∀ (r : Ro [Ty.bo]), r = ((), smallF (toFr x.1.2.2.1.1) (20 : Int) && smallF (toFr x.1.2.2.1.2.1) (20 : Int), ()) → ((!r.2.1) = true → (true, ()) = (true, ())) ∧ ((!r.2.1) = false → (decide ((x.1.2.2.1.1.2.1.length : Int) > (20 : Int)) = true → (true, ()) = (true, ())) ∧ (decide ((x.1.2.2.1.1.2.1.length : Int) > (20 : Int)) = false → ∀ (r : Ro [Ty.st, Ty.it IntKind.i64]), r = ((), prT x.1) → (ByteArray.size r.2.1 ≤ (3000 : Nat) ∨ (65536 : Nat) < ByteArray.size r.2.1) ∧ ∀ (r_1 : Ro [tTide, Ty.it IntKind.i64]), r_1 = ((), parT r.2.1) → ((r.2.2.1 != (0 : Int)) = true → (false, ()) = (true, ())) ∧ ((r.2.2.1 != (0 : Int)) = false → ((r_1.2.2.1 != (0 : Int)) = true → (false, ()) = (true, ())) ∧ ((r_1.2.2.1 != (0 : Int)) = false → sameT x.1 r_1.2.1 = true ∧ ∀ (r : Ro [tTide, Ty.it IntKind.i64]), r = ((), tconj x.1) → ∀ (r_2 : Ro [tTide, Ty.it IntKind.i64]), r_2 = ((), tconj r.2.1) → ∀ (r_3 : Ro [tRot, Ty.it IntKind.i64]), r_3 = ((), roconj x.1.2.1) → ∀ (r_4 : Ro [tG, Ty.it IntKind.i64]), r_4 = pG (gconj (toGa x.1.2.2.1)) → ((r.2.2.1 != (0 : Int)) = true → (false, ()) = (true, ())) ∧ ((r.2.2.1 != (0 : Int)) = false → ((r_2.2.2.1 != (0 : Int)) = true → (false, ()) = (true, ())) ∧ ((r_2.2.2.1 != (0 : Int)) = false → ((r_3.2.2.1 != (0 : Int)) = true → (false, ()) = (true, ())) ∧ ((r_3.2.2.1 != (0 : Int)) = false → ((r_4.2.2.1 != (0 : Int)) = true → (false, ()) = (true, ())) ∧ ((r_4.2.2.1 != (0 : Int)) = false → sameT x.1 r_2.2.1 = true ∧ ((!eqV tRot r.2.1.2.1 r_3.2.1) = true → (false, ()) = (true, ())) ∧ ((!eqV tRot r.2.1.2.1 r_3.2.1) = false → decide (toGa r.2.1.2.2.1 = toGa r_4.2.1) = true ∧ ((!ByteArray.toList r.2.1.1 == ByteArray.toList x.1.1) = true → (false, ()) = (true, ())) ∧ ((!ByteArray.toList r.2.1.1 == ByteArray.toList x.1.1) = false → ∀ (r : Ro [Ty.it IntKind.i64]), r = ((), fchk (toFr x.2.1), ()) → ((r.2.1 != (0 : Int)) = true → (true, ()) = (true, ())) ∧ ((r.2.1 != (0 : Int)) = false → ∀ (r : Ro [Ty.it IntKind.i64]), r = ((), fsign (toFr x.2.1), ()) → ((r.2.1 == (0 : Int)) = true → (true, ()) = (true, ())) ∧ ((r.2.1 == (0 : Int)) = false → (decide ((x.2.1.2.1.length : Int) > (20 : Int)) = true → (true, ()) = (true, ())) ∧ (decide ((x.2.1.2.1.length : Int) > (20 : Int)) = false → (decide ((x.2.1.2.2.1.length : Int) > (20 : Int)) = true → (true, ()) = (true, ())) ∧ (decide ((x.2.1.2.2.1.length : Int) > (20 : Int)) = false → ∀ (r : Ro [tR, Ty.it IntKind.i64]), r = pR (fsmall (1 : Int) (1 : Int)) → ∀ (r_5 : Ro [tR, Ty.it IntKind.i64]), r_5 = pR (fquo (toFr r.2.1) (toFr x.2.1)) → ∀ (r : Ro [tTide, Ty.it IntKind.i64]), r = ((), tscale x.2.1 x.1) → ∀ (r_6 : Ro [tTide, Ty.it IntKind.i64]), r_6 = ((), tscale r_5.2.1 r.2.1) → ((r_5.2.2.1 == (0 : Int)) = true → ((r.2.2.1 == (0 : Int)) = true → ((r_6.2.2.1 == (0 : Int)) = true → sameT r_6.2.1 x.1 = true ∧ (true, ()) = (true, ())) ∧ ((r_6.2.2.1 == (0 : Int)) = false → (false, ()) = (true, ()))) ∧ ((r.2.2.1 == (0 : Int)) = false → (false, ()) = (true, ()))) ∧ ((r_5.2.2.1 == (0 : Int)) = false → (false, ()) = (true, ())))))))))))))))))))
theorem w_lawTideBack (y : El sp_lawTideBack.q) (x : Els sp_lawTideBack.ps) : aW c_lawTideBack (iv_lawTideBack y x) Tryz.f11 sp_lawTideBack y x = F_lawTideBack y x := by kernel_rfl
theorem m_lawTideBack (y : El (.un)) (x : Els [tTide, tR, .st]) (h2 : wfE (.un) y) (h3 : wfEs [tTide, tR, .st] x) : F_lawTideBack y x := by
  unfold F_lawTideBack
  refine ⟨rfl, fun hs => ?_, fun hs => ?_⟩
  · have hs := gtT hs
    have hs3 : (ByteArray.extract x.2.2.1 (Int.toNat 0) (Int.toNat 2000)).size ≤ 3000 := by
      show (ByteArray.extract x.2.2.1 0 2000).size ≤ 3000
      rw [ByteArray.size_extract]
      omega
    refine ⟨⟨Int.le_refl 0, by decide, Int.le_of_lt hs⟩, ?_⟩
    refine ⟨.inl hs3, ?_⟩
    intro r hr
    by_cases ho : okTi (ByteArray.extract x.2.2.1 (Int.toNat 0) (Int.toNat 2000)) = true ∧ rotC (rotT (ByteArray.extract x.2.2.1 (Int.toNat 0) (Int.toNat 2000))) = 0
    · obtain rfl := hr.trans (congrArg tiE6 (pt_ok hs3 ho.1 ho.2))
      refine ⟨fun _ => ?_, fun h => Bool.noConfusion (show true = false from h)⟩
      obtain ⟨tt1, tt2⟩ := ttext_of hs3 ho.1 ho.2
      intro r hr
      dsimp only [tiE6] at hr
      rw [tt2] at hr
      obtain rfl := hr
      refine ⟨fun h => Bool.noConfusion (show false = true from h), fun _ => ⟨fun h => (bl_no h).elim, fun _ => ?_⟩⟩
      intro r hr
      dsimp only [tiE6] at hr
      rw [tt1] at hr
      obtain rfl := hr
      refine ⟨fun h => Bool.noConfusion (show false = true from h), fun _ => ?_⟩
      rintro _ rfl
      refine ⟨fun _ => rfl, fun ht => ?_⟩
      have ht : tchk x.1 = 0 := neF ht
      rintro _ rfl
      refine ⟨fun _ => rfl, fun hm => ⟨fun _ => rfl, fun _ => ?_⟩⟩
      obtain ⟨a, b, ea, h1, h2⟩ := small_ge (wf_ga h3.1.2.2.1) ht (ntF hm)
      have HB := tback_of (wf_ga h3.1.2.2.1) ht ⟨by rw [ea]; exact h1.1, by rw [ea]; exact h1.2⟩ ⟨by rw [ea]; exact h2.1, by rw [ea]; exact h2.2⟩
      intro r hr
      obtain rfl := hr.trans (congrArg stE6 HB.1)
      refine ⟨.inl HB.2.1, ?_⟩
      intro r hr
      obtain rfl := hr.trans (congrArg tiE6 HB.2.2)
      refine ⟨fun h => Bool.noConfusion (show false = true from h), fun _ => ⟨fun h => Bool.noConfusion (show false = true from h), fun _ => ⟨sameT_self _, ?_⟩⟩⟩
      obtain ⟨C1, C2⟩ := tconj_w ht ea h1 h2
      intro r hr
      obtain rfl := hr.trans (congrArg tiE6 C1)
      intro r hr
      obtain rfl := hr.trans (congrArg tiE6 C2)
      intro r hr
      obtain rfl := hr.trans (congrArg roE6 (ro_ok ht))
      intro r hr
      obtain rfl := hr.trans (congrArg pG ((congrArg gconj ea).trans (gconj_w h1 h2 (by decide))))
      refine ⟨fun h => Bool.noConfusion (show false = true from h), fun _ => ⟨fun h => Bool.noConfusion (show false = true from h), fun _ => ⟨fun h => Bool.noConfusion (show false = true from h), fun _ => ⟨fun h => Bool.noConfusion (show false = true from h), fun _ => ⟨(sameT_g ea).1, fun h => ?_, fun _ => ⟨decide_eq_true rfl, fun h => (bl_no h).elim, fun _ => ?_⟩⟩⟩⟩⟩⟩
      · rw [eq_rot, decide_eq_true rfl] at h
        cases h
      rintro _ rfl
      refine ⟨fun _ => rfl, fun hc => ?_⟩
      rintro _ rfl
      refine ⟨fun _ => rfl, fun hs => ⟨fun _ => rfl, fun l1 => ⟨fun _ => rfl, fun l2 => ?_⟩⟩⟩
      obtain ⟨s, es, n0, h0⟩ := frac_of (wf_fr h3.2.1) (neF hc) (eqF hs) (Int.ofNat_le.1 (gtF l1)) (Int.ofNat_le.1 (gtF l2))
      intro r hr
      obtain rfl := hr.trans (congrArg pR m13_20)
      intro r hr
      obtain rfl := hr.trans (congrArg pR ((congrArg (fquo (enc 1)) es).trans (fquo_back n0 h0)))
      obtain ⟨D1, D2⟩ := tscale_back (v := ofFr (enc (1 / s))) ht es rfl ea n0 h0 h1 h2
      intro r hr
      obtain rfl := hr.trans (congrArg tiE6 D1)
      intro r hr
      obtain rfl := hr.trans (congrArg tiE6 D2)
      exact ⟨fun _ => ⟨fun _ => ⟨fun _ => ⟨(sameT_g ea).2, rfl⟩, fun h => Bool.noConfusion (show true = false from h)⟩, fun h => Bool.noConfusion (show true = false from h)⟩, fun h => Bool.noConfusion (show true = false from h)⟩
    · obtain ⟨e, he, hp⟩ := par_no hs3 ho
      obtain rfl := hr.trans (congrArg tiE6 hp)
      refine ⟨fun h => absurd (eqT h) he, fun _ => ?_⟩
      rintro _ rfl
      refine ⟨fun _ => rfl, fun ht => ?_⟩
      have ht : tchk x.1 = 0 := neF ht
      rintro _ rfl
      refine ⟨fun _ => rfl, fun hm => ⟨fun _ => rfl, fun _ => ?_⟩⟩
      obtain ⟨a, b, ea, h1, h2⟩ := small_ge (wf_ga h3.1.2.2.1) ht (ntF hm)
      have HB := tback_of (wf_ga h3.1.2.2.1) ht ⟨by rw [ea]; exact h1.1, by rw [ea]; exact h1.2⟩ ⟨by rw [ea]; exact h2.1, by rw [ea]; exact h2.2⟩
      intro r hr
      obtain rfl := hr.trans (congrArg stE6 HB.1)
      refine ⟨.inl HB.2.1, ?_⟩
      intro r hr
      obtain rfl := hr.trans (congrArg tiE6 HB.2.2)
      refine ⟨fun h => Bool.noConfusion (show false = true from h), fun _ => ⟨fun h => Bool.noConfusion (show false = true from h), fun _ => ⟨sameT_self _, ?_⟩⟩⟩
      obtain ⟨C1, C2⟩ := tconj_w ht ea h1 h2
      intro r hr
      obtain rfl := hr.trans (congrArg tiE6 C1)
      intro r hr
      obtain rfl := hr.trans (congrArg tiE6 C2)
      intro r hr
      obtain rfl := hr.trans (congrArg roE6 (ro_ok ht))
      intro r hr
      obtain rfl := hr.trans (congrArg pG ((congrArg gconj ea).trans (gconj_w h1 h2 (by decide))))
      refine ⟨fun h => Bool.noConfusion (show false = true from h), fun _ => ⟨fun h => Bool.noConfusion (show false = true from h), fun _ => ⟨fun h => Bool.noConfusion (show false = true from h), fun _ => ⟨fun h => Bool.noConfusion (show false = true from h), fun _ => ⟨(sameT_g ea).1, fun h => ?_, fun _ => ⟨decide_eq_true rfl, fun h => (bl_no h).elim, fun _ => ?_⟩⟩⟩⟩⟩⟩
      · rw [eq_rot, decide_eq_true rfl] at h
        cases h
      rintro _ rfl
      refine ⟨fun _ => rfl, fun hc => ?_⟩
      rintro _ rfl
      refine ⟨fun _ => rfl, fun hs => ⟨fun _ => rfl, fun l1 => ⟨fun _ => rfl, fun l2 => ?_⟩⟩⟩
      obtain ⟨s, es, n0, h0⟩ := frac_of (wf_fr h3.2.1) (neF hc) (eqF hs) (Int.ofNat_le.1 (gtF l1)) (Int.ofNat_le.1 (gtF l2))
      intro r hr
      obtain rfl := hr.trans (congrArg pR m13_20)
      intro r hr
      obtain rfl := hr.trans (congrArg pR ((congrArg (fquo (enc 1)) es).trans (fquo_back n0 h0)))
      obtain ⟨D1, D2⟩ := tscale_back (v := ofFr (enc (1 / s))) ht es rfl ea n0 h0 h1 h2
      intro r hr
      obtain rfl := hr.trans (congrArg tiE6 D1)
      intro r hr
      obtain rfl := hr.trans (congrArg tiE6 D2)
      exact ⟨fun _ => ⟨fun _ => ⟨fun _ => ⟨(sameT_g ea).2, rfl⟩, fun h => Bool.noConfusion (show true = false from h)⟩, fun h => Bool.noConfusion (show true = false from h)⟩, fun h => Bool.noConfusion (show true = false from h)⟩
  · have hs3 : (ByteArray.size x.2.2.1) ≤ 3000 := by
      have : ByteArray.size x.2.2.1 ≤ 2000 := Int.ofNat_le.1 (gtF hs)
      omega
    refine ⟨.inl hs3, ?_⟩
    intro r hr
    by_cases ho : okTi x.2.2.1 = true ∧ rotC (rotT x.2.2.1) = 0
    · obtain rfl := hr.trans (congrArg tiE6 (pt_ok hs3 ho.1 ho.2))
      refine ⟨fun _ => ?_, fun h => Bool.noConfusion (show true = false from h)⟩
      obtain ⟨tt1, tt2⟩ := ttext_of hs3 ho.1 ho.2
      intro r hr
      dsimp only [tiE6] at hr
      rw [tt2] at hr
      obtain rfl := hr
      refine ⟨fun h => Bool.noConfusion (show false = true from h), fun _ => ⟨fun h => (bl_no h).elim, fun _ => ?_⟩⟩
      intro r hr
      dsimp only [tiE6] at hr
      rw [tt1] at hr
      obtain rfl := hr
      refine ⟨fun h => Bool.noConfusion (show false = true from h), fun _ => ?_⟩
      rintro _ rfl
      refine ⟨fun _ => rfl, fun ht => ?_⟩
      have ht : tchk x.1 = 0 := neF ht
      rintro _ rfl
      refine ⟨fun _ => rfl, fun hm => ⟨fun _ => rfl, fun _ => ?_⟩⟩
      obtain ⟨a, b, ea, h1, h2⟩ := small_ge (wf_ga h3.1.2.2.1) ht (ntF hm)
      have HB := tback_of (wf_ga h3.1.2.2.1) ht ⟨by rw [ea]; exact h1.1, by rw [ea]; exact h1.2⟩ ⟨by rw [ea]; exact h2.1, by rw [ea]; exact h2.2⟩
      intro r hr
      obtain rfl := hr.trans (congrArg stE6 HB.1)
      refine ⟨.inl HB.2.1, ?_⟩
      intro r hr
      obtain rfl := hr.trans (congrArg tiE6 HB.2.2)
      refine ⟨fun h => Bool.noConfusion (show false = true from h), fun _ => ⟨fun h => Bool.noConfusion (show false = true from h), fun _ => ⟨sameT_self _, ?_⟩⟩⟩
      obtain ⟨C1, C2⟩ := tconj_w ht ea h1 h2
      intro r hr
      obtain rfl := hr.trans (congrArg tiE6 C1)
      intro r hr
      obtain rfl := hr.trans (congrArg tiE6 C2)
      intro r hr
      obtain rfl := hr.trans (congrArg roE6 (ro_ok ht))
      intro r hr
      obtain rfl := hr.trans (congrArg pG ((congrArg gconj ea).trans (gconj_w h1 h2 (by decide))))
      refine ⟨fun h => Bool.noConfusion (show false = true from h), fun _ => ⟨fun h => Bool.noConfusion (show false = true from h), fun _ => ⟨fun h => Bool.noConfusion (show false = true from h), fun _ => ⟨fun h => Bool.noConfusion (show false = true from h), fun _ => ⟨(sameT_g ea).1, fun h => ?_, fun _ => ⟨decide_eq_true rfl, fun h => (bl_no h).elim, fun _ => ?_⟩⟩⟩⟩⟩⟩
      · rw [eq_rot, decide_eq_true rfl] at h
        cases h
      rintro _ rfl
      refine ⟨fun _ => rfl, fun hc => ?_⟩
      rintro _ rfl
      refine ⟨fun _ => rfl, fun hs => ⟨fun _ => rfl, fun l1 => ⟨fun _ => rfl, fun l2 => ?_⟩⟩⟩
      obtain ⟨s, es, n0, h0⟩ := frac_of (wf_fr h3.2.1) (neF hc) (eqF hs) (Int.ofNat_le.1 (gtF l1)) (Int.ofNat_le.1 (gtF l2))
      intro r hr
      obtain rfl := hr.trans (congrArg pR m13_20)
      intro r hr
      obtain rfl := hr.trans (congrArg pR ((congrArg (fquo (enc 1)) es).trans (fquo_back n0 h0)))
      obtain ⟨D1, D2⟩ := tscale_back (v := ofFr (enc (1 / s))) ht es rfl ea n0 h0 h1 h2
      intro r hr
      obtain rfl := hr.trans (congrArg tiE6 D1)
      intro r hr
      obtain rfl := hr.trans (congrArg tiE6 D2)
      exact ⟨fun _ => ⟨fun _ => ⟨fun _ => ⟨(sameT_g ea).2, rfl⟩, fun h => Bool.noConfusion (show true = false from h)⟩, fun h => Bool.noConfusion (show true = false from h)⟩, fun h => Bool.noConfusion (show true = false from h)⟩
    · obtain ⟨e, he, hp⟩ := par_no hs3 ho
      obtain rfl := hr.trans (congrArg tiE6 hp)
      refine ⟨fun h => absurd (eqT h) he, fun _ => ?_⟩
      rintro _ rfl
      refine ⟨fun _ => rfl, fun ht => ?_⟩
      have ht : tchk x.1 = 0 := neF ht
      rintro _ rfl
      refine ⟨fun _ => rfl, fun hm => ⟨fun _ => rfl, fun _ => ?_⟩⟩
      obtain ⟨a, b, ea, h1, h2⟩ := small_ge (wf_ga h3.1.2.2.1) ht (ntF hm)
      have HB := tback_of (wf_ga h3.1.2.2.1) ht ⟨by rw [ea]; exact h1.1, by rw [ea]; exact h1.2⟩ ⟨by rw [ea]; exact h2.1, by rw [ea]; exact h2.2⟩
      intro r hr
      obtain rfl := hr.trans (congrArg stE6 HB.1)
      refine ⟨.inl HB.2.1, ?_⟩
      intro r hr
      obtain rfl := hr.trans (congrArg tiE6 HB.2.2)
      refine ⟨fun h => Bool.noConfusion (show false = true from h), fun _ => ⟨fun h => Bool.noConfusion (show false = true from h), fun _ => ⟨sameT_self _, ?_⟩⟩⟩
      obtain ⟨C1, C2⟩ := tconj_w ht ea h1 h2
      intro r hr
      obtain rfl := hr.trans (congrArg tiE6 C1)
      intro r hr
      obtain rfl := hr.trans (congrArg tiE6 C2)
      intro r hr
      obtain rfl := hr.trans (congrArg roE6 (ro_ok ht))
      intro r hr
      obtain rfl := hr.trans (congrArg pG ((congrArg gconj ea).trans (gconj_w h1 h2 (by decide))))
      refine ⟨fun h => Bool.noConfusion (show false = true from h), fun _ => ⟨fun h => Bool.noConfusion (show false = true from h), fun _ => ⟨fun h => Bool.noConfusion (show false = true from h), fun _ => ⟨fun h => Bool.noConfusion (show false = true from h), fun _ => ⟨(sameT_g ea).1, fun h => ?_, fun _ => ⟨decide_eq_true rfl, fun h => (bl_no h).elim, fun _ => ?_⟩⟩⟩⟩⟩⟩
      · rw [eq_rot, decide_eq_true rfl] at h
        cases h
      rintro _ rfl
      refine ⟨fun _ => rfl, fun hc => ?_⟩
      rintro _ rfl
      refine ⟨fun _ => rfl, fun hs => ⟨fun _ => rfl, fun l1 => ⟨fun _ => rfl, fun l2 => ?_⟩⟩⟩
      obtain ⟨s, es, n0, h0⟩ := frac_of (wf_fr h3.2.1) (neF hc) (eqF hs) (Int.ofNat_le.1 (gtF l1)) (Int.ofNat_le.1 (gtF l2))
      intro r hr
      obtain rfl := hr.trans (congrArg pR m13_20)
      intro r hr
      obtain rfl := hr.trans (congrArg pR ((congrArg (fquo (enc 1)) es).trans (fquo_back n0 h0)))
      obtain ⟨D1, D2⟩ := tscale_back (v := ofFr (enc (1 / s))) ht es rfl ea n0 h0 h1 h2
      intro r hr
      obtain rfl := hr.trans (congrArg tiE6 D1)
      intro r hr
      obtain rfl := hr.trans (congrArg tiE6 D2)
      exact ⟨fun _ => ⟨fun _ => ⟨fun _ => ⟨(sameT_g ea).2, rfl⟩, fun h => Bool.noConfusion (show true = false from h)⟩, fun h => Bool.noConfusion (show true = false from h)⟩, fun h => Bool.noConfusion (show true = false from h)⟩
theorem fo_lawTideBack : FnOk Tryz.prog 11 sp_lawTideBack := fnOk_of (C := c_lawTideBack) iv_lawTideBack Tryz.func11 rfl (by kernel_rfl) tys_ok (prims_cons (pr_sure (spec_prim fo_l13awake)) (prims_cons (spec_prim fo_tParse) (prims_cons (spec_prim fo_tPrint) (prims_cons (spec_prim fo_tCk) (prims_cons (spec_prim fo_tSmall) (prims_cons (pr_sure (spec_prim fo_tSame)) (prims_cons (spec_prim fo_tConj) (prims_cons (spec_prim fo_roConj) (prims_cons (spec_prim fo_gConj) (prims_cons (pr_sure (spec_prim fo_kSameGauss)) (prims_cons (spec_prim fo_rCheck) (prims_cons (spec_prim fo_rSgn) (prims_cons (spec_prim fo_rSmall) (prims_cons (spec_prim fo_rQuo) (prims_cons (spec_prim fo_tScale) prims_nil))))))))))))))) mixed_ (Nat.le_refl _) rfl fun y x h1 h2 h3 h4 =>
  Eq.mpr (w_lawTideBack y x) (m_lawTideBack y x h2 h3)
end Go.Proofs.YtjoonfegjobgbaaGreatDoor
