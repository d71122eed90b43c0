/- Texts of this claim, joined: E7 E8 E9 O1 O3 O5 P13. -/
import Derived.ProofKit
import Derived.OpenShut
import Derived.ChangeOld
import Derived.Below
import Derived.Lib.SmallJoins
import Derived.Deep.Slices
import Derived.Deep.Fields
import Derived.ChangeSame
import Derived.ChangeMaps5
import Derived.Lib.LaidTab
import Derived.LaidSub
import Derived.Stop.LaidErr
import Derived.MakeChecks
import Derived.KernelRfl
import Derived.Test.YtjoonfegjobgbaaGreatDoorQt
set_option linter.unusedVariables false
set_option linter.unusedSimpArgs false
set_option maxRecDepth 100000
namespace Go.Proofs.YtjoonfegjobgbaaGreatDoor
open Go Go.RowKit
def cutB (s p : ByteArray) : ByteArray × ByteArray × Bool := if 0 ≤ ixB s p then (s.extract 0 (ixB s p).toNat, s.extract ((ixB s p).toNat + 1) s.size, true) else (s, ⟨#[]⟩, false)
theorem cut_law {s p : ByteArray} {i : Int} (hs : s.size ≤ 9223372036854775807) (hp : p.size = 1) (hi : i = ixB s p) (h : 0 ≤ i) : ((0 : Int) ≤ 0 ∧ 0 ≤ i ∧ i ≤ (s.size : Int)) ∧ (-9223372036854775808 ≤ i + (p.size : Int) ∧ i + (p.size : Int) ≤ 9223372036854775807) ∧ (0 ≤ i + (p.size : Int) ∧ i + (p.size : Int) ≤ (s.size : Int) ∧ (s.size : Int) ≤ (s.size : Int)) ∧
    (s.extract (Int.toNat 0) i.toNat, s.extract (i + (p.size : Int)).toNat (Int.toNat (s.size : Int)), true, ()) = ((cutB s p).1, (cutB s p).2.1, (cutB s p).2.2, ()) := by
  rcases ixB_rng s p with e | ⟨r0, r1⟩
  · omega
  · rw [hp]
    refine ⟨⟨by omega, by omega, by omega⟩, ⟨by omega, by omega⟩, ⟨by omega, by omega, by omega⟩, ?_⟩
    unfold cutB
    rw [if_pos (by omega), ← hi, Int.toNat_natCast, show (i + ((1 : Nat) : Int)).toNat = i.toNat + 1 by omega]
    rfl
theorem cut_miss {s p : ByteArray} {i : Int} (hi : i = ixB s p) (h : i < 0) : (s, (⟨#[]⟩ : ByteArray), false, ()) = ((cutB s p).1, (cutB s p).2.1, (cutB s p).2.2, ()) := by
  unfold cutB
  rw [if_neg (by omega)]
noncomputable def sp_sCutL : Spec := { q := .un, ps := [.st, .st], rs := [.st, .st, .bo], fresh := true, pre := fun _ x => some (ByteArray.size x.2.1 = 1), post := fun _ x => ((), ((cutB x.1 x.2.1).1, (cutB x.1 x.2.1).2.1, (cutB x.1 x.2.1).2.2, ())) }
noncomputable def iv_sCutL (y : El sp_sCutL.q) (x : Els sp_sCutL.ps) : Nat → Option Inv := fun _ => none
noncomputable abbrev c_sCutL : Cfg := cfgS (Tryz.f155).ntmps false [(192, sp_sIdx.prim)]
def F_sCutL (y : El sp_sCutL.q) (x : Els sp_sCutL.ps) : Prop :=
  ByteArray.size x.2.1 = (1 : Nat) ∧ ∀ (r : Ro [Ty.it IntKind.i64]), r = ((), ixB x.1 x.2.1, ()) → (decide (r.2.1 ≥ (0 : Int)) = true → ((0 : Int) ≤ (0 : Int) ∧ (0 : Int) ≤ r.2.1 ∧ r.2.1 ≤ (↑(ByteArray.size x.1) : Int)) ∧ ((-9223372036854775808 : Int) ≤ r.2.1 + (↑(ByteArray.size x.2.1) : Int) ∧ r.2.1 + (↑(ByteArray.size x.2.1) : Int) ≤ (9223372036854775807 : Int)) ∧ ((0 : Int) ≤ r.2.1 + (↑(ByteArray.size x.2.1) : Int) ∧ r.2.1 + (↑(ByteArray.size x.2.1) : Int) ≤ (↑(ByteArray.size x.1) : Int) ∧ (↑(ByteArray.size x.1) : Int) ≤ (↑(ByteArray.size x.1) : Int)) ∧ (ByteArray.extract x.1 (Int.toNat (0 : Int)) (Int.toNat r.2.1), ByteArray.extract x.1 (r.2.1 + (↑(ByteArray.size x.2.1) : Int)).toNat (↑(ByteArray.size x.1) : Int).toNat, true, ()) = ((cutB x.1 x.2.1).1, (cutB x.1 x.2.1).2.1, (cutB x.1 x.2.1).2.2, ())) ∧ (decide (r.2.1 ≥ (0 : Int)) = false → (x.1, (⟨#[]⟩ : ByteArray), false, ()) = ((cutB x.1 x.2.1).1, (cutB x.1 x.2.1).2.1, (cutB x.1 x.2.1).2.2, ()))
theorem w_sCutL (y : El sp_sCutL.q) (x : Els sp_sCutL.ps) : aW c_sCutL (iv_sCutL y x) Tryz.f155 sp_sCutL y x = F_sCutL y x := by kernel_rfl
theorem m_sCutL (y : El (.un)) (x : Els [.st, .st]) (h2 : wfE (.un) y) (h3 : wfEs [.st, .st] x) (h4 : ByteArray.size x.2.1 = 1) : F_sCutL y x := by
  unfold F_sCutL
  have hs : ByteArray.size x.1 ≤ 9223372036854775807 := h3.1
  refine ⟨h4, ?_⟩
  rintro _ rfl
  exact ⟨fun h => cut_law (i := ixB x.1 x.2.1) hs h4 rfl (geT h), fun h => cut_miss (i := ixB x.1 x.2.1) rfl (geF h)⟩
theorem fo_sCutL : FnOk Tryz.prog 155 sp_sCutL := fnOk_of (C := c_sCutL) iv_sCutL Tryz.func155 rfl (by kernel_rfl) tys_ok (prims_cons (spec_prim fo_sIdx) prims_nil) mixed_ (Nat.le_refl _) rfl fun y x h1 h2 h3 h4 =>
  Eq.mpr (w_sCutL y x) (m_sCutL y x h2 h3 h4)
noncomputable def sp_sCut : Spec := { q := .un, ps := [.st, .st], rs := [.st, .st, .bo], fresh := true, pre := fun _ x => some (ByteArray.size x.2.1 = 1), post := fun _ x => ((), ((cutB x.1 x.2.1).1, (cutB x.1 x.2.1).2.1, (cutB x.1 x.2.1).2.2, ())) }
noncomputable def iv_sCut (y : El sp_sCut.q) (x : Els sp_sCut.ps) : Nat → Option Inv := fun _ => none
noncomputable abbrev c_sCut : Cfg := cfgS (Tryz.f108).ntmps false [(155, sp_sCutL.prim)]
def F_sCut (y : El sp_sCut.q) (x : Els sp_sCut.ps) : Prop :=
  ByteArray.size x.2.1 = (1 : Nat) ∧ ∀ (r : Ro [Ty.st, Ty.st, Ty.bo]), r = ((), (cutB x.1 x.2.1).1, (cutB x.1 x.2.1).2.1, (cutB x.1 x.2.1).2.2, ()) → r.2 = ((cutB x.1 x.2.1).1, (cutB x.1 x.2.1).2.1, (cutB x.1 x.2.1).2.2, ())
theorem w_sCut (y : El sp_sCut.q) (x : Els sp_sCut.ps) : aW c_sCut (iv_sCut y x) Tryz.f108 sp_sCut y x = F_sCut y x := by kernel_rfl
theorem m_sCut (y : El (.un)) (x : Els [.st, .st]) (h2 : wfE (.un) y) (h3 : wfEs [.st, .st] x) (h4 : ByteArray.size x.2.1 = 1) : F_sCut y x := by
  unfold F_sCut
  refine ⟨h4, ?_⟩
  rintro _ rfl
  rfl
theorem fo_sCut : FnOk Tryz.prog 108 sp_sCut := fnOk_of (C := c_sCut) iv_sCut Tryz.func108 rfl (by kernel_rfl) tys_ok (prims_cons (spec_prim fo_sCutL) prims_nil) mixed_ (Nat.le_refl _) rfl fun y x h1 h2 h3 h4 =>
  Eq.mpr (w_sCut y x) (m_sCut y x h2 h3 h4)
noncomputable def sp_rlong : Spec := { q := .un, ps := [tW32], rs := [.bo], fresh := true, pre := fun _ _ => none, post := fun _ x => ((), (decide (2048 < x.1.length), ())) }
noncomputable def iv_rlong (y : El sp_rlong.q) (x : Els sp_rlong.ps) : Nat → Option Inv := fun _ => none
noncomputable abbrev c_rlong : Cfg := cfgS (Tryz.f85).ntmps false []
def F_rlong (y : El sp_rlong.q) (x : Els sp_rlong.ps) : Prop :=
  (decide ((x.1.length : Int) > (2048 : Int)), ()) = (decide ((2048 : Nat) < List.length x.1), ())
theorem w_rlong (y : El sp_rlong.q) (x : Els sp_rlong.ps) : aW c_rlong (iv_rlong y x) Tryz.f85 sp_rlong y x = F_rlong y x := by kernel_rfl
theorem m_rlong (y : El (.un)) (x : Els [tW32]) (h2 : wfE (.un) y) (h3 : wfEs [tW32] x) : F_rlong y x := by
  unfold F_rlong
  refine congrArg (fun b => (b, ())) ?_
  rw [Bool.eq_iff_iff, decide_eq_true_eq, decide_eq_true_eq]
  exact Int.ofNat_lt
theorem fo_rlong : FnOk Tryz.prog 85 sp_rlong := fnOk_of (C := c_rlong) iv_rlong Tryz.func85 rfl (by kernel_rfl) tys_ok prims_nil mixed_ (Nat.le_refl _) rfl fun y x h1 h2 h3 h4 =>
  Eq.mpr (w_rlong y x) (m_rlong y x h2 h3)
def b_sl : ByteArray := ⟨#[47]⟩
def b_mi : ByteArray := ⟨#[45]⟩
def topR (s : ByteArray) : ByteArray × Bool := cutP (cutB s b_sl).1 b_mi
def denR (s : ByteArray) : Nat := bif (cutB s b_sl).2.2 then pV (cutB s b_sl).2.1 else 1
def okR (s : ByteArray) : Bool := decide (s.size ≤ 65536) && pOk (topR s).1 && !((topR s).2 && decide (pV (topR s).1 = 0)) && (bif (cutB s b_sl).2.2 then pOk (cutB s b_sl).2.1 && decide (1 < pV (cutB s b_sl).2.1) else true) && decide (Nat.gcd (pV (topR s).1) (denR s) = 1)
def valR (s : ByteArray) : Fr := ⟨(topR s).2, wd (pV (topR s).1), wd (denR s)⟩
theorem okR_of {s : ByteArray} (h : okR s = true) : s.size ≤ 65536 ∧ pOk (topR s).1 = true ∧ ((topR s).2 = true → pV (topR s).1 ≠ 0) ∧ ((cutB s b_sl).2.2 = true → pOk (cutB s b_sl).2.1 = true ∧ 1 < pV (cutB s b_sl).2.1) ∧ Nat.gcd (pV (topR s).1) (denR s) = 1 := by
  unfold okR at h
  simp only [Bool.and_eq_true, decide_eq_true_eq] at h
  obtain ⟨⟨⟨⟨h1, h2⟩, h3⟩, h4⟩, h5⟩ := h
  refine ⟨h1, h2, fun hn hz => ?_, fun hb => ?_, h5⟩
  · rw [hn, decide_eq_true hz] at h3
    cases h3
  · rw [hb] at h4
    simp only [cond_true, Bool.and_eq_true, decide_eq_true_eq] at h4
    exact h4
theorem pV_len {s : ByteArray} (h : pOk s = true) : (wd (pV s)).length ≤ 1 := by
  obtain ⟨_, _, _, _, p5⟩ := pOk_of h
  have := Lib.parseUintB_le p5
  exact wd_len_le _ 1 (by show ((pV s : Nat) : Int) < 4294967296; omega)
theorem cmp_gt1 {v : Nat} (h : 1 < v) : (cmp (toN (wd v)) (toN [1]) : Int) = 1 := by
  rw [toN_wd, toN_1]
  exact cmp_gt h
theorem cmp_11 {a b : Nat} (h : Nat.gcd a b = 1) : (cmp (toN (wd (Nat.gcd (toN (wd a)) (toN (wd b))))) (toN [1]) : Int) = 0 := by
  rw [toN_wd, toN_wd, toN_wd, h, toN_1]
  rfl
theorem cmp_12 {a : Nat} (h : Nat.gcd a 1 = 1) : (cmp (toN (wd (Nat.gcd (toN (wd a)) (toN [1])))) (toN [1]) : Int) = 0 := by
  rw [toN_wd, toN_1, toN_wd, h]
  rfl
theorem lenM_nz {n : Nat} (h : (lenM 0 (Ty.it IntKind.u32) (wd n) == (0 : Int)) = true) : n = 0 := by
  have h : ((wd n).length : Int) = 0 := eq_of_beq h
  exact wd_len_zero.1 (by omega)
noncomputable def sp_rParse : Spec := { q := .un, ps := [.st], rs := [tR, .it .i64], fresh := true, pre := fun _ x => some (okR x.1 = true), post := fun _ x => pR (valR x.1, 0) }
noncomputable def iv_rParse (y : El sp_rParse.q) (x : Els sp_rParse.ps) : Nat → Option Inv := fun _ => none
noncomputable abbrev c_rParse : Cfg := cfgS (Tryz.f74).ntmps false [(108, sp_sCut.prim), (132, sp_sCutP.prim), (133, sp_aParse.prim), (84, sp_aCmp.prim), (87, sp_aGcd.prim), (85, sp_rlong.prim)]
def F_rParse (y : El sp_rParse.q) (x : Els sp_rParse.ps) : Prop :=
  (decide ((↑(ByteArray.size x.1) : Int) > (65536 : Int)) = true → ((false, [], [], ()), (3 : Int), ()) = (pR (valR x.1, (0 : Int))).2) ∧ (decide ((↑(ByteArray.size x.1) : Int) > (65536 : Int)) = false → (⟨#[(47 : UInt8)]⟩ : ByteArray).size = (1 : Nat) ∧ ∀ (r : Ro [Ty.st, Ty.st, Ty.bo]), r = ((), (cutB x.1 (⟨#[(47 : UInt8)]⟩ : ByteArray)).1, (cutB x.1 (⟨#[(47 : UInt8)]⟩ : ByteArray)).2.1, (cutB x.1 (⟨#[(47 : UInt8)]⟩ : ByteArray)).2.2, ()) → ∀ (r_1 : Ro [Ty.st, Ty.bo]), r_1 = ((), (cutP r.2.1 (⟨#[(45 : UInt8)]⟩ : ByteArray)).1, (cutP r.2.1 (⟨#[(45 : UInt8)]⟩ : ByteArray)).2, ()) → pOk r_1.2.1 = true ∧ ∀ (r_2 : Ro [tW32, Ty.it IntKind.i64]), r_2 = ((), wd (pV r_1.2.1), (0 : El (Ty.it IntKind.i64)), ()) → ((r_2.2.2.1 != (0 : Int)) = true → ((false, [], [], ()), (130 : Int), ()) = (pR (valR x.1, (0 : Int))).2) ∧ ((r_2.2.2.1 != (0 : Int)) = false → (r_1.2.2.1 = true → ((lenM (0 : Nat) (Ty.it IntKind.u32) r_2.2.1 == (0 : Int)) = true → ((false, [], [], ()), (130 : Int), ()) = (pR (valR x.1, (0 : Int))).2) ∧ ((lenM (0 : Nat) (Ty.it IntKind.u32) r_2.2.1 == (0 : Int)) = false → (r.2.2.2.1 = true → pOk r.2.2.1 = true ∧ ∀ (r_3 : Ro [tW32, Ty.it IntKind.i64]), r_3 = ((), wd (pV r.2.2.1), (0 : El (Ty.it IntKind.i64)), ()) → ((r_3.2.2.1 != (0 : Int)) = true → ((false, [], [], ()), (130 : Int), ()) = (pR (valR x.1, (0 : Int))).2) ∧ ((r_3.2.2.1 != (0 : Int)) = false → (r_3.2.1 = wd (toN r_3.2.1) ∧ [(1 : Int)] = wd (toN [(1 : Int)])) ∧ ∀ (r : Ro [Ty.it IntKind.i64]), r = ((), cmp (toN r_3.2.1) (toN [(1 : Int)]), ()) → (decide (r.2.1 ≤ (0 : Int)) = true → ((false, [], [], ()), (130 : Int), ()) = (pR (valR x.1, (0 : Int))).2) ∧ (decide (r.2.1 ≤ (0 : Int)) = false → (r_2.2.1 = wd (toN r_2.2.1) ∧ r_3.2.1 = wd (toN r_3.2.1) ∧ List.length r_2.2.1 ≤ (8192 : Nat) ∧ List.length r_3.2.1 ≤ (8192 : Nat)) ∧ ∀ (r : Ro [tW32, Ty.it IntKind.i64]), r = ((), wd ((toN r_2.2.1).gcd (toN r_3.2.1)), (0 : El (Ty.it IntKind.i64)), ()) → (r.2.1 = wd (toN r.2.1) ∧ [(1 : Int)] = wd (toN [(1 : Int)])) ∧ ∀ (r_4 : Ro [Ty.it IntKind.i64]), r_4 = ((), cmp (toN r.2.1) (toN [(1 : Int)]), ()) → ((r_4.2.1 != (0 : Int)) = true → ((false, [], [], ()), (130 : Int), ()) = (pR (valR x.1, (0 : Int))).2) ∧ ((r_4.2.1 != (0 : Int)) = false → ∀ (r : Ro [Ty.bo]), r = ((), decide ((2048 : Nat) < List.length r_2.2.1), ()) → (r.2.1 = true → ((false, [], [], ()), (3 : Int), ()) = (pR (valR x.1, (0 : Int))).2) ∧ (r.2.1 = false → ∀ (r : Ro [Ty.bo]), r = ((), decide ((2048 : Nat) < List.length r_3.2.1), ()) → (r.2.1 = true → ((false, [], [], ()), (3 : Int), ()) = (pR (valR x.1, (0 : Int))).2) ∧ (r.2.1 = false → ((r_1.2.2.1, r_2.2.1, r_3.2.1, ()), (0 : Int), ()) = (pR (valR x.1, (0 : Int))).2)))))) ∧ (r.2.2.2.1 = false → (r_2.2.1 = wd (toN r_2.2.1) ∧ [(1 : Int)] = wd (toN [(1 : Int)]) ∧ List.length r_2.2.1 ≤ (8192 : Nat) ∧ [(1 : Int)].length ≤ (8192 : Nat)) ∧ ∀ (r : Ro [tW32, Ty.it IntKind.i64]), r = ((), wd ((toN r_2.2.1).gcd (toN [(1 : Int)])), (0 : El (Ty.it IntKind.i64)), ()) → (r.2.1 = wd (toN r.2.1) ∧ [(1 : Int)] = wd (toN [(1 : Int)])) ∧ ∀ (r_3 : Ro [Ty.it IntKind.i64]), r_3 = ((), cmp (toN r.2.1) (toN [(1 : Int)]), ()) → ((r_3.2.1 != (0 : Int)) = true → ((false, [], [], ()), (130 : Int), ()) = (pR (valR x.1, (0 : Int))).2) ∧ ((r_3.2.1 != (0 : Int)) = false → ∀ (r : Ro [Ty.bo]), r = ((), decide ((2048 : Nat) < List.length r_2.2.1), ()) → (r.2.1 = true → ((false, [], [], ()), (3 : Int), ()) = (pR (valR x.1, (0 : Int))).2) ∧ (r.2.1 = false → ∀ (r : Ro [Ty.bo]), r = ((), decide ((2048 : Nat) < [(1 : Int)].length), ()) → (r.2.1 = true → ((false, [], [], ()), (3 : Int), ()) = (pR (valR x.1, (0 : Int))).2) ∧ (r.2.1 = false → ((r_1.2.2.1, r_2.2.1, [(1 : Int)], ()), (0 : Int), ()) = (pR (valR x.1, (0 : Int))).2)))))) ∧ (r_1.2.2.1 = false → (r.2.2.2.1 = true → pOk r.2.2.1 = true ∧ ∀ (r_3 : Ro [tW32, Ty.it IntKind.i64]), r_3 = ((), wd (pV r.2.2.1), (0 : El (Ty.it IntKind.i64)), ()) → ((r_3.2.2.1 != (0 : Int)) = true → ((false, [], [], ()), (130 : Int), ()) = (pR (valR x.1, (0 : Int))).2) ∧ ((r_3.2.2.1 != (0 : Int)) = false → (r_3.2.1 = wd (toN r_3.2.1) ∧ [(1 : Int)] = wd (toN [(1 : Int)])) ∧ ∀ (r : Ro [Ty.it IntKind.i64]), r = ((), cmp (toN r_3.2.1) (toN [(1 : Int)]), ()) → (decide (r.2.1 ≤ (0 : Int)) = true → ((false, [], [], ()), (130 : Int), ()) = (pR (valR x.1, (0 : Int))).2) ∧ (decide (r.2.1 ≤ (0 : Int)) = false → (r_2.2.1 = wd (toN r_2.2.1) ∧ r_3.2.1 = wd (toN r_3.2.1) ∧ List.length r_2.2.1 ≤ (8192 : Nat) ∧ List.length r_3.2.1 ≤ (8192 : Nat)) ∧ ∀ (r : Ro [tW32, Ty.it IntKind.i64]), r = ((), wd ((toN r_2.2.1).gcd (toN r_3.2.1)), (0 : El (Ty.it IntKind.i64)), ()) → (r.2.1 = wd (toN r.2.1) ∧ [(1 : Int)] = wd (toN [(1 : Int)])) ∧ ∀ (r_4 : Ro [Ty.it IntKind.i64]), r_4 = ((), cmp (toN r.2.1) (toN [(1 : Int)]), ()) → ((r_4.2.1 != (0 : Int)) = true → ((false, [], [], ()), (130 : Int), ()) = (pR (valR x.1, (0 : Int))).2) ∧ ((r_4.2.1 != (0 : Int)) = false → ∀ (r : Ro [Ty.bo]), r = ((), decide ((2048 : Nat) < List.length r_2.2.1), ()) → (r.2.1 = true → ((false, [], [], ()), (3 : Int), ()) = (pR (valR x.1, (0 : Int))).2) ∧ (r.2.1 = false → ∀ (r : Ro [Ty.bo]), r = ((), decide ((2048 : Nat) < List.length r_3.2.1), ()) → (r.2.1 = true → ((false, [], [], ()), (3 : Int), ()) = (pR (valR x.1, (0 : Int))).2) ∧ (r.2.1 = false → ((r_1.2.2.1, r_2.2.1, r_3.2.1, ()), (0 : Int), ()) = (pR (valR x.1, (0 : Int))).2)))))) ∧ (r.2.2.2.1 = false → (r_2.2.1 = wd (toN r_2.2.1) ∧ [(1 : Int)] = wd (toN [(1 : Int)]) ∧ List.length r_2.2.1 ≤ (8192 : Nat) ∧ [(1 : Int)].length ≤ (8192 : Nat)) ∧ ∀ (r : Ro [tW32, Ty.it IntKind.i64]), r = ((), wd ((toN r_2.2.1).gcd (toN [(1 : Int)])), (0 : El (Ty.it IntKind.i64)), ()) → (r.2.1 = wd (toN r.2.1) ∧ [(1 : Int)] = wd (toN [(1 : Int)])) ∧ ∀ (r_3 : Ro [Ty.it IntKind.i64]), r_3 = ((), cmp (toN r.2.1) (toN [(1 : Int)]), ()) → ((r_3.2.1 != (0 : Int)) = true → ((false, [], [], ()), (130 : Int), ()) = (pR (valR x.1, (0 : Int))).2) ∧ ((r_3.2.1 != (0 : Int)) = false → ∀ (r : Ro [Ty.bo]), r = ((), decide ((2048 : Nat) < List.length r_2.2.1), ()) → (r.2.1 = true → ((false, [], [], ()), (3 : Int), ()) = (pR (valR x.1, (0 : Int))).2) ∧ (r.2.1 = false → ∀ (r : Ro [Ty.bo]), r = ((), decide ((2048 : Nat) < [(1 : Int)].length), ()) → (r.2.1 = true → ((false, [], [], ()), (3 : Int), ()) = (pR (valR x.1, (0 : Int))).2) ∧ (r.2.1 = false → ((r_1.2.2.1, r_2.2.1, [(1 : Int)], ()), (0 : Int), ()) = (pR (valR x.1, (0 : Int))).2)))))))
theorem w_rParse (y : El sp_rParse.q) (x : Els sp_rParse.ps) : aW c_rParse (iv_rParse y x) Tryz.f74 sp_rParse y x = F_rParse y x := by kernel_rfl
theorem m_rParse (y : El (.un)) (x : Els [.st]) (h2 : wfE (.un) y) (h3 : wfEs [.st] x) (h4 : okR x.1 = true) : F_rParse y x := by
  unfold F_rParse
  obtain ⟨q1, q2, q3, q4, q5⟩ := okR_of h4
  have l1 := pV_len q2
  refine ⟨fun h => absurd (Int.ofNat_lt.1 (gtT h)) (Nat.not_lt.2 q1), fun _ => ⟨rfl, ?_⟩⟩
  rintro _ rfl _ rfl
  refine ⟨q2, ?_⟩
  rintro _ rfl
  refine ⟨fun h => Bool.noConfusion (show false = true from h), fun _ => ⟨fun hn => ⟨fun hz => absurd (lenM_nz hz) (q3 hn), fun _ => ?_⟩, fun hn => ?_⟩⟩
  · refine ⟨fun hb => ?_, fun hb => ?_⟩
    · have hb : (cutB x.1 b_sl).2.2 = true := hb
      obtain ⟨q6, q7⟩ := q4 hb
      have e5 : denR x.1 = pV (cutB x.1 b_sl).2.1 := by unfold denR; rw [hb]; rfl
      rw [e5] at q5
      have l2 := pV_len q6
      refine ⟨q6, ?_⟩
      rintro _ rfl
      refine ⟨fun h => Bool.noConfusion (show false = true from h), fun _ => ⟨⟨nrm_wd _, nrm_1⟩, ?_⟩⟩
      rintro _ rfl
      refine ⟨fun h => ?_, fun _ => ⟨⟨nrm_wd _, nrm_wd _, Nat.le_trans l1 (by decide), Nat.le_trans l2 (by decide)⟩, ?_⟩⟩
      · have h : (cmp (toN (wd (pV (cutB x.1 b_sl).2.1))) (toN [1]) : Int) ≤ 0 := leT h
        rw [cmp_gt1 q7] at h
        exact absurd h (by decide)
      rintro _ rfl
      refine ⟨⟨nrm_wd _, nrm_1⟩, ?_⟩
      rintro _ rfl
      refine ⟨fun h => absurd (cmp_11 q5) (neT h), fun _ => ?_⟩
      rintro _ rfl
      refine ⟨fun h => absurd (of_decide_eq_true h) (Nat.not_lt.2 (Nat.le_trans l1 (by decide))), fun _ => ?_⟩
      rintro _ rfl
      refine ⟨fun h => absurd (of_decide_eq_true h) (Nat.not_lt.2 (Nat.le_trans l2 (by decide))), fun _ => ?_⟩
      unfold valR
      rw [e5]
      rfl
    · have hb : (cutB x.1 b_sl).2.2 = false := hb
      have e5 : denR x.1 = 1 := by unfold denR; rw [hb]; rfl
      rw [e5] at q5
      refine ⟨⟨nrm_wd _, nrm_1, Nat.le_trans l1 (by decide), by decide⟩, ?_⟩
      rintro _ rfl
      refine ⟨⟨nrm_wd _, nrm_1⟩, ?_⟩
      rintro _ rfl
      refine ⟨fun h => absurd (cmp_12 q5) (neT h), fun _ => ?_⟩
      rintro _ rfl
      refine ⟨fun h => absurd (of_decide_eq_true h) (Nat.not_lt.2 (Nat.le_trans l1 (by decide))), fun _ => ?_⟩
      rintro _ rfl
      refine ⟨fun h => Bool.noConfusion (show false = true from h), fun _ => ?_⟩
      unfold valR
      rw [e5, wd_one]
      rfl
  · refine ⟨fun hb => ?_, fun hb => ?_⟩
    · have hb : (cutB x.1 b_sl).2.2 = true := hb
      obtain ⟨q6, q7⟩ := q4 hb
      have e5 : denR x.1 = pV (cutB x.1 b_sl).2.1 := by unfold denR; rw [hb]; rfl
      rw [e5] at q5
      have l2 := pV_len q6
      refine ⟨q6, ?_⟩
      rintro _ rfl
      refine ⟨fun h => Bool.noConfusion (show false = true from h), fun _ => ⟨⟨nrm_wd _, nrm_1⟩, ?_⟩⟩
      rintro _ rfl
      refine ⟨fun h => ?_, fun _ => ⟨⟨nrm_wd _, nrm_wd _, Nat.le_trans l1 (by decide), Nat.le_trans l2 (by decide)⟩, ?_⟩⟩
      · have h : (cmp (toN (wd (pV (cutB x.1 b_sl).2.1))) (toN [1]) : Int) ≤ 0 := leT h
        rw [cmp_gt1 q7] at h
        exact absurd h (by decide)
      rintro _ rfl
      refine ⟨⟨nrm_wd _, nrm_1⟩, ?_⟩
      rintro _ rfl
      refine ⟨fun h => absurd (cmp_11 q5) (neT h), fun _ => ?_⟩
      rintro _ rfl
      refine ⟨fun h => absurd (of_decide_eq_true h) (Nat.not_lt.2 (Nat.le_trans l1 (by decide))), fun _ => ?_⟩
      rintro _ rfl
      refine ⟨fun h => absurd (of_decide_eq_true h) (Nat.not_lt.2 (Nat.le_trans l2 (by decide))), fun _ => ?_⟩
      unfold valR
      rw [e5]
      rfl
    · have hb : (cutB x.1 b_sl).2.2 = false := hb
      have e5 : denR x.1 = 1 := by unfold denR; rw [hb]; rfl
      rw [e5] at q5
      refine ⟨⟨nrm_wd _, nrm_1, Nat.le_trans l1 (by decide), by decide⟩, ?_⟩
      rintro _ rfl
      refine ⟨⟨nrm_wd _, nrm_1⟩, ?_⟩
      rintro _ rfl
      refine ⟨fun h => absurd (cmp_12 q5) (neT h), fun _ => ?_⟩
      rintro _ rfl
      refine ⟨fun h => absurd (of_decide_eq_true h) (Nat.not_lt.2 (Nat.le_trans l1 (by decide))), fun _ => ?_⟩
      rintro _ rfl
      refine ⟨fun h => Bool.noConfusion (show false = true from h), fun _ => ?_⟩
      unfold valR
      rw [e5, wd_one]
      rfl
theorem fo_rParse : FnOk Tryz.prog 74 sp_rParse := fnOk_of (C := c_rParse) iv_rParse Tryz.func74 rfl (by kernel_rfl) tys_ok (prims_cons (spec_prim fo_sCut) (prims_cons (spec_prim fo_sCutP) (prims_cons (spec_prim fo_aParse) (prims_cons (spec_prim fo_aCmp) (prims_cons (spec_prim fo_aGcd) (prims_cons (spec_prim fo_rlong) prims_nil)))))) mixed_ (Nat.le_refl _) rfl fun y x h1 h2 h3 h4 =>
  Eq.mpr (w_rParse y x) (m_rParse y x h2 h3 h4)
noncomputable def sp_f3small : Spec := { q := .un, ps := [.it .i64, .it .i64], rs := [tR], fresh := true, pre := fun _ _ => none, post := fun _ x => ((), (ofFr (fsmall x.1 x.2.1).1, ())) }
noncomputable def iv_f3small (y : El sp_f3small.q) (x : Els sp_f3small.ps) : Nat → Option Inv := fun _ => none
noncomputable abbrev c_f3small : Cfg := cfgS (Tryz.f27).ntmps false [(69, sp_rSmall.prim)]
def F_f3small (y : El sp_f3small.q) (x : Els sp_f3small.ps) : Prop :=
  ∀ (r : Ro [tR, Ty.it IntKind.i64]), r = pR (fsmall x.1 x.2.1) → (r.2.1, ()) = (ofFr (fsmall x.1 x.2.1).1, ())
theorem w_f3small (y : El sp_f3small.q) (x : Els sp_f3small.ps) : aW c_f3small (iv_f3small y x) Tryz.f27 sp_f3small y x = F_f3small y x := by kernel_rfl
theorem m_f3small (y : El (.un)) (x : Els [.it .i64, .it .i64]) (h2 : wfE (.un) y) (h3 : wfEs [.it .i64, .it .i64] x) : F_f3small y x := by
  unfold F_f3small
  rintro _ rfl
  rfl
theorem fo_f3small : FnOk Tryz.prog 27 sp_f3small := fnOk_of (C := c_f3small) iv_f3small Tryz.func27 rfl (by kernel_rfl) tys_ok (prims_cons (spec_prim fo_rSmall) prims_nil) mixed_ (Nat.le_refl _) rfl fun y x h1 h2 h3 h4 =>
  Eq.mpr (w_f3small y x) (m_f3small y x h2 h3)
theorem str_eq {a b : ByteArray} {P : Prop} [Decidable P] (h : P ↔ a = b) : (a.toList == b.toList) = decide P := by
  rw [Bool.eq_iff_iff, decide_eq_true_eq, beq_iff_eq, Lib.toList_data, Lib.toList_data, h]
  exact ⟨fun e => Go.WideShapes.bytes_inj e, fun e => by rw [e]⟩
noncomputable def sp_f3is : Spec := { q := .un, ps := [tR, .it .i64, .st], rs := [.bo], fresh := true, pre := fun _ x => some (sP (toFr x.1)), post := fun _ x => ((), (decide (x.2.1 = 0 ∧ txR (toFr x.1) = x.2.2.1), ())) }
noncomputable def iv_f3is (y : El sp_f3is.q) (x : Els sp_f3is.ps) : Nat → Option Inv := fun _ => none
noncomputable abbrev c_f3is : Cfg := cfgS (Tryz.f75).ntmps false [(105, sp_rPrint.prim)]
def F_f3is (y : El sp_f3is.q) (x : Els sp_f3is.ps) : Prop :=
  (fchk (toFr x.1) = (0 : Int) ∧ toN (toFr x.1).num < (100 : Nat) ∧ toN (toFr x.1).den < (100 : Nat)) ∧ ∀ (r : Ro [Ty.st, Ty.it IntKind.i64]), r = ((), txR (toFr x.1), (0 : El (Ty.it IntKind.i64)), ()) → ((x.2.1 == (0 : Int)) = true → ((r.2.2.1 == (0 : Int)) = true → (ByteArray.toList r.2.1 == ByteArray.toList x.2.2.1, ()) = (decide (x.2.1 = (0 : El (Ty.it IntKind.i64)) ∧ txR (toFr x.1) = x.2.2.1), ())) ∧ ((r.2.2.1 == (0 : Int)) = false → (false, ()) = (decide (x.2.1 = (0 : El (Ty.it IntKind.i64)) ∧ txR (toFr x.1) = x.2.2.1), ()))) ∧ ((x.2.1 == (0 : Int)) = false → (false, ()) = (decide (x.2.1 = (0 : El (Ty.it IntKind.i64)) ∧ txR (toFr x.1) = x.2.2.1), ()))
theorem w_f3is (y : El sp_f3is.q) (x : Els sp_f3is.ps) : aW c_f3is (iv_f3is y x) Tryz.f75 sp_f3is y x = F_f3is y x := by kernel_rfl
theorem m_f3is (y : El (.un)) (x : Els [tR, .it .i64, .st]) (h2 : wfE (.un) y) (h3 : wfEs [tR, .it .i64, .st] x) (h4 : sP (toFr x.1)) : F_f3is y x := by
  unfold F_f3is
  refine ⟨h4, ?_⟩
  rintro _ rfl
  refine ⟨fun h => ⟨fun _ => ?_, fun h => Bool.noConfusion (show true = false from h)⟩, fun h => ?_⟩
  · have h := eqT h
    exact congrArg (fun b => (b, ())) (str_eq ⟨fun c => c.2, fun c => ⟨h, c⟩⟩)
  · have h := eqF h
    rw [decide_eq_false (fun c => h c.1)]
theorem fo_f3is : FnOk Tryz.prog 75 sp_f3is := fnOk_of (C := c_f3is) iv_f3is Tryz.func75 rfl (by kernel_rfl) tys_ok (prims_cons (spec_prim fo_rPrint) prims_nil) mixed_ (Nat.le_refl _) rfl fun y x h1 h2 h3 h4 =>
  Eq.mpr (w_f3is y x) (m_f3is y x h2 h3 h4)
theorem sP_s3 {q : Rat} (h : sm q = true) (h1 : q.num.natAbs < 100) (h2 : q.den < 100) : sP (enc q) := ⟨fchk_s h, by show toN (wd _) < _; rw [toN_wd]; exact h1, by show toN (wd _) < _; rw [toN_wd]; exact h2⟩
theorem r3_64 : fsmall 6 (-4) = (enc (-3/2), 0) := fsmall_s (by decide) (by decide +kernel) (by decide +kernel)
theorem r3_12 : fsmall 1 2 = (enc (1/2), 0) := fsmall_s (by decide) (by decide +kernel) (by decide +kernel)
theorem r3_13 : fsmall 1 3 = (enc (1/3), 0) := fsmall_s (by decide) (by decide +kernel) (by decide +kernel)
theorem r3_14 : fsmall (-1) 4 = (enc (-1/4), 0) := fsmall_s (by decide) (by decide +kernel) (by decide +kernel)
theorem r3_add : fadd (enc (1/2)) (enc (1/3)) = (enc (5/6), 0) := fadd_s (by decide +kernel) (by decide +kernel)
theorem r3_quo : fquo (enc (1/2)) (enc (-1/4)) = (enc (-2), 0) := by
  rw [fquo_enc (sm_lng (by decide +kernel)) (sm_lng (by decide +kernel)) (by decide +kernel), show (1/2 : Rat) / (-1/4) = -2 by decide +kernel]
  exact tell_ok (sm_lng (by decide +kernel))
theorem r3_ok : okR ⟨#[45, 51, 47, 50]⟩ = true := by decide +kernel
theorem r3_val : valR ⟨#[45, 51, 47, 50]⟩ = enc (-3/2) := by decide +kernel
theorem tx_m32 : txR (enc (-3/2)) = ⟨#[45, 51, 47, 50]⟩ := by decide +kernel
theorem tx_56 : txR (enc (5/6)) = ⟨#[53, 47, 54]⟩ := by decide +kernel
theorem tx_m2 : txR (enc (-2)) = ⟨#[45, 50]⟩ := by decide +kernel
noncomputable def sp_f3awake : Spec := { q := .un, ps := [], rs := [.bo], fresh := true, pre := fun _ _ => none, post := fun _ x => ((), (true, ())) }
noncomputable def iv_f3awake (y : El sp_f3awake.q) (x : Els sp_f3awake.ps) : Nat → Option Inv := fun _ => none
noncomputable abbrev c_f3awake : Cfg := cfgS (Tryz.f13).ntmps false [(69, sp_rSmall.prim), (15, sp_rAdd.prim), (27, sp_f3small.prim), (21, sp_rQuo.prim), (74, sp_rParse.prim), (75, p_sure (sp_f3is.prim)), (22, p_sure (sp_rSame.prim))]
def F_f3awake (y : El sp_f3awake.q) (x : Els sp_f3awake.ps) : Prop :=
  ∀ (r : Ro [tR, Ty.it IntKind.i64]), r = pR (fsmall (6 : Int) (-4 : Int)) → ∀ (r_1 : Ro [tR]), r_1 = ((), ofFr (fsmall (1 : Int) (2 : Int)).1, ()) → ∀ (r_2 : Ro [tR]), r_2 = ((), ofFr (fsmall (1 : Int) (3 : Int)).1, ()) → ∀ (r_3 : Ro [tR, Ty.it IntKind.i64]), r_3 = pR (fadd (toFr r_1.2.1) (toFr r_2.2.1)) → ∀ (r_4 : Ro [tR]), r_4 = ((), ofFr (fsmall (1 : Int) (2 : Int)).1, ()) → ∀ (r_5 : Ro [tR]), r_5 = ((), ofFr (fsmall (-1 : Int) (4 : Int)).1, ()) → ∀ (r_6 : Ro [tR, Ty.it IntKind.i64]), r_6 = pR (fquo (toFr r_4.2.1) (toFr r_5.2.1)) → okR (⟨#[(45 : UInt8), (51 : UInt8), (47 : UInt8), (50 : UInt8)]⟩ : ByteArray) = true ∧ ∀ (r_7 : Ro [tR, Ty.it IntKind.i64]), r_7 = pR (valR (⟨#[(45 : UInt8), (51 : UInt8), (47 : UInt8), (50 : UInt8)]⟩ : ByteArray), (0 : Int)) → ((fchk (toFr r.2.1) = (0 : Int) ∧ toN (toFr r.2.1).num < (100 : Nat) ∧ toN (toFr r.2.1).den < (100 : Nat)) ∧ decide (r.2.2.1 = (0 : El (Ty.it IntKind.i64)) ∧ txR (toFr r.2.1) = (⟨#[(45 : UInt8), (51 : UInt8), (47 : UInt8), (50 : UInt8)]⟩ : ByteArray)) = true) ∧ ((fchk (toFr r_3.2.1) = (0 : Int) ∧ toN (toFr r_3.2.1).num < (100 : Nat) ∧ toN (toFr r_3.2.1).den < (100 : Nat)) ∧ decide (r_3.2.2.1 = (0 : El (Ty.it IntKind.i64)) ∧ txR (toFr r_3.2.1) = (⟨#[(53 : UInt8), (47 : UInt8), (54 : UInt8)]⟩ : ByteArray)) = true) ∧ ((fchk (toFr r_6.2.1) = (0 : Int) ∧ toN (toFr r_6.2.1).num < (100 : Nat) ∧ toN (toFr r_6.2.1).den < (100 : Nat)) ∧ decide (r_6.2.2.1 = (0 : El (Ty.it IntKind.i64)) ∧ txR (toFr r_6.2.1) = (⟨#[(45 : UInt8), (50 : UInt8)]⟩ : ByteArray)) = true) ∧ ((fchk (toFr r_7.2.1) = (0 : Int) ∧ toN (toFr r_7.2.1).num < (100 : Nat) ∧ toN (toFr r_7.2.1).den < (100 : Nat)) ∧ decide (r_7.2.2.1 = (0 : El (Ty.it IntKind.i64)) ∧ txR (toFr r_7.2.1) = (⟨#[(45 : UInt8), (51 : UInt8), (47 : UInt8), (50 : UInt8)]⟩ : ByteArray)) = true) ∧ decide (toFr r.2.1 = toFr r_7.2.1) = true ∧ (true, ()) = (true, ())
theorem w_f3awake (y : El sp_f3awake.q) (x : Els sp_f3awake.ps) : aW c_f3awake (iv_f3awake y x) Tryz.f13 sp_f3awake y x = F_f3awake y x := by kernel_rfl
theorem m_f3awake (y : El (.un)) (x : Els []) (h2 : wfE (.un) y) (h3 : wfEs [] x) : F_f3awake y x := by
  unfold F_f3awake
  rw [r3_64, r3_12, r3_13, r3_14]
  rintro _ rfl _ rfl _ rfl _ hr
  obtain rfl := hr.trans (congrArg pR r3_add)
  rintro _ rfl _ rfl _ hr
  obtain rfl := hr.trans (congrArg pR r3_quo)
  refine ⟨r3_ok, ?_⟩
  intro r hr
  obtain rfl := hr.trans (congrArg (fun f => pR (f, 0)) r3_val)
  exact ⟨⟨sP_s3 (q := -3/2) (by decide +kernel) (by decide +kernel) (by decide +kernel), decide_eq_true ⟨rfl, tx_m32⟩⟩, ⟨sP_s3 (q := 5/6) (by decide +kernel) (by decide +kernel) (by decide +kernel), decide_eq_true ⟨rfl, tx_56⟩⟩, ⟨sP_s3 (q := -2) (by decide +kernel) (by decide +kernel) (by decide +kernel), decide_eq_true ⟨rfl, tx_m2⟩⟩, ⟨sP_s3 (q := -3/2) (by decide +kernel) (by decide +kernel) (by decide +kernel), decide_eq_true ⟨rfl, tx_m32⟩⟩, decide_eq_true rfl, rfl⟩
theorem fo_f3awake : FnOk Tryz.prog 13 sp_f3awake := fnOk_of (C := c_f3awake) iv_f3awake Tryz.func13 rfl (by kernel_rfl) tys_ok (prims_cons (spec_prim fo_rSmall) (prims_cons (spec_prim fo_rAdd) (prims_cons (spec_prim fo_f3small) (prims_cons (spec_prim fo_rQuo) (prims_cons (spec_prim fo_rParse) (prims_cons (pr_sure (spec_prim fo_f3is)) (prims_cons (pr_sure (spec_prim fo_rSame)) prims_nil))))))) mixed_ (Nat.le_refl _) rfl fun y x h1 h2 h3 h4 =>
  Eq.mpr (w_f3awake y x) (m_f3awake y x h2 h3)
abbrev tChain : Ty := .pr .bo .un
noncomputable def sp_ctake : Spec := { q := .un, ps := [tChain, tR, .it .i64], rs := [tR, tChain], fresh := false, pre := fun _ _ => none, post := fun _ x => ((), (x.2.1, (x.1.1 || decide (x.2.2.1 ≠ 0), ()), ())) }
noncomputable def iv_ctake (y : El sp_ctake.q) (x : Els sp_ctake.ps) : Nat → Option Inv := fun _ => none
noncomputable abbrev c_ctake : Cfg := cfgS (Tryz.f16).ntmps false []
def F_ctake (y : El sp_ctake.q) (x : Els sp_ctake.ps) : Prop :=
  ((x.2.2.1 != (0 : Int)) = true → (x.2.1, (true, ()), ()) = (x.2.1, (x.1.1 || decide (x.2.2.1 ≠ (0 : El (Ty.it IntKind.i64))), ()), ())) ∧ ((x.2.2.1 != (0 : Int)) = false → (x.2.1, x.1, ()) = (x.2.1, (x.1.1 || decide (x.2.2.1 ≠ (0 : El (Ty.it IntKind.i64))), ()), ()))
theorem w_ctake (y : El sp_ctake.q) (x : Els sp_ctake.ps) : aW c_ctake (iv_ctake y x) Tryz.f16 sp_ctake y x = F_ctake y x := by kernel_rfl
theorem m_ctake (y : El (.un)) (x : Els [tChain, tR, .it .i64]) (h2 : wfE (.un) y) (h3 : wfEs [tChain, tR, .it .i64] x) : F_ctake y x := by
  unfold F_ctake
  refine ⟨fun h => ?_, fun h => ?_⟩
  · have h := neT h
    rw [decide_eq_true h, Bool.or_true]
  · have h := neF h
    rw [decide_eq_false (fun c => c h), Bool.or_false]
theorem fo_ctake : FnOk Tryz.prog 16 sp_ctake := fnOk_of (C := c_ctake) iv_ctake Tryz.func16 rfl (by kernel_rfl) tys_ok prims_nil mixed_ (Nat.le_refl _) rfl fun y x h1 h2 h3 h4 =>
  Eq.mpr (w_ctake y x) (m_ctake y x h2 h3)
theorem bad_13 {a b c d e f g h i j k l m : Int} (hb : (((((((((((((false || decide (a ≠ 0)) || decide (b ≠ 0)) || decide (c ≠ 0)) || decide (d ≠ 0)) || decide (e ≠ 0)) || decide (f ≠ 0)) || decide (g ≠ 0)) || decide (h ≠ 0)) || decide (i ≠ 0)) || decide (j ≠ 0)) || decide (k ≠ 0)) || decide (l ≠ 0)) || decide (m ≠ 0)) = false) :
    a = 0 ∧ b = 0 ∧ c = 0 ∧ d = 0 ∧ e = 0 ∧ f = 0 ∧ g = 0 ∧ h = 0 ∧ i = 0 ∧ j = 0 ∧ k = 0 ∧ l = 0 ∧ m = 0 := by
  simp only [Bool.or_eq_false_iff, decide_eq_false_iff_not, Decidable.not_not] at hb
  obtain ⟨⟨⟨⟨⟨⟨⟨⟨⟨⟨⟨⟨⟨_, h1⟩, h2⟩, h3⟩, h4⟩, h5⟩, h6⟩, h7⟩, h8⟩, h9⟩, h10⟩, h11⟩, h12⟩, h13⟩ := hb
  exact ⟨h1, h2, h3, h4, h5, h6, h7, h8, h9, h10, h11, h12, h13⟩
noncomputable def sp_lawRatioField : Spec := { q := .un, ps := [tR, tR, tR], rs := [.bo], fresh := true, pre := fun _ _ => none, post := fun _ _ => ((), (true, ())) }
noncomputable def iv_lawRatioField (y : El sp_lawRatioField.q) (x : Els sp_lawRatioField.ps) : Nat → Option Inv := fun _ => none
noncomputable abbrev c_lawRatioField : Cfg := cfgS (Tryz.f3).ntmps false [(13, p_sure (sp_f3awake.prim)), (14, sp_kLong.prim), (15, sp_rAdd.prim), (17, sp_rMul.prim), (18, sp_rSub.prim), (19, sp_rNeg.prim), (16, sp_ctake.prim), (20, sp_rSgn.prim), (21, sp_rQuo.prim), (22, p_sure (sp_rSame.prim))]
def F_lawRatioField (y : El sp_lawRatioField.q) (x : Els sp_lawRatioField.ps) : Prop :=
  true = true ∧ ∀ (r : Ro [Ty.bo]), r = ((), longs [x.1, x.2.1, x.2.2.1], ()) → (r.2.1 = true → (true, ()) = (true, ())) ∧ (r.2.1 = false → ∀ (r : Ro [tR, Ty.it IntKind.i64]), r = pR (fadd (toFr x.1) (toFr x.2.1)) → ∀ (r_1 : Ro [tR, tChain]), r_1 = ((), r.2.1, (false || decide (r.2.2.1 ≠ (0 : El (Ty.it IntKind.i64))), ()), ()) → ∀ (r : Ro [tR, Ty.it IntKind.i64]), r = pR (fadd (toFr x.2.1) (toFr x.1)) → ∀ (r_2 : Ro [tR, tChain]), r_2 = ((), r.2.1, (r_1.2.2.1.1 || decide (r.2.2.1 ≠ (0 : El (Ty.it IntKind.i64))), ()), ()) → ∀ (r : Ro [tR, Ty.it IntKind.i64]), r = pR (fadd (toFr r_1.2.1) (toFr x.2.2.1)) → ∀ (r_3 : Ro [tR, tChain]), r_3 = ((), r.2.1, (r_2.2.2.1.1 || decide (r.2.2.1 ≠ (0 : El (Ty.it IntKind.i64))), ()), ()) → ∀ (r : Ro [tR, Ty.it IntKind.i64]), r = pR (fadd (toFr x.2.1) (toFr x.2.2.1)) → ∀ (r_4 : Ro [tR, tChain]), r_4 = ((), r.2.1, (r_3.2.2.1.1 || decide (r.2.2.1 ≠ (0 : El (Ty.it IntKind.i64))), ()), ()) → ∀ (r : Ro [tR, Ty.it IntKind.i64]), r = pR (fadd (toFr x.1) (toFr r_4.2.1)) → ∀ (r_5 : Ro [tR, tChain]), r_5 = ((), r.2.1, (r_4.2.2.1.1 || decide (r.2.2.1 ≠ (0 : El (Ty.it IntKind.i64))), ()), ()) → ∀ (r : Ro [tR, Ty.it IntKind.i64]), r = pR (fmul (toFr x.1) (toFr r_4.2.1)) → ∀ (r_6 : Ro [tR, tChain]), r_6 = ((), r.2.1, (r_5.2.2.1.1 || decide (r.2.2.1 ≠ (0 : El (Ty.it IntKind.i64))), ()), ()) → ∀ (r : Ro [tR, Ty.it IntKind.i64]), r = pR (fmul (toFr x.1) (toFr x.2.1)) → ∀ (r_7 : Ro [tR, tChain]), r_7 = ((), r.2.1, (r_6.2.2.1.1 || decide (r.2.2.1 ≠ (0 : El (Ty.it IntKind.i64))), ()), ()) → ∀ (r : Ro [tR, Ty.it IntKind.i64]), r = pR (fmul (toFr x.2.1) (toFr x.1)) → ∀ (r_8 : Ro [tR, tChain]), r_8 = ((), r.2.1, (r_7.2.2.1.1 || decide (r.2.2.1 ≠ (0 : El (Ty.it IntKind.i64))), ()), ()) → ∀ (r : Ro [tR, Ty.it IntKind.i64]), r = pR (fmul (toFr x.1) (toFr x.2.2.1)) → ∀ (r_9 : Ro [tR, tChain]), r_9 = ((), r.2.1, (r_8.2.2.1.1 || decide (r.2.2.1 ≠ (0 : El (Ty.it IntKind.i64))), ()), ()) → ∀ (r : Ro [tR, Ty.it IntKind.i64]), r = pR (fadd (toFr r_7.2.1) (toFr r_9.2.1)) → ∀ (r_10 : Ro [tR, tChain]), r_10 = ((), r.2.1, (r_9.2.2.1.1 || decide (r.2.2.1 ≠ (0 : El (Ty.it IntKind.i64))), ()), ()) → ∀ (r : Ro [tR, Ty.it IntKind.i64]), r = pR (fsub (toFr r_1.2.1) (toFr x.2.1)) → ∀ (r_11 : Ro [tR, tChain]), r_11 = ((), r.2.1, (r_10.2.2.1.1 || decide (r.2.2.1 ≠ (0 : El (Ty.it IntKind.i64))), ()), ()) → ∀ (r : Ro [tR, Ty.it IntKind.i64]), r = pR (fneg (toFr x.2.1)) → ∀ (r_12 : Ro [tR, tChain]), r_12 = ((), r.2.1, (r_11.2.2.1.1 || decide (r.2.2.1 ≠ (0 : El (Ty.it IntKind.i64))), ()), ()) → ∀ (r : Ro [tR, Ty.it IntKind.i64]), r = pR (fadd (toFr r_1.2.1) (toFr r_12.2.1)) → ∀ (r_13 : Ro [tR, tChain]), r_13 = ((), r.2.1, (r_12.2.2.1.1 || decide (r.2.2.1 ≠ (0 : El (Ty.it IntKind.i64))), ()), ()) → (r_13.2.2.1.1 = true → (true, ()) = (true, ())) ∧ (r_13.2.2.1.1 = false → ∀ (r : Ro [Ty.it IntKind.i64]), r = ((), fsign (toFr x.2.1), ()) → ((r.2.1 != (0 : Int)) = true → ∀ (r : Ro [tR, Ty.it IntKind.i64]), r = pR (fquo (toFr r_7.2.1) (toFr x.2.1)) → ((r.2.2.1 != (0 : Int)) = true → (false, ()) = (true, ())) ∧ ((r.2.2.1 != (0 : Int)) = false → decide (toFr r.2.1 = toFr x.1) = true ∧ decide (toFr r_1.2.1 = toFr r_2.2.1) = true ∧ decide (toFr r_3.2.1 = toFr r_5.2.1) = true ∧ decide (toFr r_7.2.1 = toFr r_8.2.1) = true ∧ decide (toFr r_6.2.1 = toFr r_10.2.1) = true ∧ decide (toFr r_11.2.1 = toFr x.1) = true ∧ decide (toFr r_13.2.1 = toFr x.1) = true ∧ (true, ()) = (true, ()))) ∧ ((r.2.1 != (0 : Int)) = false → decide (toFr r_1.2.1 = toFr r_2.2.1) = true ∧ decide (toFr r_3.2.1 = toFr r_5.2.1) = true ∧ decide (toFr r_7.2.1 = toFr r_8.2.1) = true ∧ decide (toFr r_6.2.1 = toFr r_10.2.1) = true ∧ decide (toFr r_11.2.1 = toFr x.1) = true ∧ decide (toFr r_13.2.1 = toFr x.1) = true ∧ (true, ()) = (true, ()))))
theorem w_lawRatioField (y : El sp_lawRatioField.q) (x : Els sp_lawRatioField.ps) : aW c_lawRatioField (iv_lawRatioField y x) Tryz.f3 sp_lawRatioField y x = F_lawRatioField y x := by kernel_rfl
theorem m_lawRatioField (y : El (.un)) (x : Els [tR, tR, tR]) (h2 : wfE (.un) y) (h3 : wfEs [tR, tR, tR] x) : F_lawRatioField y x := by
  unfold F_lawRatioField
  refine ⟨rfl, ?_⟩
  rintro _ rfl
  refine ⟨fun _ => rfl, fun _ => ?_⟩
  have wa := wf_fr h3.1
  have wb := wf_fr h3.2.1
  have wc := wf_fr h3.2.2.1
  rintro _ rfl _ rfl _ rfl _ rfl _ rfl _ rfl _ rfl _ rfl _ rfl _ rfl _ rfl _ rfl _ rfl _ rfl _ rfl _ rfl _ rfl _ rfl _ rfl _ rfl _ rfl _ rfl _ rfl _ rfl _ rfl _ rfl
  refine ⟨fun _ => rfl, fun hb => ?_⟩
  obtain ⟨e1, e2, e3, e4, e5, e6, e7, e8, e9, e10, e11, e12, e13⟩ := bad_13 hb
  obtain ⟨f1, f2, f3, f4, f5, f6, f7⟩ := field_law wa wb wc e1 e3 e4 e6 e7 e9 e12
  rintro _ rfl
  refine ⟨fun hs => ?_, fun hs => ⟨decide_eq_true f1, decide_eq_true f2, decide_eq_true f3, decide_eq_true f4, decide_eq_true f5, decide_eq_true f6, rfl⟩⟩
  intro r hr
  obtain rfl := hr.trans (congrArg pR (f7 (neT hs)))
  exact ⟨fun h => Bool.noConfusion (show false = true from h), fun _ => ⟨decide_eq_true rfl, decide_eq_true f1, decide_eq_true f2, decide_eq_true f3, decide_eq_true f4, decide_eq_true f5, decide_eq_true f6, rfl⟩⟩
theorem fo_lawRatioField : FnOk Tryz.prog 3 sp_lawRatioField := fnOk_of (C := c_lawRatioField) iv_lawRatioField Tryz.func3 rfl (by kernel_rfl) tys_ok (prims_cons (pr_sure (spec_prim fo_f3awake)) (prims_cons (spec_prim fo_kLong) (prims_cons (spec_prim fo_rAdd) (prims_cons (spec_prim fo_rMul) (prims_cons (spec_prim fo_rSub) (prims_cons (spec_prim fo_rNeg) (prims_cons (spec_prim fo_ctake) (prims_cons (spec_prim fo_rSgn) (prims_cons (spec_prim fo_rQuo) (prims_cons (pr_sure (spec_prim fo_rSame)) prims_nil)))))))))) mixed_ (Nat.le_refl _) rfl fun y x h1 h2 h3 h4 =>
  Eq.mpr (w_lawRatioField y x) (m_lawRatioField y x h2 h3)
end Go.Proofs.YtjoonfegjobgbaaGreatDoor
namespace Go.Proofs.YtjoonfegjobgbaaGreatDoor
open Go.ChangeShapes Go.WideShapes Go.ChangeAt Go.RowKit Go.Joins Go.Deep
set_option linter.unusedVariables false
section
variable {H : Type} {enc : TypeId × Value → H} {P : Program} {w : World} {base : Nat} {spare : Nat → Bool} {held : Bool}
end
theorem mk_own : ownKnob Tryz.prog.godebug = none := by kernel_rfl
theorem mk_laidOut : laidOutB Tryz.prog = true := by kernel_rfl
end Go.Proofs.YtjoonfegjobgbaaGreatDoor
namespace Go.Proofs.YtjoonfegjobgbaaGreatDoor
open Go Go.RowKit Go.ChangeShapes Go.WideShapes Go.ChangeAt Go.Joins Go.Deep
def Ty.inn : Ty → Bool
  | .bo => true
  | .it _ => true
  | .st => true
  | .sl t => t.inn && !Nat.beq t.size 0
  | .pr a b => a.inn && b.inn
  | .un => true
  | _ => false
abbrev Zw (W : World) : Nat → Prop := fun g => g < W.heap.size
theorem lit_wf {k : IntKind} {n : Int} (h : (Lit.int k n).wf = true) : k.min ≤ n ∧ n ≤ k.max := by simpa [Lit.wf] using h
theorem inn_struct {P : Program} {tb : Tbl} {t e : Nat} {a b : Ty} (h : TyOk P tb t (.pr a b) e) : ∃ fs, P.underlying t = some (.struct fs) ∧ fsB tb (.pr a b) 0 fs.toList = true := by
  obtain ⟨d, h1, h2⟩ := h.und
  unfold dscB at h2
  split at h2 <;> first
    | (cases h2; done)
    | (rename_i e2; cases e2; done)
    | skip
  all_goals
    rename_i e2
    cases e2
    exact ⟨_, h1, h2⟩
theorem inn_slice {P : Program} {tb : Tbl} {t e : Nat} {u : Ty} (h : TyOk P tb t (.sl u) e) : P.underlying t = some (.slice e) ∧ ∃ e', look tb e = some (u, e') := by
  obtain ⟨d, h1, h2⟩ := h.und
  unfold dscB at h2
  split at h2 <;> first
    | (cases h2; done)
    | (rename_i e2; cases e2; done)
    | skip
  all_goals
    rename_i e2
    cases e2
    simp only [Bool.and_eq_true] at h2
    rw [Nat.eq_of_beq_eq_true h2.1] at h1
    exact ⟨h1, isT_look h2.2⟩
theorem size_of_ {P : Program} {tb : Tbl} {t e : Nat} {y : Ty} (h : TyOk P tb t y e) : P.cellsOf t = y.size := by
  obtain ⟨i, z, h1, h2, _⟩ := h.info
  simp [Program.cellsOf, h1, h2]
theorem rt_in {H : Type} {enc : TypeId × Value → H} {P : Program} {W : World} {tb : Tbl} (hT : tyB P tb tb = true) : ∀ (y : Ty), y.inn = true →
    (∀ {t e fuel : Nat} {cs : List Value} {x : DataW H × List MemPlace}, look tb t = some (y, e) → DataW.trod enc P W 0 (fun _ => true) true fuel t cs = some x → ∃ v : El y, RT (Zw W) W y v cs) ∧
    (∀ {o : Nat} {fs : List Field} {cs : List Value}, fsB tb y o fs = true → (∀ (i : Nat) (f : Field), fs[i]? = some f → ∃ (n : Nat) (x : DataW H × List MemPlace), DataW.trod enc P W 0 (fun _ => true) true n f.type ((cs.drop f.offset).take (P.cellsOf f.type)) = some x) → cs.length = o + y.size → ∃ v : El y, RT (Zw W) W y v (cs.drop o))
  | .bo, _ => by
    refine ⟨fun {t e fuel cs x} hl h => ?_, fun {o fs cs} h _ _ => by simp [fsB] at h⟩
    obtain ⟨d, h1, h2⟩ := (tyB_sound hT hl).und
    have : d = .bool := by cases d <;> simp [dscB] at h2; rfl
    subst this
    obtain ⟨b, rfl, _⟩ := DataW.trod_bool h1 h
    exact ⟨b, by rw [RT]⟩
  | .it k, _ => by
    refine ⟨fun {t e fuel cs x} hl h => ?_, fun {o fs cs} h _ _ => by simp [fsB] at h⟩
    obtain ⟨d, h1, h2⟩ := (tyB_sound hT hl).und
    have : d = .int k := by cases d <;> simp [dscB] at h2; rw [h2]
    subst this
    obtain ⟨n, rfl, _, hw⟩ := DataW.trod_int h1 h
    exact ⟨n, by rw [RT]; exact ⟨rfl, lit_wf hw⟩⟩
  | .st, _ => by
    refine ⟨fun {t e fuel cs x} hl h => ?_, fun {o fs cs} h _ _ => by simp [fsB] at h⟩
    obtain ⟨d, h1, h2⟩ := (tyB_sound hT hl).und
    have : d = .string := by cases d <;> simp [dscB] at h2; rfl
    subst this
    obtain ⟨s, rfl, _, hs⟩ := DataW.trod_string h1 h
    exact ⟨s, by rw [RT]; exact ⟨rfl, by simp only [maxLen] at hs; omega⟩⟩
  | .un, _ => by
    refine ⟨fun {t e fuel cs x} hl h => ?_, fun {o fs cs} _ _ hl => ⟨(), by rw [RT]; exact List.drop_of_length_le (by rw [hl]; exact Nat.le_refl _)⟩⟩
    obtain ⟨d, h1, h2⟩ := (tyB_sound hT hl).und
    cases d with
    | struct fs =>
      obtain ⟨xs, n, _, _, hl', _⟩ := DataW.trod_struct h1 h
      rw [size_of_ (tyB_sound hT hl)] at hl'
      exact ⟨(), by rw [RT]; exact List.eq_nil_of_length_eq_zero hl'⟩
    | _ => simp [dscB] at h2
  | .sl u, hy => by
    refine ⟨fun {t e fuel cs x} hl h => ?_, fun {o fs cs} h _ _ => by simp [fsB] at h⟩
    simp only [Ty.inn, Bool.and_eq_true, Bool.not_eq_true'] at hy
    have hu : u.size ≠ 0 := fun e0 => by rw [e0] at hy; exact absurd hy.2 (by decide)
    obtain ⟨h1, e', h2⟩ := inn_slice (tyB_sound hT hl)
    have hs := size_of_ (tyB_sound hT h2)
    rcases open_slice h1 h with ⟨rfl, _⟩ | ⟨a, len, cap, m, n, D, Pl, rfl, _, hl2, hm, rfl, _, hi⟩
    · exact ⟨[], RT.sl_nil _ _ _⟩
    · have hi : ∀ i, i < m → ∃ cs', W.cells? 0 (a.add (i * P.cellsOf e)) (P.cellsOf e) = some cs' ∧ DataW.trod enc P W 0 (fun _ => true) true n e cs' = some (D i, Pl i) := fun i hic => hi i hic
      simp only [maxLen] at hm
      have each : ∀ j, j < len → ∃ v : El u, ∃ us, RT (Zw W) W u v us ∧ us.length = u.size ∧ ∀ (i : Nat) (z : Value), us[i]? = some z → W.cell? ((a.add (j * u.size)).add i) = some z := fun j hj => by
        obtain ⟨us, k1, k2⟩ := hi j (by omega)
        obtain ⟨_, k3, k4⟩ := World.cells?_some k1
        obtain ⟨v, hv⟩ := (rt_in hT u hy.1).1 h2 k2
        rw [hs] at k3 k4
        refine ⟨v, us, hv, k3, fun i z hz => ?_⟩
        rw [k4 i (by rw [← k3]; exact (List.getElem?_eq_some_iff.1 hz).1)]
        exact hz
      haveI : Inhabited (El u) := ⟨dfl u⟩
      obtain ⟨f, hf⟩ := choose_lt each
      have hlen : ((List.range len).map f).length = len := by simp
      refine ⟨(List.range len).map f, ?_⟩
      rw [RT]
      refine ⟨some a, m, by rw [hlen], by rw [hlen]; exact hl2, by omega, (fun e => by cases e), fun j hj => ?_⟩
      rw [hlen] at hj
      obtain ⟨us, k1, k2, k3⟩ := hf j hj
      have e1 : ((List.range len).map f)[j]'(by rw [hlen]; exact hj) = f j := by simp
      rw [e1]
      have hpos : 0 < us.length := by omega
      obtain ⟨us0, _, l2, l3⟩ := hf 0 (by omega)
      have d0 := l3 0 _ (List.getElem?_eq_getElem (show 0 < us0.length by omega))
      have c0 := k3 0 _ (List.getElem?_eq_getElem hpos)
      obtain ⟨g, o, s⟩ := a
      cases s with
      | some s =>
        exfalso
        have e3 : ((⟨g, o, some s⟩ : Addr).add (0 * u.size)).add 0 = ⟨g, o, some s⟩ := by rw [Nat.zero_mul]; rfl
        rw [e3] at d0
        unfold World.cell? at d0
        split at d0 <;> simp at d0
      | none =>
        have e2 : ∀ i, ((⟨g, o, none⟩ : Addr).add (j * u.size)).add i = ⟨g, o + (j * u.size + i), none⟩ := fun i => by rw [add_plain, add_plain, Nat.add_assoc]
        refine ⟨g, o, us, rfl, ?_, k1, fun i z hz => ?_⟩
        · rw [e2] at c0
          exact World.block_lt_of_cell? W _ c0
        · have := k3 i z hz
          rw [e2] at this
          exact this
  | .pr a b, hy => by
    simp only [Ty.inn, Bool.and_eq_true] at hy
    have key : ∀ {o : Nat} {fs : List Field} {cs : List Value}, fsB tb (.pr a b) o fs = true → (∀ (i : Nat) (f : Field), fs[i]? = some f → ∃ (n : Nat) (x : DataW H × List MemPlace), DataW.trod enc P W 0 (fun _ => true) true n f.type ((cs.drop f.offset).take (P.cellsOf f.type)) = some x) → cs.length = o + (Ty.pr a b).size → ∃ v : El (.pr a b), RT (Zw W) W (.pr a b) v (cs.drop o) := fun {o fs cs} h hf hl => by
      cases fs with
      | nil => simp [fsB] at h
      | cons f fs =>
        simp only [fsB, Bool.and_eq_true] at h
        obtain ⟨⟨h1, h2⟩, h3⟩ := h
        obtain ⟨e, h2⟩ := isT_look h2
        obtain ⟨n, x, h4⟩ := hf 0 f rfl
        obtain ⟨v, hv⟩ := (rt_in hT a hy.1).1 h2 h4
        have hl' : cs.length = o + a.size + b.size := by rw [hl]; show o + (a.size + b.size) = _; omega
        obtain ⟨v', hv'⟩ := (rt_in hT b hy.2).2 h3 (fun i f' h => hf (i + 1) f' (by simpa using h)) hl'
        rw [Nat.eq_of_beq_eq_true h1, size_of_ (tyB_sound hT h2)] at hv
        refine ⟨(v, v'), ?_⟩
        rw [RT]
        refine ⟨_, _, ?_, hv, hv'⟩
        rw [← List.drop_drop, List.take_append_drop]
    refine ⟨fun {t e fuel cs x} hl h => ?_, key⟩
    obtain ⟨fs, h1, h2⟩ := inn_struct (tyB_sound hT hl)
    obtain ⟨xs, n, _, _, h3, h4, h5⟩ := DataW.trod_struct h1 h
    rw [size_of_ (tyB_sound hT hl)] at h3
    have := key (cs := cs) h2 (fun i f hf => by
      have hi := (List.getElem?_eq_some_iff.1 hf).1
      have h6 := h5 i f (by simpa using hf)
      have h7 : i < xs.length := by rw [h4]; simpa using hi
      exact ⟨n, xs[i], h6.trans (List.getElem?_eq_getElem h7)⟩) (by omega)
    simpa using this
  | .pt _, h => by cases h
  | .fn, h => by cases h
  | .lt _, h => by cases h
  | .lf _, h => by cases h
  | .oq, h => by cases h
theorem rv_in {H : Type} {enc : TypeId × Value → H} {P : Program} {W : World} {tb : Tbl} (hT : tyB P tb tb = true) {b0 t e : Nat} (y : Ty) (hy : y.inn = true) (hl : look tb t = some (y, e)) {v : Value} {d : DataW H} {p : List MemPlace} (hv : Value.okWide P W .any b0 t v) (h : DataW.Trod enc P W 0 (fun _ => true) true t v d p) : ∃ x : El y, RV (Zw W) W y x v := by
  obtain ⟨fuel, h⟩ := h
  have hty := tyB_sound hT hl
  obtain ⟨x, hx⟩ := (rt_in hT y hy).1 hl h
  refine ⟨x, ?_⟩
  unfold RV
  have one : v.cells.toList = [v] → y.agg = false → (if y.agg = true then ∃ us, v = .agg us ∧ RT (Zw W) W y x us.toList else RT (Zw W) W y x [v]) := fun h1 h2 => by
    rw [if_neg (by simp [h2]), ← h1]; exact hx
  obtain ⟨dsc, u1, u2⟩ := hty.und
  cases y with
  | bo =>
    have : dsc = .bool := by cases dsc <;> simp [dscB] at u2; rfl
    subst this
    obtain ⟨b, rfl⟩ := okWide_bool u1 hv
    exact one rfl rfl
  | it k =>
    have : dsc = .int k := by cases dsc <;> simp [dscB] at u2; rw [u2]
    subst this
    obtain ⟨n, rfl⟩ := okWide_int u1 hv
    exact one rfl rfl
  | st =>
    have : dsc = .string := by cases dsc <;> simp [dscB] at u2; rfl
    subst this
    obtain ⟨n, rfl⟩ := okWide_string u1 hv
    exact one rfl rfl
  | sl u =>
    obtain ⟨h1, _⟩ := inn_slice hty
    obtain ⟨A, l, c, rfl⟩ := okWide_slice h1 hv
    exact one rfl rfl
  | un =>
    cases dsc with
    | struct fs =>
      obtain ⟨cs, rfl, _⟩ := okWide_struct u1 hv
      rw [if_pos (show Ty.un.agg = true from rfl)]
      exact ⟨cs, rfl, hx⟩
    | _ => simp [dscB] at u2
  | pr a b =>
    obtain ⟨fs, h1, _⟩ := inn_struct hty
    obtain ⟨cs, rfl, _⟩ := okWide_struct h1 hv
    rw [if_pos (show (Ty.pr a b).agg = true from rfl)]
    exact ⟨cs, rfl, hx⟩
  | pt _ => cases hy
  | fn => cases hy
  | lt _ => cases hy
  | lf _ => cases hy
  | oq => cases hy
theorem law_calls {P : Program} {f : Nat} {ps : List Ty} (h : FnOk P f { q := .un, ps := ps, rs := [.bo], fresh := true, pre := fun _ _ => none, post := fun _ _ => ((), (true, ())) }) {W : World} {x : Els ps} {vs : List Value} (hg : Glob (Zw W) W) (hv : RVs (Zw W) W ps x vs) : Calls P f vs.toArray W fun e W' => e = .returned (.bool true) ∧ Below W.heap.size W W' := by
  refine (h.2 (Zw W) W 0 vs () x ⟨fun g hg => hg, hg⟩ hv trivial (fun e => by cases e) (fun _ => rfl)).mono ?_
  rintro e w' ⟨v, us, bs, Z', rfl, t1, t2, _, _, _, _, _, t8, _⟩
  have t8 : W.grownBy w' none := t8
  refine ⟨?_, t8.os, t8.tape, t8.output, t8.size, fun k hk => t8.block k hk (by simp)⟩
  match us, t2 with
  | [u], ⟨b, b', _, h1, h2⟩ =>
    have h1 : RT _ w' .bo true [u] ∧ b = [] := h1
    rw [RT] at h1
    have e1 : u = .bool true := by simpa using h1.1
    rcases t1 with ⟨u', e2, rfl⟩ | ⟨h3, _⟩
    · cases e2; rw [e1]
    · simp at h3
end Go.Proofs.YtjoonfegjobgbaaGreatDoor
namespace Go.Proofs.YtjoonfegjobgbaaGreatDoor
open Go Go.RowKit
theorem glob_tab {W : World} (h : Lib.TabIs Tryz.prog W "internal/strconv.uint64pow10" .u64 Lib.pow10Tab) : GlobT (Zw W) W := fun p hp => by
  have e : p = (1, IntKind.u64, Lib.pow10Tab) := by
    unfold globs at hp
    rw [List.nil_append] at hp
    exact List.mem_singleton.1 hp
  subst e
  unfold Lib.TabIs World.var? at h
  rw [show (Tryz.prog).globalNamed "internal/strconv.uint64pow10" = some 1 by kernel_rfl] at h
  have h : (match W.heap[1]? with
    | some (Obj.cells cs _ _) => some cs
    | _ => none) = some (Lib.pow10Tab.map fun z => Value.int .u64 z).toArray := h
  split at h
  · rename_i cs t z hc
    cases h
    exact ⟨(Array.getElem?_eq_some_iff.1 hc).1, t, z, hc⟩
  · cases h
theorem glob_laid {W : World} {L : List (String × DataW Unit)} (h : laidMetH Tryz.prog L W) (e : (L.filter fun x => x.1 == "internal/strconv.uint64pow10") = [("internal/strconv.uint64pow10", Lib.tabData .u64 Lib.pow10Tab)]) (k : GlobE (Zw W) W) : Glob (Zw W) W := by
  have h2 := h.filter fun x => x.1 == "internal/strconv.uint64pow10"
  rw [e, MakeChecks.laidMetH_plain _ _ _ (by kernel_rfl)] at h2
  refine ⟨?_, k⟩
  exact glob_tab (Lib.tabIs_of_head (g := 1) (t := 236) (e := 146) (n := 20) (by kernel_rfl) (by kernel_rfl) Tryz.underlying236 Tryz.underlying146 (by kernel_rfl) (by kernel_rfl) h2)
theorem err_row (u : TypeId) (h : (Tryz.prog).typeName? 3 u = some "*errors.errorString") : u = 247 := typeName_ptr_named (nm := "errors.errorString") (by rw [show "*" ++ "errors.errorString" = "*errors.errorString" by decide]; kernel_rfl) (by kernel_rfl) (by decide) u (by rw [show "*" ++ "errors.errorString" = "*errors.errorString" by decide]; exact h)
theorem ev_yntax {W : World} {L : List (String × DataW Unit)} {x : List UInt8} (h : laidMetH Tryz.prog L W) (e : (L.filter fun x => x.1 == "strconv.ErrSyntax") = [("strconv.ErrSyntax", .iface "*errors.errorString" (.ptr (.agg [.lit (.string x)])))]) : Zw W 2 ∧ ∃ te pe t z, W.heap[2]? = some (.cells #[.iface te pe] t z) := by
  have h2 := h.filter fun x => x.1 == "strconv.ErrSyntax"
  rw [e, MakeChecks.laidMetH_plain _ _ _ (by rfl)] at h2
  obtain ⟨a, s, hv, _⟩ := laid_sentinel (g := 2) (ti := 167) (tp := 247) (te := 249) (ts := 9) h2 (by kernel_rfl) (by kernel_rfl) Tryz.underlying167 err_row Tryz.underlying247 Tryz.underlying249 rfl rfl Tryz.underlying9 (by kernel_rfl) (by kernel_rfl)
  unfold World.var? at hv
  rw [show (Tryz.prog).globalNamed "strconv.ErrSyntax" = some 2 by kernel_rfl] at hv
  have hv : (match W.heap[2]? with
    | some (Obj.cells cs _ _) => some cs
    | _ => none) = some #[.iface 247 (.pointer (some a))] := hv
  split at hv
  · rename_i cs t z hc
    cases hv
    exact ⟨(Array.getElem?_eq_some_iff.1 hc).1, _, _, t, z, hc⟩
  · cases hv
theorem ev_Range {W : World} {L : List (String × DataW Unit)} {x : List UInt8} (h : laidMetH Tryz.prog L W) (e : (L.filter fun x => x.1 == "strconv.ErrRange") = [("strconv.ErrRange", .iface "*errors.errorString" (.ptr (.agg [.lit (.string x)])))]) : Zw W 3 ∧ ∃ te pe t z, W.heap[3]? = some (.cells #[.iface te pe] t z) := by
  have h2 := h.filter fun x => x.1 == "strconv.ErrRange"
  rw [e, MakeChecks.laidMetH_plain _ _ _ (by rfl)] at h2
  obtain ⟨a, s, hv, _⟩ := laid_sentinel (g := 3) (ti := 167) (tp := 247) (te := 249) (ts := 9) h2 (by kernel_rfl) (by kernel_rfl) Tryz.underlying167 err_row Tryz.underlying247 Tryz.underlying249 rfl rfl Tryz.underlying9 (by kernel_rfl) (by kernel_rfl)
  unfold World.var? at hv
  rw [show (Tryz.prog).globalNamed "strconv.ErrRange" = some 3 by kernel_rfl] at hv
  have hv : (match W.heap[3]? with
    | some (Obj.cells cs _ _) => some cs
    | _ => none) = some #[.iface 247 (.pointer (some a))] := hv
  split at hv
  · rename_i cs t z hc
    cases hv
    exact ⟨(Array.getElem?_eq_some_iff.1 hc).1, _, _, t, z, hc⟩
  · cases hv
theorem globE_laid {W : World} {L : List (String × DataW Unit)} (h : laidMetH Tryz.prog L W)
    (e1 : (L.filter fun x => x.1 == "strconv.ErrSyntax") = [("strconv.ErrSyntax", .iface "*errors.errorString" (.ptr (.agg [.lit (.string [105, 110, 118, 97, 108, 105, 100, 32, 115, 121, 110, 116, 97, 120])])))])
    (e2 : (L.filter fun x => x.1 == "strconv.ErrRange") = [("strconv.ErrRange", .iface "*errors.errorString" (.ptr (.agg [.lit (.string [118, 97, 108, 117, 101, 32, 111, 117, 116, 32, 111, 102, 32, 114, 97, 110, 103, 101])])))])
    : GlobE (Zw W) W := fun g hg => by
  unfold globsE at hg
  rw [List.nil_append] at hg
  rcases List.mem_cons.1 hg with rfl | hg
  · exact ev_yntax h e1
  · rcases List.mem_cons.1 hg with rfl | hg
    · exact ev_Range h e2
    · cases hg
end Go.Proofs.YtjoonfegjobgbaaGreatDoor
namespace Go.Proofs.YtjoonfegjobgbaaGreatDoor
theorem cmpq_anti (p q : Rat) : cmpq p q = -cmpq q p := by
  rcases cmpq_cases p q with ⟨h, e⟩ | ⟨h, e⟩ | ⟨h, e⟩ <;> rcases cmpq_cases q p with ⟨k, f⟩ | ⟨k, f⟩ | ⟨k, f⟩ <;> rw [e, f] <;> first | rfl | (exfalso; grind)
theorem cmpq_rng (p q : Rat) : -1 ≤ cmpq p q ∧ cmpq p q ≤ 1 := by
  rcases cmpq_cases p q with ⟨_, e⟩ | ⟨_, e⟩ | ⟨_, e⟩ <;> rw [e] <;> decide
theorem cmpq_sub (p q : Rat) : cmpq (p - q) 0 = cmpq p q := by
  rcases cmpq_cases p q with ⟨h, e⟩ | ⟨h, e⟩ | ⟨h, e⟩ <;> rcases cmpq_cases (p - q) 0 with ⟨k, f⟩ | ⟨k, f⟩ | ⟨k, f⟩ <;> rw [e, f] <;> first | done | rfl | (exfalso; grind)
theorem cmpq_eq (p q : Rat) : (cmpq p q == 0) = decide (p = q) := by
  rw [Bool.eq_iff_iff, decide_eq_true_eq, beq_iff_eq]
  rcases cmpq_cases p q with ⟨h, e⟩ | ⟨h, e⟩ | ⟨h, e⟩ <;> rw [e]
  · exact ⟨fun c => absurd c (by decide), fun c => by grind⟩
  · exact ⟨fun c => absurd c (by decide), fun c => by grind⟩
  · exact ⟨fun _ => h, fun _ => rfl⟩
theorem cmpq_le {p q : Rat} (h : p ≤ q) : cmpq p q ≤ 0 := by
  rcases cmpq_cases p q with ⟨k, e⟩ | ⟨k, e⟩ | ⟨k, e⟩ <;> rw [e]
  · decide
  · exfalso
    grind
  · exact Int.le_refl 0
theorem cmpq_lt {p q : Rat} (h : p < q) : cmpq p q = -1 := by
  rcases cmpq_cases p q with ⟨k, e⟩ | ⟨k, e⟩ | ⟨k, e⟩
  · exact e
  · exfalso
    grind
  · exfalso
    grind
theorem fcmp_enc {p q : Rat} (lp : ¬ lng p = true) (lq : ¬ lng q = true) : fcmp (enc p) (enc q) = (cmpq p q, 0) := by
  unfold fcmp
  rw [fchk2_enc lp lq, if_neg (by decide), dec_enc, dec_enc]
theorem fchk2_swap {a b : Fr} (h : fchk2 a b ≠ 0) : fchk2 b a ≠ 0 := fun c => by
  unfold fchk2 at h c
  by_cases hb : fchk b = 0
  · rw [if_neg (fun k => k hb)] at c
    rw [if_neg (fun k => k c)] at h
    exact h hb
  · rw [if_pos hb] at c
    exact hb c
theorem floor_small (p : Rat) : p.floor.natAbs ≤ p.num.natAbs := by
  by_cases h : p.num < 0
  · obtain ⟨h1, h2, _⟩ := floor_neg p h
    by_cases m : p.num.natAbs % p.den = 0
    · rw [h1 m]
      exact Nat.div_le_self _ _
    · rw [h2 m]
      have hd : 2 ≤ p.den := by
        rcases Nat.lt_or_ge p.den 2 with k | k
        · have : p.den = 1 := by have := p.den_nz; omega
          rw [this, Nat.mod_one] at m
          exact absurd rfl m
        · exact k
      have : p.num.natAbs / p.den ≤ p.num.natAbs / 2 := Nat.div_le_div_left hd (by decide)
      omega
  · rw [(floor_pos p h).1]
    exact Nat.div_le_self _ _
theorem floor_sg (p : Rat) : sg (decide (p.num < 0)) p.floor.natAbs = p.floor := by
  unfold sg
  by_cases h : p.num < 0
  · have := (floor_neg p h).2.2
    rw [if_pos (decide_eq_true h)]
    omega
  · have := (floor_pos p h).2
    rw [if_neg (by rw [decide_eq_false h]; decide)]
    omega
theorem fl_enc {p : Rat} (h : ¬ lng p = true) : ffloor (enc p) = (decide (p.num < 0), wd p.floor.natAbs, 0) := by
  unfold ffloor
  rw [if_neg (by rw [fchk_enc p h]; decide), dec_enc]
  rfl
theorem wchk_wd {s : Bool} {n : Nat} (h : (wd n).length ≤ 2048) (k : n = 0 → s = false) : wchk s (wd n) = 0 := by
  unfold wchk
  rw [if_neg (by omega), if_neg, if_neg]
  · rintro ⟨h1, h2⟩
    rw [k (wd_eq_nil h1)] at h2
    cases h2
  · rintro ⟨h1, h2⟩
    exact wd_last n (fun e => h1 (by rw [e, wd_zero])) h2
theorem floor_lng {p : Rat} (h : ¬ lng p = true) : ¬ lng (p.floor : Rat) = true := by
  obtain ⟨h1, _⟩ := not_lng h
  have := wd_len_mono (floor_small p)
  refine lng_of ?_ ?_
  · rw [Rat.num_intCast]
    omega
  · rw [Rat.den_intCast, wd_one]
    decide
theorem mk_enc {p : Rat} (h : ¬ lng p = true) : fmake (decide (p.num < 0)) (wd p.floor.natAbs) false [1] = (enc (p.floor : Rat), 0) := by
  obtain ⟨h1, _⟩ := not_lng h
  have hl := wd_len_mono (floor_small p)
  have e1 : wchk (decide (p.num < 0)) (wd p.floor.natAbs) = 0 := wchk_wd (by omega) (fun e => by
    refine decide_eq_false (fun c => ?_)
    have := (floor_neg p c).2.2
    omega)
  have e2 : wchk false [1] = 0 := by rw [← wd_one]; exact wchk_wd (by rw [wd_one]; decide) (fun e => by cases e)
  unfold fmake
  rw [if_neg (by omega), if_neg (by omega), if_neg (by simp), ← wd_one, val_wd, val_wd, Int.toNat_natCast, Int.toNat_natCast, Bool.bne_false, floor_sg]
  have e3 : mkRat p.floor 1 = (p.floor : Rat) := by
    rw [Rat.mkRat_one]
  rw [e3]
  exact tell_ok (floor_lng h)
end Go.Proofs.YtjoonfegjobgbaaGreatDoor
