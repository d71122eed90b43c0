/- Texts of this claim, joined: E2 E3 E4 O1 O3 L15a. -/
import Derived.ProofKit
import Derived.OpenShut
import Derived.ChangeOld
import Derived.Below
import Derived.Lib.SmallJoins
import Derived.Deep.Slices
import Derived.Deep.Fields
import Derived.ChangeSame
import Derived.ChangeMaps5
import Derived.Test.YtakaehdolpmelaaGreatDoorRows
import Derived.LaidHandle
import Derived.LaidLaws
import Derived.Test.YtakaehdolpmelaaGreatDoorQr
set_option linter.unusedVariables false
set_option linter.unusedSimpArgs false
set_option maxRecDepth 100000
namespace Go.Proofs.YtakaehdolpmelaaGreatDoor
open Go Go.RowKit
def sP (f : Fr) : Prop := fchk f = 0 ∧ toN f.num < 100 ∧ toN f.den < 100
def txR (f : Fr) : ByteArray := if toN f.den = 1 then (if f.neg = true then ⟨#[45]⟩ ++ dgB (toN f.num) else dgB (toN f.num)) else (if f.neg = true then ⟨#[45]⟩ ++ dgB (toN f.num) else dgB (toN f.num)) ++ (⟨#[47]⟩ ++ dgB (toN f.den))
theorem nrm_1 : nrm [1] := by
  rw [← wd_one]
  exact nrm_wd 1
theorem toN_1 : toN [1] = 1 := by rw [← wd_one, toN_wd]
theorem nrm_of {f : Fr} (wf : f.Wf) (h : fchk f = 0) : nrm f.num ∧ nrm f.den := by
  obtain ⟨q, rfl, _⟩ := fchk_ok wf h
  exact ⟨nrm_wd _, nrm_wd _⟩
theorem cmp1_T {n : Nat} (h : ((cmp n (toN [1]) : Int) != 0) = true) : n ≠ 1 := fun e => by
  rw [e, toN_1] at h
  exact absurd h (by decide)
theorem cmp1_F {n : Nat} (h : ((cmp n (toN [1]) : Int) != 0) = false) : n = 1 := by
  rw [toN_1] at h
  have h := bne_eq_false_iff_eq.1 h
  unfold cmp at h
  split at h
  · cases h
  · split at h
    · cases h
    · omega
noncomputable def sp_rPrint : Spec := { q := .un, ps := [tR], rs := [.st, .it .i64], fresh := true, pre := fun _ x => some (sP (toFr x.1)), post := fun _ x => ((), (txR (toFr x.1), 0, ())) }
noncomputable def iv_rPrint (y : El sp_rPrint.q) (x : Els sp_rPrint.ps) : Nat → Option Inv := fun _ => none
noncomputable abbrev c_rPrint : Cfg := cfgS (Tryz.f26).ntmps false [(33, sp_rCheck.prim), (69, sp_aPrint.prim), (70, sp_aCmp.prim)]
def F_rPrint (y : El sp_rPrint.q) (x : Els sp_rPrint.ps) : Prop :=
  ∀ (r : Ro [Ty.it IntKind.i64]), r = ((), fchk (toFr x.1), ()) → ((r.2.1 != (0 : Int)) = true → ((⟨#[]⟩ : ByteArray), r.2) = (txR (toFr x.1), (0 : El (Ty.it IntKind.i64)), ())) ∧ ((r.2.1 != (0 : Int)) = false → (x.1.2.1 = wd (toN x.1.2.1) ∧ toN x.1.2.1 < (100 : Nat)) ∧ ∀ (r : Ro [Ty.st, Ty.it IntKind.i64]), r = ((), dgB (toN x.1.2.1), (0 : El (Ty.it IntKind.i64)), ()) → (x.1.1 = true → (⟨#[(45 : UInt8)]⟩ : ByteArray).size + ByteArray.size r.2.1 ≤ (9223372036854775807 : Nat) ∧ (x.1.2.2.1 = wd (toN x.1.2.2.1) ∧ [(1 : Int)] = wd (toN [(1 : Int)])) ∧ ∀ (r_1 : Ro [Ty.it IntKind.i64]), r_1 = ((), cmp (toN x.1.2.2.1) (toN [(1 : Int)]), ()) → ((r_1.2.1 != (0 : Int)) = true → (x.1.2.2.1 = wd (toN x.1.2.2.1) ∧ toN x.1.2.2.1 < (100 : Nat)) ∧ ∀ (r_2 : Ro [Ty.st, Ty.it IntKind.i64]), r_2 = ((), dgB (toN x.1.2.2.1), (0 : El (Ty.it IntKind.i64)), ()) → (⟨#[(47 : UInt8)]⟩ : ByteArray).size + ByteArray.size r_2.2.1 ≤ (9223372036854775807 : Nat) ∧ ((⟨#[(45 : UInt8)]⟩ : ByteArray) ++ r.2.1).size + ((⟨#[(47 : UInt8)]⟩ : ByteArray) ++ r_2.2.1).size ≤ (9223372036854775807 : Nat) ∧ ((⟨#[(45 : UInt8)]⟩ : ByteArray) ++ r.2.1 ++ ((⟨#[(47 : UInt8)]⟩ : ByteArray) ++ r_2.2.1), (0 : Int), ()) = (txR (toFr x.1), (0 : El (Ty.it IntKind.i64)), ())) ∧ ((r_1.2.1 != (0 : Int)) = false → ((⟨#[(45 : UInt8)]⟩ : ByteArray) ++ r.2.1, (0 : Int), ()) = (txR (toFr x.1), (0 : El (Ty.it IntKind.i64)), ()))) ∧ (x.1.1 = false → (x.1.2.2.1 = wd (toN x.1.2.2.1) ∧ [(1 : Int)] = wd (toN [(1 : Int)])) ∧ ∀ (r_1 : Ro [Ty.it IntKind.i64]), r_1 = ((), cmp (toN x.1.2.2.1) (toN [(1 : Int)]), ()) → ((r_1.2.1 != (0 : Int)) = true → (x.1.2.2.1 = wd (toN x.1.2.2.1) ∧ toN x.1.2.2.1 < (100 : Nat)) ∧ ∀ (r_2 : Ro [Ty.st, Ty.it IntKind.i64]), r_2 = ((), dgB (toN x.1.2.2.1), (0 : El (Ty.it IntKind.i64)), ()) → (⟨#[(47 : UInt8)]⟩ : ByteArray).size + ByteArray.size r_2.2.1 ≤ (9223372036854775807 : Nat) ∧ ByteArray.size r.2.1 + ((⟨#[(47 : UInt8)]⟩ : ByteArray) ++ r_2.2.1).size ≤ (9223372036854775807 : Nat) ∧ (r.2.1 ++ ((⟨#[(47 : UInt8)]⟩ : ByteArray) ++ r_2.2.1), (0 : Int), ()) = (txR (toFr x.1), (0 : El (Ty.it IntKind.i64)), ())) ∧ ((r_1.2.1 != (0 : Int)) = false → (r.2.1, (0 : Int), ()) = (txR (toFr x.1), (0 : El (Ty.it IntKind.i64)), ()))))
theorem w_rPrint (y : El sp_rPrint.q) (x : Els sp_rPrint.ps) : aW c_rPrint (iv_rPrint y x) Tryz.f26 sp_rPrint y x = F_rPrint y x := by kernel_rfl
theorem m_rPrint (y : El (.un)) (x : Els [tR]) (h2 : wfE (.un) y) (h3 : wfEs [tR] x) (h4 : sP (toFr x.1)) : F_rPrint y x := by
  unfold F_rPrint
  have q : sP (toFr x.1) := h4
  obtain ⟨q0, q1, q2⟩ := q
  obtain ⟨n1, n2⟩ := nrm_of (wf_fr h3.1) q0
  have z1 := dgB_size _ q1
  have z2 := dgB_size _ q2
  have z3 : (⟨#[45]⟩ : ByteArray).size = 1 := rfl
  have z4 : (⟨#[47]⟩ : ByteArray).size = 1 := rfl
  rintro _ rfl
  refine ⟨fun h => absurd q0 (neT h), fun _ => ⟨⟨n1, q1⟩, ?_⟩⟩
  rintro _ rfl
  refine ⟨fun hn => ⟨?_, ⟨n2, nrm_1⟩, ?_⟩, fun hn => ⟨⟨n2, nrm_1⟩, ?_⟩⟩
  · show (⟨#[45]⟩ : ByteArray).size + (dgB (toN (toFr x.1).num)).size ≤ _
    omega
  · rintro _ rfl
    refine ⟨fun hd => ⟨⟨n2, q2⟩, ?_⟩, fun hd => ?_⟩
    · have hd := cmp1_T hd
      rintro _ rfl
      refine ⟨?_, ?_, ?_⟩
      · show (⟨#[47]⟩ : ByteArray).size + (dgB (toN (toFr x.1).den)).size ≤ _
        omega
      · show ((⟨#[45]⟩ : ByteArray) ++ dgB (toN (toFr x.1).num)).size + ((⟨#[47]⟩ : ByteArray) ++ dgB (toN (toFr x.1).den)).size ≤ _
        rw [ByteArray.size_append, ByteArray.size_append]
        omega
      · unfold txR
        rw [if_neg hd, if_pos (show (toFr x.1).neg = true from hn)]
    · have hd := cmp1_F hd
      unfold txR
      rw [if_pos hd, if_pos (show (toFr x.1).neg = true from hn)]
  · have hn' : ¬ (toFr x.1).neg = true := fun e => by
      have hn : (toFr x.1).neg = false := hn
      rw [hn] at e
      cases e
    rintro _ rfl
    refine ⟨fun hd => ⟨⟨n2, q2⟩, ?_⟩, fun hd => ?_⟩
    · have hd := cmp1_T hd
      rintro _ rfl
      refine ⟨?_, ?_, ?_⟩
      · show (⟨#[47]⟩ : ByteArray).size + (dgB (toN (toFr x.1).den)).size ≤ _
        omega
      · show (dgB (toN (toFr x.1).num)).size + ((⟨#[47]⟩ : ByteArray) ++ dgB (toN (toFr x.1).den)).size ≤ _
        rw [ByteArray.size_append]
        omega
      · unfold txR
        rw [if_neg hd, if_neg hn']
    · have hd := cmp1_F hd
      unfold txR
      rw [if_pos hd, if_neg hn']
theorem fo_rPrint : FnOk Tryz.prog 26 sp_rPrint := fnOk_of (C := c_rPrint) iv_rPrint Tryz.func26 rfl (by kernel_rfl) tys_ok (prims_cons (spec_prim fo_rCheck) (prims_cons (spec_prim fo_aPrint) (prims_cons (spec_prim fo_aCmp) prims_nil))) mixed_ (Nat.le_refl _) rfl fun y x h1 h2 h3 h4 =>
  Eq.mpr (w_rPrint y x) (m_rPrint y x h2 h3 h4)
theorem txR_size {f : Fr} (h : sP f) : (txR f).size ≤ 6 := by
  obtain ⟨_, q1, q2⟩ := h
  have z1 := dgB_size _ q1
  have z2 := dgB_size _ q2
  have z3 : (⟨#[45]⟩ : ByteArray).size = 1 := rfl
  have z4 : (⟨#[47]⟩ : ByteArray).size = 1 := rfl
  unfold txR
  repeat' split
  all_goals try simp only [ByteArray.size_append]
  all_goals omega
noncomputable def sp_gPrint : Spec := { q := .un, ps := [tG], rs := [.st, .it .i64], fresh := true, pre := fun _ x => some (sP (toFr x.1.1) ∧ sP (toFr x.1.2.1)), post := fun _ x => ((), (txR (toFr x.1.1) ++ ⟨#[32]⟩ ++ txR (toFr x.1.2.1), 0, ())) }
noncomputable def iv_gPrint (y : El sp_gPrint.q) (x : Els sp_gPrint.ps) : Nat → Option Inv := fun _ => none
noncomputable abbrev c_gPrint : Cfg := cfgS (Tryz.f50).ntmps false [(52, sp_gCheck.prim), (26, sp_rPrint.prim)]
def F_gPrint (y : El sp_gPrint.q) (x : Els sp_gPrint.ps) : Prop :=
  ∀ (r : Ro [Ty.it IntKind.i64]), r = ((), gchk (toGa x.1), ()) → ((r.2.1 != (0 : Int)) = true → ((⟨#[]⟩ : ByteArray), r.2) = (txR (toFr x.1.1) ++ (⟨#[(32 : UInt8)]⟩ : ByteArray) ++ txR (toFr x.1.2.1), (0 : El (Ty.it IntKind.i64)), ())) ∧ ((r.2.1 != (0 : Int)) = false → (fchk (toFr x.1.1) = (0 : Int) ∧ toN (toFr x.1.1).num < (100 : Nat) ∧ toN (toFr x.1.1).den < (100 : Nat)) ∧ ∀ (r : Ro [Ty.st, Ty.it IntKind.i64]), r = ((), txR (toFr x.1.1), (0 : El (Ty.it IntKind.i64)), ()) → (fchk (toFr x.1.2.1) = (0 : Int) ∧ toN (toFr x.1.2.1).num < (100 : Nat) ∧ toN (toFr x.1.2.1).den < (100 : Nat)) ∧ ∀ (r_1 : Ro [Ty.st, Ty.it IntKind.i64]), r_1 = ((), txR (toFr x.1.2.1), (0 : El (Ty.it IntKind.i64)), ()) → ByteArray.size r.2.1 + (⟨#[(32 : UInt8)]⟩ : ByteArray).size ≤ (9223372036854775807 : Nat) ∧ (r.2.1 ++ (⟨#[(32 : UInt8)]⟩ : ByteArray)).size + ByteArray.size r_1.2.1 ≤ (9223372036854775807 : Nat) ∧ (decide ((↑(r.2.1 ++ (⟨#[(32 : UInt8)]⟩ : ByteArray) ++ r_1.2.1).size : Int) > (65536 : Int)) = true → ((⟨#[]⟩ : ByteArray), (3 : Int), ()) = (txR (toFr x.1.1) ++ (⟨#[(32 : UInt8)]⟩ : ByteArray) ++ txR (toFr x.1.2.1), (0 : El (Ty.it IntKind.i64)), ())) ∧ (decide ((↑(r.2.1 ++ (⟨#[(32 : UInt8)]⟩ : ByteArray) ++ r_1.2.1).size : Int) > (65536 : Int)) = false → (r.2.1 ++ (⟨#[(32 : UInt8)]⟩ : ByteArray) ++ r_1.2.1, (0 : Int), ()) = (txR (toFr x.1.1) ++ (⟨#[(32 : UInt8)]⟩ : ByteArray) ++ txR (toFr x.1.2.1), (0 : El (Ty.it IntKind.i64)), ())))
theorem w_gPrint (y : El sp_gPrint.q) (x : Els sp_gPrint.ps) : aW c_gPrint (iv_gPrint y x) Tryz.f50 sp_gPrint y x = F_gPrint y x := by kernel_rfl
theorem m_gPrint (y : El (.un)) (x : Els [tG]) (h2 : wfE (.un) y) (h3 : wfEs [tG] x) (h4 : sP (toFr x.1.1) ∧ sP (toFr x.1.2.1)) : F_gPrint y x := by
  unfold F_gPrint
  have q : sP (toFr x.1.1) ∧ sP (toFr x.1.2.1) := h4
  obtain ⟨q1, q2⟩ := q
  have s1 := txR_size q1
  have s2 := txR_size q2
  have z3 : (⟨#[32]⟩ : ByteArray).size = 1 := rfl
  have s3 : (txR (toFr x.1.1) ++ ⟨#[32]⟩).size ≤ 7 := by rw [ByteArray.size_append]; omega
  have s4 : (txR (toFr x.1.1) ++ ⟨#[32]⟩ ++ txR (toFr x.1.2.1)).size ≤ 13 := by rw [ByteArray.size_append]; omega
  rintro _ rfl
  refine ⟨fun h => absurd (gchk_mk (a := toGa x.1) q1.1 q2.1) (neT h), fun _ => ⟨q1, ?_⟩⟩
  rintro _ rfl
  refine ⟨q2, ?_⟩
  rintro _ rfl
  refine ⟨?_, ?_, fun h => ?_, fun _ => rfl⟩
  · show (txR (toFr x.1.1)).size + (⟨#[32]⟩ : ByteArray).size ≤ _
    omega
  · show (txR (toFr x.1.1) ++ ⟨#[32]⟩).size + (txR (toFr x.1.2.1)).size ≤ _
    omega
  · have h := gtT h
    exact absurd (Int.ofNat_lt.1 h) (by show ¬ 65536 < (txR (toFr x.1.1) ++ ⟨#[32]⟩ ++ txR (toFr x.1.2.1)).size; omega)
theorem fo_gPrint : FnOk Tryz.prog 50 sp_gPrint := fnOk_of (C := c_gPrint) iv_gPrint Tryz.func50 rfl (by kernel_rfl) tys_ok (prims_cons (spec_prim fo_gCheck) (prims_cons (spec_prim fo_rPrint) prims_nil)) mixed_ (Nat.le_refl _) rfl fun y x h1 h2 h3 h4 =>
  Eq.mpr (w_gPrint y x) (m_gPrint y x h2 h3 h4)
noncomputable def sp_ffrac : Spec := { q := .un, ps := [.it .i64, .it .i64], rs := [tR], fresh := true, pre := fun _ _ => none, post := fun _ x => ((), (ofFr (fsmall x.1 x.2.1).1, ())) }
noncomputable def iv_ffrac (y : El sp_ffrac.q) (x : Els sp_ffrac.ps) : Nat → Option Inv := fun _ => none
noncomputable abbrev c_ffrac : Cfg := cfgS (Tryz.f49).ntmps false [(40, sp_rSmall.prim)]
def F_ffrac (y : El sp_ffrac.q) (x : Els sp_ffrac.ps) : Prop :=
  ∀ (r : Ro [tR, Ty.it IntKind.i64]), r = pR (fsmall x.1 x.2.1) → (r.2.1, ()) = (ofFr (fsmall x.1 x.2.1).1, ())
theorem w_ffrac (y : El sp_ffrac.q) (x : Els sp_ffrac.ps) : aW c_ffrac (iv_ffrac y x) Tryz.f49 sp_ffrac y x = F_ffrac y x := by kernel_rfl
theorem m_ffrac (y : El (.un)) (x : Els [.it .i64, .it .i64]) (h2 : wfE (.un) y) (h3 : wfEs [.it .i64, .it .i64] x) : F_ffrac y x := by
  unfold F_ffrac
  rintro _ rfl
  rfl
theorem fo_ffrac : FnOk Tryz.prog 49 sp_ffrac := fnOk_of (C := c_ffrac) iv_ffrac Tryz.func49 rfl (by kernel_rfl) tys_ok (prims_cons (spec_prim fo_rSmall) prims_nil) mixed_ (Nat.le_refl _) rfl fun y x h1 h2 h3 h4 =>
  Eq.mpr (w_ffrac y x) (m_ffrac y x h2 h3)
def fitG (a : Ga) : Bool := decide (gchk a = 0 ∧ a.re.num.length ≤ 20 ∧ a.re.den.length ≤ 20 ∧ a.im.num.length ≤ 20 ∧ a.im.den.length ≤ 20)
noncomputable def sp_gfit : Spec := { q := .un, ps := [tG], rs := [.bo], fresh := true, pre := fun _ _ => none, post := fun _ x => ((), (fitG (toGa x.1), ())) }
noncomputable def iv_gfit (y : El sp_gfit.q) (x : Els sp_gfit.ps) : Nat → Option Inv := fun _ => none
noncomputable abbrev c_gfit : Cfg := cfgS (Tryz.f11).ntmps false [(52, sp_gCheck.prim)]
def F_gfit (y : El sp_gfit.q) (x : Els sp_gfit.ps) : Prop :=
  ∀ (r : Ro [Ty.it IntKind.i64]), r = ((), gchk (toGa x.1), ()) → ((r.2.1 == (0 : Int)) = true → (decide ((x.1.1.2.1.length : Int) ≤ (20 : Int)) = true → (decide ((x.1.1.2.2.1.length : Int) ≤ (20 : Int)) = true → (decide ((x.1.2.1.2.1.length : Int) ≤ (20 : Int)) = true → (decide ((x.1.2.1.2.2.1.length : Int) ≤ (20 : Int)), ()) = (fitG (toGa x.1), ())) ∧ (decide ((x.1.2.1.2.1.length : Int) ≤ (20 : Int)) = false → (false, ()) = (fitG (toGa x.1), ()))) ∧ (decide ((x.1.1.2.2.1.length : Int) ≤ (20 : Int)) = false → (false, ()) = (fitG (toGa x.1), ()))) ∧ (decide ((x.1.1.2.1.length : Int) ≤ (20 : Int)) = false → (false, ()) = (fitG (toGa x.1), ()))) ∧ ((r.2.1 == (0 : Int)) = false → (false, ()) = (fitG (toGa x.1), ()))
theorem w_gfit (y : El sp_gfit.q) (x : Els sp_gfit.ps) : aW c_gfit (iv_gfit y x) Tryz.f11 sp_gfit y x = F_gfit y x := by kernel_rfl
theorem m_gfit (y : El (.un)) (x : Els [tG]) (h2 : wfE (.un) y) (h3 : wfEs [tG] x) : F_gfit y x := by
  unfold F_gfit
  rintro _ rfl
  unfold fitG
  refine ⟨fun h => ?_, fun h => ?_⟩
  · have h := eqT h
    refine ⟨fun h1 => ⟨fun h2 => ⟨fun h5 => ?_, fun h5 => ?_⟩, fun h2 => ?_⟩, fun h1 => ?_⟩
    · have h1 := leT h1
      have h2 := leT h2
      have h5 := leT h5
      refine congrArg (fun b => (b, ())) (decide_eq_decide.2 ⟨fun h6 => ⟨h, ?_, ?_, ?_, ?_⟩, fun h6 => ?_⟩)
      · exact Int.ofNat_le.1 h1
      · exact Int.ofNat_le.1 h2
      · exact Int.ofNat_le.1 h5
      · exact Int.ofNat_le.1 h6
      · exact Int.ofNat_le.2 h6.2.2.2.2
    · have h5 := leF h5
      rw [decide_eq_false (fun c => absurd (Int.ofNat_le.2 c.2.2.2.1) (Int.not_le.2 h5))]
    · have h2 := leF h2
      rw [decide_eq_false (fun c => absurd (Int.ofNat_le.2 c.2.2.1) (Int.not_le.2 h2))]
    · have h1 := leF h1
      rw [decide_eq_false (fun c => absurd (Int.ofNat_le.2 c.2.1) (Int.not_le.2 h1))]
  · have h := eqF h
    rw [decide_eq_false (fun c => h c.1)]
theorem fo_gfit : FnOk Tryz.prog 11 sp_gfit := fnOk_of (C := c_gfit) iv_gfit Tryz.func11 rfl (by kernel_rfl) tys_ok (prims_cons (spec_prim fo_gCheck) prims_nil) mixed_ (Nat.le_refl _) rfl fun y x h1 h2 h3 h4 =>
  Eq.mpr (w_gfit y x) (m_gfit y x h2 h3)
abbrev tCalc : Ty := .pr .bo .un
noncomputable def sp_cadd : Spec := { q := tCalc, ps := [tG, tG], rs := [tG], fresh := true, pre := fun _ _ => none, post := fun y x => ((y.1 || decide ((gadd (toGa x.1) (toGa x.2.1)).2 ≠ 0), ()), (ofGa (gadd (toGa x.1) (toGa x.2.1)).1, ())) }
noncomputable def iv_cadd (y : El sp_cadd.q) (x : Els sp_cadd.ps) : Nat → Option Inv := fun _ => none
noncomputable abbrev c_cadd : Cfg := cfgS (Tryz.f13).ntmps true [(54, sp_gAdd.prim)]
def F_cadd (y : El sp_cadd.q) (x : Els sp_cadd.ps) : Prop :=
  ∀ (r : Ro [tG, Ty.it IntKind.i64]), r = pG (gadd (toGa x.1) (toGa x.2.1)) → (y.1 = true → ((true, ()), r.2.1, ()) = ((y.1 || decide ((gadd (toGa x.1) (toGa x.2.1)).2 ≠ (0 : Int)), ()), ofGa (gadd (toGa x.1) (toGa x.2.1)).1, ())) ∧ (y.1 = false → ((r.2.2.1 != (0 : Int), ()), r.2.1, ()) = ((y.1 || decide ((gadd (toGa x.1) (toGa x.2.1)).2 ≠ (0 : Int)), ()), ofGa (gadd (toGa x.1) (toGa x.2.1)).1, ()))
theorem w_cadd (y : El sp_cadd.q) (x : Els sp_cadd.ps) : aW c_cadd (iv_cadd y x) Tryz.f13 sp_cadd y x = F_cadd y x := by kernel_rfl
theorem m_cadd (y : El (tCalc)) (x : Els [tG, tG]) (h2 : wfE (tCalc) y) (h3 : wfEs [tG, tG] x) : F_cadd y x := by
  unfold F_cadd
  rintro _ rfl
  refine ⟨fun h => ?_, fun h => ?_⟩
  · rw [h]
    rfl
  · rw [h]
    refine congrArg (fun b => ((b, ()), (ofGa (gadd (toGa x.1) (toGa x.2.1)).1, ()))) ?_
    show ((gadd (toGa x.1) (toGa x.2.1)).2 != 0) = (false || decide ((gadd (toGa x.1) (toGa x.2.1)).2 ≠ 0))
    rw [Bool.false_or]
    by_cases c : (gadd (toGa x.1) (toGa x.2.1)).2 = 0
    · rw [c]
      rfl
    · rw [decide_eq_true c]
      exact bne_iff_ne.2 c
theorem fo_cadd : FnOk Tryz.prog 13 sp_cadd := fnOk_of (C := c_cadd) iv_cadd Tryz.func13 rfl (by kernel_rfl) tys_ok (prims_cons (spec_prim fo_gAdd) prims_nil) mixed_ (Nat.le_refl _) rfl fun y x h1 h2 h3 h4 =>
  Eq.mpr (w_cadd y x) (m_cadd y x h2 h3)
noncomputable def sp_cmul : Spec := { q := tCalc, ps := [tG, tG], rs := [tG], fresh := true, pre := fun _ _ => none, post := fun y x => ((y.1 || decide ((gmul (toGa x.1) (toGa x.2.1)).2 ≠ 0), ()), (ofGa (gmul (toGa x.1) (toGa x.2.1)).1, ())) }
noncomputable def iv_cmul (y : El sp_cmul.q) (x : Els sp_cmul.ps) : Nat → Option Inv := fun _ => none
noncomputable abbrev c_cmul : Cfg := cfgS (Tryz.f14).ntmps true [(47, sp_gMul.prim)]
def F_cmul (y : El sp_cmul.q) (x : Els sp_cmul.ps) : Prop :=
  ∀ (r : Ro [tG, Ty.it IntKind.i64]), r = pG (gmul (toGa x.1) (toGa x.2.1)) → (y.1 = true → ((true, ()), r.2.1, ()) = ((y.1 || decide ((gmul (toGa x.1) (toGa x.2.1)).2 ≠ (0 : Int)), ()), ofGa (gmul (toGa x.1) (toGa x.2.1)).1, ())) ∧ (y.1 = false → ((r.2.2.1 != (0 : Int), ()), r.2.1, ()) = ((y.1 || decide ((gmul (toGa x.1) (toGa x.2.1)).2 ≠ (0 : Int)), ()), ofGa (gmul (toGa x.1) (toGa x.2.1)).1, ()))
theorem w_cmul (y : El sp_cmul.q) (x : Els sp_cmul.ps) : aW c_cmul (iv_cmul y x) Tryz.f14 sp_cmul y x = F_cmul y x := by kernel_rfl
theorem m_cmul (y : El (tCalc)) (x : Els [tG, tG]) (h2 : wfE (tCalc) y) (h3 : wfEs [tG, tG] x) : F_cmul y x := by
  unfold F_cmul
  rintro _ rfl
  refine ⟨fun h => ?_, fun h => ?_⟩
  · rw [h]
    rfl
  · rw [h]
    refine congrArg (fun b => ((b, ()), (ofGa (gmul (toGa x.1) (toGa x.2.1)).1, ()))) ?_
    show ((gmul (toGa x.1) (toGa x.2.1)).2 != 0) = (false || decide ((gmul (toGa x.1) (toGa x.2.1)).2 ≠ 0))
    rw [Bool.false_or]
    by_cases c : (gmul (toGa x.1) (toGa x.2.1)).2 = 0
    · rw [c]
      rfl
    · rw [decide_eq_true c]
      exact bne_iff_ne.2 c
theorem fo_cmul : FnOk Tryz.prog 14 sp_cmul := fnOk_of (C := c_cmul) iv_cmul Tryz.func14 rfl (by kernel_rfl) tys_ok (prims_cons (spec_prim fo_gMul) prims_nil) mixed_ (Nat.le_refl _) rfl fun y x h1 h2 h3 h4 =>
  Eq.mpr (w_cmul y x) (m_cmul y x h2 h3)
theorem fs_1 : fsmall 1 1 = (enc 1, 0) := fsmall_s (by decide) (by decide +kernel) (by decide +kernel)
theorem fs_2 : fsmall 2 1 = (enc 2, 0) := fsmall_s (by decide) (by decide +kernel) (by decide +kernel)
theorem fs_3 : fsmall 3 1 = (enc 3, 0) := fsmall_s (by decide) (by decide +kernel) (by decide +kernel)
theorem fs_m1 : fsmall (-1) 1 = (enc (-1), 0) := fsmall_s (by decide) (by decide +kernel) (by decide +kernel)
theorem fs_5 : fsmall 5 1 = (enc 5, 0) := fsmall_s (by decide) (by decide +kernel) (by decide +kernel)
theorem fs_35 : fsmall 3 5 = (enc (3/5), 0) := fsmall_s (by decide) (by decide +kernel) (by decide +kernel)
theorem fs_45 : fsmall 4 5 = (enc (4/5), 0) := fsmall_s (by decide) (by decide +kernel) (by decide +kernel)
theorem fs_m45 : fsmall (-4) 5 = (enc (-4/5), 0) := fsmall_s (by decide) (by decide +kernel) (by decide +kernel)
theorem gm_1 : gmul (ge 1 2) (ge 3 (-1)) = (ge 5 5, 0) := gmul_s (u := 3) (v := -2) (x := -1) (y := 6) (by decide +kernel) (by decide +kernel) (by decide +kernel) (by decide +kernel) (by decide +kernel) (by decide +kernel) (by decide +kernel)
theorem szw_1 {q : Rat} (h : sm q = true) : szw 1 q := by
  unfold sm at h
  simp only [Bool.and_eq_true, decide_eq_true_eq] at h
  exact ⟨wd_one_len h.1, wd_one_len h.2⟩
theorem gq_1 : gquo (ge 5 5) (ge 3 (-1)) = (ge 1 2, 0) := by
  rw [gquo_w (m := 1) (n := 1) (szw_1 (by decide +kernel)) (szw_1 (by decide +kernel)) (szw_1 (by decide +kernel)) (szw_1 (by decide +kernel)) (by decide) (by decide +kernel), show ((5 : Rat) * 3 + 5 * -1) / (3 * 3 + -1 * -1) = 1 by decide +kernel, show ((5 : Rat) * 3 - 5 * -1) / (3 * 3 + -1 * -1) = 2 by decide +kernel]
theorem gn_1 : gnorm (ge (3/5) (4/5)) = (enc 1, 0) := by
  rw [gnorm_w (m := 1) (szw_1 (by decide +kernel)) (szw_1 (by decide +kernel)) (by decide), show ((3/5 : Rat) * (3/5) + 4/5 * (4/5)) = 1 by decide +kernel]
theorem sP_s {q : Rat} (h : sm q = true) (h1 : q.num.natAbs < 100) (h2 : q.den < 100) : sP (enc q) := ⟨fchk_s h, by show toN (wd _) < _; rw [toN_wd]; exact h1, by show toN (wd _) < _; rw [toN_wd]; exact h2⟩
theorem tx_1 : txR (enc (3/5)) ++ ⟨#[32]⟩ ++ txR (enc (-4/5)) = ⟨#[51, 47, 53, 32, 45, 52, 47, 53]⟩ := by decide +kernel
theorem gi_12 : (⟨(fsmall 1 1).1, (fsmall 2 1).1⟩ : Ga) = ge 1 2 := by rw [fs_1, fs_2]; rfl
theorem gi_31 : (⟨(fsmall 3 1).1, (fsmall (-1) 1).1⟩ : Ga) = ge 3 (-1) := by rw [fs_3, fs_m1]; rfl
theorem gi_55 : (⟨(fsmall 5 1).1, (fsmall 5 1).1⟩ : Ga) = ge 5 5 := by rw [fs_5]; rfl
noncomputable def sp_gawake : Spec := { q := .un, ps := [], rs := [.bo], fresh := true, pre := fun _ _ => none, post := fun _ x => ((), (true, ())) }
noncomputable def iv_gawake (y : El sp_gawake.q) (x : Els sp_gawake.ps) : Nat → Option Inv := fun _ => none
noncomputable abbrev c_gawake : Cfg := cfgS (Tryz.f10).ntmps false [(48, sp_gInt.prim), (47, sp_gMul.prim), (16, sp_gQuo.prim), (49, sp_ffrac.prim), (20, sp_gNorm.prim), (50, sp_gPrint.prim), (51, p_sure (sp_kSameGauss.prim)), (22, p_sure (sp_kSameRatio.prim))]
def F_gawake (y : El sp_gawake.q) (x : Els sp_gawake.ps) : Prop :=
  ∀ (r : Ro [tG]), r = ((), ofGa { re := (fsmall (1 : Int) (1 : Int)).1, im := (fsmall (2 : Int) (1 : Int)).1 }, ()) → ∀ (r_1 : Ro [tG]), r_1 = ((), ofGa { re := (fsmall (3 : Int) (1 : Int)).1, im := (fsmall (-1 : Int) (1 : Int)).1 }, ()) → ∀ (r_2 : Ro [tG, Ty.it IntKind.i64]), r_2 = pG (gmul (toGa r.2.1) (toGa r_1.2.1)) → ∀ (r : Ro [tG]), r = ((), ofGa { re := (fsmall (5 : Int) (1 : Int)).1, im := (fsmall (5 : Int) (1 : Int)).1 }, ()) → ∀ (r_3 : Ro [tG]), r_3 = ((), ofGa { re := (fsmall (3 : Int) (1 : Int)).1, im := (fsmall (-1 : Int) (1 : Int)).1 }, ()) → ∀ (r_4 : Ro [tG, Ty.it IntKind.i64]), r_4 = pG (gquo (toGa r.2.1) (toGa r_3.2.1)) → ∀ (r : Ro [tR]), r = ((), ofFr (fsmall (3 : Int) (5 : Int)).1, ()) → ∀ (r_5 : Ro [tR]), r_5 = ((), ofFr (fsmall (4 : Int) (5 : Int)).1, ()) → ∀ (r_6 : Ro [tR, Ty.it IntKind.i64]), r_6 = pR (gnorm (toGa (r.2.1, r_5.2))) → ∀ (r : Ro [tR]), r = ((), ofFr (fsmall (3 : Int) (5 : Int)).1, ()) → ∀ (r_7 : Ro [tR]), r_7 = ((), ofFr (fsmall (-4 : Int) (5 : Int)).1, ()) → ((fchk (toFr r.2.1) = (0 : Int) ∧ toN (toFr r.2.1).num < (100 : Nat) ∧ toN (toFr r.2.1).den < (100 : Nat)) ∧ fchk (toFr r_7.2.1) = (0 : Int) ∧ toN (toFr r_7.2.1).num < (100 : Nat) ∧ toN (toFr r_7.2.1).den < (100 : Nat)) ∧ ∀ (r_8 : Ro [Ty.st, Ty.it IntKind.i64]), r_8 = ((), txR (toFr r.2.1) ++ (⟨#[(32 : UInt8)]⟩ : ByteArray) ++ txR (toFr r_7.2.1), (0 : El (Ty.it IntKind.i64)), ()) → ((r_2.2.2.1 == (0 : Int)) = true → ((r_4.2.2.1 == (0 : Int)) = true → ((r_6.2.2.1 == (0 : Int)) = true → ((r_8.2.2.1 == (0 : Int)) = true → ∀ (r : Ro [tG]), r = ((), ofGa { re := (fsmall (5 : Int) (1 : Int)).1, im := (fsmall (5 : Int) (1 : Int)).1 }, ()) → decide (toGa r_2.2.1 = toGa r.2.1) = true ∧ ∀ (r : Ro [tG]), r = ((), ofGa { re := (fsmall (1 : Int) (1 : Int)).1, im := (fsmall (2 : Int) (1 : Int)).1 }, ()) → decide (toGa r_4.2.1 = toGa r.2.1) = true ∧ ∀ (r : Ro [tR]), r = ((), ofFr (fsmall (1 : Int) (1 : Int)).1, ()) → decide (toFr r_6.2.1 = toFr r.2.1) = true ∧ (ByteArray.toList r_8.2.1 == (⟨#[(51 : UInt8), (47 : UInt8), (53 : UInt8), (32 : UInt8), (45 : UInt8), (52 : UInt8), (47 : UInt8), (53 : UInt8)]⟩ : ByteArray).toList, ()) = (true, ())) ∧ ((r_8.2.2.1 == (0 : Int)) = false → (false, ()) = (true, ()))) ∧ ((r_6.2.2.1 == (0 : Int)) = false → (false, ()) = (true, ()))) ∧ ((r_4.2.2.1 == (0 : Int)) = false → (false, ()) = (true, ()))) ∧ ((r_2.2.2.1 == (0 : Int)) = false → (false, ()) = (true, ()))
theorem w_gawake (y : El sp_gawake.q) (x : Els sp_gawake.ps) : aW c_gawake (iv_gawake y x) Tryz.f10 sp_gawake y x = F_gawake y x := by kernel_rfl
theorem m_gawake (y : El (.un)) (x : Els []) (h2 : wfE (.un) y) (h3 : wfEs [] x) : F_gawake y x := by
  unfold F_gawake
  rw [gi_12, gi_31, gi_55, fs_35, fs_45, fs_m45, fs_1]
  rintro _ rfl _ rfl _ hr
  obtain rfl := hr.trans (congrArg pG gm_1)
  rintro _ rfl _ rfl _ hr
  obtain rfl := hr.trans (congrArg pG gq_1)
  rintro _ rfl _ rfl _ hr
  obtain rfl := hr.trans (congrArg pR gn_1)
  rintro _ rfl _ rfl
  refine ⟨⟨sP_s (q := 3/5) (by decide +kernel) (by decide +kernel) (by decide +kernel), sP_s (q := -4/5) (by decide +kernel) (by decide +kernel) (by decide +kernel)⟩, ?_⟩
  intro r hr
  obtain rfl := hr.trans (congrArg (fun s => (((), s, (0 : Int), ()) : El .un × Els [.st, .it .i64])) tx_1)
  refine ⟨fun _ => ⟨fun _ => ⟨fun _ => ⟨fun _ => ?_, fun h => Bool.noConfusion (show true = false from h)⟩, fun h => Bool.noConfusion (show true = false from h)⟩, fun h => Bool.noConfusion (show true = false from h)⟩, fun h => Bool.noConfusion (show true = false from h)⟩
  rintro _ rfl
  refine ⟨decide_eq_true rfl, ?_⟩
  rintro _ rfl
  refine ⟨decide_eq_true rfl, ?_⟩
  rintro _ rfl
  exact ⟨decide_eq_true rfl, congrArg (fun b => (b, ())) (beq_self_eq_true _)⟩
theorem fo_gawake : FnOk Tryz.prog 10 sp_gawake := fnOk_of (C := c_gawake) iv_gawake Tryz.func10 rfl (by kernel_rfl) tys_ok (prims_cons (spec_prim fo_gInt) (prims_cons (spec_prim fo_gMul) (prims_cons (spec_prim fo_gQuo) (prims_cons (spec_prim fo_ffrac) (prims_cons (spec_prim fo_gNorm) (prims_cons (spec_prim fo_gPrint) (prims_cons (pr_sure (spec_prim fo_kSameGauss)) (prims_cons (pr_sure (spec_prim fo_kSameRatio)) prims_nil)))))))) mixed_ (Nat.le_refl _) rfl fun y x h1 h2 h3 h4 =>
  Eq.mpr (w_gawake y x) (m_gawake y x h2 h3)
theorem cadd_ok {y : Bool} {G H K : Ga} (e : gadd G H = (K, 0)) : (((y || decide ((gadd G H).2 ≠ 0), ()), ofGa (gadd G H).1, ()) : El tCalc × Els [tG]) = ((y, ()), ofGa K, ()) := by
  rw [e]
  simp
theorem cmul_ok {y : Bool} {G H K : Ga} (e : gmul G H = (K, 0)) : (((y || decide ((gmul G H).2 ≠ 0), ()), ofGa (gmul G H).1, ()) : El tCalc × Els [tG]) = ((y, ()), ofGa K, ()) := by
  rw [e]
  simp
theorem fit_of {g : El tG} (h3 : wfE tG g) (h : fitG (toGa g) = true) : ∃ a b, toGa g = ge a b ∧ szw 20 a ∧ szw 20 b := by
  obtain ⟨c, l1, l2, l3, l4⟩ := of_decide_eq_true h
  exact ge_of (wf_ga h3) c l1 l2 l3 l4
theorem div_back {a b c d : Rat} (hz : ¬ (c = 0 ∧ d = 0)) : ((a * c - b * d) * c + (a * d + b * c) * d) / (c * c + d * d) = a ∧ ((a * d + b * c) * c - (a * c - b * d) * d) / (c * c + d * d) = b := by
  have n : c * c + d * d ≠ 0 := fun e => hz (norm_zero e)
  rw [show (a * c - b * d) * c + (a * d + b * c) * d = a * (c * c + d * d) by grind, show (a * d + b * c) * c - (a * c - b * d) * d = b * (c * c + d * d) by grind]
  generalize c * c + d * d = m at n
  exact ⟨by grind, by grind⟩
noncomputable def sp_lawGaussField : Spec := { q := .un, ps := [tG, tG, tG], rs := [.bo], fresh := true, pre := fun _ _ => none, post := fun _ _ => ((), (true, ())) }
noncomputable def iv_lawGaussField (y : El sp_lawGaussField.q) (x : Els sp_lawGaussField.ps) : Nat → Option Inv := fun _ => none
noncomputable abbrev c_lawGaussField : Cfg := cfgS (Tryz.f3).ntmps false [(10, p_sure (sp_gawake.prim)), (11, sp_gfit.prim), (13, sp_cadd.prim), (14, sp_cmul.prim), (12, p_sure (sp_gSame.prim)), (15, sp_gSub.prim), (16, sp_gQuo.prim), (17, sp_gZero.prim)]
def F_lawGaussField (y : El sp_lawGaussField.q) (x : Els sp_lawGaussField.ps) : Prop :=
  true = true ∧ ∀ (r : Ro [Ty.bo]), r = ((), fitG (toGa x.1), ()) → ((!r.2.1) = true → (true, ()) = (true, ())) ∧ ((!r.2.1) = false → ∀ (r : Ro [Ty.bo]), r = ((), fitG (toGa x.2.1), ()) → ((!r.2.1) = true → (true, ()) = (true, ())) ∧ ((!r.2.1) = false → ∀ (r : Ro [Ty.bo]), r = ((), fitG (toGa x.2.2.1), ()) → ((!r.2.1) = true → (true, ()) = (true, ())) ∧ ((!r.2.1) = false → ∀ (r : El tCalc × Els [tG]), r = ((false || decide ((gadd (toGa x.1) (toGa x.2.1)).2 ≠ (0 : Int)), ()), ofGa (gadd (toGa x.1) (toGa x.2.1)).1, ()) → ∀ (r_1 : El tCalc × Els [tG]), r_1 = ((r.1.1 || decide ((gadd (toGa x.2.1) (toGa x.1)).2 ≠ (0 : Int)), ()), ofGa (gadd (toGa x.2.1) (toGa x.1)).1, ()) → gsame (toGa r.2.1) (toGa r_1.2.1) = true ∧ ∀ (r : El tCalc × Els [tG]), r = ((r_1.1.1 || decide ((gadd (toGa x.1) (toGa x.2.1)).2 ≠ (0 : Int)), ()), ofGa (gadd (toGa x.1) (toGa x.2.1)).1, ()) → ∀ (r_2 : El tCalc × Els [tG]), r_2 = ((r.1.1 || decide ((gadd (toGa r.2.1) (toGa x.2.2.1)).2 ≠ (0 : Int)), ()), ofGa (gadd (toGa r.2.1) (toGa x.2.2.1)).1, ()) → ∀ (r : El tCalc × Els [tG]), r = ((r_2.1.1 || decide ((gadd (toGa x.2.1) (toGa x.2.2.1)).2 ≠ (0 : Int)), ()), ofGa (gadd (toGa x.2.1) (toGa x.2.2.1)).1, ()) → ∀ (r_3 : El tCalc × Els [tG]), r_3 = ((r.1.1 || decide ((gadd (toGa x.1) (toGa r.2.1)).2 ≠ (0 : Int)), ()), ofGa (gadd (toGa x.1) (toGa r.2.1)).1, ()) → gsame (toGa r_2.2.1) (toGa r_3.2.1) = true ∧ ∀ (r : El tCalc × Els [tG]), r = ((r_3.1.1 || decide ((gmul (toGa x.1) (toGa x.2.1)).2 ≠ (0 : Int)), ()), ofGa (gmul (toGa x.1) (toGa x.2.1)).1, ()) → ∀ (r_4 : El tCalc × Els [tG]), r_4 = ((r.1.1 || decide ((gmul (toGa x.2.1) (toGa x.1)).2 ≠ (0 : Int)), ()), ofGa (gmul (toGa x.2.1) (toGa x.1)).1, ()) → gsame (toGa r.2.1) (toGa r_4.2.1) = true ∧ ∀ (r : El tCalc × Els [tG]), r = ((r_4.1.1 || decide ((gmul (toGa x.1) (toGa x.2.1)).2 ≠ (0 : Int)), ()), ofGa (gmul (toGa x.1) (toGa x.2.1)).1, ()) → ∀ (r_5 : El tCalc × Els [tG]), r_5 = ((r.1.1 || decide ((gmul (toGa r.2.1) (toGa x.2.2.1)).2 ≠ (0 : Int)), ()), ofGa (gmul (toGa r.2.1) (toGa x.2.2.1)).1, ()) → ∀ (r : El tCalc × Els [tG]), r = ((r_5.1.1 || decide ((gmul (toGa x.2.1) (toGa x.2.2.1)).2 ≠ (0 : Int)), ()), ofGa (gmul (toGa x.2.1) (toGa x.2.2.1)).1, ()) → ∀ (r_6 : El tCalc × Els [tG]), r_6 = ((r.1.1 || decide ((gmul (toGa x.1) (toGa r.2.1)).2 ≠ (0 : Int)), ()), ofGa (gmul (toGa x.1) (toGa r.2.1)).1, ()) → gsame (toGa r_5.2.1) (toGa r_6.2.1) = true ∧ ∀ (r : El tCalc × Els [tG]), r = ((r_6.1.1 || decide ((gadd (toGa x.2.1) (toGa x.2.2.1)).2 ≠ (0 : Int)), ()), ofGa (gadd (toGa x.2.1) (toGa x.2.2.1)).1, ()) → ∀ (r_7 : El tCalc × Els [tG]), r_7 = ((r.1.1 || decide ((gmul (toGa x.1) (toGa r.2.1)).2 ≠ (0 : Int)), ()), ofGa (gmul (toGa x.1) (toGa r.2.1)).1, ()) → ∀ (r : El tCalc × Els [tG]), r = ((r_7.1.1 || decide ((gmul (toGa x.1) (toGa x.2.1)).2 ≠ (0 : Int)), ()), ofGa (gmul (toGa x.1) (toGa x.2.1)).1, ()) → ∀ (r_8 : El tCalc × Els [tG]), r_8 = ((r.1.1 || decide ((gmul (toGa x.1) (toGa x.2.2.1)).2 ≠ (0 : Int)), ()), ofGa (gmul (toGa x.1) (toGa x.2.2.1)).1, ()) → ∀ (r_9 : El tCalc × Els [tG]), r_9 = ((r_8.1.1 || decide ((gadd (toGa r.2.1) (toGa r_8.2.1)).2 ≠ (0 : Int)), ()), ofGa (gadd (toGa r.2.1) (toGa r_8.2.1)).1, ()) → gsame (toGa r_7.2.1) (toGa r_9.2.1) = true ∧ ∀ (r : El tCalc × Els [tG]), r = ((r_9.1.1 || decide ((gadd (toGa x.1) (toGa x.2.1)).2 ≠ (0 : Int)), ()), ofGa (gadd (toGa x.1) (toGa x.2.1)).1, ()) → ∀ (r_10 : Ro [tG, Ty.it IntKind.i64]), r_10 = pG (gsub (toGa r.2.1) (toGa x.2.1)) → ∀ (r_11 : El tCalc × Els [tG]), r_11 = ((r.1.1 || decide ((gmul (toGa x.1) (toGa x.2.1)).2 ≠ (0 : Int)), ()), ofGa (gmul (toGa x.1) (toGa x.2.1)).1, ()) → ∀ (r : Ro [tG, Ty.it IntKind.i64]), r = pG (gquo (toGa r_11.2.1) (toGa x.2.1)) → ∀ (r_12 : Ro [Ty.bo]), r_12 = ((), gzero (toGa x.2.1), ()) → (r_12.2.1 = true → ((!r_11.1.1) = true → ((r_10.2.2.1 == (0 : Int)) = true → gsame (toGa r_10.2.1) (toGa x.1) = true ∧ (r.2.2.1 == (7 : Int), ()) = (true, ())) ∧ ((r_10.2.2.1 == (0 : Int)) = false → (false, ()) = (true, ()))) ∧ ((!r_11.1.1) = false → (false, ()) = (true, ()))) ∧ (r_12.2.1 = false → ((!r_11.1.1) = true → ((r_10.2.2.1 == (0 : Int)) = true → ((r.2.2.1 == (0 : Int)) = true → gsame (toGa r_10.2.1) (toGa x.1) = true ∧ gsame (toGa r.2.1) (toGa x.1) = true ∧ (true, ()) = (true, ())) ∧ ((r.2.2.1 == (0 : Int)) = false → (false, ()) = (true, ()))) ∧ ((r_10.2.2.1 == (0 : Int)) = false → (false, ()) = (true, ()))) ∧ ((!r_11.1.1) = false → (false, ()) = (true, ()))))))
theorem w_lawGaussField (y : El sp_lawGaussField.q) (x : Els sp_lawGaussField.ps) : aW c_lawGaussField (iv_lawGaussField y x) Tryz.f3 sp_lawGaussField y x = F_lawGaussField y x := by kernel_rfl
theorem m_lawGaussField (y : El (.un)) (x : Els [tG, tG, tG]) (h2 : wfE (.un) y) (h3 : wfEs [tG, tG, tG] x) : F_lawGaussField y x := by
  unfold F_lawGaussField
  refine ⟨rfl, ?_⟩
  rintro _ rfl
  refine ⟨fun _ => rfl, fun f1 => ?_⟩
  rintro _ rfl
  refine ⟨fun _ => rfl, fun f2 => ?_⟩
  rintro _ rfl
  refine ⟨fun _ => rfl, fun f3 => ?_⟩
  obtain ⟨a, b, ea, sa, sb⟩ := fit_of h3.1 (nff f1)
  obtain ⟨c, d, eb, sc, sd⟩ := fit_of h3.2.1 (nff f2)
  obtain ⟨u, v, ed, su, sv⟩ := fit_of h3.2.2.1 (nff f3)
  rw [ea, eb, ed]
  clear f1 f2 f3
  have e1 := gadd_w sa sb sc sd (by decide)
  have e2 := gadd_w sc sd sa sb (by decide)
  have p1 : szw 41 (a + c) := sa.add sc
  have p2 : szw 41 (b + d) := sb.add sd
  have e3 := gadd_w p1 p2 su sv (by decide)
  have p3 : szw 62 (a + c + u) := p1.add su
  have p4 : szw 62 (b + d + v) := p2.add sv
  have e4 := gadd_w sc sd su sv (by decide)
  have p5 : szw 41 (c + u) := sc.add su
  have p6 : szw 41 (d + v) := sd.add sv
  have e5 := gadd_w sa sb p5 p6 (by decide)
  have m1 := gmul_w sa sb sc sd (by decide)
  have m2 := gmul_w sc sd sa sb (by decide)
  have t1 : szw 81 (a * c - b * d) := (sa.mul sc).sub (sb.mul sd)
  have t2 : szw 81 (a * d + b * c) := (sa.mul sd).add (sb.mul sc)
  have m3 := gmul_w t1 t2 su sv (by decide)
  have t3 : szw 203 ((a * c - b * d) * u - (a * d + b * c) * v) := (t1.mul su).sub (t2.mul sv)
  have t4 : szw 203 ((a * c - b * d) * v + (a * d + b * c) * u) := (t1.mul sv).add (t2.mul su)
  have m4 := gmul_w sc sd su sv (by decide)
  have t5 : szw 81 (c * u - d * v) := (sc.mul su).sub (sd.mul sv)
  have t6 : szw 81 (c * v + d * u) := (sc.mul sv).add (sd.mul su)
  have m5 := gmul_w sa sb t5 t6 (by decide)
  have m6 := gmul_w sa sb p5 p6 (by decide)
  have t7 : szw 123 (a * (c + u) - b * (d + v)) := (sa.mul p5).sub (sb.mul p6)
  have t8 : szw 123 (a * (d + v) + b * (c + u)) := (sa.mul p6).add (sb.mul p5)
  have m7 := gmul_w sa sb su sv (by decide)
  have t9 : szw 81 (a * u - b * v) := (sa.mul su).sub (sb.mul sv)
  have t10 : szw 81 (a * v + b * u) := (sa.mul sv).add (sb.mul su)
  have e6 := gadd_w t1 t2 t9 t10 (by decide)
  have s1 : gsub (ge (a + c) (b + d)) (ge c d) = (ge a b, 0) := by rw [gsub_w p1 p2 sc sd (by decide), show a + c - c = a by grind, show b + d - d = b by grind]
  intro r hr
  obtain rfl := hr.trans (cadd_ok (y := false) e1)
  intro r hr
  obtain rfl := hr.trans (cadd_ok (y := false) e2)
  refine ⟨gsame_w p1 p2 (by decide) (by grind) (by grind), ?_⟩
  intro r hr
  obtain rfl := hr.trans (cadd_ok (y := false) e1)
  intro r hr
  obtain rfl := hr.trans (cadd_ok (y := false) e3)
  intro r hr
  obtain rfl := hr.trans (cadd_ok (y := false) e4)
  intro r hr
  obtain rfl := hr.trans (cadd_ok (y := false) e5)
  refine ⟨gsame_w p3 p4 (by decide) (by grind) (by grind), ?_⟩
  intro r hr
  obtain rfl := hr.trans (cmul_ok (y := false) m1)
  intro r hr
  obtain rfl := hr.trans (cmul_ok (y := false) m2)
  refine ⟨gsame_w t1 t2 (by decide) (by grind) (by grind), ?_⟩
  intro r hr
  obtain rfl := hr.trans (cmul_ok (y := false) m1)
  intro r hr
  obtain rfl := hr.trans (cmul_ok (y := false) m3)
  intro r hr
  obtain rfl := hr.trans (cmul_ok (y := false) m4)
  intro r hr
  obtain rfl := hr.trans (cmul_ok (y := false) m5)
  refine ⟨gsame_w t3 t4 (by decide) (by grind) (by grind), ?_⟩
  intro r hr
  obtain rfl := hr.trans (cadd_ok (y := false) e4)
  intro r hr
  obtain rfl := hr.trans (cmul_ok (y := false) m6)
  intro r hr
  obtain rfl := hr.trans (cmul_ok (y := false) m1)
  intro r hr
  obtain rfl := hr.trans (cmul_ok (y := false) m7)
  intro r hr
  obtain rfl := hr.trans (cadd_ok (y := false) e6)
  refine ⟨gsame_w t7 t8 (by decide) (by grind) (by grind), ?_⟩
  intro r hr
  obtain rfl := hr.trans (cadd_ok (y := false) e1)
  intro r hr
  obtain rfl := hr.trans (congrArg pG s1)
  intro r hr
  obtain rfl := hr.trans (cmul_ok (y := false) m1)
  intro r hr
  rintro _ rfl
  by_cases hz : c = 0 ∧ d = 0
  · have z : gzero (ge c d) = true := by rw [gzero_w sc sd (by decide), decide_eq_true hz]
    have q : gquo (ge (a * c - b * d) (a * d + b * c)) (ge c d) = (Ga.zero, 7) := gquo_2 (ge_chk2 t1 t2 sc sd (by decide) (by decide)) z
    obtain rfl := hr.trans (congrArg pG q)
    refine ⟨fun _ => ⟨fun _ => ⟨fun _ => ⟨gsame_w sa sb (by decide) rfl rfl, rfl⟩, fun h => Bool.noConfusion (show true = false from h)⟩, fun h => Bool.noConfusion (show true = false from h)⟩, fun h => Bool.noConfusion (z.symm.trans h)⟩
  · have z : gzero (ge c d) = false := by rw [gzero_w sc sd (by decide), decide_eq_false hz]
    have q : gquo (ge (a * c - b * d) (a * d + b * c)) (ge c d) = (ge a b, 0) := by rw [gquo_w t1 t2 sc sd (by decide) hz, (div_back hz).1, (div_back hz).2]
    obtain rfl := hr.trans (congrArg pG q)
    refine ⟨fun h => Bool.noConfusion (z.symm.trans h), fun _ => ⟨fun _ => ⟨fun _ => ⟨fun _ => ⟨gsame_w sa sb (by decide) rfl rfl, gsame_w sa sb (by decide) rfl rfl, rfl⟩, fun h => Bool.noConfusion (show true = false from h)⟩, fun h => Bool.noConfusion (show true = false from h)⟩, fun h => Bool.noConfusion (show true = false from h)⟩⟩
theorem fo_lawGaussField : FnOk Tryz.prog 3 sp_lawGaussField := fnOk_of (C := c_lawGaussField) iv_lawGaussField Tryz.func3 rfl (by kernel_rfl) tys_ok (prims_cons (pr_sure (spec_prim fo_gawake)) (prims_cons (spec_prim fo_gfit) (prims_cons (spec_prim fo_cadd) (prims_cons (spec_prim fo_cmul) (prims_cons (pr_sure (spec_prim fo_gSame)) (prims_cons (spec_prim fo_gSub) (prims_cons (spec_prim fo_gQuo) (prims_cons (spec_prim fo_gZero) prims_nil)))))))) mixed_ (Nat.le_refl _) rfl fun y x h1 h2 h3 h4 =>
  Eq.mpr (w_lawGaussField y x) (m_lawGaussField y x h2 h3)
end Go.Proofs.YtakaehdolpmelaaGreatDoor
namespace Go.Proofs.YtakaehdolpmelaaGreatDoor
open Go.ChangeShapes Go.WideShapes Go.ChangeAt Go.RowKit Go.Joins Go.Deep
set_option linter.unusedVariables false
section
variable {H : Type} {enc : TypeId × Value → H} {P : Program} {w : World} {base : Nat} {spare : Nat → Bool} {held : Bool}
end
theorem mk_own : ownKnob Tryz.prog.godebug = none := by kernel_rfl
theorem mk_laidOut : laidOutB Tryz.prog = true := by kernel_rfl
end Go.Proofs.YtakaehdolpmelaaGreatDoor
namespace Go.Proofs.YtakaehdolpmelaaGreatDoor
open Go Go.RowKit Go.ChangeShapes Go.WideShapes Go.ChangeAt Go.Joins Go.Deep
def Ty.inn : Ty → Bool
  | .bo => true
  | .it _ => true
  | .st => true
  | .sl t => t.inn && !Nat.beq t.size 0
  | .pr a b => a.inn && b.inn
  | .un => true
  | _ => false
abbrev Zw (W : World) : Nat → Prop := fun g => g < W.heap.size
theorem lit_wf {k : IntKind} {n : Int} (h : (Lit.int k n).wf = true) : k.min ≤ n ∧ n ≤ k.max := by simpa [Lit.wf] using h
theorem inn_struct {P : Program} {tb : Tbl} {t e : Nat} {a b : Ty} (h : TyOk P tb t (.pr a b) e) : ∃ fs, P.underlying t = some (.struct fs) ∧ fsB tb (.pr a b) 0 fs.toList = true := by
  obtain ⟨d, h1, h2⟩ := h.und
  unfold dscB at h2
  split at h2 <;> first
    | (cases h2; done)
    | (rename_i e2; cases e2; done)
    | skip
  all_goals
    rename_i e2
    cases e2
    exact ⟨_, h1, h2⟩
theorem inn_slice {P : Program} {tb : Tbl} {t e : Nat} {u : Ty} (h : TyOk P tb t (.sl u) e) : P.underlying t = some (.slice e) ∧ ∃ e', look tb e = some (u, e') := by
  obtain ⟨d, h1, h2⟩ := h.und
  unfold dscB at h2
  split at h2 <;> first
    | (cases h2; done)
    | (rename_i e2; cases e2; done)
    | skip
  all_goals
    rename_i e2
    cases e2
    simp only [Bool.and_eq_true] at h2
    rw [Nat.eq_of_beq_eq_true h2.1] at h1
    exact ⟨h1, isT_look h2.2⟩
theorem size_of_ {P : Program} {tb : Tbl} {t e : Nat} {y : Ty} (h : TyOk P tb t y e) : P.cellsOf t = y.size := by
  obtain ⟨i, z, h1, h2, _⟩ := h.info
  simp [Program.cellsOf, h1, h2]
theorem rt_in {H : Type} {enc : TypeId × Value → H} {P : Program} {W : World} {tb : Tbl} (hT : tyB P tb tb = true) : ∀ (y : Ty), y.inn = true →
    (∀ {t e fuel : Nat} {cs : List Value} {x : DataW H × List MemPlace}, look tb t = some (y, e) → DataW.trod enc P W 0 (fun _ => true) true fuel t cs = some x → ∃ v : El y, RT (Zw W) W y v cs) ∧
    (∀ {o : Nat} {fs : List Field} {cs : List Value}, fsB tb y o fs = true → (∀ (i : Nat) (f : Field), fs[i]? = some f → ∃ (n : Nat) (x : DataW H × List MemPlace), DataW.trod enc P W 0 (fun _ => true) true n f.type ((cs.drop f.offset).take (P.cellsOf f.type)) = some x) → cs.length = o + y.size → ∃ v : El y, RT (Zw W) W y v (cs.drop o))
  | .bo, _ => by
    refine ⟨fun {t e fuel cs x} hl h => ?_, fun {o fs cs} h _ _ => by simp [fsB] at h⟩
    obtain ⟨d, h1, h2⟩ := (tyB_sound hT hl).und
    have : d = .bool := by cases d <;> simp [dscB] at h2; rfl
    subst this
    obtain ⟨b, rfl, _⟩ := DataW.trod_bool h1 h
    exact ⟨b, by rw [RT]⟩
  | .it k, _ => by
    refine ⟨fun {t e fuel cs x} hl h => ?_, fun {o fs cs} h _ _ => by simp [fsB] at h⟩
    obtain ⟨d, h1, h2⟩ := (tyB_sound hT hl).und
    have : d = .int k := by cases d <;> simp [dscB] at h2; rw [h2]
    subst this
    obtain ⟨n, rfl, _, hw⟩ := DataW.trod_int h1 h
    exact ⟨n, by rw [RT]; exact ⟨rfl, lit_wf hw⟩⟩
  | .st, _ => by
    refine ⟨fun {t e fuel cs x} hl h => ?_, fun {o fs cs} h _ _ => by simp [fsB] at h⟩
    obtain ⟨d, h1, h2⟩ := (tyB_sound hT hl).und
    have : d = .string := by cases d <;> simp [dscB] at h2; rfl
    subst this
    obtain ⟨s, rfl, _, hs⟩ := DataW.trod_string h1 h
    exact ⟨s, by rw [RT]; exact ⟨rfl, by simp only [maxLen] at hs; omega⟩⟩
  | .un, _ => by
    refine ⟨fun {t e fuel cs x} hl h => ?_, fun {o fs cs} _ _ hl => ⟨(), by rw [RT]; exact List.drop_of_length_le (by rw [hl]; exact Nat.le_refl _)⟩⟩
    obtain ⟨d, h1, h2⟩ := (tyB_sound hT hl).und
    cases d with
    | struct fs =>
      obtain ⟨xs, n, _, _, hl', _⟩ := DataW.trod_struct h1 h
      rw [size_of_ (tyB_sound hT hl)] at hl'
      exact ⟨(), by rw [RT]; exact List.eq_nil_of_length_eq_zero hl'⟩
    | _ => simp [dscB] at h2
  | .sl u, hy => by
    refine ⟨fun {t e fuel cs x} hl h => ?_, fun {o fs cs} h _ _ => by simp [fsB] at h⟩
    simp only [Ty.inn, Bool.and_eq_true, Bool.not_eq_true'] at hy
    have hu : u.size ≠ 0 := fun e0 => by rw [e0] at hy; exact absurd hy.2 (by decide)
    obtain ⟨h1, e', h2⟩ := inn_slice (tyB_sound hT hl)
    have hs := size_of_ (tyB_sound hT h2)
    rcases open_slice h1 h with ⟨rfl, _⟩ | ⟨a, len, cap, m, n, D, Pl, rfl, _, hl2, hm, rfl, _, hi⟩
    · exact ⟨[], RT.sl_nil _ _ _⟩
    · have hi : ∀ i, i < m → ∃ cs', W.cells? 0 (a.add (i * P.cellsOf e)) (P.cellsOf e) = some cs' ∧ DataW.trod enc P W 0 (fun _ => true) true n e cs' = some (D i, Pl i) := fun i hic => hi i hic
      simp only [maxLen] at hm
      have each : ∀ j, j < len → ∃ v : El u, ∃ us, RT (Zw W) W u v us ∧ us.length = u.size ∧ ∀ (i : Nat) (z : Value), us[i]? = some z → W.cell? ((a.add (j * u.size)).add i) = some z := fun j hj => by
        obtain ⟨us, k1, k2⟩ := hi j (by omega)
        obtain ⟨_, k3, k4⟩ := World.cells?_some k1
        obtain ⟨v, hv⟩ := (rt_in hT u hy.1).1 h2 k2
        rw [hs] at k3 k4
        refine ⟨v, us, hv, k3, fun i z hz => ?_⟩
        rw [k4 i (by rw [← k3]; exact (List.getElem?_eq_some_iff.1 hz).1)]
        exact hz
      haveI : Inhabited (El u) := ⟨dfl u⟩
      obtain ⟨f, hf⟩ := choose_lt each
      have hlen : ((List.range len).map f).length = len := by simp
      refine ⟨(List.range len).map f, ?_⟩
      rw [RT]
      refine ⟨some a, m, by rw [hlen], by rw [hlen]; exact hl2, by omega, (fun e => by cases e), fun j hj => ?_⟩
      rw [hlen] at hj
      obtain ⟨us, k1, k2, k3⟩ := hf j hj
      have e1 : ((List.range len).map f)[j]'(by rw [hlen]; exact hj) = f j := by simp
      rw [e1]
      have hpos : 0 < us.length := by omega
      obtain ⟨us0, _, l2, l3⟩ := hf 0 (by omega)
      have d0 := l3 0 _ (List.getElem?_eq_getElem (show 0 < us0.length by omega))
      have c0 := k3 0 _ (List.getElem?_eq_getElem hpos)
      obtain ⟨g, o, s⟩ := a
      cases s with
      | some s =>
        exfalso
        have e3 : ((⟨g, o, some s⟩ : Addr).add (0 * u.size)).add 0 = ⟨g, o, some s⟩ := by rw [Nat.zero_mul]; rfl
        rw [e3] at d0
        unfold World.cell? at d0
        split at d0 <;> simp at d0
      | none =>
        have e2 : ∀ i, ((⟨g, o, none⟩ : Addr).add (j * u.size)).add i = ⟨g, o + (j * u.size + i), none⟩ := fun i => by rw [add_plain, add_plain, Nat.add_assoc]
        refine ⟨g, o, us, rfl, ?_, k1, fun i z hz => ?_⟩
        · rw [e2] at c0
          exact World.block_lt_of_cell? W _ c0
        · have := k3 i z hz
          rw [e2] at this
          exact this
  | .pr a b, hy => by
    simp only [Ty.inn, Bool.and_eq_true] at hy
    have key : ∀ {o : Nat} {fs : List Field} {cs : List Value}, fsB tb (.pr a b) o fs = true → (∀ (i : Nat) (f : Field), fs[i]? = some f → ∃ (n : Nat) (x : DataW H × List MemPlace), DataW.trod enc P W 0 (fun _ => true) true n f.type ((cs.drop f.offset).take (P.cellsOf f.type)) = some x) → cs.length = o + (Ty.pr a b).size → ∃ v : El (.pr a b), RT (Zw W) W (.pr a b) v (cs.drop o) := fun {o fs cs} h hf hl => by
      cases fs with
      | nil => simp [fsB] at h
      | cons f fs =>
        simp only [fsB, Bool.and_eq_true] at h
        obtain ⟨⟨h1, h2⟩, h3⟩ := h
        obtain ⟨e, h2⟩ := isT_look h2
        obtain ⟨n, x, h4⟩ := hf 0 f rfl
        obtain ⟨v, hv⟩ := (rt_in hT a hy.1).1 h2 h4
        have hl' : cs.length = o + a.size + b.size := by rw [hl]; show o + (a.size + b.size) = _; omega
        obtain ⟨v', hv'⟩ := (rt_in hT b hy.2).2 h3 (fun i f' h => hf (i + 1) f' (by simpa using h)) hl'
        rw [Nat.eq_of_beq_eq_true h1, size_of_ (tyB_sound hT h2)] at hv
        refine ⟨(v, v'), ?_⟩
        rw [RT]
        refine ⟨_, _, ?_, hv, hv'⟩
        rw [← List.drop_drop, List.take_append_drop]
    refine ⟨fun {t e fuel cs x} hl h => ?_, key⟩
    obtain ⟨fs, h1, h2⟩ := inn_struct (tyB_sound hT hl)
    obtain ⟨xs, n, _, _, h3, h4, h5⟩ := DataW.trod_struct h1 h
    rw [size_of_ (tyB_sound hT hl)] at h3
    have := key (cs := cs) h2 (fun i f hf => by
      have hi := (List.getElem?_eq_some_iff.1 hf).1
      have h6 := h5 i f (by simpa using hf)
      have h7 : i < xs.length := by rw [h4]; simpa using hi
      exact ⟨n, xs[i], h6.trans (List.getElem?_eq_getElem h7)⟩) (by omega)
    simpa using this
  | .pt _, h => by cases h
  | .fn, h => by cases h
  | .lt _, h => by cases h
  | .lf _, h => by cases h
  | .oq, h => by cases h
theorem rv_in {H : Type} {enc : TypeId × Value → H} {P : Program} {W : World} {tb : Tbl} (hT : tyB P tb tb = true) {b0 t e : Nat} (y : Ty) (hy : y.inn = true) (hl : look tb t = some (y, e)) {v : Value} {d : DataW H} {p : List MemPlace} (hv : Value.okWide P W .any b0 t v) (h : DataW.Trod enc P W 0 (fun _ => true) true t v d p) : ∃ x : El y, RV (Zw W) W y x v := by
  obtain ⟨fuel, h⟩ := h
  have hty := tyB_sound hT hl
  obtain ⟨x, hx⟩ := (rt_in hT y hy).1 hl h
  refine ⟨x, ?_⟩
  unfold RV
  have one : v.cells.toList = [v] → y.agg = false → (if y.agg = true then ∃ us, v = .agg us ∧ RT (Zw W) W y x us.toList else RT (Zw W) W y x [v]) := fun h1 h2 => by
    rw [if_neg (by simp [h2]), ← h1]; exact hx
  obtain ⟨dsc, u1, u2⟩ := hty.und
  cases y with
  | bo =>
    have : dsc = .bool := by cases dsc <;> simp [dscB] at u2; rfl
    subst this
    obtain ⟨b, rfl⟩ := okWide_bool u1 hv
    exact one rfl rfl
  | it k =>
    have : dsc = .int k := by cases dsc <;> simp [dscB] at u2; rw [u2]
    subst this
    obtain ⟨n, rfl⟩ := okWide_int u1 hv
    exact one rfl rfl
  | st =>
    have : dsc = .string := by cases dsc <;> simp [dscB] at u2; rfl
    subst this
    obtain ⟨n, rfl⟩ := okWide_string u1 hv
    exact one rfl rfl
  | sl u =>
    obtain ⟨h1, _⟩ := inn_slice hty
    obtain ⟨A, l, c, rfl⟩ := okWide_slice h1 hv
    exact one rfl rfl
  | un =>
    cases dsc with
    | struct fs =>
      obtain ⟨cs, rfl, _⟩ := okWide_struct u1 hv
      rw [if_pos (show Ty.un.agg = true from rfl)]
      exact ⟨cs, rfl, hx⟩
    | _ => simp [dscB] at u2
  | pr a b =>
    obtain ⟨fs, h1, _⟩ := inn_struct hty
    obtain ⟨cs, rfl, _⟩ := okWide_struct h1 hv
    rw [if_pos (show (Ty.pr a b).agg = true from rfl)]
    exact ⟨cs, rfl, hx⟩
  | pt _ => cases hy
  | fn => cases hy
  | lt _ => cases hy
  | lf _ => cases hy
  | oq => cases hy
theorem law_calls {P : Program} {f : Nat} {ps : List Ty} (h : FnOk P f { q := .un, ps := ps, rs := [.bo], fresh := true, pre := fun _ _ => none, post := fun _ _ => ((), (true, ())) }) {W : World} {x : Els ps} {vs : List Value} (hv : RVs (Zw W) W ps x vs) : Calls P f vs.toArray W fun e W' => e = .returned (.bool true) ∧ Below W.heap.size W W' := by
  refine (h.2 (Zw W) W 0 vs () x (fun g hg => hg) hv trivial (fun e => by cases e) (fun _ => rfl)).mono ?_
  rintro e w' ⟨v, us, bs, Z', rfl, t1, t2, _, _, _, _, _, t8, _⟩
  have t8 : W.grownBy w' none := t8
  refine ⟨?_, t8.os, t8.tape, t8.output, t8.size, fun k hk => t8.block k hk (by simp)⟩
  match us, t2 with
  | [u], ⟨b, b', _, h1, h2⟩ =>
    have h1 : RT _ w' .bo true [u] ∧ b = [] := h1
    rw [RT] at h1
    have e1 : u = .bool true := by simpa using h1.1
    rcases t1 with ⟨u', e2, rfl⟩ | ⟨h3, _⟩
    · cases e2; rw [e1]
    · simp at h3
end Go.Proofs.YtakaehdolpmelaaGreatDoor
namespace Go.Proofs.YtakaehdolpmelaaGreatDoor
open Go.ChangeShapes Go.WideShapes Go.ChangeAt Go.RowKit Go.Joins
set_option linter.unusedVariables false
theorem mk_lifted (os : Os) (started : os.Started) (H : Type) (enc : TypeId × Value → H) :
    ReturnsInHanded {} Tryz.checked os 3 .any (fun w args => (Rows.gaussFieldSpec.pre enc Tryz.prog Tryz.f3 [] false w args ∧ laidMetH Tryz.prog Rows.gaussFieldRow.laid w) ∧ sizedMet enc Tryz.prog Tryz.f3 (OpenSpec.ofChange Rows.gaussFieldSpec) false w args) (Rows.gaussFieldSpec.post enc Tryz.prog Tryz.f3 false true false false) := by
  refine returnsInHanded_of_change_and (C := Tryz.checked) (X := fun w _ => laidMetH Tryz.prog Rows.gaussFieldRow.laid w) (fun _ _ _ hh h => h.of_heap hh) mk_own started (by kernel_rfl) Tryz.func3
    (ChangeSpec.witness_at (enc := enc) (C := Tryz.checked) (os := os) (X := fun w _ => laidMetH Tryz.prog Rows.gaussFieldRow.laid w) false (laidWorld os) #[.agg #[.bool false, .slice none 0 0, .slice none 0 0, .bool false, .slice none 0 0, .slice none 0 0], .agg #[.bool false, .slice none 0 0, .slice none 0 0, .bool false, .slice none 0 0, .slice none 0 0], .agg #[.bool false, .slice none 0 0, .slice none 0 0, .bool false, .slice none 0 0, .slice none 0 0]] 8 rfl (by kernel_rfl) (by kernel_rfl) (by kernel_rfl) (by kernel_rfl) (by kernel_rfl) (laid_met os _)) ?_
  intro W base args ds gs before hval0 hW _ _ _ _
  have hval : ∀ (j : Nat) t v, Tryz.f3.params[j]? = some t → args[j]? = some v → Value.okWide Tryz.prog W .any base t v := hval0
  have hW' := hW
  obtain ⟨p, q, hA0, hV, rfl, hfz, hnd⟩ := hW
  have hA : DataW.TrodAll enc Tryz.prog W 0 (fun _ => true) true Tryz.f3.params.toList args.toList ds p := hA0
  rw [Tryz.params3] at hA hval
  obtain ⟨v0, vs0, d0, ds0, p0, q0, hargs, rfl, rfl, h0, r0⟩ := trodAll_cons hA
  obtain ⟨v1, vs1, d1, ds1, p1, q1, rfl, rfl, rfl, h1, r1⟩ := trodAll_cons r0
  obtain ⟨v2, vs2, d2, ds2, p2, q2, rfl, rfl, rfl, h2, r2⟩ := trodAll_cons r1
  obtain ⟨rfl, rfl, rfl⟩ := trodAll_nil r2
  obtain rfl : args = #[v0, v1, v2] := by cases args; simp_all
  obtain ⟨rfl, rfl⟩ := trodVars_none hV
  have k0 := h0
  have lt0 : ∀ x ∈ p0, x.block < W.heap.size := by obtain ⟨m, hm⟩ := k0; exact DataW.trod_lt m _ _ _ hm
  have k1 := h1
  have lt1 : ∀ x ∈ p1, x.block < W.heap.size := by obtain ⟨m, hm⟩ := k1; exact DataW.trod_lt m _ _ _ hm
  have k2 := h2
  have lt2 : ∀ x ∈ p2, x.block < W.heap.size := by obtain ⟨m, hm⟩ := k2; exact DataW.trod_lt m _ _ _ hm
  obtain ⟨x0, hx0⟩ := rv_in tys_ok (e := 0) (tG) rfl rfl (hval 0 26 v0 rfl rfl) h0
  obtain ⟨x1, hx1⟩ := rv_in tys_ok (e := 0) (tG) rfl rfl (hval 1 26 v1 rfl rfl) h1
  obtain ⟨x2, hx2⟩ := rv_in tys_ok (e := 0) (tG) rfl rfl (hval 2 26 v2 rfl rfl) h2
  clear hA0 hval0
  refine (law_calls (x := (x0, x1, x2, ())) (vs := [v0, v1, v2]) fo_lawGaussField ⟨hx0, hx1, hx2, trivial⟩).mono fun e W' ⟨he, bel⟩ => ?_
  subst he
  exact ⟨_, rfl, _, _, _, [], _, [], hW', trodAll_mk1 (shut_bool Tryz.underlying4 _), (trodAll_cons_mk (Below.trod mk_laidOut (by kernel_rfl) (of_decide_eq_true (by kernel_rfl)) k0 bel lt0) (trodAll_cons_mk (Below.trod mk_laidOut (by kernel_rfl) (of_decide_eq_true (by kernel_rfl)) k1 bel lt1) (trodAll_cons_mk (Below.trod mk_laidOut (by kernel_rfl) (of_decide_eq_true (by kernel_rfl)) k2 bel lt2) trodAll_mk0))), rfl, Below.frame bel _, fun h => by cases h⟩
end Go.Proofs.YtakaehdolpmelaaGreatDoor
