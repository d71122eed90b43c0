/- Texts of this claim, joined: Q5 D0 D1 D2 D3 B31 B32 B33 B34 F5 O1. -/
import Derived.Maps.OwnSet
import Derived.DeepKeys4
import Derived.KernelRfl
import Derived.Deep.RegionHeld3
import Derived.ProofKit
import Derived.OpenShut
import Derived.ChangeOld
import Derived.Below
import Derived.Lib.SmallJoins
import Derived.Deep.Slices
import Derived.Deep.Fields
import Derived.ChangeSame
import Derived.Test.YtemlaompalbgiaaGreatDoorQr
set_option linter.unusedVariables false
set_option linter.unusedSimpArgs false
set_option maxRecDepth 100000
namespace Go.Proofs.YtemlaompalbgiaaGreatDoor
open Go Go.RowKit
def txT (c : El tTide) : ByteArray := jnB [c.1, itB c.2.1.1, itB c.2.1.2.1, txGa (toGa c.2.2.1)] ⟨#[32]⟩
def prT (c : El tTide) : ByteArray × Int × Unit := if tchk c ≠ 0 then (⟨#[]⟩, tchk c, ()) else if 65536 < (txGa (toGa c.2.2.1)).size ∨ 65536 < (txT c).size then (⟨#[]⟩, 3, ()) else (txT c, 0, ())
theorem jn4 (a b c d p : ByteArray) : (jnB [a, b, c, d] p).data.toList = a.data.toList ++ p.data.toList ++ (b.data.toList ++ p.data.toList ++ (c.data.toList ++ p.data.toList ++ d.data.toList)) := by
  simp [jnB, Lib.join]
theorem jn4_size (a b c d : ByteArray) : (jnB [a, b, c, d] ⟨#[32]⟩).size = a.size + b.size + c.size + d.size + 3 := by
  have e : (⟨#[32]⟩ : ByteArray).data.toList = [32] := rfl
  rw [← ba_len, jn4, e]
  simp only [List.length_append, ba_len, List.length_cons, List.length_nil]
  omega
theorem prT_bad {c : El tTide} (h : tchk c ≠ 0) : prT c = (⟨#[]⟩, tchk c, ()) := if_pos h
theorem prT_long {c : El tTide} (h : tchk c = 0) (k : 65536 < (txGa (toGa c.2.2.1)).size ∨ 65536 < (txT c).size) : prT c = (⟨#[]⟩, 3, ()) := (if_neg (fun e => e h)).trans (if_pos k)
theorem prT_ok {c : El tTide} (h : tchk c = 0) (k : (txGa (toGa c.2.2.1)).size ≤ 65536) (l : (txT c).size ≤ 65536) : prT c = (txT c, 0, ()) := (if_neg (fun e => e h)).trans (if_neg (by omega))
theorem tchk_un {c : El tTide} (h : tchk c = 0) : nameS c.1 = true ∧ rotC c.2.1 = 0 ∧ gchk (toGa c.2.2.1) = 0 := by
  unfold tchk at h
  split at h
  · cases h
  · next c1 =>
    split at h
    · next c2 => exact absurd h c2
    · next c2 => exact ⟨Bool.not_eq_false _ ▸ c1, Decidable.not_not.1 c2, h⟩
theorem rotC_un {r : El tRot} (h : rotC r = 0) : (1 : Int) ≤ r.1 ∧ (r.1 : Int) ≤ 1000 ∧ (-1000 : Int) ≤ r.2.1 ∧ (r.2.1 : Int) ≤ 1000 := by
  unfold rotC at h
  split at h
  · next c => exact ⟨c.1, c.2.1, c.2.2.1, c.2.2.2.1⟩
  · cases h
theorem nameS_sz {s : ByteArray} (h : nameS s = true) : s.size ≤ 20 := by
  unfold nameS at h
  simp only [Bool.and_eq_true, decide_eq_true_eq] at h
  exact h.1.1.2
theorem wrap64 {n : Int} (h : -1000 ≤ n ∧ n ≤ 1000) : IntKind.i64.wrap n = n := Go.IntWalk.i64_in n (by omega)
noncomputable def sp_tPrint : Spec := { q := .un, ps := [tTide], rs := [.st, .it .i64], fresh := true, pre := fun _ _ => none, post := fun _ x => ((), prT x.1) }
noncomputable def iv_tPrint (y : El sp_tPrint.q) (x : Els sp_tPrint.ps) : Nat → Option Inv := fun _ => none
noncomputable abbrev c_tPrint : Cfg := { cfgS (Tryz.f115).ntmps false [(47, sp_tCk.prim), (190, sp_gPrintG.prim), (192, sp_sItoa.prim), (191, sp_sJoin.prim)] with ty := tysT }
def F_tPrint (y : El sp_tPrint.q) (x : Els sp_tPrint.ps) : Prop :=
  ∀ (r : Ro [Ty.it IntKind.i64]), r = ((), tchk x.1, ()) → ((r.2.1 != (0 : Int)) = true → ((⟨#[]⟩ : ByteArray), r.2) = prT x.1) ∧ ((r.2.1 != (0 : Int)) = false → ∀ (r : Ro [Ty.st, Ty.it IntKind.i64]), r = ((), prG (toGa x.1.2.2.1)) → ((r.2.2.1 != (0 : Int)) = true → ((⟨#[]⟩ : ByteArray), r.2.2) = prT x.1) ∧ ((r.2.2.1 != (0 : Int)) = false → ∀ (r_1 : Ro [Ty.st]), r_1 = ((), itB (IntKind.i64.wrap x.1.2.1.1), ()) → ∀ (r_2 : Ro [Ty.st]), r_2 = ((), itB (IntKind.i64.wrap x.1.2.1.2.1), ()) → ([x.1.1, r_1.2.1, r_2.2.1, r.2.1].length ≤ (140737488355328 : Nat) ∧ (jnB [x.1.1, r_1.2.1, r_2.2.1, r.2.1] (⟨#[(32 : UInt8)]⟩ : ByteArray)).size ≤ (140737488355328 : Nat)) ∧ ∀ (r_3 : Ro [Ty.st]), r_3 = ((), jnB [x.1.1, r_1.2.1, r_2.2.1, r.2.1] (⟨#[(32 : UInt8)]⟩ : ByteArray), ()) → (decide ((↑(ByteArray.size r_3.2.1) : Int) > (65536 : Int)) = true → ((⟨#[]⟩ : ByteArray), (3 : Int), ()) = prT x.1) ∧ (decide ((↑(ByteArray.size r_3.2.1) : Int) > (65536 : Int)) = false → (r_3.2.1, (0 : Int), ()) = prT x.1)))
theorem w_tPrint (y : El sp_tPrint.q) (x : Els sp_tPrint.ps) : aW c_tPrint (iv_tPrint y x) Tryz.f115 sp_tPrint y x = F_tPrint y x := by kernel_rfl
theorem m_tPrint (y : El (.un)) (x : Els [tTide]) (h2 : wfE (.un) y) (h3 : wfEs [tTide] x) : F_tPrint y x := by
  unfold F_tPrint
  rintro _ rfl
  refine ⟨fun h => (prT_bad (neT h)).symm, fun h => ?_⟩
  have q0 : tchk x.1 = 0 := neF h
  obtain ⟨n0, r0, g0⟩ := tchk_un q0
  obtain ⟨r1, r2, r3, r4⟩ := rotC_un r0
  have w1 : IntKind.i64.wrap x.1.2.1.1 = x.1.2.1.1 := wrap64 ⟨Int.le_trans (by decide) r1, r2⟩
  have w2 : IntKind.i64.wrap x.1.2.1.2.1 = x.1.2.1.2.1 := wrap64 ⟨r3, r4⟩
  intro r hr
  by_cases k : (txGa (toGa x.1.2.2.1)).size ≤ 65536
  · obtain rfl := hr.trans (congrArg (fun t => (((), t) : El .un × Els [.st, .it .i64])) (prG_ok g0 k))
    refine ⟨fun h => Bool.noConfusion (show false = true from h), fun _ => ?_⟩
    intro r_1 hr1 r_2 hr2
    obtain rfl := hr1.trans (congrArg (fun n => (((), itB n, ()) : El .un × Els [.st])) w1)
    obtain rfl := hr2.trans (congrArg (fun n => (((), itB n, ()) : El .un × Els [.st])) w2)
    have z0 := nameS_sz n0
    have z1 : (itB x.1.2.1.1).size ≤ 21 := itB_size (Int.le_trans (by decide) r1) (Int.le_trans r2 (by decide))
    have z2 : (itB x.1.2.1.2.1).size ≤ 21 := itB_size (Int.le_trans (by decide) r3) (Int.le_trans r4 (by decide))
    have z3 := jn4_size x.1.1 (itB x.1.2.1.1) (itB x.1.2.1.2.1) (txGa (toGa x.1.2.2.1))
    refine ⟨⟨show 4 ≤ 140737488355328 by decide, ?_⟩, ?_⟩
    · show (jnB [x.1.1, itB x.1.2.1.1, itB x.1.2.1.2.1, txGa (toGa x.1.2.2.1)] ⟨#[32]⟩).size ≤ _
      omega
    rintro _ rfl
    refine ⟨fun h => ?_, fun h => ?_⟩
    · exact (prT_long q0 (.inr (Int.ofNat_lt.1 (gtT h)))).symm
    · exact (prT_ok q0 k (Int.ofNat_le.1 (gtF h))).symm
  · obtain rfl := hr.trans (congrArg (fun t => (((), t) : El .un × Els [.st, .it .i64])) (prG_long g0 (Nat.lt_of_not_le k)))
    exact ⟨fun _ => (prT_long q0 (.inl (Nat.lt_of_not_le k))).symm, fun h => Bool.noConfusion (show true = false from h)⟩
theorem fo_tPrint : FnOk Tryz.prog 115 sp_tPrint := fnOk_of (C := c_tPrint) iv_tPrint Tryz.func115 rfl (by kernel_rfl) tysT_ok (prims_cons (spec_prim fo_tCk) (prims_cons (spec_prim fo_gPrintG) (prims_cons (spec_prim fo_sItoa) (prims_cons (spec_prim fo_sJoin) prims_nil)))) mixed_ (Nat.le_refl _) rfl fun y x h1 h2 h3 h4 =>
  Eq.mpr (w_tPrint y x) (m_tPrint y x h2 h3)
def cT1 (s : ByteArray) : ByteArray × ByteArray × Bool := cutB s b_sp
def cT2 (s : ByteArray) : ByteArray × ByteArray × Bool := cutB (cutB s b_sp).2.1 b_sp
def cT3 (s : ByteArray) : ByteArray × ByteArray × Bool := cutB (cutB (cutB s b_sp).2.1 b_sp).2.1 b_sp
def okTi (s : ByteArray) : Bool := (cT3 s).2.2 && nameS (cT1 s).1 && numB (cT2 s).1 && numB (cT3 s).1 && okGG (cT3 s).2.1
def rotT (s : ByteArray) : El tRot := (RowKit.wrap32 (numN (cT2 s).1), RowKit.wrap32 (numN (cT3 s).1), ())
def gaT (s : ByteArray) : Ga := ⟨frG (cutB (cT3 s).2.1 b_sp).1, frG (cutB (cT3 s).2.1 b_sp).2.1⟩
def parT (s : ByteArray) : El tTide × Int × Unit := if 65536 < s.size then (tZ, 3, ()) else if okTi s = true then (if rotC (rotT s) ≠ 0 then (tZ, rotC (rotT s), ()) else (((cT1 s).1, rotT s, ofGa (gaT s), ()), 0, ())) else (tZ, 230, ())
theorem pt_long {s : ByteArray} (h : 65536 < s.size) : parT s = (tZ, 3, ()) := if_pos h
theorem pt_bad {s : ByteArray} (h : s.size ≤ 3000) (k : ¬ okTi s = true) : parT s = (tZ, 230, ()) := (if_neg (by omega)).trans (if_neg k)
theorem pt_rot {s : ByteArray} (h : s.size ≤ 3000) (k : okTi s = true) (l : rotC (rotT s) ≠ 0) : parT s = (tZ, rotC (rotT s), ()) := (if_neg (by omega)).trans ((if_pos k).trans (if_pos l))
theorem pt_ok {s : ByteArray} (h : s.size ≤ 3000) (k : okTi s = true) (l : rotC (rotT s) = 0) : parT s = (((cT1 s).1, rotT s, ofGa (gaT s), ()), 0, ()) := (if_neg (by omega)).trans ((if_pos k).trans (if_neg (fun e => e l)))
theorem okTi_un {s : ByteArray} (h : okTi s = true) : (cT3 s).2.2 = true ∧ nameS (cT1 s).1 = true ∧ numB (cT2 s).1 = true ∧ numB (cT3 s).1 = true ∧ okGG (cT3 s).2.1 = true := by
  unfold okTi at h
  simp only [Bool.and_eq_true] at h
  exact ⟨h.1.1.1.1, h.1.1.1.2, h.1.1.2, h.1.2, h.2⟩
theorem okTi_mk {s : ByteArray} (h1 : (cT3 s).2.2 = true) (h2 : nameS (cT1 s).1 = true) (h3 : numB (cT2 s).1 = true) (h4 : numB (cT3 s).1 = true) (h5 : okGG (cT3 s).2.1 = true) : okTi s = true := by
  unfold okTi
  rw [h1, h2, h3, h4, h5]
  rfl
noncomputable def sp_tParse : Spec := { q := .un, ps := [.st], rs := [tTide, .it .i64], fresh := true, pre := fun _ x => some (ByteArray.size x.1 ≤ 3000 ∨ 65536 < ByteArray.size x.1), post := fun _ x => ((), parT x.1) }
noncomputable def iv_tParse (y : El sp_tParse.q) (x : Els sp_tParse.ps) : Nat → Option Inv := fun _ => none
noncomputable abbrev c_tParse : Cfg := cfgS (Tryz.f116).ntmps false [(87, sp_sCut.prim), (193, sp_tnum.prim), (15, sp_gParseG.prim), (46, sp_tName.prim), (106, sp_rCk.prim)]
def F_tParse (y : El sp_tParse.q) (x : Els sp_tParse.ps) : Prop :=
  (decide ((↑(ByteArray.size x.1) : Int) > (65536 : Int)) = true → ((ByteArray.empty, ((0 : Int), (0 : Int), ()), ((false, [], [], ()), (false, [], [], ()), ()), ()), (3 : Int), ()) = parT x.1) ∧ (decide ((↑(ByteArray.size x.1) : Int) > (65536 : Int)) = false → (⟨#[(32 : UInt8)]⟩ : ByteArray).size = (1 : Nat) ∧ ∀ (r : Ro [Ty.st, Ty.st, Ty.bo]), r = ((), (cutB x.1 (⟨#[(32 : UInt8)]⟩ : ByteArray)).1, (cutB x.1 (⟨#[(32 : UInt8)]⟩ : ByteArray)).2.1, (cutB x.1 (⟨#[(32 : UInt8)]⟩ : ByteArray)).2.2, ()) → (⟨#[(32 : UInt8)]⟩ : ByteArray).size = (1 : Nat) ∧ ∀ (r_1 : Ro [Ty.st, Ty.st, Ty.bo]), r_1 = ((), (cutB r.2.2.1 (⟨#[(32 : UInt8)]⟩ : ByteArray)).1, (cutB r.2.2.1 (⟨#[(32 : UInt8)]⟩ : ByteArray)).2.1, (cutB r.2.2.1 (⟨#[(32 : UInt8)]⟩ : ByteArray)).2.2, ()) → (⟨#[(32 : UInt8)]⟩ : ByteArray).size = (1 : Nat) ∧ ∀ (r_2 : Ro [Ty.st, Ty.st, Ty.bo]), r_2 = ((), (cutB r_1.2.2.1 (⟨#[(32 : UInt8)]⟩ : ByteArray)).1, (cutB r_1.2.2.1 (⟨#[(32 : UInt8)]⟩ : ByteArray)).2.1, (cutB r_1.2.2.1 (⟨#[(32 : UInt8)]⟩ : ByteArray)).2.2, ()) → ByteArray.size r_1.2.1 ≤ (65536 : Nat) ∧ ∀ (r_3 : Ro [Ty.it IntKind.i32, Ty.bo]), r_3 = ((), RowKit.wrap32 (numN r_1.2.1), numB r_1.2.1, ()) → ByteArray.size r_2.2.1 ≤ (65536 : Nat) ∧ ∀ (r_4 : Ro [Ty.it IntKind.i32, Ty.bo]), r_4 = ((), RowKit.wrap32 (numN r_2.2.1), numB r_2.2.1, ()) → (ByteArray.size r_2.2.2.1 ≤ (3000 : Nat) ∨ (65536 : Nat) < ByteArray.size r_2.2.2.1) ∧ ∀ (r_5 : Ro [tG, Ty.it IntKind.i64]), r_5 = pG (parGG r_2.2.2.1) → ((!r_2.2.2.2.1) = true → ((ByteArray.empty, ((0 : Int), (0 : Int), ()), ((false, [], [], ()), (false, [], [], ()), ()), ()), (230 : Int), ()) = parT x.1) ∧ ((!r_2.2.2.2.1) = false → ∀ (r_6 : Ro [Ty.bo]), r_6 = ((), nameS r.2.1, ()) → ((!r_6.2.1) = true → ((ByteArray.empty, ((0 : Int), (0 : Int), ()), ((false, [], [], ()), (false, [], [], ()), ()), ()), (230 : Int), ()) = parT x.1) ∧ ((!r_6.2.1) = false → ((!r_3.2.2.1) = true → ((ByteArray.empty, ((0 : Int), (0 : Int), ()), ((false, [], [], ()), (false, [], [], ()), ()), ()), (230 : Int), ()) = parT x.1) ∧ ((!r_3.2.2.1) = false → ((!r_4.2.2.1) = true → ((ByteArray.empty, ((0 : Int), (0 : Int), ()), ((false, [], [], ()), (false, [], [], ()), ()), ()), (230 : Int), ()) = parT x.1) ∧ ((!r_4.2.2.1) = false → ((r_5.2.2.1 == (140 : Int)) = true → ((ByteArray.empty, ((0 : Int), (0 : Int), ()), ((false, [], [], ()), (false, [], [], ()), ()), ()), (230 : Int), ()) = parT x.1) ∧ ((r_5.2.2.1 == (140 : Int)) = false → ∀ (r_7 : Ro [Ty.it IntKind.i64]), r_7 = ((), rotC (r_3.2.1, r_4.2.1, ()), ()) → ((r_7.2.1 != (0 : Int)) = true → ((ByteArray.empty, ((0 : Int), (0 : Int), ()), ((false, [], [], ()), (false, [], [], ()), ()), ()), r_7.2) = parT x.1) ∧ ((r_7.2.1 != (0 : Int)) = false → ((r_5.2.2.1 != (0 : Int)) = true → ((ByteArray.empty, ((0 : Int), (0 : Int), ()), ((false, [], [], ()), (false, [], [], ()), ()), ()), r_5.2.2) = parT x.1) ∧ ((r_5.2.2.1 != (0 : Int)) = false → ((r.2.1, (r_3.2.1, r_4.2.1, ()), r_5.2.1, ()), (0 : Int), ()) = parT x.1))))))))
theorem w_tParse (y : El sp_tParse.q) (x : Els sp_tParse.ps) : aW c_tParse (iv_tParse y x) Tryz.f116 sp_tParse y x = F_tParse y x := by kernel_rfl
theorem m_tParse (y : El (.un)) (x : Els [.st]) (h2 : wfE (.un) y) (h3 : wfEs [.st] x) (h4 : ByteArray.size x.1 ≤ 3000 ∨ 65536 < ByteArray.size x.1) : F_tParse y x := by
  unfold F_tParse
  have hsz : ByteArray.size x.1 ≤ 3000 ∨ 65536 < ByteArray.size x.1 := h4
  refine ⟨fun h => (pt_long (Int.ofNat_lt.1 (gtT h))).symm, fun h => ⟨rfl, ?_⟩⟩
  have h3k : ByteArray.size x.1 ≤ 3000 := hsz.resolve_right (fun c => absurd (Int.ofNat_lt.2 c) (Int.not_lt.2 (gtF h)))
  have k1 : (cT1 x.1).2.1.size ≤ 3000 := Nat.le_trans (cut_sz _ _).2 h3k
  have k2 : (cT2 x.1).1.size ≤ 3000 := Nat.le_trans (cut_sz _ _).1 k1
  have k3 : (cT2 x.1).2.1.size ≤ 3000 := Nat.le_trans (cut_sz _ _).2 k1
  have k4 : (cT3 x.1).1.size ≤ 3000 := Nat.le_trans (cut_sz _ _).1 k3
  have k5 : (cT3 x.1).2.1.size ≤ 3000 := Nat.le_trans (cut_sz _ _).2 k3
  rintro _ rfl
  refine ⟨rfl, ?_⟩
  rintro _ rfl
  refine ⟨rfl, ?_⟩
  rintro _ rfl
  refine ⟨Nat.le_trans k2 (by decide), ?_⟩
  rintro _ rfl
  refine ⟨Nat.le_trans k4 (by decide), ?_⟩
  rintro _ rfl
  refine ⟨.inl k5, ?_⟩
  intro r5 hr5
  have F : ∀ {b : Bool}, (!b) = true → b = true → False := fun {b} h k => by rw [k] at h; cases h
  refine ⟨fun h => (pt_bad h3k (fun k => F h (okTi_un k).1)).symm, fun hb => ?_⟩
  rintro _ rfl
  refine ⟨fun h => (pt_bad h3k (fun k => F h (okTi_un k).2.1)).symm, fun hn => ⟨fun h => (pt_bad h3k (fun k => F h (okTi_un k).2.2.1)).symm, fun ha => ⟨fun h => (pt_bad h3k (fun k => F h (okTi_un k).2.2.2.1)).symm, fun hc => ?_⟩⟩⟩
  by_cases c : okGG (cT3 x.1).2.1 = true
  · obtain rfl := hr5.trans (congrArg pG (pgg_ok k5 c))
    refine ⟨fun h => Bool.noConfusion (show false = true from h), fun _ => ?_⟩
    have ok : okTi x.1 = true := okTi_mk (ntF hb) (ntF hn) (ntF ha) (ntF hc) c
    rintro _ rfl
    exact ⟨fun h => (pt_rot h3k ok (neT h)).symm, fun h => ⟨fun h => Bool.noConfusion (show false = true from h), fun _ => (pt_ok h3k ok (neF h)).symm⟩⟩
  · obtain rfl := hr5.trans (congrArg pG (pgg_bad k5 c))
    exact ⟨fun _ => (pt_bad h3k (fun k => c (okTi_un k).2.2.2.2)).symm, fun h => Bool.noConfusion (show true = false from h)⟩
theorem fo_tParse : FnOk Tryz.prog 116 sp_tParse := fnOk_of (C := c_tParse) iv_tParse Tryz.func116 rfl (by kernel_rfl) tys_ok (prims_cons (spec_prim fo_sCut) (prims_cons (spec_prim fo_tnum) (prims_cons (spec_prim fo_gParseG) (prims_cons (spec_prim fo_tName) (prims_cons (spec_prim fo_rCk) prims_nil))))) mixed_ (Nat.le_refl _) rfl fun y x h1 h2 h3 h4 =>
  Eq.mpr (w_tParse y x) (m_tParse y x h2 h3 h4)
end Go.Proofs.YtemlaompalbgiaaGreatDoor
namespace Go.Proofs.YtemlaompalbgiaaGreatDoor
open Go Go.RowKit Go.Maps
section
variable {eT : Nat → Int} {dup : Nat → Bool} {i d : Nat}
end
end Go.Proofs.YtemlaompalbgiaaGreatDoor
namespace Go.Proofs.YtemlaompalbgiaaGreatDoor
open Go Go.RowKit
section
variable {P : Program} {f : Nat} {t : Ty} {Z : Nat → Prop} {W : World} {x : El t} {v : Value}
end
section
variable {s : Fr × Int} {l : List (El tTide)} {t : Int} {i : Nat}
end
section
variable {l : List (El tTide)} {t : Int} {i : Nat}
end
section
variable {p : El tPort} {a b : Int} {k : Nat}
end
section
variable {r : El tRot} {t : Int}
end
section
variable {p : El tPort} {a b : Int}
end
def exM : El tTide := (⟨#[77, 50]⟩, (8, 1, ()), ofGa (ge (3/2) (-1)), ())
def tM : ByteArray := ⟨#[77, 50, 32, 56, 32, 49, 32, 51, 47, 50, 32, 45, 49]⟩
def nmR (s : ByteArray) (i : Nat) : Bool := decide (1 ≤ s.size ∧ s.size ≤ 20) && (List.range i).all fun j => lett (gi s j) || (decide (0 < j) && digI (gi s j))
theorem m13_1 : fsmall 3 2 = (enc (3/2), 0) := by decide +kernel
theorem m13_2 : fsmall (-1) 1 = (enc (-1), 0) := by decide +kernel
noncomputable def sp_l13ex : Spec := { q := .un, ps := [], rs := [tTide], fresh := true, pre := fun _ _ => none, post := fun _ x => ((), (exM, ())) }
noncomputable def iv_l13ex (y : El sp_l13ex.q) (x : Els sp_l13ex.ps) : Nat → Option Inv := fun _ => none
noncomputable abbrev c_l13ex : Cfg := cfgS (Tryz.f45).ntmps false [(59, sp_rSmall.prim)]
def F_l13ex (y : El sp_l13ex.q) (x : Els sp_l13ex.ps) : Prop :=
  ∀ (r : Ro [tR, Ty.it IntKind.i64]), r = pR (fsmall (3 : Int) (2 : Int)) → ∀ (r_1 : Ro [tR, Ty.it IntKind.i64]), r_1 = pR (fsmall (-1 : Int) (1 : Int)) → (((⟨#[(77 : UInt8), (50 : UInt8)]⟩ : ByteArray), ((8 : Int), (1 : Int), ()), (r.2.1, r_1.2.1, ()), ()), ()) = (exM, ())
theorem w_l13ex (y : El sp_l13ex.q) (x : Els sp_l13ex.ps) : aW c_l13ex (iv_l13ex y x) Tryz.f45 sp_l13ex y x = F_l13ex y x := by kernel_rfl
theorem m_l13ex (y : El (.un)) (x : Els []) (h2 : wfE (.un) y) (h3 : wfEs [] x) : F_l13ex y x := by
  unfold F_l13ex
  intro r hr
  obtain rfl := hr.trans (congrArg pR m13_1)
  intro r hr
  obtain rfl := hr.trans (congrArg pR m13_2)
  rfl
theorem fo_l13ex : FnOk Tryz.prog 45 sp_l13ex := fnOk_of (C := c_l13ex) iv_l13ex Tryz.func45 rfl (by kernel_rfl) tys_ok (prims_cons (spec_prim fo_rSmall) prims_nil) mixed_ (Nat.le_refl _) rfl fun y x h1 h2 h3 h4 =>
  Eq.mpr (w_l13ex y x) (m_l13ex y x h2 h3)
theorem m13_3 : tchk exM = 0 := by decide +kernel
theorem m13_4 : (txGa (toGa exM.2.2.1)).size ≤ 65536 := by decide +kernel
theorem m13_5 : txT exM = tM := by decide +kernel
theorem m13_6 : prT exM = (tM, 0, ()) := (prT_ok m13_3 m13_4 (by rw [m13_5]; decide)).trans (congrArg (fun b => (b, (0 : Int), ())) m13_5)
theorem m13_7 : okTi tM = true := by decide +kernel
theorem m13_8 : (cT1 tM).1 = ⟨#[77, 50]⟩ := by decide +kernel
theorem m13_9 : gaT tM = ge (3/2) (-1) := by decide +kernel
theorem m13_10 : RowKit.wrap32 (numN (cT2 tM).1) = 8 := by decide +kernel
theorem m13_11 : RowKit.wrap32 (numN (cT3 tM).1) = 1 := by decide +kernel
theorem m13_12 : rotT tM = (8, 1, ()) := by
  unfold rotT
  rw [m13_10, m13_11]
theorem m13_13 : parT tM = (exM, 0, ()) := by
  rw [pt_ok (by decide) m13_7 (by rw [m13_12]; decide +kernel), m13_8, m13_9, m13_12]
  rfl
theorem m13_14 : sameT exM exM = true := by
  unfold sameT
  rw [decide_eq_true rfl, decide_eq_true rfl, decide_eq_true rfl]
  rfl
theorem tl_self (b : ByteArray) (h : (b.toList == b.toList) = false) : False := by
  rw [beq_self_eq_true] at h
  cases h
noncomputable def sp_l13awake : Spec := { q := .un, ps := [], rs := [.bo], fresh := true, pre := fun _ _ => none, post := fun _ x => ((), (true, ())) }
noncomputable def iv_l13awake (y : El sp_l13awake.q) (x : Els sp_l13awake.ps) : Nat → Option Inv := fun _ => none
noncomputable abbrev c_l13awake : Cfg := cfgS (Tryz.f44).ntmps false [(45, sp_l13ex.prim), (115, sp_tPrint.prim), (116, sp_tParse.prim), (117, p_sure (sp_tSame.prim)), (47, sp_tCk.prim)]
def F_l13awake (y : El sp_l13awake.q) (x : Els sp_l13awake.ps) : Prop :=
  ∀ (r : Ro [tTide]), r = ((), exM, ()) → ∀ (r_1 : Ro [Ty.st, Ty.it IntKind.i64]), r_1 = ((), prT r.2.1) → ((⟨#[(77 : UInt8), (50 : UInt8), (32 : UInt8), (56 : UInt8), (32 : UInt8), (49 : UInt8), (32 : UInt8), (51 : UInt8), (47 : UInt8), (50 : UInt8), (32 : UInt8), (45 : UInt8), (49 : UInt8)]⟩ : ByteArray).size ≤ (3000 : Nat) ∨ (65536 : Nat) < (⟨#[(77 : UInt8), (50 : UInt8), (32 : UInt8), (56 : UInt8), (32 : UInt8), (49 : UInt8), (32 : UInt8), (51 : UInt8), (47 : UInt8), (50 : UInt8), (32 : UInt8), (45 : UInt8), (49 : UInt8)]⟩ : ByteArray).size) ∧ ∀ (r : Ro [tTide, Ty.it IntKind.i64]), r = ((), parT (⟨#[(77 : UInt8), (50 : UInt8), (32 : UInt8), (56 : UInt8), (32 : UInt8), (49 : UInt8), (32 : UInt8), (51 : UInt8), (47 : UInt8), (50 : UInt8), (32 : UInt8), (45 : UInt8), (49 : UInt8)]⟩ : ByteArray)) → ((r_1.2.2.1 == (0 : Int)) = true → ((ByteArray.toList r_1.2.1 == (⟨#[(77 : UInt8), (50 : UInt8), (32 : UInt8), (56 : UInt8), (32 : UInt8), (49 : UInt8), (32 : UInt8), (51 : UInt8), (47 : UInt8), (50 : UInt8), (32 : UInt8), (45 : UInt8), (49 : UInt8)]⟩ : ByteArray).toList) = true → ((r.2.2.1 == (0 : Int)) = true → ∀ (r_2 : Ro [tTide]), r_2 = ((), exM, ()) → sameT r.2.1 r_2.2.1 = true ∧ ∀ (r : Ro [tTide]), r = ((), exM, ()) → ∀ (r_3 : Ro [Ty.it IntKind.i64]), r_3 = ((), tchk r.2.1, ()) → (r_3.2.1 == (0 : Int), ()) = (true, ())) ∧ ((r.2.2.1 == (0 : Int)) = false → (false, ()) = (true, ()))) ∧ ((ByteArray.toList r_1.2.1 == (⟨#[(77 : UInt8), (50 : UInt8), (32 : UInt8), (56 : UInt8), (32 : UInt8), (49 : UInt8), (32 : UInt8), (51 : UInt8), (47 : UInt8), (50 : UInt8), (32 : UInt8), (45 : UInt8), (49 : UInt8)]⟩ : ByteArray).toList) = false → (false, ()) = (true, ()))) ∧ ((r_1.2.2.1 == (0 : Int)) = false → (false, ()) = (true, ()))
theorem w_l13awake (y : El sp_l13awake.q) (x : Els sp_l13awake.ps) : aW c_l13awake (iv_l13awake y x) Tryz.f44 sp_l13awake y x = F_l13awake y x := by kernel_rfl
theorem m_l13awake (y : El (.un)) (x : Els []) (h2 : wfE (.un) y) (h3 : wfEs [] x) : F_l13awake y x := by
  unfold F_l13awake
  rintro _ rfl
  intro r hr
  obtain rfl := hr.trans (congrArg (fun t => (((), t) : El .un × Els [.st, .it .i64])) m13_6)
  refine ⟨.inl (by decide), ?_⟩
  intro r hr
  obtain rfl := hr.trans (congrArg (fun t => (((), t) : El .un × Els [tTide, .it .i64])) m13_13)
  refine ⟨fun _ => ⟨fun _ => ⟨fun _ => ?_, fun h => Bool.noConfusion (show true = false from h)⟩, fun h => (tl_self tM h).elim⟩, fun h => Bool.noConfusion (show true = false from h)⟩
  rintro _ rfl
  refine ⟨m13_14, ?_⟩
  rintro _ rfl
  intro r hr
  obtain rfl := hr.trans (congrArg (fun n : Int => (((), n, ()) : El .un × Els [.it .i64])) m13_3)
  rfl
theorem fo_l13awake : FnOk Tryz.prog 44 sp_l13awake := fnOk_of (C := c_l13awake) iv_l13awake Tryz.func44 rfl (by kernel_rfl) tys_ok (prims_cons (spec_prim fo_l13ex) (prims_cons (spec_prim fo_tPrint) (prims_cons (spec_prim fo_tParse) (prims_cons (pr_sure (spec_prim fo_tSame)) (prims_cons (spec_prim fo_tCk) prims_nil))))) mixed_ (Nat.le_refl _) rfl fun y x h1 h2 h3 h4 =>
  Eq.mpr (w_l13awake y x) (m_l13awake y x h2 h3)
theorem nm_full (s : ByteArray) : nameS s = nmR s s.size := by
  rw [Bool.eq_iff_iff]
  unfold nameS nmR
  simp only [Bool.and_eq_true, decide_eq_true_eq, List.all_eq_true, List.mem_range, Bool.or_eq_true]
  constructor
  · rintro ⟨⟨h1, h2⟩, h3⟩
    refine ⟨by omega, fun j hj => ?_⟩
    by_cases hz : j = 0
    · subst hz
      exact .inl h2
    · rcases h3 j hj with h | h
      · exact .inl h
      · exact .inr ⟨by omega, h⟩
  · rintro ⟨h1, h3⟩
    refine ⟨⟨by omega, ?_⟩, fun j hj => (h3 j hj).imp id And.right⟩
    rcases h3 0 (by omega) with h | h
    · exact h
    · omega
theorem nm_false {s : ByteArray} {i : Nat} (hi : i ≤ s.size) (h : nmR s i = false) : nmR s s.size = false := by
  cases hc : nmR s s.size with
  | false => rfl
  | true =>
    rw [← h]
    symm
    unfold nmR at hc ⊢
    simp only [Bool.and_eq_true, decide_eq_true_eq, List.all_eq_true, List.mem_range] at hc ⊢
    exact ⟨hc.1, fun j hj => hc.2 j (by omega)⟩
theorem nm_E1 {s : ByteArray} {i : Nat} (hi : i ≤ s.size) (h : nmR s i = false) : nameS s = nmR s i := (nm_full s).trans ((nm_false hi h).trans h.symm)
theorem nm_E2 {s : ByteArray} {i : Nat} (hi : i = s.size) : nameS s = nmR s i := by rw [hi]; exact nm_full s
theorem nm_step {s : ByteArray} {i : Nat} {b : Bool} (h : nmR s i = true) (hb : (lett (gi s i) || (decide (0 < i) && digI (gi s i))) = b) : nmR s (i + 1) = b := by
  have e : nmR s (i + 1) = (nmR s i && (lett (gi s i) || (decide (0 < i) && digI (gi s i)))) := by
    unfold nmR
    rw [List.range_succ, List.all_append]
    simp [Bool.and_assoc]
  rw [e, h, hb]
  rfl
theorem nm_0 {s : ByteArray} (h : 1 ≤ s.size) : nmR s 0 = decide ((s.size : Int) ≤ 20) := by
  unfold nmR
  rw [Bool.eq_iff_iff]
  simp only [Bool.and_eq_true, decide_eq_true_eq, List.range_zero, List.all_nil, and_true]
  omega
theorem nm_00 {s : ByteArray} (h : ¬ 1 ≤ s.size) (i : Nat) : nmR s i = false := by
  unfold nmR
  rw [decide_eq_false (by omega)]
  rfl
theorem tM_1 {s : ByteArray} (h : nameS s = true) : tchk (s, exM.2) = 0 := by
  unfold tchk
  rw [if_neg (by rw [h]; decide)]
  exact (by decide +kernel : (if rotC exM.2.1 ≠ 0 then rotC exM.2.1 else gchk (toGa exM.2.2.1)) = 0)
theorem tM_4 {s : ByteArray} (h : nameS s = false) : tchk (s, exM.2) = 4 := by
  unfold tchk
  rw [if_pos h]
abbrev iR (n : Int) : El .un × Els [.it .i64] := ((), n, ())
noncomputable def sp_lawTideNames : Spec := { q := .un, ps := [.st], rs := [.bo], fresh := true, pre := fun _ _ => none, post := fun _ _ => ((), (true, ())) }
noncomputable def iv_lawTideNames (y : El sp_lawTideNames.q) (x : Els sp_lawTideNames.ps) : Nat → Option Inv := fun k => if k = 0 then some { X := Nat, tm := fun i => [(0, .c (.sc (.string x.1))), (3, .c (.sc (.bool true))), (4, .c (.sc (.bool (nmR x.1 i)))), (5, .c (.sc (.int .i64 i)))], ob := fun _ => [], n := 1, I := fun i => i ≤ x.1.size, μ := fun i => x.1.size - i } else none
noncomputable abbrev c_lawTideNames : Cfg := cfgS (Tryz.f7).ntmps false [(44, p_sure (sp_l13awake.prim)), (45, sp_l13ex.prim), (46, sp_tName.prim), (47, sp_tCk.prim)]
def F_lawTideNames (y : El sp_lawTideNames.q) (x : Els sp_lawTideNames.ps) : Prop :=
  true = true ∧ (decide ((↑(ByteArray.size x.1) : Int) ≥ (1 : Int)) = true → (∃ (x_1 : Nat), x.1 = x.1 ∧ true = true ∧ nmR x.1 x_1 = decide ((↑(ByteArray.size x.1) : Int) ≤ (20 : Int)) ∧ (↑x_1 : Int) = (0 : Int) ∧ x_1.le (ByteArray.size x.1)) ∧ ∀ (x_1 : Nat), x_1.le (ByteArray.size x.1) → (decide ((↑x_1 : Int) < (↑(ByteArray.size x.1) : Int)) = true → (nmR x.1 x_1 = true → ((0 : Int) ≤ (↑x_1 : Int) ∧ (↑x_1 : Int) < (↑(ByteArray.size x.1) : Int)) ∧ (decide ((↑(ByteArray.get! x.1 (↑x_1 : Int).toNat).toNat : Int) ≥ (65 : Int)) = true → ((0 : Int) ≤ (↑x_1 : Int) ∧ (↑x_1 : Int) < (↑(ByteArray.size x.1) : Int)) ∧ (decide ((↑(ByteArray.get! x.1 (↑x_1 : Int).toNat).toNat : Int) ≤ (90 : Int)) = true → ((-9223372036854775808 : Int) ≤ (↑x_1 : Int) + (1 : Int) ∧ (↑x_1 : Int) + (1 : Int) ≤ (9223372036854775807 : Int)) ∧ ∃ (x' : Nat), x.1 = x.1 ∧ true = true ∧ nmR x.1 x' = true ∧ (↑x' : Int) = (↑x_1 : Int) + (1 : Int) ∧ x'.le (ByteArray.size x.1) ∧ ByteArray.size x.1 - x' < ByteArray.size x.1 - x_1) ∧ (decide ((↑(ByteArray.get! x.1 (↑x_1 : Int).toNat).toNat : Int) ≤ (90 : Int)) = false → ((0 : Int) ≤ (↑x_1 : Int) ∧ (↑x_1 : Int) < (↑(ByteArray.size x.1) : Int)) ∧ (decide ((↑(ByteArray.get! x.1 (↑x_1 : Int).toNat).toNat : Int) ≥ (97 : Int)) = true → ((0 : Int) ≤ (↑x_1 : Int) ∧ (↑x_1 : Int) < (↑(ByteArray.size x.1) : Int)) ∧ (decide ((↑(ByteArray.get! x.1 (↑x_1 : Int).toNat).toNat : Int) ≤ (122 : Int)) = true → ((-9223372036854775808 : Int) ≤ (↑x_1 : Int) + (1 : Int) ∧ (↑x_1 : Int) + (1 : Int) ≤ (9223372036854775807 : Int)) ∧ ∃ (x' : Nat), x.1 = x.1 ∧ true = true ∧ nmR x.1 x' = true ∧ (↑x' : Int) = (↑x_1 : Int) + (1 : Int) ∧ x'.le (ByteArray.size x.1) ∧ ByteArray.size x.1 - x' < ByteArray.size x.1 - x_1) ∧ (decide ((↑(ByteArray.get! x.1 (↑x_1 : Int).toNat).toNat : Int) ≤ (122 : Int)) = false → (decide ((↑x_1 : Int) > (0 : Int)) = true → ((0 : Int) ≤ (↑x_1 : Int) ∧ (↑x_1 : Int) < (↑(ByteArray.size x.1) : Int)) ∧ (decide ((↑(ByteArray.get! x.1 (↑x_1 : Int).toNat).toNat : Int) ≥ (48 : Int)) = true → ((0 : Int) ≤ (↑x_1 : Int) ∧ (↑x_1 : Int) < (↑(ByteArray.size x.1) : Int)) ∧ ((-9223372036854775808 : Int) ≤ (↑x_1 : Int) + (1 : Int) ∧ (↑x_1 : Int) + (1 : Int) ≤ (9223372036854775807 : Int)) ∧ ∃ (x' : Nat), x.1 = x.1 ∧ true = true ∧ nmR x.1 x' = decide ((↑(ByteArray.get! x.1 (↑x_1 : Int).toNat).toNat : Int) ≤ (57 : Int)) ∧ (↑x' : Int) = (↑x_1 : Int) + (1 : Int) ∧ x'.le (ByteArray.size x.1) ∧ ByteArray.size x.1 - x' < ByteArray.size x.1 - x_1) ∧ (decide ((↑(ByteArray.get! x.1 (↑x_1 : Int).toNat).toNat : Int) ≥ (48 : Int)) = false → ((-9223372036854775808 : Int) ≤ (↑x_1 : Int) + (1 : Int) ∧ (↑x_1 : Int) + (1 : Int) ≤ (9223372036854775807 : Int)) ∧ ∃ (x' : Nat), x.1 = x.1 ∧ true = true ∧ nmR x.1 x' = false ∧ (↑x' : Int) = (↑x_1 : Int) + (1 : Int) ∧ x'.le (ByteArray.size x.1) ∧ ByteArray.size x.1 - x' < ByteArray.size x.1 - x_1)) ∧ (decide ((↑x_1 : Int) > (0 : Int)) = false → ((-9223372036854775808 : Int) ≤ (↑x_1 : Int) + (1 : Int) ∧ (↑x_1 : Int) + (1 : Int) ≤ (9223372036854775807 : Int)) ∧ ∃ (x' : Nat), x.1 = x.1 ∧ true = true ∧ nmR x.1 x' = false ∧ (↑x' : Int) = (↑x_1 : Int) + (1 : Int) ∧ x'.le (ByteArray.size x.1) ∧ ByteArray.size x.1 - x' < ByteArray.size x.1 - x_1))) ∧ (decide ((↑(ByteArray.get! x.1 (↑x_1 : Int).toNat).toNat : Int) ≥ (97 : Int)) = false → (decide ((↑x_1 : Int) > (0 : Int)) = true → ((0 : Int) ≤ (↑x_1 : Int) ∧ (↑x_1 : Int) < (↑(ByteArray.size x.1) : Int)) ∧ (decide ((↑(ByteArray.get! x.1 (↑x_1 : Int).toNat).toNat : Int) ≥ (48 : Int)) = true → ((0 : Int) ≤ (↑x_1 : Int) ∧ (↑x_1 : Int) < (↑(ByteArray.size x.1) : Int)) ∧ ((-9223372036854775808 : Int) ≤ (↑x_1 : Int) + (1 : Int) ∧ (↑x_1 : Int) + (1 : Int) ≤ (9223372036854775807 : Int)) ∧ ∃ (x' : Nat), x.1 = x.1 ∧ true = true ∧ nmR x.1 x' = decide ((↑(ByteArray.get! x.1 (↑x_1 : Int).toNat).toNat : Int) ≤ (57 : Int)) ∧ (↑x' : Int) = (↑x_1 : Int) + (1 : Int) ∧ x'.le (ByteArray.size x.1) ∧ ByteArray.size x.1 - x' < ByteArray.size x.1 - x_1) ∧ (decide ((↑(ByteArray.get! x.1 (↑x_1 : Int).toNat).toNat : Int) ≥ (48 : Int)) = false → ((-9223372036854775808 : Int) ≤ (↑x_1 : Int) + (1 : Int) ∧ (↑x_1 : Int) + (1 : Int) ≤ (9223372036854775807 : Int)) ∧ ∃ (x' : Nat), x.1 = x.1 ∧ true = true ∧ nmR x.1 x' = false ∧ (↑x' : Int) = (↑x_1 : Int) + (1 : Int) ∧ x'.le (ByteArray.size x.1) ∧ ByteArray.size x.1 - x' < ByteArray.size x.1 - x_1)) ∧ (decide ((↑x_1 : Int) > (0 : Int)) = false → ((-9223372036854775808 : Int) ≤ (↑x_1 : Int) + (1 : Int) ∧ (↑x_1 : Int) + (1 : Int) ≤ (9223372036854775807 : Int)) ∧ ∃ (x' : Nat), x.1 = x.1 ∧ true = true ∧ nmR x.1 x' = false ∧ (↑x' : Int) = (↑x_1 : Int) + (1 : Int) ∧ x'.le (ByteArray.size x.1) ∧ ByteArray.size x.1 - x' < ByteArray.size x.1 - x_1)))) ∧ (decide ((↑(ByteArray.get! x.1 (↑x_1 : Int).toNat).toNat : Int) ≥ (65 : Int)) = false → ((0 : Int) ≤ (↑x_1 : Int) ∧ (↑x_1 : Int) < (↑(ByteArray.size x.1) : Int)) ∧ (decide ((↑(ByteArray.get! x.1 (↑x_1 : Int).toNat).toNat : Int) ≥ (97 : Int)) = true → ((0 : Int) ≤ (↑x_1 : Int) ∧ (↑x_1 : Int) < (↑(ByteArray.size x.1) : Int)) ∧ (decide ((↑(ByteArray.get! x.1 (↑x_1 : Int).toNat).toNat : Int) ≤ (122 : Int)) = true → ((-9223372036854775808 : Int) ≤ (↑x_1 : Int) + (1 : Int) ∧ (↑x_1 : Int) + (1 : Int) ≤ (9223372036854775807 : Int)) ∧ ∃ (x' : Nat), x.1 = x.1 ∧ true = true ∧ nmR x.1 x' = true ∧ (↑x' : Int) = (↑x_1 : Int) + (1 : Int) ∧ x'.le (ByteArray.size x.1) ∧ ByteArray.size x.1 - x' < ByteArray.size x.1 - x_1) ∧ (decide ((↑(ByteArray.get! x.1 (↑x_1 : Int).toNat).toNat : Int) ≤ (122 : Int)) = false → (decide ((↑x_1 : Int) > (0 : Int)) = true → ((0 : Int) ≤ (↑x_1 : Int) ∧ (↑x_1 : Int) < (↑(ByteArray.size x.1) : Int)) ∧ (decide ((↑(ByteArray.get! x.1 (↑x_1 : Int).toNat).toNat : Int) ≥ (48 : Int)) = true → ((0 : Int) ≤ (↑x_1 : Int) ∧ (↑x_1 : Int) < (↑(ByteArray.size x.1) : Int)) ∧ ((-9223372036854775808 : Int) ≤ (↑x_1 : Int) + (1 : Int) ∧ (↑x_1 : Int) + (1 : Int) ≤ (9223372036854775807 : Int)) ∧ ∃ (x' : Nat), x.1 = x.1 ∧ true = true ∧ nmR x.1 x' = decide ((↑(ByteArray.get! x.1 (↑x_1 : Int).toNat).toNat : Int) ≤ (57 : Int)) ∧ (↑x' : Int) = (↑x_1 : Int) + (1 : Int) ∧ x'.le (ByteArray.size x.1) ∧ ByteArray.size x.1 - x' < ByteArray.size x.1 - x_1) ∧ (decide ((↑(ByteArray.get! x.1 (↑x_1 : Int).toNat).toNat : Int) ≥ (48 : Int)) = false → ((-9223372036854775808 : Int) ≤ (↑x_1 : Int) + (1 : Int) ∧ (↑x_1 : Int) + (1 : Int) ≤ (9223372036854775807 : Int)) ∧ ∃ (x' : Nat), x.1 = x.1 ∧ true = true ∧ nmR x.1 x' = false ∧ (↑x' : Int) = (↑x_1 : Int) + (1 : Int) ∧ x'.le (ByteArray.size x.1) ∧ ByteArray.size x.1 - x' < ByteArray.size x.1 - x_1)) ∧ (decide ((↑x_1 : Int) > (0 : Int)) = false → ((-9223372036854775808 : Int) ≤ (↑x_1 : Int) + (1 : Int) ∧ (↑x_1 : Int) + (1 : Int) ≤ (9223372036854775807 : Int)) ∧ ∃ (x' : Nat), x.1 = x.1 ∧ true = true ∧ nmR x.1 x' = false ∧ (↑x' : Int) = (↑x_1 : Int) + (1 : Int) ∧ x'.le (ByteArray.size x.1) ∧ ByteArray.size x.1 - x' < ByteArray.size x.1 - x_1))) ∧ (decide ((↑(ByteArray.get! x.1 (↑x_1 : Int).toNat).toNat : Int) ≥ (97 : Int)) = false → (decide ((↑x_1 : Int) > (0 : Int)) = true → ((0 : Int) ≤ (↑x_1 : Int) ∧ (↑x_1 : Int) < (↑(ByteArray.size x.1) : Int)) ∧ (decide ((↑(ByteArray.get! x.1 (↑x_1 : Int).toNat).toNat : Int) ≥ (48 : Int)) = true → ((0 : Int) ≤ (↑x_1 : Int) ∧ (↑x_1 : Int) < (↑(ByteArray.size x.1) : Int)) ∧ ((-9223372036854775808 : Int) ≤ (↑x_1 : Int) + (1 : Int) ∧ (↑x_1 : Int) + (1 : Int) ≤ (9223372036854775807 : Int)) ∧ ∃ (x' : Nat), x.1 = x.1 ∧ true = true ∧ nmR x.1 x' = decide ((↑(ByteArray.get! x.1 (↑x_1 : Int).toNat).toNat : Int) ≤ (57 : Int)) ∧ (↑x' : Int) = (↑x_1 : Int) + (1 : Int) ∧ x'.le (ByteArray.size x.1) ∧ ByteArray.size x.1 - x' < ByteArray.size x.1 - x_1) ∧ (decide ((↑(ByteArray.get! x.1 (↑x_1 : Int).toNat).toNat : Int) ≥ (48 : Int)) = false → ((-9223372036854775808 : Int) ≤ (↑x_1 : Int) + (1 : Int) ∧ (↑x_1 : Int) + (1 : Int) ≤ (9223372036854775807 : Int)) ∧ ∃ (x' : Nat), x.1 = x.1 ∧ true = true ∧ nmR x.1 x' = false ∧ (↑x' : Int) = (↑x_1 : Int) + (1 : Int) ∧ x'.le (ByteArray.size x.1) ∧ ByteArray.size x.1 - x' < ByteArray.size x.1 - x_1)) ∧ (decide ((↑x_1 : Int) > (0 : Int)) = false → ((-9223372036854775808 : Int) ≤ (↑x_1 : Int) + (1 : Int) ∧ (↑x_1 : Int) + (1 : Int) ≤ (9223372036854775807 : Int)) ∧ ∃ (x' : Nat), x.1 = x.1 ∧ true = true ∧ nmR x.1 x' = false ∧ (↑x' : Int) = (↑x_1 : Int) + (1 : Int) ∧ x'.le (ByteArray.size x.1) ∧ ByteArray.size x.1 - x' < ByteArray.size x.1 - x_1)))) ∧ (nmR x.1 x_1 = false → ∀ (r : Ro [tTide]), r = ((), exM, ()) → (true = true → ∀ (r_1 : Ro [Ty.bo]), r_1 = ((), nameS x.1, ()) → ((r_1.2.1 == nmR x.1 x_1) = true → ∀ (r_2 : Ro [Ty.it IntKind.i64]), r_2 = ((), tchk (x.1, r.2.1.2), ()) → (((r_2.2.1 == (0 : Int)) == nmR x.1 x_1) = true → (nmR x.1 x_1 = true → (true, ()) = (true, ())) ∧ (nmR x.1 x_1 = false → ∀ (r_3 : Ro [Ty.it IntKind.i64]), r_3 = ((), tchk (x.1, r.2.1.2), ()) → (r_3.2.1 == (4 : Int), ()) = (true, ()))) ∧ (((r_2.2.1 == (0 : Int)) == nmR x.1 x_1) = false → (false, ()) = (true, ()))) ∧ ((r_1.2.1 == nmR x.1 x_1) = false → (false, ()) = (true, ()))) ∧ (true = false → (false, ()) = (true, ())))) ∧ (decide ((↑x_1 : Int) < (↑(ByteArray.size x.1) : Int)) = false → ∀ (r : Ro [tTide]), r = ((), exM, ()) → (true = true → ∀ (r_1 : Ro [Ty.bo]), r_1 = ((), nameS x.1, ()) → ((r_1.2.1 == nmR x.1 x_1) = true → ∀ (r_2 : Ro [Ty.it IntKind.i64]), r_2 = ((), tchk (x.1, r.2.1.2), ()) → (((r_2.2.1 == (0 : Int)) == nmR x.1 x_1) = true → (nmR x.1 x_1 = true → (true, ()) = (true, ())) ∧ (nmR x.1 x_1 = false → ∀ (r_3 : Ro [Ty.it IntKind.i64]), r_3 = ((), tchk (x.1, r.2.1.2), ()) → (r_3.2.1 == (4 : Int), ()) = (true, ()))) ∧ (((r_2.2.1 == (0 : Int)) == nmR x.1 x_1) = false → (false, ()) = (true, ()))) ∧ ((r_1.2.1 == nmR x.1 x_1) = false → (false, ()) = (true, ()))) ∧ (true = false → (false, ()) = (true, ())))) ∧ (decide ((↑(ByteArray.size x.1) : Int) ≥ (1 : Int)) = false → (∃ (x_1 : Nat), x.1 = x.1 ∧ true = true ∧ nmR x.1 x_1 = false ∧ (↑x_1 : Int) = (0 : Int) ∧ x_1.le (ByteArray.size x.1)) ∧ ∀ (x_1 : Nat), x_1.le (ByteArray.size x.1) → (decide ((↑x_1 : Int) < (↑(ByteArray.size x.1) : Int)) = true → (nmR x.1 x_1 = true → ((0 : Int) ≤ (↑x_1 : Int) ∧ (↑x_1 : Int) < (↑(ByteArray.size x.1) : Int)) ∧ (decide ((↑(ByteArray.get! x.1 (↑x_1 : Int).toNat).toNat : Int) ≥ (65 : Int)) = true → ((0 : Int) ≤ (↑x_1 : Int) ∧ (↑x_1 : Int) < (↑(ByteArray.size x.1) : Int)) ∧ (decide ((↑(ByteArray.get! x.1 (↑x_1 : Int).toNat).toNat : Int) ≤ (90 : Int)) = true → ((-9223372036854775808 : Int) ≤ (↑x_1 : Int) + (1 : Int) ∧ (↑x_1 : Int) + (1 : Int) ≤ (9223372036854775807 : Int)) ∧ ∃ (x' : Nat), x.1 = x.1 ∧ true = true ∧ nmR x.1 x' = true ∧ (↑x' : Int) = (↑x_1 : Int) + (1 : Int) ∧ x'.le (ByteArray.size x.1) ∧ ByteArray.size x.1 - x' < ByteArray.size x.1 - x_1) ∧ (decide ((↑(ByteArray.get! x.1 (↑x_1 : Int).toNat).toNat : Int) ≤ (90 : Int)) = false → ((0 : Int) ≤ (↑x_1 : Int) ∧ (↑x_1 : Int) < (↑(ByteArray.size x.1) : Int)) ∧ (decide ((↑(ByteArray.get! x.1 (↑x_1 : Int).toNat).toNat : Int) ≥ (97 : Int)) = true → ((0 : Int) ≤ (↑x_1 : Int) ∧ (↑x_1 : Int) < (↑(ByteArray.size x.1) : Int)) ∧ (decide ((↑(ByteArray.get! x.1 (↑x_1 : Int).toNat).toNat : Int) ≤ (122 : Int)) = true → ((-9223372036854775808 : Int) ≤ (↑x_1 : Int) + (1 : Int) ∧ (↑x_1 : Int) + (1 : Int) ≤ (9223372036854775807 : Int)) ∧ ∃ (x' : Nat), x.1 = x.1 ∧ true = true ∧ nmR x.1 x' = true ∧ (↑x' : Int) = (↑x_1 : Int) + (1 : Int) ∧ x'.le (ByteArray.size x.1) ∧ ByteArray.size x.1 - x' < ByteArray.size x.1 - x_1) ∧ (decide ((↑(ByteArray.get! x.1 (↑x_1 : Int).toNat).toNat : Int) ≤ (122 : Int)) = false → (decide ((↑x_1 : Int) > (0 : Int)) = true → ((0 : Int) ≤ (↑x_1 : Int) ∧ (↑x_1 : Int) < (↑(ByteArray.size x.1) : Int)) ∧ (decide ((↑(ByteArray.get! x.1 (↑x_1 : Int).toNat).toNat : Int) ≥ (48 : Int)) = true → ((0 : Int) ≤ (↑x_1 : Int) ∧ (↑x_1 : Int) < (↑(ByteArray.size x.1) : Int)) ∧ ((-9223372036854775808 : Int) ≤ (↑x_1 : Int) + (1 : Int) ∧ (↑x_1 : Int) + (1 : Int) ≤ (9223372036854775807 : Int)) ∧ ∃ (x' : Nat), x.1 = x.1 ∧ true = true ∧ nmR x.1 x' = decide ((↑(ByteArray.get! x.1 (↑x_1 : Int).toNat).toNat : Int) ≤ (57 : Int)) ∧ (↑x' : Int) = (↑x_1 : Int) + (1 : Int) ∧ x'.le (ByteArray.size x.1) ∧ ByteArray.size x.1 - x' < ByteArray.size x.1 - x_1) ∧ (decide ((↑(ByteArray.get! x.1 (↑x_1 : Int).toNat).toNat : Int) ≥ (48 : Int)) = false → ((-9223372036854775808 : Int) ≤ (↑x_1 : Int) + (1 : Int) ∧ (↑x_1 : Int) + (1 : Int) ≤ (9223372036854775807 : Int)) ∧ ∃ (x' : Nat), x.1 = x.1 ∧ true = true ∧ nmR x.1 x' = false ∧ (↑x' : Int) = (↑x_1 : Int) + (1 : Int) ∧ x'.le (ByteArray.size x.1) ∧ ByteArray.size x.1 - x' < ByteArray.size x.1 - x_1)) ∧ (decide ((↑x_1 : Int) > (0 : Int)) = false → ((-9223372036854775808 : Int) ≤ (↑x_1 : Int) + (1 : Int) ∧ (↑x_1 : Int) + (1 : Int) ≤ (9223372036854775807 : Int)) ∧ ∃ (x' : Nat), x.1 = x.1 ∧ true = true ∧ nmR x.1 x' = false ∧ (↑x' : Int) = (↑x_1 : Int) + (1 : Int) ∧ x'.le (ByteArray.size x.1) ∧ ByteArray.size x.1 - x' < ByteArray.size x.1 - x_1))) ∧ (decide ((↑(ByteArray.get! x.1 (↑x_1 : Int).toNat).toNat : Int) ≥ (97 : Int)) = false → (decide ((↑x_1 : Int) > (0 : Int)) = true → ((0 : Int) ≤ (↑x_1 : Int) ∧ (↑x_1 : Int) < (↑(ByteArray.size x.1) : Int)) ∧ (decide ((↑(ByteArray.get! x.1 (↑x_1 : Int).toNat).toNat : Int) ≥ (48 : Int)) = true → ((0 : Int) ≤ (↑x_1 : Int) ∧ (↑x_1 : Int) < (↑(ByteArray.size x.1) : Int)) ∧ ((-9223372036854775808 : Int) ≤ (↑x_1 : Int) + (1 : Int) ∧ (↑x_1 : Int) + (1 : Int) ≤ (9223372036854775807 : Int)) ∧ ∃ (x' : Nat), x.1 = x.1 ∧ true = true ∧ nmR x.1 x' = decide ((↑(ByteArray.get! x.1 (↑x_1 : Int).toNat).toNat : Int) ≤ (57 : Int)) ∧ (↑x' : Int) = (↑x_1 : Int) + (1 : Int) ∧ x'.le (ByteArray.size x.1) ∧ ByteArray.size x.1 - x' < ByteArray.size x.1 - x_1) ∧ (decide ((↑(ByteArray.get! x.1 (↑x_1 : Int).toNat).toNat : Int) ≥ (48 : Int)) = false → ((-9223372036854775808 : Int) ≤ (↑x_1 : Int) + (1 : Int) ∧ (↑x_1 : Int) + (1 : Int) ≤ (9223372036854775807 : Int)) ∧ ∃ (x' : Nat), x.1 = x.1 ∧ true = true ∧ nmR x.1 x' = false ∧ (↑x' : Int) = (↑x_1 : Int) + (1 : Int) ∧ x'.le (ByteArray.size x.1) ∧ ByteArray.size x.1 - x' < ByteArray.size x.1 - x_1)) ∧ (decide ((↑x_1 : Int) > (0 : Int)) = false → ((-9223372036854775808 : Int) ≤ (↑x_1 : Int) + (1 : Int) ∧ (↑x_1 : Int) + (1 : Int) ≤ (9223372036854775807 : Int)) ∧ ∃ (x' : Nat), x.1 = x.1 ∧ true = true ∧ nmR x.1 x' = false ∧ (↑x' : Int) = (↑x_1 : Int) + (1 : Int) ∧ x'.le (ByteArray.size x.1) ∧ ByteArray.size x.1 - x' < ByteArray.size x.1 - x_1)))) ∧ (decide ((↑(ByteArray.get! x.1 (↑x_1 : Int).toNat).toNat : Int) ≥ (65 : Int)) = false → ((0 : Int) ≤ (↑x_1 : Int) ∧ (↑x_1 : Int) < (↑(ByteArray.size x.1) : Int)) ∧ (decide ((↑(ByteArray.get! x.1 (↑x_1 : Int).toNat).toNat : Int) ≥ (97 : Int)) = true → ((0 : Int) ≤ (↑x_1 : Int) ∧ (↑x_1 : Int) < (↑(ByteArray.size x.1) : Int)) ∧ (decide ((↑(ByteArray.get! x.1 (↑x_1 : Int).toNat).toNat : Int) ≤ (122 : Int)) = true → ((-9223372036854775808 : Int) ≤ (↑x_1 : Int) + (1 : Int) ∧ (↑x_1 : Int) + (1 : Int) ≤ (9223372036854775807 : Int)) ∧ ∃ (x' : Nat), x.1 = x.1 ∧ true = true ∧ nmR x.1 x' = true ∧ (↑x' : Int) = (↑x_1 : Int) + (1 : Int) ∧ x'.le (ByteArray.size x.1) ∧ ByteArray.size x.1 - x' < ByteArray.size x.1 - x_1) ∧ (decide ((↑(ByteArray.get! x.1 (↑x_1 : Int).toNat).toNat : Int) ≤ (122 : Int)) = false → (decide ((↑x_1 : Int) > (0 : Int)) = true → ((0 : Int) ≤ (↑x_1 : Int) ∧ (↑x_1 : Int) < (↑(ByteArray.size x.1) : Int)) ∧ (decide ((↑(ByteArray.get! x.1 (↑x_1 : Int).toNat).toNat : Int) ≥ (48 : Int)) = true → ((0 : Int) ≤ (↑x_1 : Int) ∧ (↑x_1 : Int) < (↑(ByteArray.size x.1) : Int)) ∧ ((-9223372036854775808 : Int) ≤ (↑x_1 : Int) + (1 : Int) ∧ (↑x_1 : Int) + (1 : Int) ≤ (9223372036854775807 : Int)) ∧ ∃ (x' : Nat), x.1 = x.1 ∧ true = true ∧ nmR x.1 x' = decide ((↑(ByteArray.get! x.1 (↑x_1 : Int).toNat).toNat : Int) ≤ (57 : Int)) ∧ (↑x' : Int) = (↑x_1 : Int) + (1 : Int) ∧ x'.le (ByteArray.size x.1) ∧ ByteArray.size x.1 - x' < ByteArray.size x.1 - x_1) ∧ (decide ((↑(ByteArray.get! x.1 (↑x_1 : Int).toNat).toNat : Int) ≥ (48 : Int)) = false → ((-9223372036854775808 : Int) ≤ (↑x_1 : Int) + (1 : Int) ∧ (↑x_1 : Int) + (1 : Int) ≤ (9223372036854775807 : Int)) ∧ ∃ (x' : Nat), x.1 = x.1 ∧ true = true ∧ nmR x.1 x' = false ∧ (↑x' : Int) = (↑x_1 : Int) + (1 : Int) ∧ x'.le (ByteArray.size x.1) ∧ ByteArray.size x.1 - x' < ByteArray.size x.1 - x_1)) ∧ (decide ((↑x_1 : Int) > (0 : Int)) = false → ((-9223372036854775808 : Int) ≤ (↑x_1 : Int) + (1 : Int) ∧ (↑x_1 : Int) + (1 : Int) ≤ (9223372036854775807 : Int)) ∧ ∃ (x' : Nat), x.1 = x.1 ∧ true = true ∧ nmR x.1 x' = false ∧ (↑x' : Int) = (↑x_1 : Int) + (1 : Int) ∧ x'.le (ByteArray.size x.1) ∧ ByteArray.size x.1 - x' < ByteArray.size x.1 - x_1))) ∧ (decide ((↑(ByteArray.get! x.1 (↑x_1 : Int).toNat).toNat : Int) ≥ (97 : Int)) = false → (decide ((↑x_1 : Int) > (0 : Int)) = true → ((0 : Int) ≤ (↑x_1 : Int) ∧ (↑x_1 : Int) < (↑(ByteArray.size x.1) : Int)) ∧ (decide ((↑(ByteArray.get! x.1 (↑x_1 : Int).toNat).toNat : Int) ≥ (48 : Int)) = true → ((0 : Int) ≤ (↑x_1 : Int) ∧ (↑x_1 : Int) < (↑(ByteArray.size x.1) : Int)) ∧ ((-9223372036854775808 : Int) ≤ (↑x_1 : Int) + (1 : Int) ∧ (↑x_1 : Int) + (1 : Int) ≤ (9223372036854775807 : Int)) ∧ ∃ (x' : Nat), x.1 = x.1 ∧ true = true ∧ nmR x.1 x' = decide ((↑(ByteArray.get! x.1 (↑x_1 : Int).toNat).toNat : Int) ≤ (57 : Int)) ∧ (↑x' : Int) = (↑x_1 : Int) + (1 : Int) ∧ x'.le (ByteArray.size x.1) ∧ ByteArray.size x.1 - x' < ByteArray.size x.1 - x_1) ∧ (decide ((↑(ByteArray.get! x.1 (↑x_1 : Int).toNat).toNat : Int) ≥ (48 : Int)) = false → ((-9223372036854775808 : Int) ≤ (↑x_1 : Int) + (1 : Int) ∧ (↑x_1 : Int) + (1 : Int) ≤ (9223372036854775807 : Int)) ∧ ∃ (x' : Nat), x.1 = x.1 ∧ true = true ∧ nmR x.1 x' = false ∧ (↑x' : Int) = (↑x_1 : Int) + (1 : Int) ∧ x'.le (ByteArray.size x.1) ∧ ByteArray.size x.1 - x' < ByteArray.size x.1 - x_1)) ∧ (decide ((↑x_1 : Int) > (0 : Int)) = false → ((-9223372036854775808 : Int) ≤ (↑x_1 : Int) + (1 : Int) ∧ (↑x_1 : Int) + (1 : Int) ≤ (9223372036854775807 : Int)) ∧ ∃ (x' : Nat), x.1 = x.1 ∧ true = true ∧ nmR x.1 x' = false ∧ (↑x' : Int) = (↑x_1 : Int) + (1 : Int) ∧ x'.le (ByteArray.size x.1) ∧ ByteArray.size x.1 - x' < ByteArray.size x.1 - x_1)))) ∧ (nmR x.1 x_1 = false → ∀ (r : Ro [tTide]), r = ((), exM, ()) → (true = true → ∀ (r_1 : Ro [Ty.bo]), r_1 = ((), nameS x.1, ()) → ((r_1.2.1 == nmR x.1 x_1) = true → ∀ (r_2 : Ro [Ty.it IntKind.i64]), r_2 = ((), tchk (x.1, r.2.1.2), ()) → (((r_2.2.1 == (0 : Int)) == nmR x.1 x_1) = true → (nmR x.1 x_1 = true → (true, ()) = (true, ())) ∧ (nmR x.1 x_1 = false → ∀ (r_3 : Ro [Ty.it IntKind.i64]), r_3 = ((), tchk (x.1, r.2.1.2), ()) → (r_3.2.1 == (4 : Int), ()) = (true, ()))) ∧ (((r_2.2.1 == (0 : Int)) == nmR x.1 x_1) = false → (false, ()) = (true, ()))) ∧ ((r_1.2.1 == nmR x.1 x_1) = false → (false, ()) = (true, ()))) ∧ (true = false → (false, ()) = (true, ())))) ∧ (decide ((↑x_1 : Int) < (↑(ByteArray.size x.1) : Int)) = false → ∀ (r : Ro [tTide]), r = ((), exM, ()) → (true = true → ∀ (r_1 : Ro [Ty.bo]), r_1 = ((), nameS x.1, ()) → ((r_1.2.1 == nmR x.1 x_1) = true → ∀ (r_2 : Ro [Ty.it IntKind.i64]), r_2 = ((), tchk (x.1, r.2.1.2), ()) → (((r_2.2.1 == (0 : Int)) == nmR x.1 x_1) = true → (nmR x.1 x_1 = true → (true, ()) = (true, ())) ∧ (nmR x.1 x_1 = false → ∀ (r_3 : Ro [Ty.it IntKind.i64]), r_3 = ((), tchk (x.1, r.2.1.2), ()) → (r_3.2.1 == (4 : Int), ()) = (true, ()))) ∧ (((r_2.2.1 == (0 : Int)) == nmR x.1 x_1) = false → (false, ()) = (true, ()))) ∧ ((r_1.2.1 == nmR x.1 x_1) = false → (false, ()) = (true, ()))) ∧ (true = false → (false, ()) = (true, ()))))
theorem w_lawTideNames (y : El sp_lawTideNames.q) (x : Els sp_lawTideNames.ps) : aW c_lawTideNames (iv_lawTideNames y x) Tryz.f7 sp_lawTideNames y x = F_lawTideNames y x := by kernel_rfl
theorem m_lawTideNames (y : El (.un)) (x : Els [.st]) (h2 : wfE (.un) y) (h3 : wfEs [.st] x) : F_lawTideNames y x := by
  unfold F_lawTideNames
  have gz : ∀ i : Nat, ((ByteArray.get! x.1 ((i : Int)).toNat).toNat : Int) = gi x.1 i := fun i => by rw [Int.toNat_natCast]; rfl
  have sz : (ByteArray.size x.1 : Int) ≤ 9223372036854775807 := by have := h3.1; exact Int.ofNat_le.2 this
  refine ⟨rfl, fun h1 => ?_, fun h1 => ?_⟩
  · have h1 : 1 ≤ ByteArray.size x.1 := by have := of_decide_eq_true h1; omega
    refine ⟨⟨0, rfl, rfl, nm_0 h1, rfl, Nat.zero_le _⟩, fun i hi => ⟨fun l => ⟨fun nm => ?_, fun nm => ?_⟩, fun l => ?_⟩⟩
    · have l := of_decide_eq_true l
      have il : i + 1 ≤ ByteArray.size x.1 := by omega
      simp only [gz]
      refine ⟨⟨Int.natCast_nonneg _, l⟩, ?_⟩
      repeat' (first
        | (refine And.intro (fun u => ?_) (fun u => ?_))
        | (refine ⟨⟨by omega, by omega⟩, i + 1, (by first | exact rfl | exact trivial), (by first | exact rfl | exact trivial), nm_step nm ?_, (by first | exact rfl | exact trivial), il, by omega⟩)
        | (refine And.intro (And.intro (Int.natCast_nonneg _) l) ?_))
      all_goals
        unfold lett digI
        simp only [decide_eq_true_eq, decide_eq_false_iff_not] at *
        rw [Bool.eq_iff_iff]
        simp only [Bool.or_eq_true, Bool.and_eq_true, decide_eq_true_eq, iff_true, iff_false, Bool.false_eq_true]
        omega
    · have hE : nameS x.1 = nmR x.1 i := nm_E1 hi nm
      rintro _ rfl
      refine ⟨fun _ => ?_, fun h => Bool.noConfusion h⟩
      rintro _ rfl
      refine ⟨fun _ => ?_, fun h => absurd (show (nameS x.1 == nmR x.1 i) = false from h) (by rw [hE, beq_self_eq_true]; decide)⟩
      cases hb : nmR x.1 i with
      | true =>
        intro r hr
        obtain rfl := hr.trans (congrArg iR (tM_1 (hE.trans hb)))
        exact ⟨fun _ => ⟨fun _ => rfl, fun h => Bool.noConfusion h⟩, fun h => Bool.noConfusion (show true = false from h)⟩
      | false =>
        intro r hr
        obtain rfl := hr.trans (congrArg iR (tM_4 (hE.trans hb)))
        refine ⟨fun _ => ⟨fun h => Bool.noConfusion h, fun _ => ?_⟩, fun h => Bool.noConfusion (show true = false from h)⟩
        intro r hr
        obtain rfl := hr.trans (congrArg iR (tM_4 (hE.trans hb)))
        rfl
    · have hE : nameS x.1 = nmR x.1 i := nm_E2 (by
        have := of_decide_eq_false l
        have hi : i ≤ ByteArray.size x.1 := hi
        omega)
      rintro _ rfl
      refine ⟨fun _ => ?_, fun h => Bool.noConfusion h⟩
      rintro _ rfl
      refine ⟨fun _ => ?_, fun h => absurd (show (nameS x.1 == nmR x.1 i) = false from h) (by rw [hE, beq_self_eq_true]; decide)⟩
      cases hb : nmR x.1 i with
      | true =>
        intro r hr
        obtain rfl := hr.trans (congrArg iR (tM_1 (hE.trans hb)))
        exact ⟨fun _ => ⟨fun _ => rfl, fun h => Bool.noConfusion h⟩, fun h => Bool.noConfusion (show true = false from h)⟩
      | false =>
        intro r hr
        obtain rfl := hr.trans (congrArg iR (tM_4 (hE.trans hb)))
        refine ⟨fun _ => ⟨fun h => Bool.noConfusion h, fun _ => ?_⟩, fun h => Bool.noConfusion (show true = false from h)⟩
        intro r hr
        obtain rfl := hr.trans (congrArg iR (tM_4 (hE.trans hb)))
        rfl
  · have h1 : ¬ 1 ≤ ByteArray.size x.1 := by have := of_decide_eq_false h1; omega
    refine ⟨⟨0, rfl, rfl, nm_00 h1 0, rfl, Nat.zero_le _⟩, fun i hi => ⟨fun l => ?_, fun l => ?_⟩⟩
    · have l := of_decide_eq_true l
      omega
    · have hE : nameS x.1 = nmR x.1 i := nm_E1 hi (nm_00 h1 i)
      rintro _ rfl
      refine ⟨fun _ => ?_, fun h => Bool.noConfusion h⟩
      rintro _ rfl
      refine ⟨fun _ => ?_, fun h => absurd (show (nameS x.1 == nmR x.1 i) = false from h) (by rw [hE, beq_self_eq_true]; decide)⟩
      cases hb : nmR x.1 i with
      | true =>
        intro r hr
        obtain rfl := hr.trans (congrArg iR (tM_1 (hE.trans hb)))
        exact ⟨fun _ => ⟨fun _ => rfl, fun h => Bool.noConfusion h⟩, fun h => Bool.noConfusion (show true = false from h)⟩
      | false =>
        intro r hr
        obtain rfl := hr.trans (congrArg iR (tM_4 (hE.trans hb)))
        refine ⟨fun _ => ⟨fun h => Bool.noConfusion h, fun _ => ?_⟩, fun h => Bool.noConfusion (show true = false from h)⟩
        intro r hr
        obtain rfl := hr.trans (congrArg iR (tM_4 (hE.trans hb)))
        rfl
theorem fo_lawTideNames : FnOk Tryz.prog 7 sp_lawTideNames := fnOk_of (C := c_lawTideNames) iv_lawTideNames Tryz.func7 rfl (by kernel_rfl) tys_ok (prims_cons (pr_sure (spec_prim fo_l13awake)) (prims_cons (spec_prim fo_l13ex) (prims_cons (spec_prim fo_tName) (prims_cons (spec_prim fo_tCk) prims_nil)))) mixed_ (Nat.le_refl _) rfl fun y x h1 h2 h3 h4 =>
  Eq.mpr (w_lawTideNames y x) (m_lawTideNames y x h2 h3)
end Go.Proofs.YtemlaompalbgiaaGreatDoor
namespace Go.Proofs.YtemlaompalbgiaaGreatDoor
open Go.ChangeShapes Go.WideShapes Go.ChangeAt Go.RowKit Go.Joins Go.Deep
set_option linter.unusedVariables false
section
variable {H : Type} {enc : TypeId × Value → H} {P : Program} {w : World} {base : Nat} {spare : Nat → Bool} {held : Bool}
end
theorem mk_own : ownKnob Tryz.prog.godebug = none := by kernel_rfl
theorem mk_laidOut : laidOutB Tryz.prog = true := by kernel_rfl
end Go.Proofs.YtemlaompalbgiaaGreatDoor
