/- Texts of this claim, joined: Q5 D0 D1 D2 D3 B31 B32 B33 B34 F5 P19 P20 P21. -/
import Derived.Maps.OwnSet
import Derived.DeepKeys4
import Derived.KernelRfl
import Derived.Deep.RegionHeld3
import Derived.Test.YtjoonfegjobgbaaGreatDoorRx
set_option linter.unusedVariables false
set_option linter.unusedSimpArgs false
set_option maxRecDepth 100000
namespace Go.Proofs.YtjoonfegjobgbaaGreatDoor
open Go Go.RowKit
def txT (c : El tTide) : ByteArray := jnB [c.1, itB c.2.1.1, itB c.2.1.2.1, txGa (toGa c.2.2.1)] ⟨#[32]⟩
def prT (c : El tTide) : ByteArray × Int × Unit := if tchk c ≠ 0 then (⟨#[]⟩, tchk c, ()) else if 65536 < (txGa (toGa c.2.2.1)).size ∨ 65536 < (txT c).size then (⟨#[]⟩, 3, ()) else (txT c, 0, ())
theorem jn4 (a b c d p : ByteArray) : (jnB [a, b, c, d] p).data.toList = a.data.toList ++ p.data.toList ++ (b.data.toList ++ p.data.toList ++ (c.data.toList ++ p.data.toList ++ d.data.toList)) := by
  simp [jnB, Lib.join]
theorem jn4_size (a b c d : ByteArray) : (jnB [a, b, c, d] ⟨#[32]⟩).size = a.size + b.size + c.size + d.size + 3 := by
  have e : (⟨#[32]⟩ : ByteArray).data.toList = [32] := rfl
  rw [← ba_len, jn4, e]
  simp only [List.length_append, ba_len, List.length_cons, List.length_nil]
  omega
theorem prT_bad {c : El tTide} (h : tchk c ≠ 0) : prT c = (⟨#[]⟩, tchk c, ()) := if_pos h
theorem prT_long {c : El tTide} (h : tchk c = 0) (k : 65536 < (txGa (toGa c.2.2.1)).size ∨ 65536 < (txT c).size) : prT c = (⟨#[]⟩, 3, ()) := (if_neg (fun e => e h)).trans (if_pos k)
theorem prT_ok {c : El tTide} (h : tchk c = 0) (k : (txGa (toGa c.2.2.1)).size ≤ 65536) (l : (txT c).size ≤ 65536) : prT c = (txT c, 0, ()) := (if_neg (fun e => e h)).trans (if_neg (by omega))
theorem tchk_un {c : El tTide} (h : tchk c = 0) : nameS c.1 = true ∧ rotC c.2.1 = 0 ∧ gchk (toGa c.2.2.1) = 0 := by
  unfold tchk at h
  split at h
  · cases h
  · next c1 =>
    split at h
    · next c2 => exact absurd h c2
    · next c2 => exact ⟨Bool.not_eq_false _ ▸ c1, Decidable.not_not.1 c2, h⟩
theorem rotC_un {r : El tRot} (h : rotC r = 0) : (1 : Int) ≤ r.1 ∧ (r.1 : Int) ≤ 1000 ∧ (-1000 : Int) ≤ r.2.1 ∧ (r.2.1 : Int) ≤ 1000 := by
  unfold rotC at h
  split at h
  · next c => exact ⟨c.1, c.2.1, c.2.2.1, c.2.2.2.1⟩
  · cases h
theorem nameS_sz {s : ByteArray} (h : nameS s = true) : s.size ≤ 20 := by
  unfold nameS at h
  simp only [Bool.and_eq_true, decide_eq_true_eq] at h
  exact h.1.1.2
theorem wrap64 {n : Int} (h : -1000 ≤ n ∧ n ≤ 1000) : IntKind.i64.wrap n = n := Go.IntWalk.i64_in n (by omega)
noncomputable def sp_tPrint : Spec := { q := .un, ps := [tTide], rs := [.st, .it .i64], fresh := true, pre := fun _ _ => none, post := fun _ x => ((), prT x.1) }
noncomputable def iv_tPrint (y : El sp_tPrint.q) (x : Els sp_tPrint.ps) : Nat → Option Inv := fun _ => none
noncomputable abbrev c_tPrint : Cfg := { cfgS (Tryz.f56).ntmps false [(64, sp_tCk.prim), (39, sp_gPrintG.prim), (118, sp_sItoa.prim), (117, sp_sJoin.prim)] with ty := tysT }
def F_tPrint (y : El sp_tPrint.q) (x : Els sp_tPrint.ps) : Prop :=
  ∀ (r : Ro [Ty.it IntKind.i64]), r = ((), tchk x.1, ()) → ((r.2.1 != (0 : Int)) = true → ((⟨#[]⟩ : ByteArray), r.2) = prT x.1) ∧ ((r.2.1 != (0 : Int)) = false → ∀ (r : Ro [Ty.st, Ty.it IntKind.i64]), r = ((), prG (toGa x.1.2.2.1)) → ((r.2.2.1 != (0 : Int)) = true → ((⟨#[]⟩ : ByteArray), r.2.2) = prT x.1) ∧ ((r.2.2.1 != (0 : Int)) = false → ∀ (r_1 : Ro [Ty.st]), r_1 = ((), itB (IntKind.i64.wrap x.1.2.1.1), ()) → ∀ (r_2 : Ro [Ty.st]), r_2 = ((), itB (IntKind.i64.wrap x.1.2.1.2.1), ()) → ([x.1.1, r_1.2.1, r_2.2.1, r.2.1].length ≤ (140737488355328 : Nat) ∧ (jnB [x.1.1, r_1.2.1, r_2.2.1, r.2.1] (⟨#[(32 : UInt8)]⟩ : ByteArray)).size ≤ (140737488355328 : Nat)) ∧ ∀ (r_3 : Ro [Ty.st]), r_3 = ((), jnB [x.1.1, r_1.2.1, r_2.2.1, r.2.1] (⟨#[(32 : UInt8)]⟩ : ByteArray), ()) → (decide ((↑(ByteArray.size r_3.2.1) : Int) > (65536 : Int)) = true → ((⟨#[]⟩ : ByteArray), (3 : Int), ()) = prT x.1) ∧ (decide ((↑(ByteArray.size r_3.2.1) : Int) > (65536 : Int)) = false → (r_3.2.1, (0 : Int), ()) = prT x.1)))
theorem w_tPrint (y : El sp_tPrint.q) (x : Els sp_tPrint.ps) : aW c_tPrint (iv_tPrint y x) Tryz.f56 sp_tPrint y x = F_tPrint y x := by kernel_rfl
theorem m_tPrint (y : El (.un)) (x : Els [tTide]) (h2 : wfE (.un) y) (h3 : wfEs [tTide] x) : F_tPrint y x := by
  unfold F_tPrint
  rintro _ rfl
  refine ⟨fun h => (prT_bad (neT h)).symm, fun h => ?_⟩
  have q0 : tchk x.1 = 0 := neF h
  obtain ⟨n0, r0, g0⟩ := tchk_un q0
  obtain ⟨r1, r2, r3, r4⟩ := rotC_un r0
  have w1 : IntKind.i64.wrap x.1.2.1.1 = x.1.2.1.1 := wrap64 ⟨Int.le_trans (by decide) r1, r2⟩
  have w2 : IntKind.i64.wrap x.1.2.1.2.1 = x.1.2.1.2.1 := wrap64 ⟨r3, r4⟩
  intro r hr
  by_cases k : (txGa (toGa x.1.2.2.1)).size ≤ 65536
  · obtain rfl := hr.trans (congrArg (fun t => (((), t) : El .un × Els [.st, .it .i64])) (prG_ok g0 k))
    refine ⟨fun h => Bool.noConfusion (show false = true from h), fun _ => ?_⟩
    intro r_1 hr1 r_2 hr2
    obtain rfl := hr1.trans (congrArg (fun n => (((), itB n, ()) : El .un × Els [.st])) w1)
    obtain rfl := hr2.trans (congrArg (fun n => (((), itB n, ()) : El .un × Els [.st])) w2)
    have z0 := nameS_sz n0
    have z1 : (itB x.1.2.1.1).size ≤ 21 := itB_size (Int.le_trans (by decide) r1) (Int.le_trans r2 (by decide))
    have z2 : (itB x.1.2.1.2.1).size ≤ 21 := itB_size (Int.le_trans (by decide) r3) (Int.le_trans r4 (by decide))
    have z3 := jn4_size x.1.1 (itB x.1.2.1.1) (itB x.1.2.1.2.1) (txGa (toGa x.1.2.2.1))
    refine ⟨⟨show 4 ≤ 140737488355328 by decide, ?_⟩, ?_⟩
    · show (jnB [x.1.1, itB x.1.2.1.1, itB x.1.2.1.2.1, txGa (toGa x.1.2.2.1)] ⟨#[32]⟩).size ≤ _
      omega
    rintro _ rfl
    refine ⟨fun h => ?_, fun h => ?_⟩
    · exact (prT_long q0 (.inr (Int.ofNat_lt.1 (gtT h)))).symm
    · exact (prT_ok q0 k (Int.ofNat_le.1 (gtF h))).symm
  · obtain rfl := hr.trans (congrArg (fun t => (((), t) : El .un × Els [.st, .it .i64])) (prG_long g0 (Nat.lt_of_not_le k)))
    exact ⟨fun _ => (prT_long q0 (.inl (Nat.lt_of_not_le k))).symm, fun h => Bool.noConfusion (show true = false from h)⟩
theorem fo_tPrint : FnOk Tryz.prog 56 sp_tPrint := fnOk_of (C := c_tPrint) iv_tPrint Tryz.func56 rfl (by kernel_rfl) tysT_ok (prims_cons (spec_prim fo_tCk) (prims_cons (spec_prim fo_gPrintG) (prims_cons (spec_prim fo_sItoa) (prims_cons (spec_prim fo_sJoin) prims_nil)))) mixed_ (Nat.le_refl _) rfl fun y x h1 h2 h3 h4 =>
  Eq.mpr (w_tPrint y x) (m_tPrint y x h2 h3)
def cT1 (s : ByteArray) : ByteArray × ByteArray × Bool := cutB s b_sp
def cT2 (s : ByteArray) : ByteArray × ByteArray × Bool := cutB (cutB s b_sp).2.1 b_sp
def cT3 (s : ByteArray) : ByteArray × ByteArray × Bool := cutB (cutB (cutB s b_sp).2.1 b_sp).2.1 b_sp
def okTi (s : ByteArray) : Bool := (cT3 s).2.2 && nameS (cT1 s).1 && numB (cT2 s).1 && numB (cT3 s).1 && okGG (cT3 s).2.1
def rotT (s : ByteArray) : El tRot := (RowKit.wrap32 (numN (cT2 s).1), RowKit.wrap32 (numN (cT3 s).1), ())
def gaT (s : ByteArray) : Ga := ⟨frG (cutB (cT3 s).2.1 b_sp).1, frG (cutB (cT3 s).2.1 b_sp).2.1⟩
def parT (s : ByteArray) : El tTide × Int × Unit := if 65536 < s.size then (tZ, 3, ()) else if okTi s = true then (if rotC (rotT s) ≠ 0 then (tZ, rotC (rotT s), ()) else (((cT1 s).1, rotT s, ofGa (gaT s), ()), 0, ())) else (tZ, 230, ())
theorem pt_long {s : ByteArray} (h : 65536 < s.size) : parT s = (tZ, 3, ()) := if_pos h
theorem pt_bad {s : ByteArray} (h : s.size ≤ 3000) (k : ¬ okTi s = true) : parT s = (tZ, 230, ()) := (if_neg (by omega)).trans (if_neg k)
theorem pt_rot {s : ByteArray} (h : s.size ≤ 3000) (k : okTi s = true) (l : rotC (rotT s) ≠ 0) : parT s = (tZ, rotC (rotT s), ()) := (if_neg (by omega)).trans ((if_pos k).trans (if_pos l))
theorem pt_ok {s : ByteArray} (h : s.size ≤ 3000) (k : okTi s = true) (l : rotC (rotT s) = 0) : parT s = (((cT1 s).1, rotT s, ofGa (gaT s), ()), 0, ()) := (if_neg (by omega)).trans ((if_pos k).trans (if_neg (fun e => e l)))
theorem okTi_un {s : ByteArray} (h : okTi s = true) : (cT3 s).2.2 = true ∧ nameS (cT1 s).1 = true ∧ numB (cT2 s).1 = true ∧ numB (cT3 s).1 = true ∧ okGG (cT3 s).2.1 = true := by
  unfold okTi at h
  simp only [Bool.and_eq_true] at h
  exact ⟨h.1.1.1.1, h.1.1.1.2, h.1.1.2, h.1.2, h.2⟩
theorem okTi_mk {s : ByteArray} (h1 : (cT3 s).2.2 = true) (h2 : nameS (cT1 s).1 = true) (h3 : numB (cT2 s).1 = true) (h4 : numB (cT3 s).1 = true) (h5 : okGG (cT3 s).2.1 = true) : okTi s = true := by
  unfold okTi
  rw [h1, h2, h3, h4, h5]
  rfl
noncomputable def sp_tParse : Spec := { q := .un, ps := [.st], rs := [tTide, .it .i64], fresh := true, pre := fun _ x => some (ByteArray.size x.1 ≤ 3000 ∨ 65536 < ByteArray.size x.1), post := fun _ x => ((), parT x.1) }
noncomputable def iv_tParse (y : El sp_tParse.q) (x : Els sp_tParse.ps) : Nat → Option Inv := fun _ => none
noncomputable abbrev c_tParse : Cfg := cfgS (Tryz.f58).ntmps false [(108, sp_sCut.prim), (121, sp_tnum.prim), (41, sp_gParseG.prim), (122, sp_tName.prim), (36, sp_rCk.prim)]
def F_tParse (y : El sp_tParse.q) (x : Els sp_tParse.ps) : Prop :=
  (decide ((↑(ByteArray.size x.1) : Int) > (65536 : Int)) = true → ((ByteArray.empty, ((0 : Int), (0 : Int), ()), ((false, [], [], ()), (false, [], [], ()), ()), ()), (3 : Int), ()) = parT x.1) ∧ (decide ((↑(ByteArray.size x.1) : Int) > (65536 : Int)) = false → (⟨#[(32 : UInt8)]⟩ : ByteArray).size = (1 : Nat) ∧ ∀ (r : Ro [Ty.st, Ty.st, Ty.bo]), r = ((), (cutB x.1 (⟨#[(32 : UInt8)]⟩ : ByteArray)).1, (cutB x.1 (⟨#[(32 : UInt8)]⟩ : ByteArray)).2.1, (cutB x.1 (⟨#[(32 : UInt8)]⟩ : ByteArray)).2.2, ()) → (⟨#[(32 : UInt8)]⟩ : ByteArray).size = (1 : Nat) ∧ ∀ (r_1 : Ro [Ty.st, Ty.st, Ty.bo]), r_1 = ((), (cutB r.2.2.1 (⟨#[(32 : UInt8)]⟩ : ByteArray)).1, (cutB r.2.2.1 (⟨#[(32 : UInt8)]⟩ : ByteArray)).2.1, (cutB r.2.2.1 (⟨#[(32 : UInt8)]⟩ : ByteArray)).2.2, ()) → (⟨#[(32 : UInt8)]⟩ : ByteArray).size = (1 : Nat) ∧ ∀ (r_2 : Ro [Ty.st, Ty.st, Ty.bo]), r_2 = ((), (cutB r_1.2.2.1 (⟨#[(32 : UInt8)]⟩ : ByteArray)).1, (cutB r_1.2.2.1 (⟨#[(32 : UInt8)]⟩ : ByteArray)).2.1, (cutB r_1.2.2.1 (⟨#[(32 : UInt8)]⟩ : ByteArray)).2.2, ()) → ByteArray.size r_1.2.1 ≤ (65536 : Nat) ∧ ∀ (r_3 : Ro [Ty.it IntKind.i32, Ty.bo]), r_3 = ((), RowKit.wrap32 (numN r_1.2.1), numB r_1.2.1, ()) → ByteArray.size r_2.2.1 ≤ (65536 : Nat) ∧ ∀ (r_4 : Ro [Ty.it IntKind.i32, Ty.bo]), r_4 = ((), RowKit.wrap32 (numN r_2.2.1), numB r_2.2.1, ()) → (ByteArray.size r_2.2.2.1 ≤ (3000 : Nat) ∨ (65536 : Nat) < ByteArray.size r_2.2.2.1) ∧ ∀ (r_5 : Ro [tG, Ty.it IntKind.i64]), r_5 = pG (parGG r_2.2.2.1) → ((!r_2.2.2.2.1) = true → ((ByteArray.empty, ((0 : Int), (0 : Int), ()), ((false, [], [], ()), (false, [], [], ()), ()), ()), (230 : Int), ()) = parT x.1) ∧ ((!r_2.2.2.2.1) = false → ∀ (r_6 : Ro [Ty.bo]), r_6 = ((), nameS r.2.1, ()) → ((!r_6.2.1) = true → ((ByteArray.empty, ((0 : Int), (0 : Int), ()), ((false, [], [], ()), (false, [], [], ()), ()), ()), (230 : Int), ()) = parT x.1) ∧ ((!r_6.2.1) = false → ((!r_3.2.2.1) = true → ((ByteArray.empty, ((0 : Int), (0 : Int), ()), ((false, [], [], ()), (false, [], [], ()), ()), ()), (230 : Int), ()) = parT x.1) ∧ ((!r_3.2.2.1) = false → ((!r_4.2.2.1) = true → ((ByteArray.empty, ((0 : Int), (0 : Int), ()), ((false, [], [], ()), (false, [], [], ()), ()), ()), (230 : Int), ()) = parT x.1) ∧ ((!r_4.2.2.1) = false → ((r_5.2.2.1 == (140 : Int)) = true → ((ByteArray.empty, ((0 : Int), (0 : Int), ()), ((false, [], [], ()), (false, [], [], ()), ()), ()), (230 : Int), ()) = parT x.1) ∧ ((r_5.2.2.1 == (140 : Int)) = false → ∀ (r_7 : Ro [Ty.it IntKind.i64]), r_7 = ((), rotC (r_3.2.1, r_4.2.1, ()), ()) → ((r_7.2.1 != (0 : Int)) = true → ((ByteArray.empty, ((0 : Int), (0 : Int), ()), ((false, [], [], ()), (false, [], [], ()), ()), ()), r_7.2) = parT x.1) ∧ ((r_7.2.1 != (0 : Int)) = false → ((r_5.2.2.1 != (0 : Int)) = true → ((ByteArray.empty, ((0 : Int), (0 : Int), ()), ((false, [], [], ()), (false, [], [], ()), ()), ()), r_5.2.2) = parT x.1) ∧ ((r_5.2.2.1 != (0 : Int)) = false → ((r.2.1, (r_3.2.1, r_4.2.1, ()), r_5.2.1, ()), (0 : Int), ()) = parT x.1))))))))
theorem w_tParse (y : El sp_tParse.q) (x : Els sp_tParse.ps) : aW c_tParse (iv_tParse y x) Tryz.f58 sp_tParse y x = F_tParse y x := by kernel_rfl
theorem m_tParse (y : El (.un)) (x : Els [.st]) (h2 : wfE (.un) y) (h3 : wfEs [.st] x) (h4 : ByteArray.size x.1 ≤ 3000 ∨ 65536 < ByteArray.size x.1) : F_tParse y x := by
  unfold F_tParse
  have hsz : ByteArray.size x.1 ≤ 3000 ∨ 65536 < ByteArray.size x.1 := h4
  refine ⟨fun h => (pt_long (Int.ofNat_lt.1 (gtT h))).symm, fun h => ⟨rfl, ?_⟩⟩
  have h3k : ByteArray.size x.1 ≤ 3000 := hsz.resolve_right (fun c => absurd (Int.ofNat_lt.2 c) (Int.not_lt.2 (gtF h)))
  have k1 : (cT1 x.1).2.1.size ≤ 3000 := Nat.le_trans (cut_sz _ _).2 h3k
  have k2 : (cT2 x.1).1.size ≤ 3000 := Nat.le_trans (cut_sz _ _).1 k1
  have k3 : (cT2 x.1).2.1.size ≤ 3000 := Nat.le_trans (cut_sz _ _).2 k1
  have k4 : (cT3 x.1).1.size ≤ 3000 := Nat.le_trans (cut_sz _ _).1 k3
  have k5 : (cT3 x.1).2.1.size ≤ 3000 := Nat.le_trans (cut_sz _ _).2 k3
  rintro _ rfl
  refine ⟨rfl, ?_⟩
  rintro _ rfl
  refine ⟨rfl, ?_⟩
  rintro _ rfl
  refine ⟨Nat.le_trans k2 (by decide), ?_⟩
  rintro _ rfl
  refine ⟨Nat.le_trans k4 (by decide), ?_⟩
  rintro _ rfl
  refine ⟨.inl k5, ?_⟩
  intro r5 hr5
  have F : ∀ {b : Bool}, (!b) = true → b = true → False := fun {b} h k => by rw [k] at h; cases h
  refine ⟨fun h => (pt_bad h3k (fun k => F h (okTi_un k).1)).symm, fun hb => ?_⟩
  rintro _ rfl
  refine ⟨fun h => (pt_bad h3k (fun k => F h (okTi_un k).2.1)).symm, fun hn => ⟨fun h => (pt_bad h3k (fun k => F h (okTi_un k).2.2.1)).symm, fun ha => ⟨fun h => (pt_bad h3k (fun k => F h (okTi_un k).2.2.2.1)).symm, fun hc => ?_⟩⟩⟩
  by_cases c : okGG (cT3 x.1).2.1 = true
  · obtain rfl := hr5.trans (congrArg pG (pgg_ok k5 c))
    refine ⟨fun h => Bool.noConfusion (show false = true from h), fun _ => ?_⟩
    have ok : okTi x.1 = true := okTi_mk (ntF hb) (ntF hn) (ntF ha) (ntF hc) c
    rintro _ rfl
    exact ⟨fun h => (pt_rot h3k ok (neT h)).symm, fun h => ⟨fun h => Bool.noConfusion (show false = true from h), fun _ => (pt_ok h3k ok (neF h)).symm⟩⟩
  · obtain rfl := hr5.trans (congrArg pG (pgg_bad k5 c))
    exact ⟨fun _ => (pt_bad h3k (fun k => c (okTi_un k).2.2.2.2)).symm, fun h => Bool.noConfusion (show true = false from h)⟩
theorem fo_tParse : FnOk Tryz.prog 58 sp_tParse := fnOk_of (C := c_tParse) iv_tParse Tryz.func58 rfl (by kernel_rfl) tys_ok (prims_cons (spec_prim fo_sCut) (prims_cons (spec_prim fo_tnum) (prims_cons (spec_prim fo_gParseG) (prims_cons (spec_prim fo_tName) (prims_cons (spec_prim fo_rCk) prims_nil))))) mixed_ (Nat.le_refl _) rfl fun y x h1 h2 h3 h4 =>
  Eq.mpr (w_tParse y x) (m_tParse y x h2 h3 h4)
end Go.Proofs.YtjoonfegjobgbaaGreatDoor
namespace Go.Proofs.YtjoonfegjobgbaaGreatDoor
open Go Go.RowKit Go.Maps
section
variable {eT : Nat → Int} {dup : Nat → Bool} {i d : Nat}
end
end Go.Proofs.YtjoonfegjobgbaaGreatDoor
namespace Go.Proofs.YtjoonfegjobgbaaGreatDoor
open Go Go.RowKit
section
variable {P : Program} {f : Nat} {t : Ty} {Z : Nat → Prop} {W : World} {x : El t} {v : Value}
end
section
variable {s : Fr × Int} {l : List (El tTide)} {t : Int} {i : Nat}
end
section
variable {l : List (El tTide)} {t : Int} {i : Nat}
end
section
variable {p : El tPort} {a b : Int} {k : Nat}
end
section
variable {r : El tRot} {t : Int}
end
section
variable {p : El tPort} {a b : Int}
end
def exM : El tTide := (⟨#[77, 50]⟩, (8, 1, ()), ofGa (ge (3/2) (-1)), ())
def tM : ByteArray := ⟨#[77, 50, 32, 56, 32, 49, 32, 51, 47, 50, 32, 45, 49]⟩
theorem m13_1 : fsmall 3 2 = (enc (3/2), 0) := by decide +kernel
theorem m13_2 : fsmall (-1) 1 = (enc (-1), 0) := by decide +kernel
noncomputable def sp_l13ex : Spec := { q := .un, ps := [], rs := [tTide], fresh := true, pre := fun _ _ => none, post := fun _ x => ((), (exM, ())) }
noncomputable def iv_l13ex (y : El sp_l13ex.q) (x : Els sp_l13ex.ps) : Nat → Option Inv := fun _ => none
noncomputable abbrev c_l13ex : Cfg := cfgS (Tryz.f71).ntmps false [(69, sp_rSmall.prim)]
def F_l13ex (y : El sp_l13ex.q) (x : Els sp_l13ex.ps) : Prop :=
  ∀ (r : Ro [tR, Ty.it IntKind.i64]), r = pR (fsmall (3 : Int) (2 : Int)) → ∀ (r_1 : Ro [tR, Ty.it IntKind.i64]), r_1 = pR (fsmall (-1 : Int) (1 : Int)) → (((⟨#[(77 : UInt8), (50 : UInt8)]⟩ : ByteArray), ((8 : Int), (1 : Int), ()), (r.2.1, r_1.2.1, ()), ()), ()) = (exM, ())
theorem w_l13ex (y : El sp_l13ex.q) (x : Els sp_l13ex.ps) : aW c_l13ex (iv_l13ex y x) Tryz.f71 sp_l13ex y x = F_l13ex y x := by kernel_rfl
theorem m_l13ex (y : El (.un)) (x : Els []) (h2 : wfE (.un) y) (h3 : wfEs [] x) : F_l13ex y x := by
  unfold F_l13ex
  intro r hr
  obtain rfl := hr.trans (congrArg pR m13_1)
  intro r hr
  obtain rfl := hr.trans (congrArg pR m13_2)
  rfl
theorem fo_l13ex : FnOk Tryz.prog 71 sp_l13ex := fnOk_of (C := c_l13ex) iv_l13ex Tryz.func71 rfl (by kernel_rfl) tys_ok (prims_cons (spec_prim fo_rSmall) prims_nil) mixed_ (Nat.le_refl _) rfl fun y x h1 h2 h3 h4 =>
  Eq.mpr (w_l13ex y x) (m_l13ex y x h2 h3)
theorem m13_3 : tchk exM = 0 := by decide +kernel
theorem m13_4 : (txGa (toGa exM.2.2.1)).size ≤ 65536 := by decide +kernel
theorem m13_5 : txT exM = tM := by decide +kernel
theorem m13_6 : prT exM = (tM, 0, ()) := (prT_ok m13_3 m13_4 (by rw [m13_5]; decide)).trans (congrArg (fun b => (b, (0 : Int), ())) m13_5)
theorem m13_7 : okTi tM = true := by decide +kernel
theorem m13_8 : (cT1 tM).1 = ⟨#[77, 50]⟩ := by decide +kernel
theorem m13_9 : gaT tM = ge (3/2) (-1) := by decide +kernel
theorem m13_10 : RowKit.wrap32 (numN (cT2 tM).1) = 8 := by decide +kernel
theorem m13_11 : RowKit.wrap32 (numN (cT3 tM).1) = 1 := by decide +kernel
theorem m13_12 : rotT tM = (8, 1, ()) := by
  unfold rotT
  rw [m13_10, m13_11]
theorem m13_13 : parT tM = (exM, 0, ()) := by
  rw [pt_ok (by decide) m13_7 (by rw [m13_12]; decide +kernel), m13_8, m13_9, m13_12]
  rfl
theorem m13_14 : sameT exM exM = true := by
  unfold sameT
  rw [decide_eq_true rfl, decide_eq_true rfl, decide_eq_true rfl]
  rfl
theorem tl_self (b : ByteArray) (h : (b.toList == b.toList) = false) : False := by
  rw [beq_self_eq_true] at h
  cases h
noncomputable def sp_l13awake : Spec := { q := .un, ps := [], rs := [.bo], fresh := true, pre := fun _ _ => none, post := fun _ x => ((), (true, ())) }
noncomputable def iv_l13awake (y : El sp_l13awake.q) (x : Els sp_l13awake.ps) : Nat → Option Inv := fun _ => none
noncomputable abbrev c_l13awake : Cfg := cfgS (Tryz.f63).ntmps false [(71, sp_l13ex.prim), (56, sp_tPrint.prim), (58, sp_tParse.prim), (65, p_sure (sp_tSame.prim)), (64, sp_tCk.prim)]
def F_l13awake (y : El sp_l13awake.q) (x : Els sp_l13awake.ps) : Prop :=
  ∀ (r : Ro [tTide]), r = ((), exM, ()) → ∀ (r_1 : Ro [Ty.st, Ty.it IntKind.i64]), r_1 = ((), prT r.2.1) → ((⟨#[(77 : UInt8), (50 : UInt8), (32 : UInt8), (56 : UInt8), (32 : UInt8), (49 : UInt8), (32 : UInt8), (51 : UInt8), (47 : UInt8), (50 : UInt8), (32 : UInt8), (45 : UInt8), (49 : UInt8)]⟩ : ByteArray).size ≤ (3000 : Nat) ∨ (65536 : Nat) < (⟨#[(77 : UInt8), (50 : UInt8), (32 : UInt8), (56 : UInt8), (32 : UInt8), (49 : UInt8), (32 : UInt8), (51 : UInt8), (47 : UInt8), (50 : UInt8), (32 : UInt8), (45 : UInt8), (49 : UInt8)]⟩ : ByteArray).size) ∧ ∀ (r : Ro [tTide, Ty.it IntKind.i64]), r = ((), parT (⟨#[(77 : UInt8), (50 : UInt8), (32 : UInt8), (56 : UInt8), (32 : UInt8), (49 : UInt8), (32 : UInt8), (51 : UInt8), (47 : UInt8), (50 : UInt8), (32 : UInt8), (45 : UInt8), (49 : UInt8)]⟩ : ByteArray)) → ((r_1.2.2.1 == (0 : Int)) = true → ((ByteArray.toList r_1.2.1 == (⟨#[(77 : UInt8), (50 : UInt8), (32 : UInt8), (56 : UInt8), (32 : UInt8), (49 : UInt8), (32 : UInt8), (51 : UInt8), (47 : UInt8), (50 : UInt8), (32 : UInt8), (45 : UInt8), (49 : UInt8)]⟩ : ByteArray).toList) = true → ((r.2.2.1 == (0 : Int)) = true → ∀ (r_2 : Ro [tTide]), r_2 = ((), exM, ()) → sameT r.2.1 r_2.2.1 = true ∧ ∀ (r : Ro [tTide]), r = ((), exM, ()) → ∀ (r_3 : Ro [Ty.it IntKind.i64]), r_3 = ((), tchk r.2.1, ()) → (r_3.2.1 == (0 : Int), ()) = (true, ())) ∧ ((r.2.2.1 == (0 : Int)) = false → (false, ()) = (true, ()))) ∧ ((ByteArray.toList r_1.2.1 == (⟨#[(77 : UInt8), (50 : UInt8), (32 : UInt8), (56 : UInt8), (32 : UInt8), (49 : UInt8), (32 : UInt8), (51 : UInt8), (47 : UInt8), (50 : UInt8), (32 : UInt8), (45 : UInt8), (49 : UInt8)]⟩ : ByteArray).toList) = false → (false, ()) = (true, ()))) ∧ ((r_1.2.2.1 == (0 : Int)) = false → (false, ()) = (true, ()))
theorem w_l13awake (y : El sp_l13awake.q) (x : Els sp_l13awake.ps) : aW c_l13awake (iv_l13awake y x) Tryz.f63 sp_l13awake y x = F_l13awake y x := by kernel_rfl
theorem m_l13awake (y : El (.un)) (x : Els []) (h2 : wfE (.un) y) (h3 : wfEs [] x) : F_l13awake y x := by
  unfold F_l13awake
  rintro _ rfl
  intro r hr
  obtain rfl := hr.trans (congrArg (fun t => (((), t) : El .un × Els [.st, .it .i64])) m13_6)
  refine ⟨.inl (by decide), ?_⟩
  intro r hr
  obtain rfl := hr.trans (congrArg (fun t => (((), t) : El .un × Els [tTide, .it .i64])) m13_13)
  refine ⟨fun _ => ⟨fun _ => ⟨fun _ => ?_, fun h => Bool.noConfusion (show true = false from h)⟩, fun h => (tl_self tM h).elim⟩, fun h => Bool.noConfusion (show true = false from h)⟩
  rintro _ rfl
  refine ⟨m13_14, ?_⟩
  rintro _ rfl
  intro r hr
  obtain rfl := hr.trans (congrArg (fun n : Int => (((), n, ()) : El .un × Els [.it .i64])) m13_3)
  rfl
theorem fo_l13awake : FnOk Tryz.prog 63 sp_l13awake := fnOk_of (C := c_l13awake) iv_l13awake Tryz.func63 rfl (by kernel_rfl) tys_ok (prims_cons (spec_prim fo_l13ex) (prims_cons (spec_prim fo_tPrint) (prims_cons (spec_prim fo_tParse) (prims_cons (pr_sure (spec_prim fo_tSame)) (prims_cons (spec_prim fo_tCk) prims_nil))))) mixed_ (Nat.le_refl _) rfl fun y x h1 h2 h3 h4 =>
  Eq.mpr (w_l13awake y x) (m_l13awake y x h2 h3)
theorem it_all : ((List.range 2001).all fun k => numB (itB ((k : Int) - 1000)) && decide (numN (itB ((k : Int) - 1000)) = (k : Int) - 1000) && !((Lib.itoa ((k : Int) - 1000)).contains 32)) = true := by decide +kernel
theorem it_of {n : Int} (h : -1000 ≤ n ∧ n ≤ 1000) : numB (itB n) = true ∧ numN (itB n) = n ∧ (32 : UInt8) ∉ Lib.itoa n := by
  have k := List.all_eq_true.1 it_all (n + 1000).toNat (List.mem_range.2 (by omega))
  have e : (((n + 1000).toNat : Nat) : Int) - 1000 = n := by omega
  rw [e] at k
  simp only [Bool.and_eq_true, decide_eq_true_eq, Bool.not_eq_true', List.contains_eq_mem, decide_eq_false_iff_not] at k
  exact ⟨k.1.1, k.1.2, k.2⟩
theorem it_sz {n : Int} (h : -1000 ≤ n ∧ n ≤ 1000) : (itB n).size ≤ 21 := itB_size (by omega) (by omega)
theorem w32_of {n : Int} (h : -1000 ≤ n ∧ n ≤ 1000) : RowKit.wrap32 n = n := by
  unfold RowKit.wrap32
  omega
theorem itB_list (n : Int) : (itB n).data.toList = Lib.itoa n := rfl
theorem name_not32 {s : ByteArray} (h : nameS s = true) : (32 : UInt8) ∉ s.data.toList := by
  intro c
  unfold nameS at h
  simp only [Bool.and_eq_true, decide_eq_true_eq, List.all_eq_true, List.mem_range] at h
  obtain ⟨i, hi, e⟩ := List.getElem_of_mem c
  have hl : i < s.size := by rw [← ba_len]; exact hi
  have hg : gi s i = 32 := by
    unfold gi
    have : s.get! i = 32 := by
      show s.data[i]! = 32
      rw [getElem!_pos s.data i hl]
      rw [← e]
      rfl
    rw [this]
    rfl
  have k := h.2 i hl
  rw [hg] at k
  exact absurd k (by decide)
theorem txT_list (c : El tTide) : (txT c).data.toList = c.1.data.toList ++ 32 :: ((itB c.2.1.1).data.toList ++ 32 :: ((itB c.2.1.2.1).data.toList ++ 32 :: (txGa (toGa c.2.2.1)).data.toList)) := by
  have e : (⟨#[32]⟩ : ByteArray).data.toList = [32] := rfl
  unfold txT
  rw [jn4, e]
  simp only [List.append_assoc, List.singleton_append]
theorem tback_of {c : El tTide} (wf : (toGa c.2.2.1).Wf) (h : tchk c = 0) (k1 : (toGa c.2.2.1).re.num.length ≤ 20 ∧ (toGa c.2.2.1).re.den.length ≤ 20) (k2 : (toGa c.2.2.1).im.num.length ≤ 20 ∧ (toGa c.2.2.1).im.den.length ≤ 20) : prT c = (txT c, 0, ()) ∧ (txT c).size ≤ 3000 ∧ parT (txT c) = (c, 0, ()) := by
  obtain ⟨n0, r0, g0⟩ := tchk_un h
  obtain ⟨r1, r2, r3, r4⟩ := rotC_un r0
  obtain ⟨b1, b2, b3⟩ := gback_of wf g0 k1 k2
  obtain ⟨i1, i2, i3⟩ := it_of (n := c.2.1.1) ⟨Int.le_trans (by decide) r1, r2⟩
  obtain ⟨j1, j2, j3⟩ := it_of (n := c.2.1.2.1) ⟨r3, r4⟩
  have z0 := nameS_sz n0
  have z1 : (itB c.2.1.1).size ≤ 21 := it_sz ⟨Int.le_trans (by decide) r1, r2⟩
  have z2 : (itB c.2.1.2.1).size ≤ 21 := it_sz ⟨r3, r4⟩
  have z3 := jn4_size c.1 (itB c.2.1.1) (itB c.2.1.2.1) (txGa (toGa c.2.2.1))
  have sz : (txT c).size ≤ 3000 := by
    unfold txT
    omega
  have t1 : cT1 (txT c) = (c.1, ⟨((itB c.2.1.1).data.toList ++ 32 :: ((itB c.2.1.2.1).data.toList ++ 32 :: (txGa (toGa c.2.2.1)).data.toList)).toArray⟩, true) := cutC_found sp_byte (txT_list c) (name_not32 n0)
  have t2 : cT2 (txT c) = (itB c.2.1.1, ⟨((itB c.2.1.2.1).data.toList ++ 32 :: (txGa (toGa c.2.2.1)).data.toList).toArray⟩, true) := by
    unfold cT2
    rw [show cutB (txT c) b_sp = cT1 (txT c) from rfl, t1]
    exact cutC_found sp_byte rfl i3
  have t3 : cT3 (txT c) = (itB c.2.1.2.1, txGa (toGa c.2.2.1), true) := by
    unfold cT3
    rw [show cutB (cutB (txT c) b_sp).2.1 b_sp = cT2 (txT c) from rfl, t2]
    exact cutC_found sp_byte rfl j3
  have ok : okTi (txT c) = true := okTi_mk (by rw [t3]) (by rw [t1]; exact n0) (by rw [t2]; exact i1) (by rw [t3]; exact j1) (by rw [t3]; exact b2)
  have er : rotT (txT c) = c.2.1 := by
    unfold rotT
    rw [t2, t3]
    dsimp only
    rw [i2, j2, w32_of ⟨Int.le_trans (by decide) r1, r2⟩, w32_of ⟨r3, r4⟩]
  have eg : gaT (txT c) = toGa c.2.2.1 := by
    have := b3
    rw [pgg_ok (by omega) b2] at this
    unfold gaT
    rw [t3]
    exact congrArg Prod.fst this
  refine ⟨prT_ok h (by omega) (by omega), sz, ?_⟩
  rw [pt_ok sz ok (by rw [er]; exact r0), er, eg, t1]
theorem dec_bd {u k : Nat} (h : (Lib.decDigits u).length ≤ k) : u < 10 ^ k := by
  rw [Lib.decDigits_length] at h
  exact Nat.lt_of_lt_of_le (Lib.lt_pow_nDigits u) (Nat.pow_le_pow_right (by decide) h)
theorem itoa_bd {n : Int} (h : (Lib.itoa n).length ≤ 5) : -100000 < n ∧ n < 100000 := by
  unfold Lib.itoa at h
  split at h
  · rw [List.length_cons] at h
    have := dec_bd (u := n.natAbs) (k := 4) (by omega)
    omega
  · have := dec_bd (u := n.toNat) (k := 5) h
    omega
theorem numB_un {s : ByteArray} (h : numB s = true) : itB (numN s) = s ∧ RowKit.wrap32 (numN s) = numN s := by
  unfold numB at h
  rw [ba_eq] at h
  simp only [Bool.and_eq_true, decide_eq_true_eq] at h
  obtain ⟨⟨_, h1⟩, h2⟩ := h
  have hl : (Lib.itoa (numN s)).length ≤ 5 := by
    rw [← itB_list, h2, ba_len]
    exact h1
  have := itoa_bd hl
  refine ⟨h2, ?_⟩
  unfold RowKit.wrap32
  omega
theorem cut_no {s p : ByteArray} (h : (cutB s p).2.2 = false) : (cutB s p).2.1 = ⟨#[]⟩ := by
  by_cases k : 0 ≤ ixB s p
  · have e : cutB s p = (s.extract 0 (ixB s p).toNat, s.extract ((ixB s p).toNat + 1) s.size, true) := if_pos k
    rw [e] at h
    cases h
  · rw [show cutB s p = (s, ⟨#[]⟩, false) from if_neg k]
theorem cut_nil : (cutB ⟨#[]⟩ b_sp).2.2 = false := by decide +kernel
theorem ttext_of {s : ByteArray} (h3 : s.size ≤ 3000) (h : okTi s = true) (hr : rotC (rotT s) = 0) : tchk ((cT1 s).1, rotT s, ofGa (gaT s), ()) = 0 ∧ prT ((cT1 s).1, rotT s, ofGa (gaT s), ()) = (s, 0, ()) := by
  obtain ⟨hb, hn, ha, hc, hg⟩ := okTi_un h
  have k1 : (cT1 s).2.1.size ≤ 3000 := Nat.le_trans (cut_sz _ _).2 h3
  have k3 : (cT2 s).2.1.size ≤ 3000 := Nat.le_trans (cut_sz _ _).2 k1
  have k5 : (cT3 s).2.1.size ≤ 3000 := Nat.le_trans (cut_sz _ _).2 k3
  have f2 : (cT2 s).2.2 = true := by
    cases hf : (cT2 s).2.2 with
    | true => rfl
    | false =>
      have e : (cT2 s).2.1 = ⟨#[]⟩ := cut_no hf
      have : (cT3 s).2.2 = false := by
        unfold cT3
        rw [show (cutB (cutB s b_sp).2.1 b_sp).2.1 = ⟨#[]⟩ from e]
        exact cut_nil
      rw [hb] at this
      cases this
  have f1 : (cT1 s).2.2 = true := by
    cases hf : (cT1 s).2.2 with
    | true => rfl
    | false =>
      have e : (cT1 s).2.1 = ⟨#[]⟩ := cut_no hf
      have : (cT2 s).2.2 = false := by
        unfold cT2
        rw [show (cutB s b_sp).2.1 = ⟨#[]⟩ from e]
        exact cut_nil
      rw [f2] at this
      cases this
  have l1 : s.data.toList = (cT1 s).1.data.toList ++ 32 :: (cT1 s).2.1.data.toList := cutC_split sp_byte f1
  have l2 : (cT1 s).2.1.data.toList = (cT2 s).1.data.toList ++ 32 :: (cT2 s).2.1.data.toList := cutC_split sp_byte f2
  have l3 : (cT2 s).2.1.data.toList = (cT3 s).1.data.toList ++ 32 :: (cT3 s).2.1.data.toList := cutC_split sp_byte hb
  obtain ⟨a1, a2⟩ := numB_un ha
  obtain ⟨c1, c2⟩ := numB_un hc
  obtain ⟨g1, g2⟩ := gtext_of k5 hg
  have g1 : gchk (gaT s) = 0 := g1
  have g2 : txGa (gaT s) = (cT3 s).2.1 := g2
  have er : rotT s = (numN (cT2 s).1, numN (cT3 s).1, ()) := by
    unfold rotT
    rw [a2, c2]
  have ht : txT ((cT1 s).1, rotT s, ofGa (gaT s), ()) = s := by
    refine Go.WideShapes.bytes_inj ?_
    rw [txT_list, er]
    show (cT1 s).1.data.toList ++ 32 :: ((itB (numN (cT2 s).1)).data.toList ++ 32 :: ((itB (numN (cT3 s).1)).data.toList ++ 32 :: (txGa (toGa (ofGa (gaT s)))).data.toList)) = _
    rw [toGa_of, a1, c1, g2, ← l3, ← l2, ← l1]
  have hk : tchk ((cT1 s).1, rotT s, ofGa (gaT s), ()) = 0 := by
    unfold tchk
    rw [if_neg (by rw [hn]; decide), if_neg (fun e => e hr)]
    show gchk (toGa (ofGa (gaT s))) = 0
    rw [toGa_of]
    exact g1
  refine ⟨hk, ?_⟩
  rw [prT_ok hk (by
    show (txGa (toGa (ofGa (gaT s)))).size ≤ 65536
    rw [toGa_of, g2]
    omega) (by rw [ht]; omega), ht]
theorem gscale_w {m n : Nat} {s a b : Rat} (h0 : szw n s) (h1 : szw m a) (h2 : szw m b) (l : n + m ≤ 2048) : gscale (enc s) (ge a b) = (ge (s * a) (s * b), 0) := by
  have m1 : fmul (enc s) (ge a b).re = (enc (s * a), 0) := (fmul_enc (h0.lng (by omega)) (h1.lng (by omega))).trans (tell_ok ((h0.mul h1).lng l))
  have m2 : fmul (enc s) (ge a b).im = (enc (s * b), 0) := (fmul_enc (h0.lng (by omega)) (h2.lng (by omega))).trans (tell_ok ((h0.mul h2).lng l))
  rw [gscale_5 (fchk_enc s (h0.lng (by omega))) (ge_chk h1 h2 (by omega)) (by rw [m1]) (by rw [m2]), m1, m2]
  rfl
theorem tchk_g {c : El tTide} {g : Ga} (h : tchk c = 0) (k : gchk g = 0) : tchk (c.1, c.2.1, ofGa g, ()) = 0 := by
  obtain ⟨n0, r0, _⟩ := tchk_un h
  unfold tchk
  rw [if_neg (by rw [n0]; decide), if_neg (fun e => e r0)]
  show gchk (toGa (ofGa g)) = 0
  rw [toGa_of]
  exact k
theorem tscale_w {m n : Nat} {c : El tTide} {s a b : Rat} {r : El tR} (h : tchk c = 0) (er : toFr r = enc s) (e : toGa c.2.2.1 = ge a b) (h0 : szw n s) (h1 : szw m a) (h2 : szw m b) (l : n + m ≤ 2048) : tscale r c = ((c.1, c.2.1, ofGa (ge (s * a) (s * b)), ()), 0, ()) := by
  have g := gscale_w h0 h1 h2 l
  have f : fchk (enc s) = 0 := fchk_enc s (h0.lng (by omega))
  unfold tscale
  rw [er, if_neg (fun k => k f), if_neg (fun k => k h), e, g, if_neg (fun k => k rfl)]
theorem tchk_of {c : El tTide} {m : Nat} {a b : Rat} (h : tchk c = 0) (h1 : szw m a) (h2 : szw m b) (l : m ≤ 2048) : tchk (c.1, c.2.1, ofGa (ge a b), ()) = 0 := tchk_g h (ge_chk h1 h2 l)
theorem tscale_back {c : El tTide} {s a b : Rat} {r v : El tR} (h : tchk c = 0) (er : toFr r = enc s) (ev : toFr v = enc (1 / s)) (e : toGa c.2.2.1 = ge a b) (n0 : s ≠ 0) (h0 : szw 20 s) (h1 : szw 20 a) (h2 : szw 20 b) : tscale r c = ((c.1, c.2.1, ofGa (ge (s * a) (s * b)), ()), 0, ()) ∧ tscale v (c.1, c.2.1, ofGa (ge (s * a) (s * b)), ()) = ((c.1, c.2.1, ofGa (ge a b), ()), 0, ()) := by
  have i0 : szw 21 (1 / s) := (szw.div (m := 1) (n := 20) (p := 1) ⟨by decide +kernel, by decide +kernel⟩ h0 n0)
  refine ⟨tscale_w h er e h0 h1 h2 (by decide), ?_⟩
  have k := tscale_w (n := 21) (m := 40) (c := (c.1, c.2.1, ofGa (ge (s * a) (s * b)), ())) (r := v) (tchk_of h (h0.mul h1) (h0.mul h2) (by decide)) ev rfl i0 (h0.mul h1) (h0.mul h2) (by decide)
  have x1 : 1 / s * (s * a) = a := by
    rw [← Rat.mul_assoc, Rat.div_mul_cancel n0, Rat.one_mul]
  have x2 : 1 / s * (s * b) = b := by
    rw [← Rat.mul_assoc, Rat.div_mul_cancel n0, Rat.one_mul]
  rw [x1, x2] at k
  exact k
theorem fquo_back {s : Rat} (n0 : s ≠ 0) (h0 : szw 20 s) : fquo (enc 1) (enc s) = (enc (1 / s), 0) := by
  have i0 : szw 21 (1 / s) := (szw.div (m := 1) (n := 20) (p := 1) ⟨by decide +kernel, by decide +kernel⟩ h0 n0)
  exact (fquo_enc (lng_of (by decide +kernel) (by decide +kernel)) (h0.lng (by decide)) n0).trans (tell_ok (i0.lng (by decide)))
theorem neg_bd {q : Int} (h : -1000 ≤ q) (k : q ≤ 1000) : -1000 ≤ -q ∧ -q ≤ 1000 := by omega
theorem neg_ne {q : Int} (h : q ≠ 0) : -q ≠ 0 := by omega
theorem neg_nn {p q : Int} (h : p ≠ q) : p ≠ - -q := by omega
theorem tconj_w {c : El tTide} {a b : Rat} (h : tchk c = 0) (e : toGa c.2.2.1 = ge a b) (h1 : szw 20 a) (h2 : szw 20 b) : tconj c = ((c.1, (c.2.1.1, -c.2.1.2.1, ()), ofGa (ge a (-b)), ()), 0, ()) ∧ tconj (c.1, (c.2.1.1, -c.2.1.2.1, ()), ofGa (ge a (-b)), ()) = ((c.1, c.2.1, ofGa (ge a b), ()), 0, ()) := by
  obtain ⟨n0, r0, _⟩ := tchk_un h
  have q1 : tconj c = ((c.1, (c.2.1.1, -c.2.1.2.1, ()), ofGa (ge a (-b)), ()), 0, ()) := by
    unfold tconj
    rw [if_neg (fun k => k h), e, gconj_w h1 h2 (by decide)]
  refine ⟨q1, ?_⟩
  have r1 : rotC (c.2.1.1, -c.2.1.2.1, ()) = 0 := by
    obtain ⟨x, ⟨p, q, u⟩, g, v⟩ := c
    have r0 : rotC (p, q, ()) = 0 := r0
    show rotC (p, -q, ()) = 0
    unfold rotC at r0 ⊢
    split at r0
    · next k =>
      obtain ⟨k1, k2, k3, k4, k5, k6, k7, k8⟩ := k
      rw [if_pos]
      refine ⟨k1, k2, ?_, ?_, ?_, ?_, ?_, ?_⟩
      · exact (neg_bd k3 k4).1
      · exact (neg_bd k3 k4).2
      · exact neg_ne k5
      · exact k7
      · exact neg_nn k6
      · show Int.gcd p (-q) = 1
        rw [Int.gcd_neg]
        exact k8
    · cases r0
  have hk : tchk (c.1, (c.2.1.1, -c.2.1.2.1, ()), ofGa (ge a (-b)), ()) = 0 := by
    unfold tchk
    rw [if_neg (by rw [n0]; decide), if_neg (fun e => e r1)]
    show gchk (toGa (ofGa (ge a (-b)))) = 0
    rw [toGa_of]
    exact ge_chk h1 h2.neg (by decide)
  unfold tconj
  rw [if_neg (fun k => k hk)]
  show ((c.1, (c.2.1.1, - -c.2.1.2.1, ()), ofGa (gconj (toGa (ofGa (ge a (-b))))).1, ()), (0 : Int), ()) = ((c.1, c.2.1, ofGa (ge a b), ()), 0, ())
  rw [toGa_of, gconj_w h1 h2.neg (by decide), Rat.neg_neg, Int.neg_neg]
end Go.Proofs.YtjoonfegjobgbaaGreatDoor
