/- Texts of this claim, joined: L27w F7 L27a L27j. -/
import Derived.Test.YtjoonfegjobgbaaGreatDoorRows
import Derived.LaidLaws
import Derived.MakeChecks
import Derived.Handed
import Derived.KernelRfl
import Derived.ProofKit
import Derived.OpenShut
import Derived.ChangeOld
import Derived.Below
import Derived.Lib.SmallJoins
import Derived.LaidHandle
import Derived.JoinedOf
import Derived.Test.YtjoonfegjobgbaaGreatDoorRz
set_option linter.unusedVariables false
set_option linter.unusedSimpArgs false
set_option maxRecDepth 100000
namespace Go.Proofs.YtjoonfegjobgbaaGreatDoor
open Go
set_option linter.unusedVariables false
def litV : DataW Unit → List Value
  | .lit (.int k n) => [.int k n]
  | _ => []
def litCells : DataW Unit → List Value
  | .agg l => l.flatMap fun x => match x with
    | .agg m => m.flatMap litV
    | y => litV y
  | _ => []
def putCells (h : Array Obj) (g : Nat) (cs : Array Value) : Array Obj := h.modify g fun
  | .cells _ t frozen => .cells cs t frozen
  | o => o
noncomputable def low0 : Nat := (World.holding Tryz.prog default ⟨#[], #[], []⟩).heap.size
noncomputable def laidWorld (os : Os) : World :=
  let w0 := World.holding Tryz.prog os ⟨#[.cells #[.string ⟨#[118, 97, 108, 117, 101, 32, 111, 117, 116, 32, 111, 102, 32, 114, 97, 110, 103, 101]⟩] 249, .cells #[.string ⟨#[105, 110, 118, 97, 108, 105, 100, 32, 115, 121, 110, 116, 97, 120]⟩] 249], #[], []⟩
  { w0 with heap := (putCells (putCells (putCells (putCells (putCells (putCells (putCells w0.heap 6 (litCells Rows.laid_math_bits_deBruijn32tab).toArray) 7 (litCells Rows.laid_math_bits_deBruijn64tab).toArray) 1 (litCells Rows.laid_internal_strconv_uint64pow10).toArray) 5 (litCells Rows.laid_unicode_utf8_acceptRanges).toArray) 4 (litCells Rows.laid_unicode_utf8_first).toArray) 3 #[.iface 247 (.pointer (some ⟨low0, 0, none⟩))]) 2 #[.iface 247 (.pointer (some ⟨low0 + 1, 0, none⟩))]) }
theorem laid_plain : (Rows.tideKnownRow.laid.all fun x => x.2.handleName?.isNone) = true := by kernel_rfl
theorem laid_run (os : Os) (args : Array Value) : (DataW.laidRun Tryz.prog ((laidWorld os).forCall (fun _ _ => 0) ⟨#[], args, []⟩).memory 8 (Rows.tideKnownRow.laid.map (·.1))).map (·.1) = some Rows.tideKnownRow.laid := by kernel_rfl
theorem laid_rows (os : Os) (args : Array Value) : (DataW.laidRun Tryz.prog ((laidWorld os).forCall (fun _ _ => 0) ⟨#[], args, []⟩).memory 8 (Rows.tideKnownRow.laid.map (·.1))).map (fun x => decide x.2.Nodup && laidRowsB Tryz.prog ((laidWorld os).forCall (fun _ _ => 0) ⟨#[], args, []⟩).memory x.2) = some true := by kernel_rfl
theorem laid_met (os : Os) (args : Array Value) : laidMetH Tryz.prog Rows.tideKnownRow.laid ((laidWorld os).forCall (fun _ _ => 0) ⟨#[], args, []⟩).memory := by
  rw [MakeChecks.laidMetH_plain _ _ _ laid_plain]
  exact laidMet_of_run' 8 (laid_run os args) (laid_rows os args)
end Go.Proofs.YtjoonfegjobgbaaGreatDoor
namespace Go.Proofs.YtjoonfegjobgbaaGreatDoor
open Go Go.RowKit
noncomputable def sp_kSameTide : Spec := { q := .un, ps := [tTide, tTide], rs := [.bo], fresh := true, pre := fun _ _ => none, post := fun _ x => ((), (sameT x.1 x.2.1, ())) }
noncomputable def iv_kSameTide (y : El sp_kSameTide.q) (x : Els sp_kSameTide.ps) : Nat → Option Inv := fun _ => none
noncomputable abbrev c_kSameTide : Cfg := cfgS (Tryz.f72).ntmps false [(48, sp_kSameGauss.prim)]
def F_kSameTide (y : El sp_kSameTide.q) (x : Els sp_kSameTide.ps) : Prop :=
  ((ByteArray.toList x.1.1 == ByteArray.toList x.2.1.1) = true → (eqV tRot x.1.2.1 x.2.1.2.1 = true → ∀ (r : Ro [Ty.bo]), r = ((), decide (toGa x.1.2.2.1 = toGa x.2.1.2.2.1), ()) → r.2 = (sameT x.1 x.2.1, ())) ∧ (eqV tRot x.1.2.1 x.2.1.2.1 = false → (false, ()) = (sameT x.1 x.2.1, ()))) ∧ ((ByteArray.toList x.1.1 == ByteArray.toList x.2.1.1) = false → (false, ()) = (sameT x.1 x.2.1, ()))
theorem w_kSameTide (y : El sp_kSameTide.q) (x : Els sp_kSameTide.ps) : aW c_kSameTide (iv_kSameTide y x) Tryz.f72 sp_kSameTide y x = F_kSameTide y x := by kernel_rfl
theorem m_kSameTide (y : El (.un)) (x : Els [tTide, tTide]) (h2 : wfE (.un) y) (h3 : wfEs [tTide, tTide] x) : F_kSameTide y x := by
  unfold F_kSameTide
  simp only [ba_eq, eq_rot]
  refine ⟨fun h => ⟨fun k => ?_, fun k => sameT_n2 k⟩, fun h => sameT_n1 h⟩
  rintro _ rfl
  exact sameT_y h k rfl
theorem fo_kSameTide : FnOk Tryz.prog 72 sp_kSameTide := fnOk_of (C := c_kSameTide) iv_kSameTide Tryz.func72 rfl (by kernel_rfl) tys_ok (prims_cons (spec_prim fo_kSameGauss) prims_nil) mixed_ (Nat.le_refl _) rfl fun y x h1 h2 h3 h4 =>
  Eq.mpr (w_kSameTide y x) (m_kSameTide y x h2 h3)
def badT : List ByteArray := [⟨#[77, 50, 32, 48, 56, 32, 49, 32, 51, 47, 50, 32, 45, 49]⟩, ⟨#[77, 50, 32, 56, 32, 49, 32, 51, 47, 50]⟩, ⟨#[50, 77, 32, 56, 32, 49, 32, 48, 32, 48]⟩, ⟨#[]⟩, ⟨#[77, 50]⟩, ⟨#[77, 50, 32, 56, 32, 49, 32, 32, 48]⟩, ⟨#[77, 50, 32, 56, 32, 49, 32, 48, 32, 48, 32]⟩, ⟨#[77, 50, 32, 43, 56, 32, 49, 32, 48, 32, 48]⟩, ⟨#[77, 50, 32, 49, 48, 48, 48, 48, 48, 32, 49, 32, 48, 32, 48]⟩, ⟨#[77, 50, 32, 56, 32, 45, 48, 32, 48, 32, 48]⟩, ⟨#[77, 50, 32, 56, 32, 32, 49, 32, 48, 32, 48]⟩]
abbrev iR7 (n : Int) : El .un × Els [.it .i64] := ((), n, ())
abbrev tiE7 (t : El tTide × Int × Unit) : El .un × Els [tTide, .it .i64] := ((), t)
theorem tk_1 : tchk (⟨#[109, 32, 50]⟩, exM.2) = 4 := by decide +kernel
theorem tk_2 : tchk (exM.1, ((1 : Int), exM.2.1.2), exM.2.2) = 150 := by decide +kernel
theorem tk_3 : tchk (exM.1, ((0 : Int), (1 : Int), ()), exM.2.2) = 150 := by decide +kernel
theorem tk_4 : (badT.all fun s => decide (s.size ≤ 3000) && !(okTi s)) = true := by decide +kernel
theorem tk_5 {i : Nat} (h : i < 11) : (badT.getD i (dfl Ty.st)).size ≤ 3000 ∧ parT (badT.getD i (dfl Ty.st)) = (tZ, 230, ()) := by
  have hl : i < badT.length := h
  have k := List.all_eq_true.1 tk_4 _ (List.getElem_mem hl)
  rw [List.getD_eq_getElem?_getD, List.getElem?_eq_getElem hl, Option.getD_some]
  simp only [Bool.and_eq_true, decide_eq_true_eq, Bool.not_eq_true'] at k
  exact ⟨k.1, pt_bad k.1 (by rw [k.2]; decide)⟩
def t22 : ByteArray := ⟨#[77, 50, 32, 50, 32, 50, 32, 48, 32, 48]⟩
theorem tk_6 : okTi t22 = true := by decide +kernel
theorem tk_7 : rotC (rotT t22) = 150 := by decide +kernel
theorem tk_8 : parT t22 = (tZ, 150, ()) := (pt_rot (by decide) tk_6 (by rw [tk_7]; decide)).trans (congrArg (fun e => (tZ, e, ())) tk_7)
theorem tk_9 : tconj exM = ((⟨#[77, 50]⟩, (8, -1, ()), ofGa (ge (3/2) (- -1)), ()), 0, ()) := (tconj_w (a := 3/2) (b := -1) m13_3 rfl ⟨by decide +kernel, by decide +kernel⟩ ⟨by decide +kernel, by decide +kernel⟩).1
theorem tk_10 : fsmall 1 1 = (enc 1, 0) := by decide +kernel
theorem tk_11 : enc (- -1) = enc 1 := by decide +kernel
theorem tk_12 : sameT tZ tZ = true := by
  unfold sameT
  rw [decide_eq_true rfl, decide_eq_true rfl, decide_eq_true rfl]
  rfl
noncomputable def sp_lawTideKnown : Spec := { q := .un, ps := [], rs := [.bo], fresh := true, pre := fun _ _ => none, post := fun _ _ => ((), (true, ())) }
noncomputable def iv_lawTideKnown (y : El sp_lawTideKnown.q) (x : Els sp_lawTideKnown.ps) : Nat → Option Inv := fun k => if k = 0 then some { X := Nat, tm := fun i => [(4, .c (.sc (.bool true))), (5, .c (.ow 4)), (6, .c (.sc (.int .i64 i)))], ob := fun i => [(4, .ty 9 .st badT 0)], n := 5, I := fun i => i ≤ 11, μ := fun i => 11 - i } else none
noncomputable abbrev c_lawTideKnown : Cfg := { cfgS (Tryz.f12).ntmps false [(71, sp_l13ex.prim), (63, p_sure (sp_l13awake.prim)), (64, sp_tCk.prim), (58, sp_tParse.prim), (72, p_sure (sp_kSameTide.prim)), (66, sp_tConj.prim), (69, sp_rSmall.prim), (73, p_sure (sp_kSameRatio.prim))] with ty := tysT }
def F_lawTideKnown (y : El sp_lawTideKnown.q) (x : Els sp_lawTideKnown.ps) : Prop :=
  ∀ (r : Ro [tTide]), r = ((), exM, ()) → ∀ (r_1 : Ro [tTide]), r_1 = ((), exM, ()) → ∀ (r_2 : Ro [tTide]), r_2 = ((), exM, ()) → ∀ (r_3 : Ro [Ty.it IntKind.i64]), r_3 = ((), tchk ((⟨#[(109 : UInt8), (32 : UInt8), (50 : UInt8)]⟩ : ByteArray), r.2.1.2), ()) → ((r_3.2.1 == (4 : Int)) = true → ∀ (r : Ro [Ty.it IntKind.i64]), r = ((), tchk (r_1.2.1.1, ((1 : Int), r_1.2.1.2.1.2), r_1.2.1.2.2), ()) → ((r.2.1 == (150 : Int)) = true → ∀ (r : Ro [Ty.it IntKind.i64]), r = ((), tchk (r_2.2.1.1, ((0 : Int), (1 : Int), ()), r_2.2.1.2.2), ()) → (∃ (x : Nat), true = (r.2.1 == (150 : Int)) ∧ (↑x : Int) = (0 : Int) ∧ badT = [(⟨#[(77 : UInt8), (50 : UInt8), (32 : UInt8), (48 : UInt8), (56 : UInt8), (32 : UInt8), (49 : UInt8), (32 : UInt8), (51 : UInt8), (47 : UInt8), (50 : UInt8), (32 : UInt8), (45 : UInt8), (49 : UInt8)]⟩ : ByteArray), (⟨#[(77 : UInt8), (50 : UInt8), (32 : UInt8), (56 : UInt8), (32 : UInt8), (49 : UInt8), (32 : UInt8), (51 : UInt8), (47 : UInt8), (50 : UInt8)]⟩ : ByteArray), (⟨#[(50 : UInt8), (77 : UInt8), (32 : UInt8), (56 : UInt8), (32 : UInt8), (49 : UInt8), (32 : UInt8), (48 : UInt8), (32 : UInt8), (48 : UInt8)]⟩ : ByteArray), (⟨#[]⟩ : ByteArray), (⟨#[(77 : UInt8), (50 : UInt8)]⟩ : ByteArray), (⟨#[(77 : UInt8), (50 : UInt8), (32 : UInt8), (56 : UInt8), (32 : UInt8), (49 : UInt8), (32 : UInt8), (32 : UInt8), (48 : UInt8)]⟩ : ByteArray), (⟨#[(77 : UInt8), (50 : UInt8), (32 : UInt8), (56 : UInt8), (32 : UInt8), (49 : UInt8), (32 : UInt8), (48 : UInt8), (32 : UInt8), (48 : UInt8), (32 : UInt8)]⟩ : ByteArray), (⟨#[(77 : UInt8), (50 : UInt8), (32 : UInt8), (43 : UInt8), (56 : UInt8), (32 : UInt8), (49 : UInt8), (32 : UInt8), (48 : UInt8), (32 : UInt8), (48 : UInt8)]⟩ : ByteArray), (⟨#[(77 : UInt8), (50 : UInt8), (32 : UInt8), (49 : UInt8), (48 : UInt8), (48 : UInt8), (48 : UInt8), (48 : UInt8), (48 : UInt8), (32 : UInt8), (49 : UInt8), (32 : UInt8), (48 : UInt8), (32 : UInt8), (48 : UInt8)]⟩ : ByteArray), (⟨#[(77 : UInt8), (50 : UInt8), (32 : UInt8), (56 : UInt8), (32 : UInt8), (45 : UInt8), (48 : UInt8), (32 : UInt8), (48 : UInt8), (32 : UInt8), (48 : UInt8)]⟩ : ByteArray), (⟨#[(77 : UInt8), (50 : UInt8), (32 : UInt8), (56 : UInt8), (32 : UInt8), (32 : UInt8), (49 : UInt8), (32 : UInt8), (48 : UInt8), (32 : UInt8), (48 : UInt8)]⟩ : ByteArray)] ∧ x.le (11 : Nat)) ∧ ∀ (x : Nat), x.le (11 : Nat) → (decide ((↑x : Int) < lenM (0 : Nat) Ty.st badT) = true → ((0 : Int) ≤ (↑x : Int) ∧ (↑x : Int) < (↑badT.length : Int)) ∧ (ByteArray.size (badT.getD (↑x : Int).toNat (dfl Ty.st)) ≤ (3000 : Nat) ∨ (65536 : Nat) < ByteArray.size (badT.getD (↑x : Int).toNat (dfl Ty.st))) ∧ ∀ (r : Ro [tTide, Ty.it IntKind.i64]), r = ((), parT (badT.getD (↑x : Int).toNat (dfl Ty.st))) → ((r.2.2.1 != (230 : Int)) = true → (false, ()) = (true, ())) ∧ ((r.2.2.1 != (230 : Int)) = false → sameT r.2.1 (ByteArray.empty, ((0 : Int), (0 : Int), ()), ((false, [], [], ()), (false, [], [], ()), ()), ()) = true ∧ ((-9223372036854775808 : Int) ≤ (↑x : Int) + (1 : Int) ∧ (↑x : Int) + (1 : Int) ≤ (9223372036854775807 : Int)) ∧ ∃ (x' : Nat), true = true ∧ (↑x' : Int) = (↑x : Int) + (1 : Int) ∧ badT = badT ∧ x'.le (11 : Nat) ∧ (11 : Nat) - x' < (11 : Nat) - x)) ∧ (decide ((↑x : Int) < lenM (0 : Nat) Ty.st badT) = false → ((⟨#[(77 : UInt8), (50 : UInt8), (32 : UInt8), (50 : UInt8), (32 : UInt8), (50 : UInt8), (32 : UInt8), (48 : UInt8), (32 : UInt8), (48 : UInt8)]⟩ : ByteArray).size ≤ (3000 : Nat) ∨ (65536 : Nat) < (⟨#[(77 : UInt8), (50 : UInt8), (32 : UInt8), (50 : UInt8), (32 : UInt8), (50 : UInt8), (32 : UInt8), (48 : UInt8), (32 : UInt8), (48 : UInt8)]⟩ : ByteArray).size) ∧ ∀ (r : Ro [tTide, Ty.it IntKind.i64]), r = ((), parT (⟨#[(77 : UInt8), (50 : UInt8), (32 : UInt8), (50 : UInt8), (32 : UInt8), (50 : UInt8), (32 : UInt8), (48 : UInt8), (32 : UInt8), (48 : UInt8)]⟩ : ByteArray)) → ∀ (r_4 : Ro [tTide]), r_4 = ((), exM, ()) → ∀ (r_5 : Ro [tTide, Ty.it IntKind.i64]), r_5 = ((), tconj r_4.2.1) → ∀ (r_6 : Ro [tR, Ty.it IntKind.i64]), r_6 = pR (fsmall (1 : Int) (1 : Int)) → true = true ∧ (true = true → ((r.2.2.1 == (150 : Int)) = true → ((r_5.2.2.1 == (0 : Int)) = true → (eqV tRot r_5.2.1.2.1 ((8 : Int), (-1 : Int), ()) = true → decide (toFr r_5.2.1.2.2.1.2.1 = toFr r_6.2.1) = true ∧ (true, ()) = (true, ())) ∧ (eqV tRot r_5.2.1.2.1 ((8 : Int), (-1 : Int), ()) = false → (false, ()) = (true, ()))) ∧ ((r_5.2.2.1 == (0 : Int)) = false → (false, ()) = (true, ()))) ∧ ((r.2.2.1 == (150 : Int)) = false → (false, ()) = (true, ()))) ∧ (true = false → (false, ()) = (true, ())))) ∧ ((r.2.1 == (150 : Int)) = false → (∃ (x : Nat), true = false ∧ (↑x : Int) = (0 : Int) ∧ badT = [(⟨#[(77 : UInt8), (50 : UInt8), (32 : UInt8), (48 : UInt8), (56 : UInt8), (32 : UInt8), (49 : UInt8), (32 : UInt8), (51 : UInt8), (47 : UInt8), (50 : UInt8), (32 : UInt8), (45 : UInt8), (49 : UInt8)]⟩ : ByteArray), (⟨#[(77 : UInt8), (50 : UInt8), (32 : UInt8), (56 : UInt8), (32 : UInt8), (49 : UInt8), (32 : UInt8), (51 : UInt8), (47 : UInt8), (50 : UInt8)]⟩ : ByteArray), (⟨#[(50 : UInt8), (77 : UInt8), (32 : UInt8), (56 : UInt8), (32 : UInt8), (49 : UInt8), (32 : UInt8), (48 : UInt8), (32 : UInt8), (48 : UInt8)]⟩ : ByteArray), (⟨#[]⟩ : ByteArray), (⟨#[(77 : UInt8), (50 : UInt8)]⟩ : ByteArray), (⟨#[(77 : UInt8), (50 : UInt8), (32 : UInt8), (56 : UInt8), (32 : UInt8), (49 : UInt8), (32 : UInt8), (32 : UInt8), (48 : UInt8)]⟩ : ByteArray), (⟨#[(77 : UInt8), (50 : UInt8), (32 : UInt8), (56 : UInt8), (32 : UInt8), (49 : UInt8), (32 : UInt8), (48 : UInt8), (32 : UInt8), (48 : UInt8), (32 : UInt8)]⟩ : ByteArray), (⟨#[(77 : UInt8), (50 : UInt8), (32 : UInt8), (43 : UInt8), (56 : UInt8), (32 : UInt8), (49 : UInt8), (32 : UInt8), (48 : UInt8), (32 : UInt8), (48 : UInt8)]⟩ : ByteArray), (⟨#[(77 : UInt8), (50 : UInt8), (32 : UInt8), (49 : UInt8), (48 : UInt8), (48 : UInt8), (48 : UInt8), (48 : UInt8), (48 : UInt8), (32 : UInt8), (49 : UInt8), (32 : UInt8), (48 : UInt8), (32 : UInt8), (48 : UInt8)]⟩ : ByteArray), (⟨#[(77 : UInt8), (50 : UInt8), (32 : UInt8), (56 : UInt8), (32 : UInt8), (45 : UInt8), (48 : UInt8), (32 : UInt8), (48 : UInt8), (32 : UInt8), (48 : UInt8)]⟩ : ByteArray), (⟨#[(77 : UInt8), (50 : UInt8), (32 : UInt8), (56 : UInt8), (32 : UInt8), (32 : UInt8), (49 : UInt8), (32 : UInt8), (48 : UInt8), (32 : UInt8), (48 : UInt8)]⟩ : ByteArray)] ∧ x.le (11 : Nat)) ∧ ∀ (x : Nat), x.le (11 : Nat) → (decide ((↑x : Int) < lenM (0 : Nat) Ty.st badT) = true → ((0 : Int) ≤ (↑x : Int) ∧ (↑x : Int) < (↑badT.length : Int)) ∧ (ByteArray.size (badT.getD (↑x : Int).toNat (dfl Ty.st)) ≤ (3000 : Nat) ∨ (65536 : Nat) < ByteArray.size (badT.getD (↑x : Int).toNat (dfl Ty.st))) ∧ ∀ (r : Ro [tTide, Ty.it IntKind.i64]), r = ((), parT (badT.getD (↑x : Int).toNat (dfl Ty.st))) → ((r.2.2.1 != (230 : Int)) = true → (false, ()) = (true, ())) ∧ ((r.2.2.1 != (230 : Int)) = false → sameT r.2.1 (ByteArray.empty, ((0 : Int), (0 : Int), ()), ((false, [], [], ()), (false, [], [], ()), ()), ()) = true ∧ ((-9223372036854775808 : Int) ≤ (↑x : Int) + (1 : Int) ∧ (↑x : Int) + (1 : Int) ≤ (9223372036854775807 : Int)) ∧ ∃ (x' : Nat), true = true ∧ (↑x' : Int) = (↑x : Int) + (1 : Int) ∧ badT = badT ∧ x'.le (11 : Nat) ∧ (11 : Nat) - x' < (11 : Nat) - x)) ∧ (decide ((↑x : Int) < lenM (0 : Nat) Ty.st badT) = false → ((⟨#[(77 : UInt8), (50 : UInt8), (32 : UInt8), (50 : UInt8), (32 : UInt8), (50 : UInt8), (32 : UInt8), (48 : UInt8), (32 : UInt8), (48 : UInt8)]⟩ : ByteArray).size ≤ (3000 : Nat) ∨ (65536 : Nat) < (⟨#[(77 : UInt8), (50 : UInt8), (32 : UInt8), (50 : UInt8), (32 : UInt8), (50 : UInt8), (32 : UInt8), (48 : UInt8), (32 : UInt8), (48 : UInt8)]⟩ : ByteArray).size) ∧ ∀ (r : Ro [tTide, Ty.it IntKind.i64]), r = ((), parT (⟨#[(77 : UInt8), (50 : UInt8), (32 : UInt8), (50 : UInt8), (32 : UInt8), (50 : UInt8), (32 : UInt8), (48 : UInt8), (32 : UInt8), (48 : UInt8)]⟩ : ByteArray)) → ∀ (r_4 : Ro [tTide]), r_4 = ((), exM, ()) → ∀ (r_5 : Ro [tTide, Ty.it IntKind.i64]), r_5 = ((), tconj r_4.2.1) → ∀ (r_6 : Ro [tR, Ty.it IntKind.i64]), r_6 = pR (fsmall (1 : Int) (1 : Int)) → true = true ∧ (true = true → ((r.2.2.1 == (150 : Int)) = true → ((r_5.2.2.1 == (0 : Int)) = true → (eqV tRot r_5.2.1.2.1 ((8 : Int), (-1 : Int), ()) = true → decide (toFr r_5.2.1.2.2.1.2.1 = toFr r_6.2.1) = true ∧ (true, ()) = (true, ())) ∧ (eqV tRot r_5.2.1.2.1 ((8 : Int), (-1 : Int), ()) = false → (false, ()) = (true, ()))) ∧ ((r_5.2.2.1 == (0 : Int)) = false → (false, ()) = (true, ()))) ∧ ((r.2.2.1 == (150 : Int)) = false → (false, ()) = (true, ()))) ∧ (true = false → (false, ()) = (true, ()))))) ∧ ((r_3.2.1 == (4 : Int)) = false → (∃ (x : Nat), true = false ∧ (↑x : Int) = (0 : Int) ∧ badT = [(⟨#[(77 : UInt8), (50 : UInt8), (32 : UInt8), (48 : UInt8), (56 : UInt8), (32 : UInt8), (49 : UInt8), (32 : UInt8), (51 : UInt8), (47 : UInt8), (50 : UInt8), (32 : UInt8), (45 : UInt8), (49 : UInt8)]⟩ : ByteArray), (⟨#[(77 : UInt8), (50 : UInt8), (32 : UInt8), (56 : UInt8), (32 : UInt8), (49 : UInt8), (32 : UInt8), (51 : UInt8), (47 : UInt8), (50 : UInt8)]⟩ : ByteArray), (⟨#[(50 : UInt8), (77 : UInt8), (32 : UInt8), (56 : UInt8), (32 : UInt8), (49 : UInt8), (32 : UInt8), (48 : UInt8), (32 : UInt8), (48 : UInt8)]⟩ : ByteArray), (⟨#[]⟩ : ByteArray), (⟨#[(77 : UInt8), (50 : UInt8)]⟩ : ByteArray), (⟨#[(77 : UInt8), (50 : UInt8), (32 : UInt8), (56 : UInt8), (32 : UInt8), (49 : UInt8), (32 : UInt8), (32 : UInt8), (48 : UInt8)]⟩ : ByteArray), (⟨#[(77 : UInt8), (50 : UInt8), (32 : UInt8), (56 : UInt8), (32 : UInt8), (49 : UInt8), (32 : UInt8), (48 : UInt8), (32 : UInt8), (48 : UInt8), (32 : UInt8)]⟩ : ByteArray), (⟨#[(77 : UInt8), (50 : UInt8), (32 : UInt8), (43 : UInt8), (56 : UInt8), (32 : UInt8), (49 : UInt8), (32 : UInt8), (48 : UInt8), (32 : UInt8), (48 : UInt8)]⟩ : ByteArray), (⟨#[(77 : UInt8), (50 : UInt8), (32 : UInt8), (49 : UInt8), (48 : UInt8), (48 : UInt8), (48 : UInt8), (48 : UInt8), (48 : UInt8), (32 : UInt8), (49 : UInt8), (32 : UInt8), (48 : UInt8), (32 : UInt8), (48 : UInt8)]⟩ : ByteArray), (⟨#[(77 : UInt8), (50 : UInt8), (32 : UInt8), (56 : UInt8), (32 : UInt8), (45 : UInt8), (48 : UInt8), (32 : UInt8), (48 : UInt8), (32 : UInt8), (48 : UInt8)]⟩ : ByteArray), (⟨#[(77 : UInt8), (50 : UInt8), (32 : UInt8), (56 : UInt8), (32 : UInt8), (32 : UInt8), (49 : UInt8), (32 : UInt8), (48 : UInt8), (32 : UInt8), (48 : UInt8)]⟩ : ByteArray)] ∧ x.le (11 : Nat)) ∧ ∀ (x : Nat), x.le (11 : Nat) → (decide ((↑x : Int) < lenM (0 : Nat) Ty.st badT) = true → ((0 : Int) ≤ (↑x : Int) ∧ (↑x : Int) < (↑badT.length : Int)) ∧ (ByteArray.size (badT.getD (↑x : Int).toNat (dfl Ty.st)) ≤ (3000 : Nat) ∨ (65536 : Nat) < ByteArray.size (badT.getD (↑x : Int).toNat (dfl Ty.st))) ∧ ∀ (r : Ro [tTide, Ty.it IntKind.i64]), r = ((), parT (badT.getD (↑x : Int).toNat (dfl Ty.st))) → ((r.2.2.1 != (230 : Int)) = true → (false, ()) = (true, ())) ∧ ((r.2.2.1 != (230 : Int)) = false → sameT r.2.1 (ByteArray.empty, ((0 : Int), (0 : Int), ()), ((false, [], [], ()), (false, [], [], ()), ()), ()) = true ∧ ((-9223372036854775808 : Int) ≤ (↑x : Int) + (1 : Int) ∧ (↑x : Int) + (1 : Int) ≤ (9223372036854775807 : Int)) ∧ ∃ (x' : Nat), true = true ∧ (↑x' : Int) = (↑x : Int) + (1 : Int) ∧ badT = badT ∧ x'.le (11 : Nat) ∧ (11 : Nat) - x' < (11 : Nat) - x)) ∧ (decide ((↑x : Int) < lenM (0 : Nat) Ty.st badT) = false → ((⟨#[(77 : UInt8), (50 : UInt8), (32 : UInt8), (50 : UInt8), (32 : UInt8), (50 : UInt8), (32 : UInt8), (48 : UInt8), (32 : UInt8), (48 : UInt8)]⟩ : ByteArray).size ≤ (3000 : Nat) ∨ (65536 : Nat) < (⟨#[(77 : UInt8), (50 : UInt8), (32 : UInt8), (50 : UInt8), (32 : UInt8), (50 : UInt8), (32 : UInt8), (48 : UInt8), (32 : UInt8), (48 : UInt8)]⟩ : ByteArray).size) ∧ ∀ (r : Ro [tTide, Ty.it IntKind.i64]), r = ((), parT (⟨#[(77 : UInt8), (50 : UInt8), (32 : UInt8), (50 : UInt8), (32 : UInt8), (50 : UInt8), (32 : UInt8), (48 : UInt8), (32 : UInt8), (48 : UInt8)]⟩ : ByteArray)) → ∀ (r_4 : Ro [tTide]), r_4 = ((), exM, ()) → ∀ (r_5 : Ro [tTide, Ty.it IntKind.i64]), r_5 = ((), tconj r_4.2.1) → ∀ (r_6 : Ro [tR, Ty.it IntKind.i64]), r_6 = pR (fsmall (1 : Int) (1 : Int)) → true = true ∧ (true = true → ((r.2.2.1 == (150 : Int)) = true → ((r_5.2.2.1 == (0 : Int)) = true → (eqV tRot r_5.2.1.2.1 ((8 : Int), (-1 : Int), ()) = true → decide (toFr r_5.2.1.2.2.1.2.1 = toFr r_6.2.1) = true ∧ (true, ()) = (true, ())) ∧ (eqV tRot r_5.2.1.2.1 ((8 : Int), (-1 : Int), ()) = false → (false, ()) = (true, ()))) ∧ ((r_5.2.2.1 == (0 : Int)) = false → (false, ()) = (true, ()))) ∧ ((r.2.2.1 == (150 : Int)) = false → (false, ()) = (true, ()))) ∧ (true = false → (false, ()) = (true, ()))))
theorem w_lawTideKnown (y : El sp_lawTideKnown.q) (x : Els sp_lawTideKnown.ps) : aW c_lawTideKnown (iv_lawTideKnown y x) Tryz.f12 sp_lawTideKnown y x = F_lawTideKnown y x := by kernel_rfl
theorem m_lawTideKnown (y : El (.un)) (x : Els []) (h2 : wfE (.un) y) (h3 : wfEs [] x) : F_lawTideKnown y x := by
  unfold F_lawTideKnown
  rintro _ rfl _ rfl _ rfl
  intro r hr
  obtain rfl := hr.trans (congrArg iR7 tk_1)
  refine ⟨fun _ => ?_, fun h => Bool.noConfusion (show true = false from h)⟩
  intro r hr
  obtain rfl := hr.trans (congrArg iR7 tk_2)
  refine ⟨fun _ => ?_, fun h => Bool.noConfusion (show true = false from h)⟩
  intro r hr
  obtain rfl := hr.trans (congrArg iR7 tk_3)
  refine ⟨⟨0, rfl, rfl, rfl, Nat.zero_le _⟩, fun i hi => ⟨fun l => ?_, fun l => ?_⟩⟩
  · have l := of_decide_eq_true l
    have l : i < 11 := by
      have e : lenM 0 Ty.st badT = 11 := rfl
      rw [e] at l
      omega
    obtain ⟨b1, b2⟩ := tk_5 l
    refine ⟨⟨Int.natCast_nonneg _, show (i : Int) < ((11 : Nat) : Int) from Int.ofNat_lt.2 l⟩, .inl b1, ?_⟩
    intro r hr
    obtain rfl := hr.trans (congrArg tiE7 b2)
    exact ⟨fun h => Bool.noConfusion (show false = true from h), fun _ => ⟨tk_12, ⟨by omega, by omega⟩, i + 1, rfl, rfl, rfl, l, by omega⟩⟩
  · refine ⟨.inl (by decide), ?_⟩
    intro r hr
    obtain rfl := hr.trans (congrArg tiE7 tk_8)
    rintro _ rfl
    intro r hr
    obtain rfl := hr.trans (congrArg tiE7 tk_9)
    intro r hr
    obtain rfl := hr.trans (congrArg pR tk_10)
    refine ⟨rfl, fun _ => ⟨fun _ => ⟨fun _ => ⟨fun _ => ⟨decide_eq_true tk_11, rfl⟩, fun h => ?_⟩, fun h => Bool.noConfusion (show true = false from h)⟩, fun h => Bool.noConfusion (show true = false from h)⟩, fun h => Bool.noConfusion h⟩
    rw [eq_rot, decide_eq_true rfl] at h
    cases h
theorem fo_lawTideKnown : FnOk Tryz.prog 12 sp_lawTideKnown := fnOk_of (C := c_lawTideKnown) iv_lawTideKnown Tryz.func12 rfl (by kernel_rfl) tysT_ok (prims_cons (spec_prim fo_l13ex) (prims_cons (pr_sure (spec_prim fo_l13awake)) (prims_cons (spec_prim fo_tCk) (prims_cons (spec_prim fo_tParse) (prims_cons (pr_sure (spec_prim fo_kSameTide)) (prims_cons (spec_prim fo_tConj) (prims_cons (spec_prim fo_rSmall) (prims_cons (pr_sure (spec_prim fo_kSameRatio)) prims_nil)))))))) mixed_ (Nat.le_refl _) rfl fun y x h1 h2 h3 h4 =>
  Eq.mpr (w_lawTideKnown y x) (m_lawTideKnown y x h2 h3)
end Go.Proofs.YtjoonfegjobgbaaGreatDoor
namespace Go.Proofs.YtjoonfegjobgbaaGreatDoor
open Go.ChangeShapes Go.WideShapes Go.ChangeAt Go.RowKit Go.Joins
set_option linter.unusedVariables false
theorem mk_lifted (os : Os) (started : os.Started) (H : Type) (enc : TypeId × Value → H) :
    ReturnsInHanded {} Tryz.checked os 12 .any (fun w args => (Rows.tideKnownSpec.pre enc Tryz.prog Tryz.f12 [] false w args ∧ laidMetH Tryz.prog Rows.tideKnownRow.laid w) ∧ sizedMet enc Tryz.prog Tryz.f12 (OpenSpec.ofChange Rows.tideKnownSpec) false w args) (Rows.tideKnownSpec.post enc Tryz.prog Tryz.f12 false true false false) := by
  refine returnsInHanded_of_change_and (C := Tryz.checked) (X := fun w _ => laidMetH Tryz.prog Rows.tideKnownRow.laid w) (fun _ _ _ hh h => h.of_heap hh) mk_own started (by kernel_rfl) Tryz.func12
    (ChangeSpec.witness_at (enc := enc) (C := Tryz.checked) (os := os) (X := fun w _ => laidMetH Tryz.prog Rows.tideKnownRow.laid w) false (laidWorld os) #[] 8 rfl (by kernel_rfl) (by kernel_rfl) (by kernel_rfl) (by kernel_rfl) (by kernel_rfl) (laid_met os _)) ?_
  intro W base args ds gs before hval0 hW _ _ hL _
  have hval : ∀ (j : Nat) t v, Tryz.f12.params[j]? = some t → args[j]? = some v → Value.okWide Tryz.prog W .any base t v := hval0
  have hW' := hW
  obtain ⟨p, q, hA0, hV, rfl, hfz, hnd⟩ := hW
  have hA : DataW.TrodAll enc Tryz.prog W 0 (fun _ => true) true Tryz.f12.params.toList args.toList ds p := hA0
  rw [Tryz.params12] at hA hval
  obtain ⟨hargs, rfl, rfl⟩ := trodAll_nil hA
  obtain rfl : args = #[] := by cases args; simp_all
  obtain ⟨rfl, rfl⟩ := trodVars_none hV
  clear hA0 hval0
  refine (law_calls (x := ()) (vs := []) fo_lawTideKnown (glob_laid hL (by kernel_rfl) (globE_laid hL (by first | exact True.intro | kernel_rfl) (by first | exact True.intro | kernel_rfl))) trivial).mono fun e W' ⟨he, bel⟩ => ?_
  subst he
  exact ⟨_, rfl, _, _, _, [], _, [], hW', trodAll_mk1 (shut_bool Tryz.underlying4 _), trodAll_mk0, rfl, Below.frame bel _, fun h => by cases h⟩
set_option linter.unusedVariables false
theorem and_tt {a b : Bool} (h : a = true) (k : b = true) : (a && b) = true := by rw [h, k]; rfl
def jo_ (P : Program) (f : FuncId) (fn : Func) (s : ChangeSpec) (c : OpenClaim) : Nat → Bool
  | 0 => c.wf (OpenSpec.ofChange s)
  | 1 => laidOutB P
  | 2 => mapsRowed P
  | 3 => fn.params.all (P.readableRec ·)
  | 4 => namedTie P c.named s.vars
  | 5 => (c.stops == [])
  | 6 => (P.stops == [])
  | 7 => (c.knobs == [])
  | 8 => (P.stopKnobs == [])
  | 9 => (c.inPlace == P.inPlace f)
  | 10 => (c.unfollowed == P.unfollowed f)
  | 11 => (c.recurses == P.recurses f)
  | 12 => (c.named == P.varsNamed f)
  | 13 => (c.maps == (fn.params.toList ++ s.plain.varTypes P).any (P.mapsRec ·))
  | 14 => (c.ifaces == (fn.params.toList ++ s.plain.varTypes P).any (P.ifacesRec ·))
  | 15 => (c.mapsOut == P.mapsAmong fn.resultTypes.toList)
  | 16 => (c.loops == (fn.params.toList ++ s.plain.varTypes P).any (P.loopsFrom ·))
  | 17 => (c.wideKeys == (fn.params.toList ++ s.plain.varTypes P ++ fn.resultTypes.toList).any (P.wideKeysFrom ·))
  | 18 => s.vars.all (P.varReadable ·)
  | 19 => fn.resultTypes.all (fun t => P.readableRec t && decide (t < P.types.size))
  | 20 => (c.ifacesOut == fn.resultTypes.toList.any (P.ifacesRec ·))
  | 21 => (c.loopsOut == fn.resultTypes.toList.any (P.loopsFrom ·))
  | 22 => (c.plainKeys == P.plainKeys)
  | 23 => c.shortTexts.isNone
  | 24 => P.stopsHeard
  | 25 => P.mayEnter
  | 26 => (c.lifted == P.liftsFinal)
  | 27 => (P.make == some c.make)
  | 28 => (c.kinds == (if c.domain.isEmpty then [] else fn.params.toList.map fun t => match P.underlying t with | some (.int k) => some k | _ => none))
  | 29 => (c.pinned == c.pinnedBy)
  | 30 => (c.veiled == (fn.params.toList ++ s.plain.varTypes P ++ fn.resultTypes.toList).any (P.veiledRec ·))
  | 31 => c.veiledFits P fn.params.toList (fn.params.toList ++ s.plain.varTypes P ++ fn.resultTypes.toList)
  | _ => true
theorem jo_0 : jo_ (Tryz.pinned).checked.prog 12 Tryz.f12 Rows.tideKnownSpec Rows.tideKnownRow 0 = true := by kernel_rfl
theorem jo_1 : jo_ (Tryz.pinned).checked.prog 12 Tryz.f12 Rows.tideKnownSpec Rows.tideKnownRow 1 = true := by kernel_rfl
theorem jo_2 : jo_ (Tryz.pinned).checked.prog 12 Tryz.f12 Rows.tideKnownSpec Rows.tideKnownRow 2 = true := by kernel_rfl
theorem jo_3 : jo_ (Tryz.pinned).checked.prog 12 Tryz.f12 Rows.tideKnownSpec Rows.tideKnownRow 3 = true := by kernel_rfl
theorem jo_4 : jo_ (Tryz.pinned).checked.prog 12 Tryz.f12 Rows.tideKnownSpec Rows.tideKnownRow 4 = true := by kernel_rfl
theorem jo_5 : jo_ (Tryz.pinned).checked.prog 12 Tryz.f12 Rows.tideKnownSpec Rows.tideKnownRow 5 = true := by kernel_rfl
theorem jo_6 : jo_ (Tryz.pinned).checked.prog 12 Tryz.f12 Rows.tideKnownSpec Rows.tideKnownRow 6 = true := by kernel_rfl
theorem jo_7 : jo_ (Tryz.pinned).checked.prog 12 Tryz.f12 Rows.tideKnownSpec Rows.tideKnownRow 7 = true := by kernel_rfl
theorem jo_8 : jo_ (Tryz.pinned).checked.prog 12 Tryz.f12 Rows.tideKnownSpec Rows.tideKnownRow 8 = true := by kernel_rfl
theorem jo_9 : jo_ (Tryz.pinned).checked.prog 12 Tryz.f12 Rows.tideKnownSpec Rows.tideKnownRow 9 = true := by kernel_rfl
theorem jo_10 : jo_ (Tryz.pinned).checked.prog 12 Tryz.f12 Rows.tideKnownSpec Rows.tideKnownRow 10 = true := by kernel_rfl
theorem jo_11 : jo_ (Tryz.pinned).checked.prog 12 Tryz.f12 Rows.tideKnownSpec Rows.tideKnownRow 11 = true := by kernel_rfl
theorem jo_12 : jo_ (Tryz.pinned).checked.prog 12 Tryz.f12 Rows.tideKnownSpec Rows.tideKnownRow 12 = true := by kernel_rfl
theorem jo_13 : jo_ (Tryz.pinned).checked.prog 12 Tryz.f12 Rows.tideKnownSpec Rows.tideKnownRow 13 = true := by kernel_rfl
theorem jo_14 : jo_ (Tryz.pinned).checked.prog 12 Tryz.f12 Rows.tideKnownSpec Rows.tideKnownRow 14 = true := by kernel_rfl
theorem jo_15 : jo_ (Tryz.pinned).checked.prog 12 Tryz.f12 Rows.tideKnownSpec Rows.tideKnownRow 15 = true := by kernel_rfl
theorem jo_16 : jo_ (Tryz.pinned).checked.prog 12 Tryz.f12 Rows.tideKnownSpec Rows.tideKnownRow 16 = true := by kernel_rfl
theorem jo_17 : jo_ (Tryz.pinned).checked.prog 12 Tryz.f12 Rows.tideKnownSpec Rows.tideKnownRow 17 = true := by kernel_rfl
theorem jo_18 : jo_ (Tryz.pinned).checked.prog 12 Tryz.f12 Rows.tideKnownSpec Rows.tideKnownRow 18 = true := by kernel_rfl
theorem jo_19 : jo_ (Tryz.pinned).checked.prog 12 Tryz.f12 Rows.tideKnownSpec Rows.tideKnownRow 19 = true := by kernel_rfl
theorem jo_20 : jo_ (Tryz.pinned).checked.prog 12 Tryz.f12 Rows.tideKnownSpec Rows.tideKnownRow 20 = true := by kernel_rfl
theorem jo_21 : jo_ (Tryz.pinned).checked.prog 12 Tryz.f12 Rows.tideKnownSpec Rows.tideKnownRow 21 = true := by kernel_rfl
theorem jo_22 : jo_ (Tryz.pinned).checked.prog 12 Tryz.f12 Rows.tideKnownSpec Rows.tideKnownRow 22 = true := by kernel_rfl
theorem jo_23 : jo_ (Tryz.pinned).checked.prog 12 Tryz.f12 Rows.tideKnownSpec Rows.tideKnownRow 23 = true := by kernel_rfl
theorem jo_24 : jo_ (Tryz.pinned).checked.prog 12 Tryz.f12 Rows.tideKnownSpec Rows.tideKnownRow 24 = true := by kernel_rfl
theorem jo_25 : jo_ (Tryz.pinned).checked.prog 12 Tryz.f12 Rows.tideKnownSpec Rows.tideKnownRow 25 = true := by kernel_rfl
theorem jo_26 : jo_ (Tryz.pinned).checked.prog 12 Tryz.f12 Rows.tideKnownSpec Rows.tideKnownRow 26 = true := by kernel_rfl
theorem jo_27 : jo_ (Tryz.pinned).checked.prog 12 Tryz.f12 Rows.tideKnownSpec Rows.tideKnownRow 27 = true := by kernel_rfl
theorem jo_28 : jo_ (Tryz.pinned).checked.prog 12 Tryz.f12 Rows.tideKnownSpec Rows.tideKnownRow 28 = true := by kernel_rfl
theorem jo_29 : jo_ (Tryz.pinned).checked.prog 12 Tryz.f12 Rows.tideKnownSpec Rows.tideKnownRow 29 = true := by kernel_rfl
theorem jo_30 : jo_ (Tryz.pinned).checked.prog 12 Tryz.f12 Rows.tideKnownSpec Rows.tideKnownRow 30 = true := by kernel_rfl
theorem jo_31 : jo_ (Tryz.pinned).checked.prog 12 Tryz.f12 Rows.tideKnownSpec Rows.tideKnownRow 31 = true := by kernel_rfl
end Go.Proofs.YtjoonfegjobgbaaGreatDoor
