/- Texts of this claim, joined: L26w L26a L26j. -/
import Derived.Test.YtjoonfegjobgbaaGreatDoorRows
import Derived.LaidLaws
import Derived.MakeChecks
import Derived.Handed
import Derived.KernelRfl
import Derived.ProofKit
import Derived.OpenShut
import Derived.ChangeOld
import Derived.Below
import Derived.Lib.SmallJoins
import Derived.LaidHandle
import Derived.JoinedOf
import Derived.Test.YtjoonfegjobgbaaGreatDoorRz
set_option linter.unusedVariables false
set_option linter.unusedSimpArgs false
set_option maxRecDepth 100000
namespace Go.Proofs.YtjoonfegjobgbaaGreatDoor
open Go
set_option linter.unusedVariables false
def litV : DataW Unit → List Value
  | .lit (.int k n) => [.int k n]
  | _ => []
def litCells : DataW Unit → List Value
  | .agg l => l.flatMap fun x => match x with
    | .agg m => m.flatMap litV
    | y => litV y
  | _ => []
def putCells (h : Array Obj) (g : Nat) (cs : Array Value) : Array Obj := h.modify g fun
  | .cells _ t frozen => .cells cs t frozen
  | o => o
noncomputable def low0 : Nat := (World.holding Tryz.prog default ⟨#[], #[], []⟩).heap.size
noncomputable def laidWorld (os : Os) : World :=
  let w0 := World.holding Tryz.prog os ⟨#[.cells #[.string ⟨#[118, 97, 108, 117, 101, 32, 111, 117, 116, 32, 111, 102, 32, 114, 97, 110, 103, 101]⟩] 249, .cells #[.string ⟨#[105, 110, 118, 97, 108, 105, 100, 32, 115, 121, 110, 116, 97, 120]⟩] 249], #[], []⟩
  { w0 with heap := (putCells (putCells (putCells (putCells (putCells (putCells (putCells w0.heap 6 (litCells Rows.laid_math_bits_deBruijn32tab).toArray) 7 (litCells Rows.laid_math_bits_deBruijn64tab).toArray) 1 (litCells Rows.laid_internal_strconv_uint64pow10).toArray) 5 (litCells Rows.laid_unicode_utf8_acceptRanges).toArray) 4 (litCells Rows.laid_unicode_utf8_first).toArray) 3 #[.iface 247 (.pointer (some ⟨low0, 0, none⟩))]) 2 #[.iface 247 (.pointer (some ⟨low0 + 1, 0, none⟩))]) }
theorem laid_plain : (Rows.tideBackRow.laid.all fun x => x.2.handleName?.isNone) = true := by kernel_rfl
theorem laid_run (os : Os) (args : Array Value) : (DataW.laidRun Tryz.prog ((laidWorld os).forCall (fun _ _ => 0) ⟨#[], args, []⟩).memory 8 (Rows.tideBackRow.laid.map (·.1))).map (·.1) = some Rows.tideBackRow.laid := by kernel_rfl
theorem laid_rows (os : Os) (args : Array Value) : (DataW.laidRun Tryz.prog ((laidWorld os).forCall (fun _ _ => 0) ⟨#[], args, []⟩).memory 8 (Rows.tideBackRow.laid.map (·.1))).map (fun x => decide x.2.Nodup && laidRowsB Tryz.prog ((laidWorld os).forCall (fun _ _ => 0) ⟨#[], args, []⟩).memory x.2) = some true := by kernel_rfl
theorem laid_met (os : Os) (args : Array Value) : laidMetH Tryz.prog Rows.tideBackRow.laid ((laidWorld os).forCall (fun _ _ => 0) ⟨#[], args, []⟩).memory := by
  rw [MakeChecks.laidMetH_plain _ _ _ laid_plain]
  exact laidMet_of_run' 8 (laid_run os args) (laid_rows os args)
end Go.Proofs.YtjoonfegjobgbaaGreatDoor
namespace Go.Proofs.YtjoonfegjobgbaaGreatDoor
open Go.ChangeShapes Go.WideShapes Go.ChangeAt Go.RowKit Go.Joins
set_option linter.unusedVariables false
theorem mk_lifted (os : Os) (started : os.Started) (H : Type) (enc : TypeId × Value → H) :
    ReturnsInHanded {} Tryz.checked os 11 .any (fun w args => (Rows.tideBackSpec.pre enc Tryz.prog Tryz.f11 [] false w args ∧ laidMetH Tryz.prog Rows.tideBackRow.laid w) ∧ sizedMet enc Tryz.prog Tryz.f11 (OpenSpec.ofChange Rows.tideBackSpec) false w args) (Rows.tideBackSpec.post enc Tryz.prog Tryz.f11 false true false false) := by
  refine returnsInHanded_of_change_and (C := Tryz.checked) (X := fun w _ => laidMetH Tryz.prog Rows.tideBackRow.laid w) (fun _ _ _ hh h => h.of_heap hh) mk_own started (by kernel_rfl) Tryz.func11
    (ChangeSpec.witness_at (enc := enc) (C := Tryz.checked) (os := os) (X := fun w _ => laidMetH Tryz.prog Rows.tideBackRow.laid w) false (laidWorld os) #[.agg #[.string ⟨#[]⟩, .int .i32 0, .int .i32 0, .bool false, .slice none 0 0, .slice none 0 0, .bool false, .slice none 0 0, .slice none 0 0], .agg #[.bool false, .slice none 0 0, .slice none 0 0], .string ⟨#[]⟩] 8 rfl (by kernel_rfl) (by kernel_rfl) (by kernel_rfl) (by kernel_rfl) (by kernel_rfl) (laid_met os _)) ?_
  intro W base args ds gs before hval0 hW _ _ hL _
  have hval : ∀ (j : Nat) t v, Tryz.f11.params[j]? = some t → args[j]? = some v → Value.okWide Tryz.prog W .any base t v := hval0
  have hW' := hW
  obtain ⟨p, q, hA0, hV, rfl, hfz, hnd⟩ := hW
  have hA : DataW.TrodAll enc Tryz.prog W 0 (fun _ => true) true Tryz.f11.params.toList args.toList ds p := hA0
  rw [Tryz.params11] at hA hval
  obtain ⟨v0, vs0, d0, ds0, p0, q0, hargs, rfl, rfl, h0, r0⟩ := trodAll_cons hA
  obtain ⟨v1, vs1, d1, ds1, p1, q1, rfl, rfl, rfl, h1, r1⟩ := trodAll_cons r0
  obtain ⟨v2, vs2, d2, ds2, p2, q2, rfl, rfl, rfl, h2, r2⟩ := trodAll_cons r1
  obtain ⟨rfl, rfl, rfl⟩ := trodAll_nil r2
  obtain rfl : args = #[v0, v1, v2] := by cases args; simp_all
  obtain ⟨rfl, rfl⟩ := trodVars_none hV
  have k0 := h0
  have lt0 : ∀ x ∈ p0, x.block < W.heap.size := by obtain ⟨m, hm⟩ := k0; exact DataW.trod_lt m _ _ _ hm
  have k1 := h1
  have lt1 : ∀ x ∈ p1, x.block < W.heap.size := by obtain ⟨m, hm⟩ := k1; exact DataW.trod_lt m _ _ _ hm
  have k2 := h2
  have lt2 : ∀ x ∈ p2, x.block < W.heap.size := by obtain ⟨m, hm⟩ := k2; exact DataW.trod_lt m _ _ _ hm
  obtain ⟨x0, hx0⟩ := rv_in tys_ok (e := 0) (tTide) rfl rfl (hval 0 75 v0 rfl rfl) h0
  obtain ⟨x1, hx1⟩ := rv_in tys_ok (e := 0) (tR) rfl rfl (hval 1 24 v1 rfl rfl) h1
  obtain ⟨x2, hx2⟩ := rv_in tys_ok (e := 0) (.st) rfl rfl (hval 2 9 v2 rfl rfl) h2
  clear hA0 hval0
  refine (law_calls (x := (x0, x1, x2, ())) (vs := [v0, v1, v2]) fo_lawTideBack (glob_laid hL (by kernel_rfl) (globE_laid hL (by first | exact True.intro | kernel_rfl) (by first | exact True.intro | kernel_rfl))) ⟨hx0, hx1, hx2, trivial⟩).mono fun e W' ⟨he, bel⟩ => ?_
  subst he
  exact ⟨_, rfl, _, _, _, [], _, [], hW', trodAll_mk1 (shut_bool Tryz.underlying4 _), (trodAll_cons_mk (Below.trod mk_laidOut (by kernel_rfl) (of_decide_eq_true (by kernel_rfl)) k0 bel lt0) (trodAll_cons_mk (Below.trod mk_laidOut (by kernel_rfl) (of_decide_eq_true (by kernel_rfl)) k1 bel lt1) (trodAll_cons_mk (Below.trod mk_laidOut (by kernel_rfl) (of_decide_eq_true (by kernel_rfl)) k2 bel lt2) trodAll_mk0))), rfl, Below.frame bel _, fun h => by cases h⟩
set_option linter.unusedVariables false
theorem and_tt {a b : Bool} (h : a = true) (k : b = true) : (a && b) = true := by rw [h, k]; rfl
def jo_ (P : Program) (f : FuncId) (fn : Func) (s : ChangeSpec) (c : OpenClaim) : Nat → Bool
  | 0 => c.wf (OpenSpec.ofChange s)
  | 1 => laidOutB P
  | 2 => mapsRowed P
  | 3 => fn.params.all (P.readableRec ·)
  | 4 => namedTie P c.named s.vars
  | 5 => (c.stops == [])
  | 6 => (P.stops == [])
  | 7 => (c.knobs == [])
  | 8 => (P.stopKnobs == [])
  | 9 => (c.inPlace == P.inPlace f)
  | 10 => (c.unfollowed == P.unfollowed f)
  | 11 => (c.recurses == P.recurses f)
  | 12 => (c.named == P.varsNamed f)
  | 13 => (c.maps == (fn.params.toList ++ s.plain.varTypes P).any (P.mapsRec ·))
  | 14 => (c.ifaces == (fn.params.toList ++ s.plain.varTypes P).any (P.ifacesRec ·))
  | 15 => (c.mapsOut == P.mapsAmong fn.resultTypes.toList)
  | 16 => (c.loops == (fn.params.toList ++ s.plain.varTypes P).any (P.loopsFrom ·))
  | 17 => (c.wideKeys == (fn.params.toList ++ s.plain.varTypes P ++ fn.resultTypes.toList).any (P.wideKeysFrom ·))
  | 18 => s.vars.all (P.varReadable ·)
  | 19 => fn.resultTypes.all (fun t => P.readableRec t && decide (t < P.types.size))
  | 20 => (c.ifacesOut == fn.resultTypes.toList.any (P.ifacesRec ·))
  | 21 => (c.loopsOut == fn.resultTypes.toList.any (P.loopsFrom ·))
  | 22 => (c.plainKeys == P.plainKeys)
  | 23 => c.shortTexts.isNone
  | 24 => P.stopsHeard
  | 25 => P.mayEnter
  | 26 => (c.lifted == P.liftsFinal)
  | 27 => (P.make == some c.make)
  | 28 => (c.kinds == (if c.domain.isEmpty then [] else fn.params.toList.map fun t => match P.underlying t with | some (.int k) => some k | _ => none))
  | 29 => (c.pinned == c.pinnedBy)
  | 30 => (c.veiled == (fn.params.toList ++ s.plain.varTypes P ++ fn.resultTypes.toList).any (P.veiledRec ·))
  | 31 => c.veiledFits P fn.params.toList (fn.params.toList ++ s.plain.varTypes P ++ fn.resultTypes.toList)
  | _ => true
theorem jo_0 : jo_ (Tryz.pinned).checked.prog 11 Tryz.f11 Rows.tideBackSpec Rows.tideBackRow 0 = true := by kernel_rfl
theorem jo_1 : jo_ (Tryz.pinned).checked.prog 11 Tryz.f11 Rows.tideBackSpec Rows.tideBackRow 1 = true := by kernel_rfl
theorem jo_2 : jo_ (Tryz.pinned).checked.prog 11 Tryz.f11 Rows.tideBackSpec Rows.tideBackRow 2 = true := by kernel_rfl
theorem jo_3 : jo_ (Tryz.pinned).checked.prog 11 Tryz.f11 Rows.tideBackSpec Rows.tideBackRow 3 = true := by kernel_rfl
theorem jo_4 : jo_ (Tryz.pinned).checked.prog 11 Tryz.f11 Rows.tideBackSpec Rows.tideBackRow 4 = true := by kernel_rfl
theorem jo_5 : jo_ (Tryz.pinned).checked.prog 11 Tryz.f11 Rows.tideBackSpec Rows.tideBackRow 5 = true := by kernel_rfl
theorem jo_6 : jo_ (Tryz.pinned).checked.prog 11 Tryz.f11 Rows.tideBackSpec Rows.tideBackRow 6 = true := by kernel_rfl
theorem jo_7 : jo_ (Tryz.pinned).checked.prog 11 Tryz.f11 Rows.tideBackSpec Rows.tideBackRow 7 = true := by kernel_rfl
theorem jo_8 : jo_ (Tryz.pinned).checked.prog 11 Tryz.f11 Rows.tideBackSpec Rows.tideBackRow 8 = true := by kernel_rfl
theorem jo_9 : jo_ (Tryz.pinned).checked.prog 11 Tryz.f11 Rows.tideBackSpec Rows.tideBackRow 9 = true := by kernel_rfl
theorem jo_10 : jo_ (Tryz.pinned).checked.prog 11 Tryz.f11 Rows.tideBackSpec Rows.tideBackRow 10 = true := by kernel_rfl
theorem jo_11 : jo_ (Tryz.pinned).checked.prog 11 Tryz.f11 Rows.tideBackSpec Rows.tideBackRow 11 = true := by kernel_rfl
theorem jo_12 : jo_ (Tryz.pinned).checked.prog 11 Tryz.f11 Rows.tideBackSpec Rows.tideBackRow 12 = true := by kernel_rfl
theorem jo_13 : jo_ (Tryz.pinned).checked.prog 11 Tryz.f11 Rows.tideBackSpec Rows.tideBackRow 13 = true := by kernel_rfl
theorem jo_14 : jo_ (Tryz.pinned).checked.prog 11 Tryz.f11 Rows.tideBackSpec Rows.tideBackRow 14 = true := by kernel_rfl
theorem jo_15 : jo_ (Tryz.pinned).checked.prog 11 Tryz.f11 Rows.tideBackSpec Rows.tideBackRow 15 = true := by kernel_rfl
theorem jo_16 : jo_ (Tryz.pinned).checked.prog 11 Tryz.f11 Rows.tideBackSpec Rows.tideBackRow 16 = true := by kernel_rfl
theorem jo_17 : jo_ (Tryz.pinned).checked.prog 11 Tryz.f11 Rows.tideBackSpec Rows.tideBackRow 17 = true := by kernel_rfl
theorem jo_18 : jo_ (Tryz.pinned).checked.prog 11 Tryz.f11 Rows.tideBackSpec Rows.tideBackRow 18 = true := by kernel_rfl
theorem jo_19 : jo_ (Tryz.pinned).checked.prog 11 Tryz.f11 Rows.tideBackSpec Rows.tideBackRow 19 = true := by kernel_rfl
theorem jo_20 : jo_ (Tryz.pinned).checked.prog 11 Tryz.f11 Rows.tideBackSpec Rows.tideBackRow 20 = true := by kernel_rfl
theorem jo_21 : jo_ (Tryz.pinned).checked.prog 11 Tryz.f11 Rows.tideBackSpec Rows.tideBackRow 21 = true := by kernel_rfl
theorem jo_22 : jo_ (Tryz.pinned).checked.prog 11 Tryz.f11 Rows.tideBackSpec Rows.tideBackRow 22 = true := by kernel_rfl
theorem jo_23 : jo_ (Tryz.pinned).checked.prog 11 Tryz.f11 Rows.tideBackSpec Rows.tideBackRow 23 = true := by kernel_rfl
theorem jo_24 : jo_ (Tryz.pinned).checked.prog 11 Tryz.f11 Rows.tideBackSpec Rows.tideBackRow 24 = true := by kernel_rfl
theorem jo_25 : jo_ (Tryz.pinned).checked.prog 11 Tryz.f11 Rows.tideBackSpec Rows.tideBackRow 25 = true := by kernel_rfl
theorem jo_26 : jo_ (Tryz.pinned).checked.prog 11 Tryz.f11 Rows.tideBackSpec Rows.tideBackRow 26 = true := by kernel_rfl
theorem jo_27 : jo_ (Tryz.pinned).checked.prog 11 Tryz.f11 Rows.tideBackSpec Rows.tideBackRow 27 = true := by kernel_rfl
theorem jo_28 : jo_ (Tryz.pinned).checked.prog 11 Tryz.f11 Rows.tideBackSpec Rows.tideBackRow 28 = true := by kernel_rfl
theorem jo_29 : jo_ (Tryz.pinned).checked.prog 11 Tryz.f11 Rows.tideBackSpec Rows.tideBackRow 29 = true := by kernel_rfl
theorem jo_30 : jo_ (Tryz.pinned).checked.prog 11 Tryz.f11 Rows.tideBackSpec Rows.tideBackRow 30 = true := by kernel_rfl
theorem jo_31 : jo_ (Tryz.pinned).checked.prog 11 Tryz.f11 Rows.tideBackSpec Rows.tideBackRow 31 = true := by kernel_rfl
end Go.Proofs.YtjoonfegjobgbaaGreatDoor
