/- Texts of this claim, joined: F4 O1 O3 O5 L22a L22j. -/
import Derived.ProofKit
import Derived.OpenShut
import Derived.ChangeOld
import Derived.Below
import Derived.Lib.SmallJoins
import Derived.Deep.Slices
import Derived.Deep.Fields
import Derived.ChangeSame
import Derived.ChangeMaps5
import Derived.Lib.LaidTab
import Derived.LaidSub
import Derived.MakeChecks
import Derived.KernelRfl
import Derived.Test.YtemlaompalbgiaaGreatDoorRows
import Derived.LaidHandle
import Derived.LaidLaws
import Derived.JoinedOf
import Derived.Test.YtemlaompalbgiaaGreatDoorQu
set_option linter.unusedVariables false
set_option linter.unusedSimpArgs false
set_option maxRecDepth 100000
namespace Go.Proofs.YtemlaompalbgiaaGreatDoor
open Go Go.RowKit
def tN : ByteArray := ⟨#[45, 55, 47, 53, 32, 50, 52, 47, 53]⟩
theorem en_1 : numberE (List.getD exP.2.2.1 (Int.toNat 0) (dfl tTide)) 2 = (ge (-7/5) (24/5), 0) := by decide +kernel
theorem en_2 : okG tN = true := by decide +kernel
theorem en_3 : valG tN = ge (-7/5) (24/5) := by decide +kernel
theorem en_4 : SpanE exP 0 3 = ([ofFr (enc (11/2)), ofFr (enc (7/2)), ofFr (enc (-9/10))], 0) := by decide +kernel
theorem en_5 : SpanE exP 2 2 = ([], 0) := by decide +kernel
theorem en_6 : SpanE exP 3 2 = ([], 2) := by decide +kernel
theorem en_7 : SpanE exP 0 1026 = ([], 2) := by decide +kernel
theorem en_8 : EndsE exP 0 3 = (2, 0, 0, ()) := by decide +kernel
theorem en_9 : EndsE exP 2 2 = (0, 0, 2, ()) := by decide +kernel
theorem en_10 : AtE exP 1025 = (Fr.zero, 2) := by decide +kernel
theorem en_11 : AtE exP (-1) = (Fr.zero, 2) := by decide +kernel
theorem en_12 : SpanE exP 1025 1025 = ([], 0) := by decide +kernel
theorem en_13 : fsmall 11 2 = (enc (11/2), 0) := by decide +kernel
theorem en_14 : gsame (ge (-7/5) (24/5)) (ge (-7/5) (24/5)) = true := by decide +kernel
abbrev spR (t : List (El tR) × Int) : El .un × Els [.sl tR, .it .i64] := ((), t.1, t.2, ())
abbrev enR (t : Int × Int × Int × Unit) : El .un × Els [.it .i64, .it .i64, .it .i64] := ((), t)
noncomputable def sp_lawExactNames : Spec := { q := .un, ps := [], rs := [.bo], fresh := true, pre := fun _ _ => none, post := fun _ _ => ((), (true, ())) }
noncomputable def iv_lawExactNames (y : El sp_lawExactNames.q) (x : Els sp_lawExactNames.ps) : Nat → Option Inv := fun _ => none
noncomputable abbrev c_lawExactNames : Cfg := cfgS (Tryz.f3).ntmps false [(13, (sp_oexample.rd).prim), (14, sp_xNumber.prim), (15, sp_gParse.prim), (16, (sp_xSpan.rd).prim), (17, sp_xEnds.prim), (18, sp_xAt.prim), (21, p_sure (sp_oawake.prim)), (22, p_sure (sp_gSame.prim)), (19, p_sure (sp_rSame.prim)), (20, sp_osmall.prim)]
def F_lawExactNames (y : El sp_lawExactNames.q) (x : Els sp_lawExactNames.ps) : Prop :=
  ∀ (r : Ro [tPort]), r = ((), exP, ()) → ((0 : Int) ≤ (0 : Int) ∧ (0 : Int) < (r.2.1.2.2.1.length : Int)) ∧ ∀ (r_1 : Ro [tG, Ty.it IntKind.i64]), r_1 = pG (numberE (List.getD r.2.1.2.2.1 (Int.toNat (0 : Int)) (dfl tTide)) (2 : Int)) → okG (⟨#[(45 : UInt8), (55 : UInt8), (47 : UInt8), (53 : UInt8), (32 : UInt8), (50 : UInt8), (52 : UInt8), (47 : UInt8), (53 : UInt8)]⟩ : ByteArray) = true ∧ ∀ (r_2 : Ro [tG, Ty.it IntKind.i64]), r_2 = pG (valG (⟨#[(45 : UInt8), (55 : UInt8), (47 : UInt8), (53 : UInt8), (32 : UInt8), (50 : UInt8), (52 : UInt8), (47 : UInt8), (53 : UInt8)]⟩ : ByteArray), (0 : Int)) → ∀ (r_3 : Ro [tR.sl, Ty.it IntKind.i64]), r_3 = ((), (SpanE r.2.1 (0 : Int) (3 : Int)).1, (SpanE r.2.1 (0 : Int) (3 : Int)).2, ()) → ∀ (r_4 : Ro [tR.sl, Ty.it IntKind.i64]), r_4 = ((), (SpanE r.2.1 (2 : Int) (2 : Int)).1, (SpanE r.2.1 (2 : Int) (2 : Int)).2, ()) → ∀ (r_5 : Ro [tR.sl, Ty.it IntKind.i64]), r_5 = ((), (SpanE r.2.1 (3 : Int) (2 : Int)).1, (SpanE r.2.1 (3 : Int) (2 : Int)).2, ()) → ∀ (r_6 : Ro [tR.sl, Ty.it IntKind.i64]), r_6 = ((), (SpanE r.2.1 (0 : Int) (1026 : Int)).1, (SpanE r.2.1 (0 : Int) (1026 : Int)).2, ()) → ∀ (r_7 : Ro [Ty.it IntKind.i64, Ty.it IntKind.i64, Ty.it IntKind.i64]), r_7 = ((), EndsE r.2.1 (0 : Int) (3 : Int)) → ∀ (r_8 : Ro [Ty.it IntKind.i64, Ty.it IntKind.i64, Ty.it IntKind.i64]), r_8 = ((), EndsE r.2.1 (2 : Int) (2 : Int)) → ∀ (r_9 : Ro [tR, Ty.it IntKind.i64]), r_9 = pR (AtE r.2.1 (1025 : Int)) → ∀ (r_10 : Ro [tR, Ty.it IntKind.i64]), r_10 = pR (AtE r.2.1 (-1 : Int)) → ∀ (r_11 : Ro [tR.sl, Ty.it IntKind.i64]), r_11 = ((), (SpanE r.2.1 (1025 : Int) (1025 : Int)).1, (SpanE r.2.1 (1025 : Int) (1025 : Int)).2, ()) → ((r_3.2.2.1 == (0 : Int)) = true → (((r_3.2.1.length : Int) == (3 : Int)) = true → ((0 : Int) ≤ (0 : Int) ∧ (0 : Int) < (r_3.2.1.length : Int)) ∧ ∀ (r : Ro [tR]), r = ((), ofFr (fsmall (11 : Int) (2 : Int)).1, ()) → decide (toFr (List.getD r_3.2.1 (Int.toNat (0 : Int)) (dfl tR)) = toFr r.2.1) = true ∧ (((r_4.2.1.length : Int) == (0 : Int)) = true → ((r_4.2.2.1 == (0 : Int)) = true → ((r_5.2.2.1 == (2 : Int)) = true → ((r_6.2.2.1 == (2 : Int)) = true → (((r_11.2.1.length : Int) == (0 : Int)) = true → true = true ∧ ((r_1.2.2.1 == (0 : Int)) = true → gsame (toGa r_1.2.1) (toGa r_2.2.1) = true ∧ ((r_11.2.2.1 == (0 : Int)) = true → ((r_7.2.1 == (2 : Int)) = true → ((r_7.2.2.1 == (0 : Int)) = true → ((r_7.2.2.2.1 == (0 : Int)) = true → ((r_8.2.2.2.1 == (2 : Int)) = true → ((r_9.2.2.1 == (2 : Int)) = true → (r_10.2.2.1 == (2 : Int), ()) = (true, ())) ∧ ((r_9.2.2.1 == (2 : Int)) = false → (false, ()) = (true, ()))) ∧ ((r_8.2.2.2.1 == (2 : Int)) = false → (false, ()) = (true, ()))) ∧ ((r_7.2.2.2.1 == (0 : Int)) = false → (false, ()) = (true, ()))) ∧ ((r_7.2.2.1 == (0 : Int)) = false → (false, ()) = (true, ()))) ∧ ((r_7.2.1 == (2 : Int)) = false → (false, ()) = (true, ()))) ∧ ((r_11.2.2.1 == (0 : Int)) = false → (false, ()) = (true, ()))) ∧ ((r_1.2.2.1 == (0 : Int)) = false → (false, ()) = (true, ()))) ∧ (((r_11.2.1.length : Int) == (0 : Int)) = false → true = true ∧ ((r_1.2.2.1 == (0 : Int)) = true → gsame (toGa r_1.2.1) (toGa r_2.2.1) = true ∧ (false, ()) = (true, ())) ∧ ((r_1.2.2.1 == (0 : Int)) = false → (false, ()) = (true, ())))) ∧ ((r_6.2.2.1 == (2 : Int)) = false → true = true ∧ ((r_1.2.2.1 == (0 : Int)) = true → gsame (toGa r_1.2.1) (toGa r_2.2.1) = true ∧ (false, ()) = (true, ())) ∧ ((r_1.2.2.1 == (0 : Int)) = false → (false, ()) = (true, ())))) ∧ ((r_5.2.2.1 == (2 : Int)) = false → true = true ∧ ((r_1.2.2.1 == (0 : Int)) = true → gsame (toGa r_1.2.1) (toGa r_2.2.1) = true ∧ (false, ()) = (true, ())) ∧ ((r_1.2.2.1 == (0 : Int)) = false → (false, ()) = (true, ())))) ∧ ((r_4.2.2.1 == (0 : Int)) = false → true = true ∧ ((r_1.2.2.1 == (0 : Int)) = true → gsame (toGa r_1.2.1) (toGa r_2.2.1) = true ∧ (false, ()) = (true, ())) ∧ ((r_1.2.2.1 == (0 : Int)) = false → (false, ()) = (true, ())))) ∧ (((r_4.2.1.length : Int) == (0 : Int)) = false → true = true ∧ ((r_1.2.2.1 == (0 : Int)) = true → gsame (toGa r_1.2.1) (toGa r_2.2.1) = true ∧ (false, ()) = (true, ())) ∧ ((r_1.2.2.1 == (0 : Int)) = false → (false, ()) = (true, ())))) ∧ (((r_3.2.1.length : Int) == (3 : Int)) = false → true = true ∧ ((r_1.2.2.1 == (0 : Int)) = true → gsame (toGa r_1.2.1) (toGa r_2.2.1) = true ∧ (false, ()) = (true, ())) ∧ ((r_1.2.2.1 == (0 : Int)) = false → (false, ()) = (true, ())))) ∧ ((r_3.2.2.1 == (0 : Int)) = false → true = true ∧ ((r_1.2.2.1 == (0 : Int)) = true → gsame (toGa r_1.2.1) (toGa r_2.2.1) = true ∧ (false, ()) = (true, ())) ∧ ((r_1.2.2.1 == (0 : Int)) = false → (false, ()) = (true, ())))
theorem w_lawExactNames (y : El sp_lawExactNames.q) (x : Els sp_lawExactNames.ps) : aW c_lawExactNames (iv_lawExactNames y x) Tryz.f3 sp_lawExactNames y x = F_lawExactNames y x := by kernel_rfl
theorem m_lawExactNames (y : El (.un)) (x : Els []) (h2 : wfE (.un) y) (h3 : wfEs [] x) : F_lawExactNames y x := by
  unfold F_lawExactNames
  rintro _ rfl
  refine ⟨⟨Int.le_refl 0, by decide +kernel⟩, ?_⟩
  intro r hr
  obtain rfl := hr.trans (congrArg pG en_1)
  refine ⟨en_2, ?_⟩
  intro r hr
  obtain rfl := hr.trans (congrArg (fun g => pG (g, 0)) en_3)
  intro r hr
  obtain rfl := hr.trans (congrArg spR en_4)
  intro r hr
  obtain rfl := hr.trans (congrArg spR en_5)
  intro r hr
  obtain rfl := hr.trans (congrArg spR en_6)
  intro r hr
  obtain rfl := hr.trans (congrArg spR en_7)
  intro r hr
  obtain rfl := hr.trans (congrArg enR en_8)
  intro r hr
  obtain rfl := hr.trans (congrArg enR en_9)
  intro r hr
  obtain rfl := hr.trans (congrArg pR en_10)
  intro r hr
  obtain rfl := hr.trans (congrArg pR en_11)
  intro r hr
  obtain rfl := hr.trans (congrArg spR en_12)
  refine ⟨fun _ => ⟨fun _ => ⟨⟨Int.le_refl 0, by decide +kernel⟩, ?_⟩, fun h => Bool.noConfusion (show true = false from h)⟩, fun h => Bool.noConfusion (show true = false from h)⟩
  intro r hr
  obtain rfl := hr.trans (congrArg (fun t : Fr × Int => (((), (ofFr t.1, ())) : El .un × Els [tR])) en_13)
  exact ⟨decide_eq_true rfl, fun _ => ⟨fun _ => ⟨fun _ => ⟨fun _ => ⟨fun _ => ⟨rfl, fun _ => ⟨en_14, fun _ => ⟨fun _ => ⟨fun _ => ⟨fun _ => ⟨fun _ => ⟨fun _ => rfl, fun h => Bool.noConfusion (show true = false from h)⟩, fun h => Bool.noConfusion (show true = false from h)⟩, fun h => Bool.noConfusion (show true = false from h)⟩, fun h => Bool.noConfusion (show true = false from h)⟩, fun h => Bool.noConfusion (show true = false from h)⟩, fun h => Bool.noConfusion (show true = false from h)⟩, fun h => Bool.noConfusion (show true = false from h)⟩, fun h => Bool.noConfusion (show true = false from h)⟩, fun h => Bool.noConfusion (show true = false from h)⟩, fun h => Bool.noConfusion (show true = false from h)⟩, fun h => Bool.noConfusion (show true = false from h)⟩, fun h => Bool.noConfusion (show true = false from h)⟩
theorem fo_lawExactNames : FnOk Tryz.prog 3 sp_lawExactNames := fnOk_of (C := c_lawExactNames) iv_lawExactNames Tryz.func3 rfl (by kernel_rfl) tys_ok (prims_cons (spec_prim (FnOk.read fo_oexample)) (prims_cons (spec_prim fo_xNumber) (prims_cons (spec_prim fo_gParse) (prims_cons (spec_prim (FnOk.read fo_xSpan)) (prims_cons (spec_prim fo_xEnds) (prims_cons (spec_prim fo_xAt) (prims_cons (pr_sure (spec_prim fo_oawake)) (prims_cons (pr_sure (spec_prim fo_gSame)) (prims_cons (pr_sure (spec_prim fo_rSame)) (prims_cons (spec_prim fo_osmall) prims_nil)))))))))) mixed_ (Nat.le_refl _) rfl fun y x h1 h2 h3 h4 =>
  Eq.mpr (w_lawExactNames y x) (m_lawExactNames y x h2 h3)
end Go.Proofs.YtemlaompalbgiaaGreatDoor
namespace Go.Proofs.YtemlaompalbgiaaGreatDoor
open Go.ChangeShapes Go.WideShapes Go.ChangeAt Go.RowKit Go.Joins Go.Deep
set_option linter.unusedVariables false
section
variable {H : Type} {enc : TypeId × Value → H} {P : Program} {w : World} {base : Nat} {spare : Nat → Bool} {held : Bool}
end
theorem mk_own : ownKnob Tryz.prog.godebug = none := by kernel_rfl
end Go.Proofs.YtemlaompalbgiaaGreatDoor
namespace Go.Proofs.YtemlaompalbgiaaGreatDoor
open Go Go.RowKit Go.ChangeShapes Go.WideShapes Go.ChangeAt Go.Joins Go.Deep
abbrev Zw (W : World) : Nat → Prop := fun g => g < W.heap.size
theorem law_calls {P : Program} {f : Nat} {ps : List Ty} (h : FnOk P f { q := .un, ps := ps, rs := [.bo], fresh := true, pre := fun _ _ => none, post := fun _ _ => ((), (true, ())) }) {W : World} {x : Els ps} {vs : List Value} (hg : Glob (Zw W) W) (hv : RVs (Zw W) W ps x vs) : Calls P f vs.toArray W fun e W' => e = .returned (.bool true) ∧ Below W.heap.size W W' := by
  refine (h.2 (Zw W) W 0 vs () x ⟨fun g hg => hg, hg⟩ hv trivial (fun e => by cases e) (fun _ => rfl)).mono ?_
  rintro e w' ⟨v, us, bs, Z', rfl, t1, t2, _, _, _, _, _, t8, _⟩
  have t8 : W.grownBy w' none := t8
  refine ⟨?_, t8.os, t8.tape, t8.output, t8.size, fun k hk => t8.block k hk (by simp)⟩
  match us, t2 with
  | [u], ⟨b, b', _, h1, h2⟩ =>
    have h1 : RT _ w' .bo true [u] ∧ b = [] := h1
    rw [RT] at h1
    have e1 : u = .bool true := by simpa using h1.1
    rcases t1 with ⟨u', e2, rfl⟩ | ⟨h3, _⟩
    · cases e2; rw [e1]
    · simp at h3
end Go.Proofs.YtemlaompalbgiaaGreatDoor
namespace Go.Proofs.YtemlaompalbgiaaGreatDoor
open Go Go.RowKit
theorem glob_tab {W : World} (h : Lib.TabIs Tryz.prog W "internal/strconv.uint64pow10" .u64 Lib.pow10Tab) : Glob (Zw W) W := fun p hp => by
  have e : p = (1, IntKind.u64, Lib.pow10Tab) := by
    unfold globs at hp
    rw [List.nil_append] at hp
    exact List.mem_singleton.1 hp
  subst e
  unfold Lib.TabIs World.var? at h
  rw [show (Tryz.prog).globalNamed "internal/strconv.uint64pow10" = some 1 by kernel_rfl] at h
  have h : (match W.heap[1]? with
    | some (Obj.cells cs _ _) => some cs
    | _ => none) = some (Lib.pow10Tab.map fun z => Value.int .u64 z).toArray := h
  split at h
  · rename_i cs t z hc
    cases h
    exact ⟨(Array.getElem?_eq_some_iff.1 hc).1, t, z, hc⟩
  · cases h
theorem glob_laid {W : World} {L : List (String × DataW Unit)} (h : laidMetH Tryz.prog L W) (e : (L.filter fun x => x.1 == "internal/strconv.uint64pow10") = [("internal/strconv.uint64pow10", Lib.tabData .u64 Lib.pow10Tab)]) : Glob (Zw W) W := by
  have h2 := h.filter fun x => x.1 == "internal/strconv.uint64pow10"
  rw [e, MakeChecks.laidMetH_plain _ _ _ (by kernel_rfl)] at h2
  exact glob_tab (Lib.tabIs_of_head (g := 1) (t := 307) (e := 211) (n := 20) (by kernel_rfl) (by kernel_rfl) Tryz.underlying307 Tryz.underlying211 (by kernel_rfl) (by kernel_rfl) h2)
end Go.Proofs.YtemlaompalbgiaaGreatDoor
namespace Go.Proofs.YtemlaompalbgiaaGreatDoor
open Go.ChangeShapes Go.WideShapes Go.ChangeAt Go.RowKit Go.Joins
set_option linter.unusedVariables false
theorem mk_lifted (os : Os) (started : os.Started) (H : Type) (enc : TypeId × Value → H) :
    ReturnsInHanded {} Tryz.checked os 3 .any (fun w args => (Rows.exactNamesSpec.pre enc Tryz.prog Tryz.f3 [] false w args ∧ laidMetH Tryz.prog Rows.exactNamesRow.laid w) ∧ sizedMet enc Tryz.prog Tryz.f3 (OpenSpec.ofChange Rows.exactNamesSpec) false w args) (Rows.exactNamesSpec.post enc Tryz.prog Tryz.f3 false true false false) := by
  refine returnsInHanded_of_change_and (C := Tryz.checked) (X := fun w _ => laidMetH Tryz.prog Rows.exactNamesRow.laid w) (fun _ _ _ hh h => h.of_heap hh) mk_own started (by kernel_rfl) Tryz.func3
    (ChangeSpec.witness_at (enc := enc) (C := Tryz.checked) (os := os) (X := fun w _ => laidMetH Tryz.prog Rows.exactNamesRow.laid w) false (laidWorld os) #[] 8 rfl (by kernel_rfl) (by kernel_rfl) (by kernel_rfl) (by kernel_rfl) (by kernel_rfl) (laid_met os _)) ?_
  intro W base args ds gs before hval0 hW _ _ hL _
  have hval : ∀ (j : Nat) t v, Tryz.f3.params[j]? = some t → args[j]? = some v → Value.okWide Tryz.prog W .any base t v := hval0
  have hW' := hW
  obtain ⟨p, q, hA0, hV, rfl, hfz, hnd⟩ := hW
  have hA : DataW.TrodAll enc Tryz.prog W 0 (fun _ => true) true Tryz.f3.params.toList args.toList ds p := hA0
  rw [Tryz.params3] at hA hval
  obtain ⟨hargs, rfl, rfl⟩ := trodAll_nil hA
  obtain rfl : args = #[] := by cases args; simp_all
  obtain ⟨rfl, rfl⟩ := trodVars_none hV
  clear hA0 hval0
  refine (law_calls (x := ()) (vs := []) fo_lawExactNames (glob_laid hL (by kernel_rfl)) trivial).mono fun e W' ⟨he, bel⟩ => ?_
  subst he
  exact ⟨_, rfl, _, _, _, [], _, [], hW', trodAll_mk1 (shut_bool Tryz.underlying4 _), trodAll_mk0, rfl, Below.frame bel _, fun h => by cases h⟩
set_option linter.unusedVariables false
theorem and_tt {a b : Bool} (h : a = true) (k : b = true) : (a && b) = true := by rw [h, k]; rfl
def jo_ (P : Program) (f : FuncId) (fn : Func) (s : ChangeSpec) (c : OpenClaim) : Nat → Bool
  | 0 => c.wf (OpenSpec.ofChange s)
  | 1 => laidOutB P
  | 2 => mapsRowed P
  | 3 => fn.params.all (P.readableRec ·)
  | 4 => namedTie P c.named s.vars
  | 5 => (c.stops == [])
  | 6 => (P.stops == [])
  | 7 => (c.knobs == [])
  | 8 => (P.stopKnobs == [])
  | 9 => (c.inPlace == P.inPlace f)
  | 10 => (c.unfollowed == P.unfollowed f)
  | 11 => (c.recurses == P.recurses f)
  | 12 => (c.named == P.varsNamed f)
  | 13 => (c.maps == (fn.params.toList ++ s.plain.varTypes P).any (P.mapsRec ·))
  | 14 => (c.ifaces == (fn.params.toList ++ s.plain.varTypes P).any (P.ifacesRec ·))
  | 15 => (c.mapsOut == P.mapsAmong fn.resultTypes.toList)
  | 16 => (c.loops == (fn.params.toList ++ s.plain.varTypes P).any (P.loopsFrom ·))
  | 17 => (c.wideKeys == (fn.params.toList ++ s.plain.varTypes P ++ fn.resultTypes.toList).any (P.wideKeysFrom ·))
  | 18 => s.vars.all (P.varReadable ·)
  | 19 => fn.resultTypes.all (fun t => P.readableRec t && decide (t < P.types.size))
  | 20 => (c.ifacesOut == fn.resultTypes.toList.any (P.ifacesRec ·))
  | 21 => (c.loopsOut == fn.resultTypes.toList.any (P.loopsFrom ·))
  | 22 => (c.plainKeys == P.plainKeys)
  | 23 => c.shortTexts.isNone
  | 24 => P.stopsHeard
  | 25 => P.mayEnter
  | 26 => (c.lifted == P.liftsFinal)
  | 27 => (P.make == some c.make)
  | 28 => (c.kinds == (if c.domain.isEmpty then [] else fn.params.toList.map fun t => match P.underlying t with | some (.int k) => some k | _ => none))
  | 29 => (c.pinned == c.pinnedBy)
  | 30 => (c.veiled == (fn.params.toList ++ s.plain.varTypes P ++ fn.resultTypes.toList).any (P.veiledRec ·))
  | 31 => c.veiledFits P fn.params.toList (fn.params.toList ++ s.plain.varTypes P ++ fn.resultTypes.toList)
  | _ => true
theorem jo_0 : jo_ (Tryz.pinned).checked.prog 3 Tryz.f3 Rows.exactNamesSpec Rows.exactNamesRow 0 = true := by kernel_rfl
theorem jo_1 : jo_ (Tryz.pinned).checked.prog 3 Tryz.f3 Rows.exactNamesSpec Rows.exactNamesRow 1 = true := by kernel_rfl
theorem jo_2 : jo_ (Tryz.pinned).checked.prog 3 Tryz.f3 Rows.exactNamesSpec Rows.exactNamesRow 2 = true := by kernel_rfl
theorem jo_3 : jo_ (Tryz.pinned).checked.prog 3 Tryz.f3 Rows.exactNamesSpec Rows.exactNamesRow 3 = true := by kernel_rfl
theorem jo_4 : jo_ (Tryz.pinned).checked.prog 3 Tryz.f3 Rows.exactNamesSpec Rows.exactNamesRow 4 = true := by kernel_rfl
theorem jo_5 : jo_ (Tryz.pinned).checked.prog 3 Tryz.f3 Rows.exactNamesSpec Rows.exactNamesRow 5 = true := by kernel_rfl
theorem jo_6 : jo_ (Tryz.pinned).checked.prog 3 Tryz.f3 Rows.exactNamesSpec Rows.exactNamesRow 6 = true := by kernel_rfl
theorem jo_7 : jo_ (Tryz.pinned).checked.prog 3 Tryz.f3 Rows.exactNamesSpec Rows.exactNamesRow 7 = true := by kernel_rfl
theorem jo_8 : jo_ (Tryz.pinned).checked.prog 3 Tryz.f3 Rows.exactNamesSpec Rows.exactNamesRow 8 = true := by kernel_rfl
theorem jo_9 : jo_ (Tryz.pinned).checked.prog 3 Tryz.f3 Rows.exactNamesSpec Rows.exactNamesRow 9 = true := by kernel_rfl
theorem jo_10 : jo_ (Tryz.pinned).checked.prog 3 Tryz.f3 Rows.exactNamesSpec Rows.exactNamesRow 10 = true := by kernel_rfl
theorem jo_11 : jo_ (Tryz.pinned).checked.prog 3 Tryz.f3 Rows.exactNamesSpec Rows.exactNamesRow 11 = true := by kernel_rfl
theorem jo_12 : jo_ (Tryz.pinned).checked.prog 3 Tryz.f3 Rows.exactNamesSpec Rows.exactNamesRow 12 = true := by kernel_rfl
theorem jo_13 : jo_ (Tryz.pinned).checked.prog 3 Tryz.f3 Rows.exactNamesSpec Rows.exactNamesRow 13 = true := by kernel_rfl
theorem jo_14 : jo_ (Tryz.pinned).checked.prog 3 Tryz.f3 Rows.exactNamesSpec Rows.exactNamesRow 14 = true := by kernel_rfl
theorem jo_15 : jo_ (Tryz.pinned).checked.prog 3 Tryz.f3 Rows.exactNamesSpec Rows.exactNamesRow 15 = true := by kernel_rfl
theorem jo_16 : jo_ (Tryz.pinned).checked.prog 3 Tryz.f3 Rows.exactNamesSpec Rows.exactNamesRow 16 = true := by kernel_rfl
theorem jo_17 : jo_ (Tryz.pinned).checked.prog 3 Tryz.f3 Rows.exactNamesSpec Rows.exactNamesRow 17 = true := by kernel_rfl
theorem jo_18 : jo_ (Tryz.pinned).checked.prog 3 Tryz.f3 Rows.exactNamesSpec Rows.exactNamesRow 18 = true := by kernel_rfl
theorem jo_19 : jo_ (Tryz.pinned).checked.prog 3 Tryz.f3 Rows.exactNamesSpec Rows.exactNamesRow 19 = true := by kernel_rfl
theorem jo_20 : jo_ (Tryz.pinned).checked.prog 3 Tryz.f3 Rows.exactNamesSpec Rows.exactNamesRow 20 = true := by kernel_rfl
theorem jo_21 : jo_ (Tryz.pinned).checked.prog 3 Tryz.f3 Rows.exactNamesSpec Rows.exactNamesRow 21 = true := by kernel_rfl
theorem jo_22 : jo_ (Tryz.pinned).checked.prog 3 Tryz.f3 Rows.exactNamesSpec Rows.exactNamesRow 22 = true := by kernel_rfl
theorem jo_23 : jo_ (Tryz.pinned).checked.prog 3 Tryz.f3 Rows.exactNamesSpec Rows.exactNamesRow 23 = true := by kernel_rfl
theorem jo_24 : jo_ (Tryz.pinned).checked.prog 3 Tryz.f3 Rows.exactNamesSpec Rows.exactNamesRow 24 = true := by kernel_rfl
theorem jo_25 : jo_ (Tryz.pinned).checked.prog 3 Tryz.f3 Rows.exactNamesSpec Rows.exactNamesRow 25 = true := by kernel_rfl
theorem jo_26 : jo_ (Tryz.pinned).checked.prog 3 Tryz.f3 Rows.exactNamesSpec Rows.exactNamesRow 26 = true := by kernel_rfl
theorem jo_27 : jo_ (Tryz.pinned).checked.prog 3 Tryz.f3 Rows.exactNamesSpec Rows.exactNamesRow 27 = true := by kernel_rfl
theorem jo_28 : jo_ (Tryz.pinned).checked.prog 3 Tryz.f3 Rows.exactNamesSpec Rows.exactNamesRow 28 = true := by kernel_rfl
theorem jo_29 : jo_ (Tryz.pinned).checked.prog 3 Tryz.f3 Rows.exactNamesSpec Rows.exactNamesRow 29 = true := by kernel_rfl
theorem jo_30 : jo_ (Tryz.pinned).checked.prog 3 Tryz.f3 Rows.exactNamesSpec Rows.exactNamesRow 30 = true := by kernel_rfl
theorem jo_31 : jo_ (Tryz.pinned).checked.prog 3 Tryz.f3 Rows.exactNamesSpec Rows.exactNamesRow 31 = true := by kernel_rfl
end Go.Proofs.YtemlaompalbgiaaGreatDoor
