/- Texts of this claim, joined: B13 O1 O3. -/
import Derived.ProofKit
import Derived.OpenShut
import Derived.ChangeOld
import Derived.Below
import Derived.Lib.SmallJoins
import Derived.Deep.Slices
import Derived.Deep.Fields
import Derived.ChangeSame
import Derived.ChangeMaps5
import Derived.Test.YtifonmdcicegdaaGreatQx
namespace Go.Proofs.YtifonmdcicegdaaGreat
open Go Go.RowKit

theorem gtell_few {e : Int} {r i : Fr} (h : Few r) (k : Few i) : FewG (gtell e r i).1 := by
  unfold gtell
  split
  · exact ⟨few_zero, few_zero⟩
  · exact ⟨h, k⟩
theorem wadd_few (e : Int) (a b : Fr) : Few (wadd e a b).1 := (stp_good (fadd_good a b)).few
theorem wsub_few (e : Int) (a b : Fr) : Few (wsub e a b).1 := (stp_good (fsub_good a b)).few
theorem wmul_few (e : Int) (a b : Fr) : Few (wmul e a b).1 := (stp_good (fmul_good a b)).few
theorem wquo_few (e : Int) (a b : Fr) : Few (wquo e a b).1 := (stp_good (fquo_good a b)).few
theorem gadd_few (a b : Ga) : FewG (gadd a b).1 := gtell_few (wadd_few _ _ _) (wadd_few _ _ _)
theorem gsub_few (a b : Ga) : FewG (gsub a b).1 := gtell_few (wsub_few _ _ _) (wsub_few _ _ _)
theorem gmul_few (a b : Ga) : FewG (gmul a b).1 := gtell_few (wsub_few _ _ _) (wadd_few _ _ _)
theorem gquo_few (a b : Ga) : FewG (gquo a b).1 := gtell_few (wquo_few _ _ _) (wquo_few _ _ _)
theorem gscale_few (s : Fr) (a : Ga) : FewG (gscale s a).1 := gtell_few (wmul_few _ _ _) (wmul_few _ _ _)
theorem few_W {l : List Int} {m : Int} (h : smallW l m = true) (hm : m ≤ 1000 := by decide) : l.length ≤ 1000000 := by
  unfold smallW at h
  simp only [Bool.or_eq_true, decide_eq_true_eq] at h
  omega
theorem few_F {f : Fr} {m : Int} (h : smallF f m = true) (hm : m ≤ 1000 := by decide) : Few f := by
  unfold smallF at h
  rw [Bool.and_eq_true] at h
  exact ⟨few_W h.1 hm, few_W h.2 hm⟩
theorem few_heavy {a : Ga} (h : (!smallF a.re 60 || !smallF a.im 60) = false) : FewG a := by
  rw [Bool.or_eq_false_iff] at h
  exact ⟨few_F (by simpa using h.1), few_F (by simpa using h.2)⟩
/-- a list's complex fractions -/
def fewGs (l : List Ga) : Prop := ∀ a ∈ l, FewG a
theorem fewGs.nil : fewGs [] := fun a h => by cases h
theorem fewGs.cons {a : Ga} {l : List Ga} (h : FewG a) (k : fewGs l) : fewGs (a :: l) := fun b hb => by
  rcases List.mem_cons.1 hb with rfl | hb
  · exact h
  · exact k b hb
theorem fews_G {l : List (El tG)} (h : fewGs (l.map toGa)) : fews (l.flatMap fun x => [toFr x.1, toFr x.2.1]) := fun f hf => by
  obtain ⟨x, hx, hf⟩ := List.mem_flatMap.1 hf
  have := h (toGa x) (List.mem_map.2 ⟨x, hx, rfl⟩)
  simp only [List.mem_cons, List.not_mem_nil, or_false] at hf
  rcases hf with rfl | rfl
  · exact this.1
  · exact this.2
noncomputable def sp_lawGaussCalls : Spec := { q := .un, ps := [tG, tG, tR], rs := [.bo], fresh := true, pre := fun _ _ => none, post := fun _ _ => ((), (true, ())) }
noncomputable def iv_lawGaussCalls (y : El sp_lawGaussCalls.q) (x : Els sp_lawGaussCalls.ps) : Nat → Option Inv := fun _ => none
noncomputable abbrev c_lawGaussCalls : Cfg := cfgS (Tryz.f5).ntmps false [(38, sp_lheavy.prim), (58, sp_lSmall.prim), (39, sp_kLentG.prim), (13, sp_kLent.prim), (59, sp_gAdd.prim), (60, sp_hAdd.prim), (61, sp_gSub.prim), (62, sp_hSub.prim), (63, sp_gMul.prim), (64, sp_hMul.prim), (65, sp_gQuo.prim), (66, sp_hQuo.prim), (67, sp_gScale.prim), (68, sp_hScale.prim), (54, sp_lone.prim), (56, sp_kKeptG.prim), (36, sp_kKept.prim), (69, p_apartG)]
def F_lawGaussCalls (y : El sp_lawGaussCalls.q) (x : Els sp_lawGaussCalls.ps) : Prop :=
  ∀ (r : El Ty.un × Els [Ty.bo]), r = ((), !smallF (toFr x.fst.fst) (60 : Int) || !smallF (toFr x.fst.snd.fst) (60 : Int), ()) → (r.snd.fst = true → (true, ()) = (true, ())) ∧ (r.snd.fst = false → ∀ (r : El Ty.un × Els [Ty.bo]), r = ((), !smallF (toFr x.snd.fst.fst) (60 : Int) || !smallF (toFr x.snd.fst.snd.fst) (60 : Int), ()) → (r.snd.fst = true → (true, ()) = (true, ())) ∧ (r.snd.fst = false → ∀ (r : El Ty.un × Els [Ty.bo]), r = ((), smallW x.snd.snd.fst.snd.fst (60 : Int) && smallW x.snd.snd.fst.snd.snd.fst (60 : Int), ()) → ((!r.snd.fst) = true → (true, ()) = (true, ())) ∧ ((!r.snd.fst) = false → (((toFr x.fst.fst).num.length ≤ (1000000 : Nat) ∧ (toFr x.fst.fst).den.length ≤ (1000000 : Nat)) ∧ (toFr x.fst.snd.fst).num.length ≤ (1000000 : Nat) ∧ (toFr x.fst.snd.fst).den.length ≤ (1000000 : Nat)) ∧ ∀ (r : El Ty.un × Els [tGL]), r = ((), x.fst, ()) → (((toFr x.snd.fst.fst).num.length ≤ (1000000 : Nat) ∧ (toFr x.snd.fst.fst).den.length ≤ (1000000 : Nat)) ∧ (toFr x.snd.fst.snd.fst).num.length ≤ (1000000 : Nat) ∧ (toFr x.snd.fst.snd.fst).den.length ≤ (1000000 : Nat)) ∧ ∀ (r_1 : El Ty.un × Els [tGL]), r_1 = ((), x.snd.fst, ()) → ((toFr x.snd.snd.fst).num.length ≤ (1000000 : Nat) ∧ (toFr x.snd.snd.fst).den.length ≤ (1000000 : Nat)) ∧ ∀ (r_2 : El Ty.un × Els [tRL]), r_2 = ((), x.snd.snd) → ∀ (r_3 : El Ty.un × Els [tG, Ty.it IntKind.i64]), r_3 = pG (gadd (toGa r.snd.fst) (toGa r_1.snd.fst)) → ∀ (r_4 : El Ty.un × Els [tG, Ty.it IntKind.i64]), r_4 = pG (gadd (toGa r.snd.fst) (toGa r_1.snd.fst)) → ∀ (r_5 : El Ty.un × Els [tG, Ty.it IntKind.i64]), r_5 = pG (gadd (toGa x.fst) (toGa x.snd.fst)) → ∀ (r_6 : El Ty.un × Els [tG, Ty.it IntKind.i64]), r_6 = pG (gsub (toGa r.snd.fst) (toGa r_1.snd.fst)) → ∀ (r_7 : El Ty.un × Els [tG, Ty.it IntKind.i64]), r_7 = pG (gsub (toGa r.snd.fst) (toGa r_1.snd.fst)) → ∀ (r_8 : El Ty.un × Els [tG, Ty.it IntKind.i64]), r_8 = pG (gsub (toGa x.fst) (toGa x.snd.fst)) → ∀ (r_9 : El Ty.un × Els [tG, Ty.it IntKind.i64]), r_9 = pG (gmul (toGa r.snd.fst) (toGa r_1.snd.fst)) → ∀ (r_10 : El Ty.un × Els [tG, Ty.it IntKind.i64]), r_10 = pG (gmul (toGa r.snd.fst) (toGa r_1.snd.fst)) → ∀ (r_11 : El Ty.un × Els [tG, Ty.it IntKind.i64]), r_11 = pG (gmul (toGa x.fst) (toGa x.snd.fst)) → ∀ (r_12 : El Ty.un × Els [tG, Ty.it IntKind.i64]), r_12 = pG (gquo (toGa r.snd.fst) (toGa r_1.snd.fst)) → ∀ (r_13 : El Ty.un × Els [tG, Ty.it IntKind.i64]), r_13 = pG (gquo (toGa r.snd.fst) (toGa r_1.snd.fst)) → ∀ (r_14 : El Ty.un × Els [tG, Ty.it IntKind.i64]), r_14 = pG (gquo (toGa x.fst) (toGa x.snd.fst)) → ∀ (r_15 : El Ty.un × Els [tG, Ty.it IntKind.i64]), r_15 = pG (gscale (toFr r_2.snd.fst) (toGa r.snd.fst)) → ∀ (r_16 : El Ty.un × Els [tG, Ty.it IntKind.i64]), r_16 = pG (gscale (toFr r_2.snd.fst) (toGa r.snd.fst)) → ∀ (r_17 : El Ty.un × Els [tG, Ty.it IntKind.i64]), r_17 = pG (gscale (toFr x.snd.snd.fst) (toGa x.fst)) → ∀ (r_18 : El Ty.un × Els [Ty.bo]), r_18 = ((), decide (toGa r_3.snd.fst = toGa r_5.snd.fst) && decide (toGa r_4.snd.fst = toGa r_5.snd.fst) && decide (r_3.snd.snd.fst = r_5.snd.snd.fst) && decide (r_4.snd.snd.fst = r_5.snd.snd.fst), ()) → ((!r_18.snd.fst) = true → (false, ()) = (true, ())) ∧ ((!r_18.snd.fst) = false → ∀ (r_19 : El Ty.un × Els [Ty.bo]), r_19 = ((), decide (toGa r_6.snd.fst = toGa r_8.snd.fst) && decide (toGa r_7.snd.fst = toGa r_8.snd.fst) && decide (r_6.snd.snd.fst = r_8.snd.snd.fst) && decide (r_7.snd.snd.fst = r_8.snd.snd.fst), ()) → ((!r_19.snd.fst) = true → (false, ()) = (true, ())) ∧ ((!r_19.snd.fst) = false → ∀ (r_20 : El Ty.un × Els [Ty.bo]), r_20 = ((), decide (toGa r_9.snd.fst = toGa r_11.snd.fst) && decide (toGa r_10.snd.fst = toGa r_11.snd.fst) && decide (r_9.snd.snd.fst = r_11.snd.snd.fst) && decide (r_10.snd.snd.fst = r_11.snd.snd.fst), ()) → ((!r_20.snd.fst) = true → (false, ()) = (true, ())) ∧ ((!r_20.snd.fst) = false → ∀ (r_21 : El Ty.un × Els [Ty.bo]), r_21 = ((), decide (toGa r_12.snd.fst = toGa r_14.snd.fst) && decide (toGa r_13.snd.fst = toGa r_14.snd.fst) && decide (r_12.snd.snd.fst = r_14.snd.snd.fst) && decide (r_13.snd.snd.fst = r_14.snd.snd.fst), ()) → ((!r_21.snd.fst) = true → (false, ()) = (true, ())) ∧ ((!r_21.snd.fst) = false → ∀ (r_22 : El Ty.un × Els [Ty.bo]), r_22 = ((), decide (toGa r_15.snd.fst = toGa r_17.snd.fst) && decide (toGa r_16.snd.fst = toGa r_17.snd.fst) && decide (r_15.snd.snd.fst = r_17.snd.snd.fst) && decide (r_16.snd.snd.fst = r_17.snd.snd.fst), ()) → ((!r_22.snd.fst) = true → (false, ()) = (true, ())) ∧ ((!r_22.snd.fst) = false → (toGaL r.snd.fst = toGa x.fst ∧ ((toFr x.fst.fst).num.length ≤ (1000000 : Nat) ∧ (toFr x.fst.fst).den.length ≤ (1000000 : Nat)) ∧ (toFr x.fst.snd.fst).num.length ≤ (1000000 : Nat) ∧ (toFr x.fst.snd.fst).den.length ≤ (1000000 : Nat)) ∧ ∀ (r_23 : El Ty.un × Els [Ty.bo]), r_23 = ((), true, ()) → ((!r_23.snd.fst) = true → (false, ()) = (true, ())) ∧ ((!r_23.snd.fst) = false → (toGaL r_1.snd.fst = toGa x.snd.fst ∧ ((toFr x.snd.fst.fst).num.length ≤ (1000000 : Nat) ∧ (toFr x.snd.fst.fst).den.length ≤ (1000000 : Nat)) ∧ (toFr x.snd.fst.snd.fst).num.length ≤ (1000000 : Nat) ∧ (toFr x.snd.fst.snd.fst).den.length ≤ (1000000 : Nat)) ∧ ∀ (r_24 : El Ty.un × Els [Ty.bo]), r_24 = ((), true, ()) → ((!r_24.snd.fst) = true → (false, ()) = (true, ())) ∧ ((!r_24.snd.fst) = false → (toFrL r_2.snd.fst = toFr x.snd.snd.fst ∧ (toFr x.snd.snd.fst).num.length ≤ (1000000 : Nat) ∧ (toFr x.snd.snd.fst).den.length ≤ (1000000 : Nat)) ∧ ∀ (r_25 : El Ty.un × Els [Ty.bo]), r_25 = ((), true, ()) → ((!r_25.snd.fst) = true → (false, ()) = (true, ())) ∧ ((!r_25.snd.fst) = false → ((0 : Nat) < [r.snd.fst, r_1.snd.fst, r_3.snd.fst, r_4.snd.fst, r_6.snd.fst, r_7.snd.fst, r_9.snd.fst, r_10.snd.fst, r_12.snd.fst, r_13.snd.fst, r_15.snd.fst, r_16.snd.fst].length ∧ [r.snd.fst, r_1.snd.fst, r_3.snd.fst, r_4.snd.fst, r_6.snd.fst, r_7.snd.fst, r_9.snd.fst, r_10.snd.fst, r_12.snd.fst, r_13.snd.fst, r_15.snd.fst, r_16.snd.fst].length ≤ (5000 : Nat) ∧ ∀ (f : Fr), f ∈ List.flatMap (fun (x : El tG) => [toFr x.fst, toFr x.snd.fst]) [r.snd.fst, r_1.snd.fst, r_3.snd.fst, r_4.snd.fst, r_6.snd.fst, r_7.snd.fst, r_9.snd.fst, r_10.snd.fst, r_12.snd.fst, r_13.snd.fst, r_15.snd.fst, r_16.snd.fst] → f.num.length ≤ (1000000 : Nat) ∧ f.den.length ≤ (1000000 : Nat)) ∧ (true, ()) = (true, ()))))))))))))
set_option maxRecDepth 100000 in
theorem w_lawGaussCalls (y : El sp_lawGaussCalls.q) (x : Els sp_lawGaussCalls.ps) : aw c_lawGaussCalls (iv_lawGaussCalls y x) (codeOf Tryz.f5) 0 (retQ c_lawGaussCalls sp_lawGaussCalls (Tryz.f5).results.toList y x) (startT sp_lawGaussCalls x) (startO sp_lawGaussCalls y) 1 = F_lawGaussCalls y x := by kernel_rfl
theorem m_lawGaussCalls (y : El (.un)) (x : Els [tG, tG, tR]) (h2 : wfE (.un) y) (h3 : wfEs [tG, tG, tR] x) : F_lawGaussCalls y x := by
  unfold F_lawGaussCalls
  rintro _ rfl
  refine ⟨fun _ => rfl, fun h1 => ?_⟩
  rintro _ rfl
  refine ⟨fun _ => rfl, fun h2 => ?_⟩
  rintro _ rfl
  refine ⟨fun _ => rfl, fun h3' => ?_⟩
  have fa : FewG (toGa x.1) := few_heavy (a := toGa x.1) h1
  have fb : FewG (toGa x.2.1) := few_heavy (a := toGa x.2.1) h2
  have fr : Few (toFr x.2.2.1) := few_F (f := toFr x.2.2.1) (m := 60) (by simpa [smallF] using h3')
  refine ⟨fa, ?_⟩
  rintro _ rfl
  refine ⟨fb, ?_⟩
  rintro _ rfl
  refine ⟨fr, ?_⟩
  rintro _ rfl _ rfl _ rfl _ rfl _ rfl _ rfl _ rfl _ rfl _ rfl _ rfl _ rfl _ rfl _ rfl _ rfl _ rfl _ rfl
  rintro _ rfl
  refine ⟨fun h => absurd h (by simp), fun _ => ?_⟩
  rintro _ rfl
  refine ⟨fun h => absurd h (by simp), fun _ => ?_⟩
  rintro _ rfl
  refine ⟨fun h => absurd h (by simp), fun _ => ?_⟩
  rintro _ rfl
  refine ⟨fun h => absurd h (by simp), fun _ => ?_⟩
  rintro _ rfl
  refine ⟨fun h => absurd h (by simp), fun _ => ?_⟩
  refine ⟨⟨rfl, fa⟩, ?_⟩
  rintro _ rfl
  refine ⟨fun h => absurd h (by simp), fun _ => ?_⟩
  refine ⟨⟨rfl, fb⟩, ?_⟩
  rintro _ rfl
  refine ⟨fun h => absurd h (by simp), fun _ => ?_⟩
  refine ⟨⟨rfl, fr⟩, ?_⟩
  rintro _ rfl
  refine ⟨fun h => absurd h (by simp), fun _ => ?_⟩
  refine ⟨⟨Nat.succ_pos _, (by decide : 12 ≤ 5000), fews_G ?_⟩, rfl⟩
  exact .cons fa (.cons fb (.cons (gadd_few _ _) (.cons (gadd_few _ _) (.cons (gsub_few _ _) (.cons (gsub_few _ _) (.cons (gmul_few _ _) (.cons (gmul_few _ _) (.cons (gquo_few _ _) (.cons (gquo_few _ _) (.cons (gscale_few _ _) (.cons (gscale_few _ _) .nil)))))))))))
set_option maxRecDepth 100000 in
theorem fo_lawGaussCalls : FnOk Tryz.prog 5 sp_lawGaussCalls := fnOk_of (C := c_lawGaussCalls) iv_lawGaussCalls Tryz.func5 rfl (by kernel_rfl) tys_ok (prims_cons (spec_prim fo_lheavy) (prims_cons (spec_prim fo_lSmall) (prims_cons (spec_prim fo_kLentG) (prims_cons (spec_prim fo_kLent) (prims_cons (spec_prim fo_gAdd) (prims_cons (spec_prim fo_hAdd) (prims_cons (spec_prim fo_gSub) (prims_cons (spec_prim fo_hSub) (prims_cons (spec_prim fo_gMul) (prims_cons (spec_prim fo_hMul) (prims_cons (spec_prim fo_gQuo) (prims_cons (spec_prim fo_hQuo) (prims_cons (spec_prim fo_gScale) (prims_cons (spec_prim fo_hScale) (prims_cons (spec_prim fo_lone) (prims_cons (spec_prim fo_kKeptG) (prims_cons (spec_prim fo_kKept) (prims_cons pr_apartG prims_nil)))))))))))))))))) mixed_ (Nat.le_refl _) rfl fun y x h1 h2 h3 h4 =>
  Eq.mpr (w_lawGaussCalls y x) (m_lawGaussCalls y x h2 h3)
end Go.Proofs.YtifonmdcicegdaaGreat

namespace Go.Proofs.YtifonmdcicegdaaGreat
open Go.ChangeShapes Go.WideShapes Go.ChangeAt Go.RowKit Go.Joins Go.Deep
set_option linter.unusedVariables false

section
variable {H : Type} {enc : TypeId × Value → H} {P : Program} {w : World} {base : Nat} {spare : Nat → Bool} {held : Bool}
end

theorem mk_own : ownKnob Tryz.prog.godebug = none := by kernel_rfl
theorem mk_laidOut : laidOutB Tryz.prog = true := by kernel_rfl

end Go.Proofs.YtifonmdcicegdaaGreat

namespace Go.Proofs.YtifonmdcicegdaaGreat
open Go Go.RowKit Go.ChangeShapes Go.WideShapes Go.ChangeAt Go.Joins Go.Deep

/-- a form of what comes in -/
def Ty.inn : Ty → Bool
  | .bo => true
  | .it _ => true
  | .st => true
  | .sl t => t.inn && !Nat.beq t.size 0
  | .pr a b => a.inn && b.inn
  | .un => true
  | _ => false
abbrev Zw (W : World) : Nat → Prop := fun g => g < W.heap.size
theorem lit_wf {k : IntKind} {n : Int} (h : (Lit.int k n).wf = true) : k.min ≤ n ∧ n ≤ k.max := by simpa [Lit.wf] using h
theorem inn_struct {P : Program} {tb : Tbl} {t e : Nat} {a b : Ty} (h : TyOk P tb t (.pr a b) e) : ∃ fs, P.underlying t = some (.struct fs) ∧ fsB tb (.pr a b) 0 fs.toList = true := by
  obtain ⟨d, h1, h2⟩ := h.und
  unfold dscB at h2
  split at h2 <;> first
    | (cases h2; done)
    | (rename_i e2; cases e2; done)
    | skip
  all_goals
    rename_i e2
    cases e2
    exact ⟨_, h1, h2⟩
theorem inn_slice {P : Program} {tb : Tbl} {t e : Nat} {u : Ty} (h : TyOk P tb t (.sl u) e) : P.underlying t = some (.slice e) ∧ ∃ e', look tb e = some (u, e') := by
  obtain ⟨d, h1, h2⟩ := h.und
  unfold dscB at h2
  split at h2 <;> first
    | (cases h2; done)
    | (rename_i e2; cases e2; done)
    | skip
  all_goals
    rename_i e2
    cases e2
    simp only [Bool.and_eq_true] at h2
    rw [Nat.eq_of_beq_eq_true h2.1] at h1
    exact ⟨h1, isT_look h2.2⟩
theorem size_of_ {P : Program} {tb : Tbl} {t e : Nat} {y : Ty} (h : TyOk P tb t y e) : P.cellsOf t = y.size := by
  obtain ⟨i, z, h1, h2, _⟩ := h.info
  simp [Program.cellsOf, h1, h2]
/-- cells that come in say a value -/
theorem rt_in {H : Type} {enc : TypeId × Value → H} {P : Program} {W : World} {tb : Tbl} (hT : tyB P tb tb = true) : ∀ (y : Ty), y.inn = true →
    (∀ {t e fuel : Nat} {cs : List Value} {x : DataW H × List MemPlace}, look tb t = some (y, e) → DataW.trod enc P W 0 (fun _ => true) true fuel t cs = some x → ∃ v : El y, RT (Zw W) W y v cs) ∧
    (∀ {o : Nat} {fs : List Field} {cs : List Value}, fsB tb y o fs = true → (∀ (i : Nat) (f : Field), fs[i]? = some f → ∃ (n : Nat) (x : DataW H × List MemPlace), DataW.trod enc P W 0 (fun _ => true) true n f.type ((cs.drop f.offset).take (P.cellsOf f.type)) = some x) → cs.length = o + y.size → ∃ v : El y, RT (Zw W) W y v (cs.drop o))
  | .bo, _ => by
    refine ⟨fun {t e fuel cs x} hl h => ?_, fun {o fs cs} h _ _ => by simp [fsB] at h⟩
    obtain ⟨d, h1, h2⟩ := (tyB_sound hT hl).und
    have : d = .bool := by cases d <;> simp [dscB] at h2; rfl
    subst this
    obtain ⟨b, rfl, _⟩ := DataW.trod_bool h1 h
    exact ⟨b, by rw [RT]⟩
  | .it k, _ => by
    refine ⟨fun {t e fuel cs x} hl h => ?_, fun {o fs cs} h _ _ => by simp [fsB] at h⟩
    obtain ⟨d, h1, h2⟩ := (tyB_sound hT hl).und
    have : d = .int k := by cases d <;> simp [dscB] at h2; rw [h2]
    subst this
    obtain ⟨n, rfl, _, hw⟩ := DataW.trod_int h1 h
    exact ⟨n, by rw [RT]; exact ⟨rfl, lit_wf hw⟩⟩
  | .st, _ => by
    refine ⟨fun {t e fuel cs x} hl h => ?_, fun {o fs cs} h _ _ => by simp [fsB] at h⟩
    obtain ⟨d, h1, h2⟩ := (tyB_sound hT hl).und
    have : d = .string := by cases d <;> simp [dscB] at h2; rfl
    subst this
    obtain ⟨s, rfl, _, hs⟩ := DataW.trod_string h1 h
    exact ⟨s, by rw [RT]; exact ⟨rfl, by simp only [maxLen] at hs; omega⟩⟩
  | .un, _ => by
    refine ⟨fun {t e fuel cs x} hl h => ?_, fun {o fs cs} _ _ hl => ⟨(), by rw [RT]; exact List.drop_of_length_le (by rw [hl]; exact Nat.le_refl _)⟩⟩
    obtain ⟨d, h1, h2⟩ := (tyB_sound hT hl).und
    cases d with
    | struct fs =>
      obtain ⟨xs, n, _, _, hl', _⟩ := DataW.trod_struct h1 h
      rw [size_of_ (tyB_sound hT hl)] at hl'
      exact ⟨(), by rw [RT]; exact List.eq_nil_of_length_eq_zero hl'⟩
    | _ => simp [dscB] at h2
  | .sl u, hy => by
    refine ⟨fun {t e fuel cs x} hl h => ?_, fun {o fs cs} h _ _ => by simp [fsB] at h⟩
    simp only [Ty.inn, Bool.and_eq_true, Bool.not_eq_true'] at hy
    have hu : u.size ≠ 0 := fun e0 => by rw [e0] at hy; exact absurd hy.2 (by decide)
    obtain ⟨h1, e', h2⟩ := inn_slice (tyB_sound hT hl)
    have hs := size_of_ (tyB_sound hT h2)
    rcases open_slice h1 h with ⟨rfl, _⟩ | ⟨a, len, cap, m, n, D, Pl, rfl, _, hl2, hm, rfl, _, hi⟩
    · exact ⟨[], RT.sl_nil _ _ _⟩
    · have hi : ∀ i, i < m → ∃ cs', W.cells? 0 (a.add (i * P.cellsOf e)) (P.cellsOf e) = some cs' ∧ DataW.trod enc P W 0 (fun _ => true) true n e cs' = some (D i, Pl i) := fun i hic => hi i hic
      simp only [maxLen] at hm
      have each : ∀ j, j < len → ∃ v : El u, ∃ us, RT (Zw W) W u v us ∧ us.length = u.size ∧ ∀ (i : Nat) (z : Value), us[i]? = some z → W.cell? ((a.add (j * u.size)).add i) = some z := fun j hj => by
        obtain ⟨us, k1, k2⟩ := hi j (by omega)
        obtain ⟨_, k3, k4⟩ := World.cells?_some k1
        obtain ⟨v, hv⟩ := (rt_in hT u hy.1).1 h2 k2
        rw [hs] at k3 k4
        refine ⟨v, us, hv, k3, fun i z hz => ?_⟩
        rw [k4 i (by rw [← k3]; exact (List.getElem?_eq_some_iff.1 hz).1)]
        exact hz
      haveI : Inhabited (El u) := ⟨dfl u⟩
      obtain ⟨f, hf⟩ := choose_lt each
      have hlen : ((List.range len).map f).length = len := by simp
      refine ⟨(List.range len).map f, ?_⟩
      rw [RT]
      refine ⟨some a, m, by rw [hlen], by rw [hlen]; exact hl2, by omega, (fun e => by cases e), fun j hj => ?_⟩
      rw [hlen] at hj
      obtain ⟨us, k1, k2, k3⟩ := hf j hj
      have e1 : ((List.range len).map f)[j]'(by rw [hlen]; exact hj) = f j := by simp
      rw [e1]
      have hpos : 0 < us.length := by omega
      obtain ⟨us0, _, l2, l3⟩ := hf 0 (by omega)
      have d0 := l3 0 _ (List.getElem?_eq_getElem (show 0 < us0.length by omega))
      have c0 := k3 0 _ (List.getElem?_eq_getElem hpos)
      obtain ⟨g, o, s⟩ := a
      cases s with
      | some s =>
        exfalso
        have e3 : ((⟨g, o, some s⟩ : Addr).add (0 * u.size)).add 0 = ⟨g, o, some s⟩ := by rw [Nat.zero_mul]; rfl
        rw [e3] at d0
        unfold World.cell? at d0
        split at d0 <;> simp at d0
      | none =>
        have e2 : ∀ i, ((⟨g, o, none⟩ : Addr).add (j * u.size)).add i = ⟨g, o + (j * u.size + i), none⟩ := fun i => by rw [add_plain, add_plain, Nat.add_assoc]
        refine ⟨g, o, us, rfl, ?_, k1, fun i z hz => ?_⟩
        · rw [e2] at c0
          exact World.block_lt_of_cell? W _ c0
        · have := k3 i z hz
          rw [e2] at this
          exact this
  | .pr a b, hy => by
    simp only [Ty.inn, Bool.and_eq_true] at hy
    have key : ∀ {o : Nat} {fs : List Field} {cs : List Value}, fsB tb (.pr a b) o fs = true → (∀ (i : Nat) (f : Field), fs[i]? = some f → ∃ (n : Nat) (x : DataW H × List MemPlace), DataW.trod enc P W 0 (fun _ => true) true n f.type ((cs.drop f.offset).take (P.cellsOf f.type)) = some x) → cs.length = o + (Ty.pr a b).size → ∃ v : El (.pr a b), RT (Zw W) W (.pr a b) v (cs.drop o) := fun {o fs cs} h hf hl => by
      cases fs with
      | nil => simp [fsB] at h
      | cons f fs =>
        simp only [fsB, Bool.and_eq_true] at h
        obtain ⟨⟨h1, h2⟩, h3⟩ := h
        obtain ⟨e, h2⟩ := isT_look h2
        obtain ⟨n, x, h4⟩ := hf 0 f rfl
        obtain ⟨v, hv⟩ := (rt_in hT a hy.1).1 h2 h4
        have hl' : cs.length = o + a.size + b.size := by rw [hl]; show o + (a.size + b.size) = _; omega
        obtain ⟨v', hv'⟩ := (rt_in hT b hy.2).2 h3 (fun i f' h => hf (i + 1) f' (by simpa using h)) hl'
        rw [Nat.eq_of_beq_eq_true h1, size_of_ (tyB_sound hT h2)] at hv
        refine ⟨(v, v'), ?_⟩
        rw [RT]
        refine ⟨_, _, ?_, hv, hv'⟩
        rw [← List.drop_drop, List.take_append_drop]
    refine ⟨fun {t e fuel cs x} hl h => ?_, key⟩
    obtain ⟨fs, h1, h2⟩ := inn_struct (tyB_sound hT hl)
    obtain ⟨xs, n, _, _, h3, h4, h5⟩ := DataW.trod_struct h1 h
    rw [size_of_ (tyB_sound hT hl)] at h3
    have := key (cs := cs) h2 (fun i f hf => by
      have hi := (List.getElem?_eq_some_iff.1 hf).1
      have h6 := h5 i f (by simpa using hf)
      have h7 : i < xs.length := by rw [h4]; simpa using hi
      exact ⟨n, xs[i], h6.trans (List.getElem?_eq_getElem h7)⟩) (by omega)
    simpa using this
  | .pt _, h => by cases h
  | .fn, h => by cases h
  | .lt _, h => by cases h
  | .lf _, h => by cases h
  | .oq, h => by cases h
/-- an argument that comes in, by value -/
theorem rv_in {H : Type} {enc : TypeId × Value → H} {P : Program} {W : World} {tb : Tbl} (hT : tyB P tb tb = true) {b0 t e : Nat} (y : Ty) (hy : y.inn = true) (hl : look tb t = some (y, e)) {v : Value} {d : DataW H} {p : List MemPlace} (hv : Value.okWide P W .any b0 t v) (h : DataW.Trod enc P W 0 (fun _ => true) true t v d p) : ∃ x : El y, RV (Zw W) W y x v := by
  obtain ⟨fuel, h⟩ := h
  have hty := tyB_sound hT hl
  obtain ⟨x, hx⟩ := (rt_in hT y hy).1 hl h
  refine ⟨x, ?_⟩
  unfold RV
  have one : v.cells.toList = [v] → y.agg = false → (if y.agg = true then ∃ us, v = .agg us ∧ RT (Zw W) W y x us.toList else RT (Zw W) W y x [v]) := fun h1 h2 => by
    rw [if_neg (by simp [h2]), ← h1]; exact hx
  obtain ⟨dsc, u1, u2⟩ := hty.und
  cases y with
  | bo =>
    have : dsc = .bool := by cases dsc <;> simp [dscB] at u2; rfl
    subst this
    obtain ⟨b, rfl⟩ := okWide_bool u1 hv
    exact one rfl rfl
  | it k =>
    have : dsc = .int k := by cases dsc <;> simp [dscB] at u2; rw [u2]
    subst this
    obtain ⟨n, rfl⟩ := okWide_int u1 hv
    exact one rfl rfl
  | st =>
    have : dsc = .string := by cases dsc <;> simp [dscB] at u2; rfl
    subst this
    obtain ⟨n, rfl⟩ := okWide_string u1 hv
    exact one rfl rfl
  | sl u =>
    obtain ⟨h1, _⟩ := inn_slice hty
    obtain ⟨A, l, c, rfl⟩ := okWide_slice h1 hv
    exact one rfl rfl
  | un =>
    cases dsc with
    | struct fs =>
      obtain ⟨cs, rfl, _⟩ := okWide_struct u1 hv
      rw [if_pos (show Ty.un.agg = true from rfl)]
      exact ⟨cs, rfl, hx⟩
    | _ => simp [dscB] at u2
  | pr a b =>
    obtain ⟨fs, h1, _⟩ := inn_struct hty
    obtain ⟨cs, rfl, _⟩ := okWide_struct h1 hv
    rw [if_pos (show (Ty.pr a b).agg = true from rfl)]
    exact ⟨cs, rfl, hx⟩
  | pt _ => cases hy
  | fn => cases hy
  | lt _ => cases hy
  | lf _ => cases hy
  | oq => cases hy
/-- a law's call -/
theorem law_calls {P : Program} {f : Nat} {ps : List Ty} (h : FnOk P f { q := .un, ps := ps, rs := [.bo], fresh := true, pre := fun _ _ => none, post := fun _ _ => ((), (true, ())) }) {W : World} {x : Els ps} {vs : List Value} (hv : RVs (Zw W) W ps x vs) : Calls P f vs.toArray W fun e W' => e = .returned (.bool true) ∧ Below W.heap.size W W' := by
  refine (h.2 (Zw W) W 0 vs () x (fun g hg => hg) hv trivial (fun e => by cases e) (fun _ => rfl)).mono ?_
  rintro e w' ⟨v, us, bs, Z', rfl, t1, t2, _, _, _, _, _, t8, _⟩
  have t8 : W.grownBy w' none := t8
  refine ⟨?_, t8.os, t8.tape, t8.output, t8.size, fun k hk => t8.block k hk (by simp)⟩
  match us, t2 with
  | [u], ⟨b, b', _, h1, h2⟩ =>
    have h1 : RT _ w' .bo true [u] ∧ b = [] := h1
    rw [RT] at h1
    have e1 : u = .bool true := by simpa using h1.1
    rcases t1 with ⟨u', e2, rfl⟩ | ⟨h3, _⟩
    · cases e2; rw [e1]
    · simp at h3
end Go.Proofs.YtifonmdcicegdaaGreat

