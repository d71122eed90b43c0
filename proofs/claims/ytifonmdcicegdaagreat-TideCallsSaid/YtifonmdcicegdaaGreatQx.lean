/- Texts of this claim, joined: B16 B17 O1 O3. -/
import Derived.ProofKit
import Derived.OpenShut
import Derived.ChangeOld
import Derived.Below
import Derived.Lib.SmallJoins
import Derived.Deep.Slices
import Derived.Deep.Fields
import Derived.ChangeSame
import Derived.ChangeMaps5
import Derived.Test.YtifonmdcicegdaaGreatQw
set_option linter.unusedVariables false
set_option linter.unusedSimpArgs false
namespace Go.Proofs.YtifonmdcicegdaaGreat
open Go Go.RowKit

def numQ (a : El tTideQ) : List (El tGQ) := [a.2.2.1]
def tysQ : List (Nat × (Ty × Nat)) := [(24, (tRQ, 0)), (46, (tGQ, 0)), (57, (.sl tGQ, 46)), (26, (.sl tRQ, 24)), (22, (.oq, 0)), (4, (.bo, 0)), (3, (.it .i64, 0)),
 (21, (.it .i32, 0)),
 (65, (tRot, 0)),
 (67, (tTideQ, 0)),
 (78, (.sl tTideQ, 67)),
 (9, (.st, 0)),
  (2, (.it .i64, 0))]
theorem tysQ_ok : tyB Tryz.prog tysQ tysQ = true := by kernel_rfl
theorem take_fl {α β : Type} {f : α → List β} {l : List α} {i : Nat} (h : i < l.length) (d : α) : (l.take (i + 1)).flatMap f = (l.take i).flatMap f ++ f (l.getD i d) := by
  rw [List.take_add_one, List.getElem?_eq_getElem h, Option.toList_some, List.flatMap_append, List.getD_eq_getElem?_getD, List.getElem?_eq_getElem h]
  simp
theorem fl_len1 {α β : Type} {f : α → List β} {c : Nat} (hf : ∀ x, (f x).length = c) (l : List α) : (l.flatMap f).length = c * l.length := len_flat hf l
noncomputable def sp_movN : Spec := { q := .un, ps := [.sl tTideQ], rs := [.sl tGQ], fresh := true, pre := fun _ x => some (x.1.length ≤ 5000), post := fun _ x => ((), (x.1.flatMap numQ, ())) }
noncomputable def iv_movN (y : El sp_movN.q) (x : Els sp_movN.ps) : Nat → Option Inv := fun k => if k = 0 then some { X := Nat, tm := fun i => [(0, .c (.sl tTideQ x.1)), (3, .c (.ow 1)), (4, .c (.sc (.int .i64 i)))], ob := fun i => [(1, .ty 46 tGQ ((x.1.take i).flatMap numQ) 0)], n := 2, I := fun i => i ≤ x.1.length, μ := fun i => x.1.length - i } else none
noncomputable abbrev c_movN : Cfg := { cfgS (Tryz.f85).ntmps false [] with ty := tysQ }
def F_movN (y : El sp_movN.q) (x : Els sp_movN.ps) : Prop :=
  (∃ (x_1 : Nat), x.fst = x.fst ∧ (↑x_1 : Int) = (0 : Int) ∧ List.flatMap numQ (List.take x_1 x.fst) = [] ∧ x_1.le (List.length x.fst)) ∧ ∀ (x_1 : Nat), x_1.le (List.length x.fst) → (decide ((↑x_1 : Int) < (↑(List.length x.fst) : Int)) = true → ((0 : Int) ≤ (↑x_1 : Int) ∧ (↑x_1 : Int) < (↑(List.length x.fst) : Int)) ∧ (List.flatMap numQ (List.take x_1 x.fst)).length + [(List.getD x.fst (↑x_1 : Int).toNat (dfl tTideQ)).snd.snd.fst].length ≤ (1073741824 : Nat) ∧ ((-9223372036854775808 : Int) ≤ (↑x_1 : Int) + (1 : Int) ∧ (↑x_1 : Int) + (1 : Int) ≤ (9223372036854775807 : Int)) ∧ ∃ (x' : Nat), x.fst = x.fst ∧ (↑x' : Int) = (↑x_1 : Int) + (1 : Int) ∧ List.flatMap numQ (List.take x' x.fst) = List.flatMap numQ (List.take x_1 x.fst) ++ [(List.getD x.fst (↑x_1 : Int).toNat (dfl tTideQ)).snd.snd.fst] ∧ x'.le (List.length x.fst) ∧ List.length x.fst - x' < List.length x.fst - x_1) ∧ (decide ((↑x_1 : Int) < (↑(List.length x.fst) : Int)) = false → (List.flatMap numQ (List.take x_1 x.fst), ()) = (List.flatMap numQ x.fst, ()))
set_option maxRecDepth 100000 in
theorem w_movN (y : El sp_movN.q) (x : Els sp_movN.ps) : aw c_movN (iv_movN y x) (codeOf Tryz.f85) 0 (retQ c_movN sp_movN (Tryz.f85).results.toList y x) (startT sp_movN x) (startO sp_movN y) 1 = F_movN y x := by kernel_rfl
theorem m_movN (y : El (.un)) (x : Els [.sl tTideQ]) (h2 : wfE (.un) y) (h3 : wfEs [.sl tTideQ] x) (h4 : x.1.length ≤ 5000) : F_movN y x := by
  unfold F_movN
  have hL : x.1.length ≤ 5000 := h4
  refine ⟨⟨0, rfl, rfl, rfl, Nat.zero_le _⟩, fun i hi => ⟨fun h => ?_, fun h => ?_⟩⟩
  all_goals have hi : i ≤ x.1.length := hi
  · have h := ltT h
    have hi' : i < x.1.length := by omega
    have fl := fl_len1 (f := numQ) (c := 1) (fun _ => rfl) (x.1.take i)
    rw [List.length_take] at fl
    refine ⟨⟨by omega, h⟩, ?_, ⟨by omega, by omega⟩, i + 1, rfl, rfl, ?_, hi', by omega⟩
    · rw [fl]
      show _ + 1 ≤ _
      omega
    · rw [Int.toNat_natCast]
      exact take_fl hi' _
  · have h := ltF h
    rw [List.take_of_length_le (by omega)]
set_option maxRecDepth 100000 in
theorem fo_movN : FnOk Tryz.prog 85 sp_movN := fnOk_of (C := c_movN) iv_movN Tryz.func85 rfl (by kernel_rfl) tysQ_ok prims_nil mixed_ (Nat.le_refl _) rfl fun y x h1 h2 h3 h4 =>
  Eq.mpr (w_movN y x) (m_movN y x h2 h3 h4)
def numG (a : El tTide) : List (El tG) := [a.2.2.1]
theorem mov_num : Mov tTide tG numG numQ := fun w x vs b h => by
  obtain ⟨u1, u1', c1, c1', rfl, rfl, h1, h2⟩ := h
  obtain ⟨u2, u2', c2, c2', rfl, rfl, h3, h4⟩ := h2
  obtain ⟨u3, u3', c3, c3', rfl, rfl, h5, h6⟩ := h4
  obtain ⟨rfl, rfl⟩ := h6
  have l1 : u1.length = 1 := h1.szd rfl
  have l2 : u2.length = 2 := h3.szd rfl
  have l3 : u3.length = 6 := h5.szd rfl
  have e1 : c1 = [] := (h1.flat_to rfl).2
  have e2 : c2 = [] := (h3.flat_to rfl).2
  have e : (opqV tTide x (u1 ++ (u2 ++ (u3 ++ [])))).2.2.1 = opqV tG x.2.2.1 u3 := by
    show opqV tG x.2.2.1 ((((u1 ++ (u2 ++ (u3 ++ []))).drop 1).drop 2).take 6) = _
    rw [List.drop_left' l1, List.drop_left' l2, List.append_nil, List.take_of_length_le (by omega)]
  have v : vcs (opq tG) (opqV tG x.2.2.1 u3) = u3 := ((h5.opq (Z' := noZ) rfl).vcs rfl).symm
  refine ⟨[c3], ?_, by rw [e1, e2]; simp⟩
  show FQ w tG [x.2.2.1] (vcs (opq tG) (opqV tTide x (u1 ++ (u2 ++ (u3 ++ [])))).2.2.1 ++ []) [c3]
  rw [e, v, List.append_nil]
  refine ⟨by rw [l3]; rfl, rfl, fun j hj b hb => ?_⟩
  cases j with
  | zero =>
    cases hb
    rw [Nat.zero_mul, List.drop_zero, List.take_of_length_le (by rw [l3]; exact Nat.le_refl _)]
    exact h5
  | succ j => simp at hb
def p_movN : Prim := p_mov tTide tG numG
theorem pr_movN : PrimOk Tryz.prog 85 p_movN := mov_prim (t := tTide) (u := tG) (Gq := numQ) fo_movN mov_num rfl rfl rfl rfl rfl rfl (by decide) (by decide)
end Go.Proofs.YtifonmdcicegdaaGreat

namespace Go.Proofs.YtifonmdcicegdaaGreat
open Go Go.RowKit

theorem few_small2 {a : Ga} (h : (smallF a.re 60 && smallF a.im 60) = true) : FewG a := by
  rw [Bool.and_eq_true] at h
  exact ⟨few_F h.1, few_F h.2⟩
theorem sameT_refl (a : El tTide) : sameT a a = true := by
  unfold sameT
  simp
theorem few_tZ : FewG (toGa tZ.2.2.1) := ⟨few_zero, few_zero⟩
theorem tconj_few {a : El tTide} (wa : (toGa a.2.2.1).Wf) (h : FewG (toGa a.2.2.1)) : FewG (toGa (tconj a).1.2.2.1) := by
  unfold tconj
  split
  · exact few_tZ
  · exact gconj_few wa h
theorem tscale_few (r : El tR) (a : El tTide) : FewG (toGa (tscale r a).1.2.2.1) := by
  unfold tscale
  split
  · exact few_tZ
  · split
    · exact few_tZ
    · split
      · exact few_tZ
      · exact gscale_few _ _
noncomputable def sp_lawTideCalls : Spec := { q := .un, ps := [tTide, tTide, tR], rs := [.bo], fresh := true, pre := fun _ _ => none, post := fun _ _ => ((), (true, ())) }
noncomputable def iv_lawTideCalls (y : El sp_lawTideCalls.q) (x : Els sp_lawTideCalls.ps) : Nat → Option Inv := fun _ => none
noncomputable abbrev c_lawTideCalls : Cfg := cfgS (Tryz.f6).ntmps false [(70, sp_tSmall.prim), (58, sp_lSmall.prim), (71, sp_kLentTide.prim), (13, sp_kLent.prim), (72, sp_tName.prim), (73, sp_nName.prim), (74, sp_tCk.prim), (75, sp_nTCk.prim), (76, sp_tSame.prim), (77, sp_nTSame.prim), (78, sp_tCopy.prim), (79, sp_tConj.prim), (80, sp_nTConj.prim), (81, sp_tScale.prim), (82, sp_nTScale.prim), (83, sp_t1.prim), (84, sp_kKeptTide.prim), (36, sp_kKept.prim), (85, p_movN), (69, p_apartG)]
def F_lawTideCalls (y : El sp_lawTideCalls.q) (x : Els sp_lawTideCalls.ps) : Prop :=
  ∀ (r : El Ty.un × Els [Ty.bo]), r = ((), smallF (toFr x.fst.snd.snd.fst.fst) (60 : Int) && smallF (toFr x.fst.snd.snd.fst.snd.fst) (60 : Int), ()) → ((!r.snd.fst) = true → (true, ()) = (true, ())) ∧ ((!r.snd.fst) = false → ∀ (r : El Ty.un × Els [Ty.bo]), r = ((), smallF (toFr x.snd.fst.snd.snd.fst.fst) (60 : Int) && smallF (toFr x.snd.fst.snd.snd.fst.snd.fst) (60 : Int), ()) → ((!r.snd.fst) = true → (true, ()) = (true, ())) ∧ ((!r.snd.fst) = false → ∀ (r : El Ty.un × Els [Ty.bo]), r = ((), smallW x.snd.snd.fst.snd.fst (60 : Int) && smallW x.snd.snd.fst.snd.snd.fst (60 : Int), ()) → ((!r.snd.fst) = true → (true, ()) = (true, ())) ∧ ((!r.snd.fst) = false → (((toGa x.fst.snd.snd.fst).re.num.length ≤ (1000000 : Nat) ∧ (toGa x.fst.snd.snd.fst).re.den.length ≤ (1000000 : Nat)) ∧ (toGa x.fst.snd.snd.fst).im.num.length ≤ (1000000 : Nat) ∧ (toGa x.fst.snd.snd.fst).im.den.length ≤ (1000000 : Nat)) ∧ ∀ (r : El Ty.un × Els [tTideL]), r = ((), x.fst, ()) → (((toGa x.snd.fst.snd.snd.fst).re.num.length ≤ (1000000 : Nat) ∧ (toGa x.snd.fst.snd.snd.fst).re.den.length ≤ (1000000 : Nat)) ∧ (toGa x.snd.fst.snd.snd.fst).im.num.length ≤ (1000000 : Nat) ∧ (toGa x.snd.fst.snd.snd.fst).im.den.length ≤ (1000000 : Nat)) ∧ ∀ (r_1 : El Ty.un × Els [tTideL]), r_1 = ((), x.snd.fst, ()) → ((toFr x.snd.snd.fst).num.length ≤ (1000000 : Nat) ∧ (toFr x.snd.snd.fst).den.length ≤ (1000000 : Nat)) ∧ ∀ (r_2 : El Ty.un × Els [tRL]), r_2 = ((), x.snd.snd) → ∀ (r_3 : El Ty.un × Els [Ty.bo]), r_3 = ((), nameS x.fst.fst, ()) → ∀ (r_4 : El Ty.un × Els [Ty.bo]), r_4 = ((), nameS x.fst.fst, ()) → ((!r_3.snd.fst == r_4.snd.fst) = true → (false, ()) = (true, ())) ∧ ((!r_3.snd.fst == r_4.snd.fst) = false → ∀ (r_5 : El Ty.un × Els [Ty.it IntKind.i64]), r_5 = ((), tchk r.snd.fst, ()) → ∀ (r_6 : El Ty.un × Els [Ty.it IntKind.i64]), r_6 = ((), tchk x.fst, ()) → ((r_5.snd.fst != r_6.snd.fst) = true → (false, ()) = (true, ())) ∧ ((r_5.snd.fst != r_6.snd.fst) = false → ∀ (r_7 : El Ty.un × Els [Ty.bo]), r_7 = ((), sameT r.snd.fst r_1.snd.fst, ()) → ∀ (r_8 : El Ty.un × Els [Ty.bo]), r_8 = ((), sameT x.fst x.snd.fst, ()) → ((!r_7.snd.fst == r_8.snd.fst) = true → (false, ()) = (true, ())) ∧ ((!r_7.snd.fst == r_8.snd.fst) = false → ∀ (r_9 : El Ty.un × Els [Ty.bo]), r_9 = ((), sameT r.snd.fst r.snd.fst, ()) → ((!r_9.snd.fst) = true → (false, ()) = (true, ())) ∧ ((!r_9.snd.fst) = false → (((toGa r.snd.fst.snd.snd.fst).re.num.length ≤ (1000000 : Nat) ∧ (toGa r.snd.fst.snd.snd.fst).re.den.length ≤ (1000000 : Nat)) ∧ (toGa r.snd.fst.snd.snd.fst).im.num.length ≤ (1000000 : Nat) ∧ (toGa r.snd.fst.snd.snd.fst).im.den.length ≤ (1000000 : Nat)) ∧ ∀ (r_10 : El Ty.un × Els [tTide]), r_10 = ((), r.snd) → (((toGa r.snd.fst.snd.snd.fst).re.num.length ≤ (1000000 : Nat) ∧ (toGa r.snd.fst.snd.snd.fst).re.den.length ≤ (1000000 : Nat)) ∧ (toGa r.snd.fst.snd.snd.fst).im.num.length ≤ (1000000 : Nat) ∧ (toGa r.snd.fst.snd.snd.fst).im.den.length ≤ (1000000 : Nat)) ∧ ∀ (r_11 : El Ty.un × Els [tTide]), r_11 = ((), r.snd) → ∀ (r_12 : El Ty.un × Els [tTide, Ty.it IntKind.i64]), r_12 = ((), tconj r.snd.fst) → ∀ (r_13 : El Ty.un × Els [tTide, Ty.it IntKind.i64]), r_13 = ((), tconj r.snd.fst) → ∀ (r_14 : El Ty.un × Els [tTide, Ty.it IntKind.i64]), r_14 = ((), tconj x.fst) → ∀ (r_15 : El Ty.un × Els [tTide, Ty.it IntKind.i64]), r_15 = ((), tscale r_2.snd.fst r.snd.fst) → ∀ (r_16 : El Ty.un × Els [tTide, Ty.it IntKind.i64]), r_16 = ((), tscale r_2.snd.fst r.snd.fst) → ∀ (r_17 : El Ty.un × Els [tTide, Ty.it IntKind.i64]), r_17 = ((), tscale x.snd.snd.fst x.fst) → ∀ (r_18 : El Ty.un × Els [Ty.bo]), r_18 = ((), sameT r_10.snd.fst x.fst && sameT r_11.snd.fst x.fst && decide ((0 : Int) = (0 : Int)) && decide ((0 : Int) = (0 : Int)), ()) → ((!r_18.snd.fst) = true → (false, ()) = (true, ())) ∧ ((!r_18.snd.fst) = false → ∀ (r_19 : El Ty.un × Els [Ty.bo]), r_19 = ((), sameT r_12.snd.fst r_14.snd.fst && sameT r_13.snd.fst r_14.snd.fst && decide (r_12.snd.snd.fst = r_14.snd.snd.fst) && decide (r_13.snd.snd.fst = r_14.snd.snd.fst), ()) → ((!r_19.snd.fst) = true → (false, ()) = (true, ())) ∧ ((!r_19.snd.fst) = false → ∀ (r_20 : El Ty.un × Els [Ty.bo]), r_20 = ((), sameT r_15.snd.fst r_17.snd.fst && sameT r_16.snd.fst r_17.snd.fst && decide (r_15.snd.snd.fst = r_17.snd.snd.fst) && decide (r_16.snd.snd.fst = r_17.snd.snd.fst), ()) → ((!r_20.snd.fst) = true → (false, ()) = (true, ())) ∧ ((!r_20.snd.fst) = false → (r.snd.fst.fst = x.fst.fst ∧ r.snd.fst.snd.fst = x.fst.snd.fst ∧ toGaL r.snd.fst.snd.snd.fst = toGa x.fst.snd.snd.fst ∧ ((toGa x.fst.snd.snd.fst).re.num.length ≤ (1000000 : Nat) ∧ (toGa x.fst.snd.snd.fst).re.den.length ≤ (1000000 : Nat)) ∧ (toGa x.fst.snd.snd.fst).im.num.length ≤ (1000000 : Nat) ∧ (toGa x.fst.snd.snd.fst).im.den.length ≤ (1000000 : Nat)) ∧ ∀ (r_21 : El Ty.un × Els [Ty.bo]), r_21 = ((), true, ()) → (r_21.snd.fst = true → (r_1.snd.fst.fst = x.snd.fst.fst ∧ r_1.snd.fst.snd.fst = x.snd.fst.snd.fst ∧ toGaL r_1.snd.fst.snd.snd.fst = toGa x.snd.fst.snd.snd.fst ∧ ((toGa x.snd.fst.snd.snd.fst).re.num.length ≤ (1000000 : Nat) ∧ (toGa x.snd.fst.snd.snd.fst).re.den.length ≤ (1000000 : Nat)) ∧ (toGa x.snd.fst.snd.snd.fst).im.num.length ≤ (1000000 : Nat) ∧ (toGa x.snd.fst.snd.snd.fst).im.den.length ≤ (1000000 : Nat)) ∧ ∀ (r_22 : El Ty.un × Els [Ty.bo]), r_22 = ((), true, ()) → (r_22.snd.fst = true → (toFrL r_2.snd.fst = toFr x.snd.snd.fst ∧ (toFr x.snd.snd.fst).num.length ≤ (1000000 : Nat) ∧ (toFr x.snd.snd.fst).den.length ≤ (1000000 : Nat)) ∧ ∀ (r_23 : El Ty.un × Els [Ty.bo]), r_23 = ((), true, ()) → (r_23.snd.fst = true → [r.snd.fst, r_10.snd.fst, r_11.snd.fst, r_12.snd.fst, r_13.snd.fst, r_15.snd.fst, r_16.snd.fst].length ≤ (5000 : Nat) ∧ ((0 : Nat) < (List.flatMap numG [r.snd.fst, r_10.snd.fst, r_11.snd.fst, r_12.snd.fst, r_13.snd.fst, r_15.snd.fst, r_16.snd.fst]).length ∧ (List.flatMap numG [r.snd.fst, r_10.snd.fst, r_11.snd.fst, r_12.snd.fst, r_13.snd.fst, r_15.snd.fst, r_16.snd.fst]).length ≤ (5000 : Nat) ∧ ∀ (f : Fr), f ∈ List.flatMap (fun (x : El tG) => [toFr x.fst, toFr x.snd.fst]) (List.flatMap numG [r.snd.fst, r_10.snd.fst, r_11.snd.fst, r_12.snd.fst, r_13.snd.fst, r_15.snd.fst, r_16.snd.fst]) → f.num.length ≤ (1000000 : Nat) ∧ f.den.length ≤ (1000000 : Nat)) ∧ (true, ()) = (true, ())) ∧ (r_23.snd.fst = false → (false, ()) = (true, ()))) ∧ (r_22.snd.fst = false → (false, ()) = (true, ()))) ∧ (r_21.snd.fst = false → (false, ()) = (true, ()))))))))))))
set_option maxRecDepth 100000 in
theorem w_lawTideCalls (y : El sp_lawTideCalls.q) (x : Els sp_lawTideCalls.ps) : aw c_lawTideCalls (iv_lawTideCalls y x) (codeOf Tryz.f6) 0 (retQ c_lawTideCalls sp_lawTideCalls (Tryz.f6).results.toList y x) (startT sp_lawTideCalls x) (startO sp_lawTideCalls y) 1 = F_lawTideCalls y x := by kernel_rfl
theorem m_lawTideCalls (y : El (.un)) (x : Els [tTide, tTide, tR]) (h2 : wfE (.un) y) (h3 : wfEs [tTide, tTide, tR] x) : F_lawTideCalls y x := by
  unfold F_lawTideCalls
  rintro _ rfl
  refine ⟨fun _ => rfl, fun h1 => ?_⟩
  rintro _ rfl
  refine ⟨fun _ => rfl, fun h2 => ?_⟩
  rintro _ rfl
  refine ⟨fun _ => rfl, fun h3' => ?_⟩
  have wa : (toGa x.1.2.2.1).Wf := wf_ga h3.1.2.2.1
  have fa : FewG (toGa x.1.2.2.1) := few_small2 (a := toGa x.1.2.2.1) (nff h1)
  have fb : FewG (toGa x.2.1.2.2.1) := few_small2 (a := toGa x.2.1.2.2.1) (nff h2)
  have fr : Few (toFr x.2.2.1) := few_F (f := toFr x.2.2.1) (m := 60) (nff h3')
  refine ⟨fa, ?_⟩
  rintro _ rfl
  refine ⟨fb, ?_⟩
  rintro _ rfl
  refine ⟨fr, ?_⟩
  rintro _ rfl _ rfl _ rfl
  refine ⟨fun h => absurd h (by simp), fun _ => ?_⟩
  rintro _ rfl _ rfl
  refine ⟨fun h => absurd h (by simp), fun _ => ?_⟩
  rintro _ rfl _ rfl
  refine ⟨fun h => absurd h (by simp), fun _ => ?_⟩
  rintro _ rfl
  refine ⟨fun h => absurd h (by simp [sameT_refl]), fun _ => ?_⟩
  refine ⟨fa, ?_⟩
  rintro _ rfl
  refine ⟨fa, ?_⟩
  rintro _ rfl _ rfl _ rfl _ rfl _ rfl _ rfl _ rfl
  rintro _ rfl
  refine ⟨fun h => absurd h (by simp [sameT_refl]), fun _ => ?_⟩
  rintro _ rfl
  refine ⟨fun h => absurd h (by simp [sameT_refl]), fun _ => ?_⟩
  rintro _ rfl
  refine ⟨fun h => absurd h (by simp [sameT_refl]), fun _ => ?_⟩
  refine ⟨⟨rfl, rfl, rfl, fa⟩, ?_⟩
  rintro _ rfl
  refine ⟨fun _ => ?_, fun h => absurd h (by simp)⟩
  refine ⟨⟨rfl, rfl, rfl, fb⟩, ?_⟩
  rintro _ rfl
  refine ⟨fun _ => ?_, fun h => absurd h (by simp)⟩
  refine ⟨⟨rfl, fr⟩, ?_⟩
  rintro _ rfl
  refine ⟨fun _ => ?_, fun h => absurd h (by simp)⟩
  refine ⟨(by decide : 7 ≤ 5000), ⟨(by decide : 0 < 7), (by decide : 7 ≤ 5000), fews_G ?_⟩, rfl⟩
  exact .cons fa (.cons fa (.cons fa (.cons (tconj_few wa fa) (.cons (tconj_few wa fa) (.cons (tscale_few _ _) (.cons (tscale_few _ _) .nil))))))
set_option maxRecDepth 100000 in
theorem fo_lawTideCalls : FnOk Tryz.prog 6 sp_lawTideCalls := fnOk_of (C := c_lawTideCalls) iv_lawTideCalls Tryz.func6 rfl (by kernel_rfl) tys_ok (prims_cons (spec_prim fo_tSmall) (prims_cons (spec_prim fo_lSmall) (prims_cons (spec_prim fo_kLentTide) (prims_cons (spec_prim fo_kLent) (prims_cons (spec_prim fo_tName) (prims_cons (spec_prim fo_nName) (prims_cons (spec_prim fo_tCk) (prims_cons (spec_prim fo_nTCk) (prims_cons (spec_prim fo_tSame) (prims_cons (spec_prim fo_nTSame) (prims_cons (spec_prim fo_tCopy) (prims_cons (spec_prim fo_tConj) (prims_cons (spec_prim fo_nTConj) (prims_cons (spec_prim fo_tScale) (prims_cons (spec_prim fo_nTScale) (prims_cons (spec_prim fo_t1) (prims_cons (spec_prim fo_kKeptTide) (prims_cons (spec_prim fo_kKept) (prims_cons pr_movN (prims_cons pr_apartG prims_nil)))))))))))))))))))) mixed_ (Nat.le_refl _) rfl fun y x h1 h2 h3 h4 =>
  Eq.mpr (w_lawTideCalls y x) (m_lawTideCalls y x h2 h3)
end Go.Proofs.YtifonmdcicegdaaGreat

namespace Go.Proofs.YtifonmdcicegdaaGreat
open Go.ChangeShapes Go.WideShapes Go.ChangeAt Go.RowKit Go.Joins Go.Deep
set_option linter.unusedVariables false

section
variable {H : Type} {enc : TypeId × Value → H} {P : Program} {w : World} {base : Nat} {spare : Nat → Bool} {held : Bool}
end

theorem mk_own : ownKnob Tryz.prog.godebug = none := by kernel_rfl
theorem mk_laidOut : laidOutB Tryz.prog = true := by kernel_rfl

end Go.Proofs.YtifonmdcicegdaaGreat

namespace Go.Proofs.YtifonmdcicegdaaGreat
open Go Go.RowKit Go.ChangeShapes Go.WideShapes Go.ChangeAt Go.Joins Go.Deep

/-- a form of what comes in -/
def Ty.inn : Ty → Bool
  | .bo => true
  | .it _ => true
  | .st => true
  | .sl t => t.inn && !Nat.beq t.size 0
  | .pr a b => a.inn && b.inn
  | .un => true
  | _ => false
abbrev Zw (W : World) : Nat → Prop := fun g => g < W.heap.size
theorem lit_wf {k : IntKind} {n : Int} (h : (Lit.int k n).wf = true) : k.min ≤ n ∧ n ≤ k.max := by simpa [Lit.wf] using h
theorem inn_struct {P : Program} {tb : Tbl} {t e : Nat} {a b : Ty} (h : TyOk P tb t (.pr a b) e) : ∃ fs, P.underlying t = some (.struct fs) ∧ fsB tb (.pr a b) 0 fs.toList = true := by
  obtain ⟨d, h1, h2⟩ := h.und
  unfold dscB at h2
  split at h2 <;> first
    | (cases h2; done)
    | (rename_i e2; cases e2; done)
    | skip
  all_goals
    rename_i e2
    cases e2
    exact ⟨_, h1, h2⟩
theorem inn_slice {P : Program} {tb : Tbl} {t e : Nat} {u : Ty} (h : TyOk P tb t (.sl u) e) : P.underlying t = some (.slice e) ∧ ∃ e', look tb e = some (u, e') := by
  obtain ⟨d, h1, h2⟩ := h.und
  unfold dscB at h2
  split at h2 <;> first
    | (cases h2; done)
    | (rename_i e2; cases e2; done)
    | skip
  all_goals
    rename_i e2
    cases e2
    simp only [Bool.and_eq_true] at h2
    rw [Nat.eq_of_beq_eq_true h2.1] at h1
    exact ⟨h1, isT_look h2.2⟩
theorem size_of_ {P : Program} {tb : Tbl} {t e : Nat} {y : Ty} (h : TyOk P tb t y e) : P.cellsOf t = y.size := by
  obtain ⟨i, z, h1, h2, _⟩ := h.info
  simp [Program.cellsOf, h1, h2]
/-- cells that come in say a value -/
theorem rt_in {H : Type} {enc : TypeId × Value → H} {P : Program} {W : World} {tb : Tbl} (hT : tyB P tb tb = true) : ∀ (y : Ty), y.inn = true →
    (∀ {t e fuel : Nat} {cs : List Value} {x : DataW H × List MemPlace}, look tb t = some (y, e) → DataW.trod enc P W 0 (fun _ => true) true fuel t cs = some x → ∃ v : El y, RT (Zw W) W y v cs) ∧
    (∀ {o : Nat} {fs : List Field} {cs : List Value}, fsB tb y o fs = true → (∀ (i : Nat) (f : Field), fs[i]? = some f → ∃ (n : Nat) (x : DataW H × List MemPlace), DataW.trod enc P W 0 (fun _ => true) true n f.type ((cs.drop f.offset).take (P.cellsOf f.type)) = some x) → cs.length = o + y.size → ∃ v : El y, RT (Zw W) W y v (cs.drop o))
  | .bo, _ => by
    refine ⟨fun {t e fuel cs x} hl h => ?_, fun {o fs cs} h _ _ => by simp [fsB] at h⟩
    obtain ⟨d, h1, h2⟩ := (tyB_sound hT hl).und
    have : d = .bool := by cases d <;> simp [dscB] at h2; rfl
    subst this
    obtain ⟨b, rfl, _⟩ := DataW.trod_bool h1 h
    exact ⟨b, by rw [RT]⟩
  | .it k, _ => by
    refine ⟨fun {t e fuel cs x} hl h => ?_, fun {o fs cs} h _ _ => by simp [fsB] at h⟩
    obtain ⟨d, h1, h2⟩ := (tyB_sound hT hl).und
    have : d = .int k := by cases d <;> simp [dscB] at h2; rw [h2]
    subst this
    obtain ⟨n, rfl, _, hw⟩ := DataW.trod_int h1 h
    exact ⟨n, by rw [RT]; exact ⟨rfl, lit_wf hw⟩⟩
  | .st, _ => by
    refine ⟨fun {t e fuel cs x} hl h => ?_, fun {o fs cs} h _ _ => by simp [fsB] at h⟩
    obtain ⟨d, h1, h2⟩ := (tyB_sound hT hl).und
    have : d = .string := by cases d <;> simp [dscB] at h2; rfl
    subst this
    obtain ⟨s, rfl, _, hs⟩ := DataW.trod_string h1 h
    exact ⟨s, by rw [RT]; exact ⟨rfl, by simp only [maxLen] at hs; omega⟩⟩
  | .un, _ => by
    refine ⟨fun {t e fuel cs x} hl h => ?_, fun {o fs cs} _ _ hl => ⟨(), by rw [RT]; exact List.drop_of_length_le (by rw [hl]; exact Nat.le_refl _)⟩⟩
    obtain ⟨d, h1, h2⟩ := (tyB_sound hT hl).und
    cases d with
    | struct fs =>
      obtain ⟨xs, n, _, _, hl', _⟩ := DataW.trod_struct h1 h
      rw [size_of_ (tyB_sound hT hl)] at hl'
      exact ⟨(), by rw [RT]; exact List.eq_nil_of_length_eq_zero hl'⟩
    | _ => simp [dscB] at h2
  | .sl u, hy => by
    refine ⟨fun {t e fuel cs x} hl h => ?_, fun {o fs cs} h _ _ => by simp [fsB] at h⟩
    simp only [Ty.inn, Bool.and_eq_true, Bool.not_eq_true'] at hy
    have hu : u.size ≠ 0 := fun e0 => by rw [e0] at hy; exact absurd hy.2 (by decide)
    obtain ⟨h1, e', h2⟩ := inn_slice (tyB_sound hT hl)
    have hs := size_of_ (tyB_sound hT h2)
    rcases open_slice h1 h with ⟨rfl, _⟩ | ⟨a, len, cap, m, n, D, Pl, rfl, _, hl2, hm, rfl, _, hi⟩
    · exact ⟨[], RT.sl_nil _ _ _⟩
    · have hi : ∀ i, i < m → ∃ cs', W.cells? 0 (a.add (i * P.cellsOf e)) (P.cellsOf e) = some cs' ∧ DataW.trod enc P W 0 (fun _ => true) true n e cs' = some (D i, Pl i) := fun i hic => hi i hic
      simp only [maxLen] at hm
      have each : ∀ j, j < len → ∃ v : El u, ∃ us, RT (Zw W) W u v us ∧ us.length = u.size ∧ ∀ (i : Nat) (z : Value), us[i]? = some z → W.cell? ((a.add (j * u.size)).add i) = some z := fun j hj => by
        obtain ⟨us, k1, k2⟩ := hi j (by omega)
        obtain ⟨_, k3, k4⟩ := World.cells?_some k1
        obtain ⟨v, hv⟩ := (rt_in hT u hy.1).1 h2 k2
        rw [hs] at k3 k4
        refine ⟨v, us, hv, k3, fun i z hz => ?_⟩
        rw [k4 i (by rw [← k3]; exact (List.getElem?_eq_some_iff.1 hz).1)]
        exact hz
      haveI : Inhabited (El u) := ⟨dfl u⟩
      obtain ⟨f, hf⟩ := choose_lt each
      have hlen : ((List.range len).map f).length = len := by simp
      refine ⟨(List.range len).map f, ?_⟩
      rw [RT]
      refine ⟨some a, m, by rw [hlen], by rw [hlen]; exact hl2, by omega, (fun e => by cases e), fun j hj => ?_⟩
      rw [hlen] at hj
      obtain ⟨us, k1, k2, k3⟩ := hf j hj
      have e1 : ((List.range len).map f)[j]'(by rw [hlen]; exact hj) = f j := by simp
      rw [e1]
      have hpos : 0 < us.length := by omega
      obtain ⟨us0, _, l2, l3⟩ := hf 0 (by omega)
      have d0 := l3 0 _ (List.getElem?_eq_getElem (show 0 < us0.length by omega))
      have c0 := k3 0 _ (List.getElem?_eq_getElem hpos)
      obtain ⟨g, o, s⟩ := a
      cases s with
      | some s =>
        exfalso
        have e3 : ((⟨g, o, some s⟩ : Addr).add (0 * u.size)).add 0 = ⟨g, o, some s⟩ := by rw [Nat.zero_mul]; rfl
        rw [e3] at d0
        unfold World.cell? at d0
        split at d0 <;> simp at d0
      | none =>
        have e2 : ∀ i, ((⟨g, o, none⟩ : Addr).add (j * u.size)).add i = ⟨g, o + (j * u.size + i), none⟩ := fun i => by rw [add_plain, add_plain, Nat.add_assoc]
        refine ⟨g, o, us, rfl, ?_, k1, fun i z hz => ?_⟩
        · rw [e2] at c0
          exact World.block_lt_of_cell? W _ c0
        · have := k3 i z hz
          rw [e2] at this
          exact this
  | .pr a b, hy => by
    simp only [Ty.inn, Bool.and_eq_true] at hy
    have key : ∀ {o : Nat} {fs : List Field} {cs : List Value}, fsB tb (.pr a b) o fs = true → (∀ (i : Nat) (f : Field), fs[i]? = some f → ∃ (n : Nat) (x : DataW H × List MemPlace), DataW.trod enc P W 0 (fun _ => true) true n f.type ((cs.drop f.offset).take (P.cellsOf f.type)) = some x) → cs.length = o + (Ty.pr a b).size → ∃ v : El (.pr a b), RT (Zw W) W (.pr a b) v (cs.drop o) := fun {o fs cs} h hf hl => by
      cases fs with
      | nil => simp [fsB] at h
      | cons f fs =>
        simp only [fsB, Bool.and_eq_true] at h
        obtain ⟨⟨h1, h2⟩, h3⟩ := h
        obtain ⟨e, h2⟩ := isT_look h2
        obtain ⟨n, x, h4⟩ := hf 0 f rfl
        obtain ⟨v, hv⟩ := (rt_in hT a hy.1).1 h2 h4
        have hl' : cs.length = o + a.size + b.size := by rw [hl]; show o + (a.size + b.size) = _; omega
        obtain ⟨v', hv'⟩ := (rt_in hT b hy.2).2 h3 (fun i f' h => hf (i + 1) f' (by simpa using h)) hl'
        rw [Nat.eq_of_beq_eq_true h1, size_of_ (tyB_sound hT h2)] at hv
        refine ⟨(v, v'), ?_⟩
        rw [RT]
        refine ⟨_, _, ?_, hv, hv'⟩
        rw [← List.drop_drop, List.take_append_drop]
    refine ⟨fun {t e fuel cs x} hl h => ?_, key⟩
    obtain ⟨fs, h1, h2⟩ := inn_struct (tyB_sound hT hl)
    obtain ⟨xs, n, _, _, h3, h4, h5⟩ := DataW.trod_struct h1 h
    rw [size_of_ (tyB_sound hT hl)] at h3
    have := key (cs := cs) h2 (fun i f hf => by
      have hi := (List.getElem?_eq_some_iff.1 hf).1
      have h6 := h5 i f (by simpa using hf)
      have h7 : i < xs.length := by rw [h4]; simpa using hi
      exact ⟨n, xs[i], h6.trans (List.getElem?_eq_getElem h7)⟩) (by omega)
    simpa using this
  | .pt _, h => by cases h
  | .fn, h => by cases h
  | .lt _, h => by cases h
  | .lf _, h => by cases h
  | .oq, h => by cases h
/-- an argument that comes in, by value -/
theorem rv_in {H : Type} {enc : TypeId × Value → H} {P : Program} {W : World} {tb : Tbl} (hT : tyB P tb tb = true) {b0 t e : Nat} (y : Ty) (hy : y.inn = true) (hl : look tb t = some (y, e)) {v : Value} {d : DataW H} {p : List MemPlace} (hv : Value.okWide P W .any b0 t v) (h : DataW.Trod enc P W 0 (fun _ => true) true t v d p) : ∃ x : El y, RV (Zw W) W y x v := by
  obtain ⟨fuel, h⟩ := h
  have hty := tyB_sound hT hl
  obtain ⟨x, hx⟩ := (rt_in hT y hy).1 hl h
  refine ⟨x, ?_⟩
  unfold RV
  have one : v.cells.toList = [v] → y.agg = false → (if y.agg = true then ∃ us, v = .agg us ∧ RT (Zw W) W y x us.toList else RT (Zw W) W y x [v]) := fun h1 h2 => by
    rw [if_neg (by simp [h2]), ← h1]; exact hx
  obtain ⟨dsc, u1, u2⟩ := hty.und
  cases y with
  | bo =>
    have : dsc = .bool := by cases dsc <;> simp [dscB] at u2; rfl
    subst this
    obtain ⟨b, rfl⟩ := okWide_bool u1 hv
    exact one rfl rfl
  | it k =>
    have : dsc = .int k := by cases dsc <;> simp [dscB] at u2; rw [u2]
    subst this
    obtain ⟨n, rfl⟩ := okWide_int u1 hv
    exact one rfl rfl
  | st =>
    have : dsc = .string := by cases dsc <;> simp [dscB] at u2; rfl
    subst this
    obtain ⟨n, rfl⟩ := okWide_string u1 hv
    exact one rfl rfl
  | sl u =>
    obtain ⟨h1, _⟩ := inn_slice hty
    obtain ⟨A, l, c, rfl⟩ := okWide_slice h1 hv
    exact one rfl rfl
  | un =>
    cases dsc with
    | struct fs =>
      obtain ⟨cs, rfl, _⟩ := okWide_struct u1 hv
      rw [if_pos (show Ty.un.agg = true from rfl)]
      exact ⟨cs, rfl, hx⟩
    | _ => simp [dscB] at u2
  | pr a b =>
    obtain ⟨fs, h1, _⟩ := inn_struct hty
    obtain ⟨cs, rfl, _⟩ := okWide_struct h1 hv
    rw [if_pos (show (Ty.pr a b).agg = true from rfl)]
    exact ⟨cs, rfl, hx⟩
  | pt _ => cases hy
  | fn => cases hy
  | lt _ => cases hy
  | lf _ => cases hy
  | oq => cases hy
/-- a law's call -/
theorem law_calls {P : Program} {f : Nat} {ps : List Ty} (h : FnOk P f { q := .un, ps := ps, rs := [.bo], fresh := true, pre := fun _ _ => none, post := fun _ _ => ((), (true, ())) }) {W : World} {x : Els ps} {vs : List Value} (hv : RVs (Zw W) W ps x vs) : Calls P f vs.toArray W fun e W' => e = .returned (.bool true) ∧ Below W.heap.size W W' := by
  refine (h.2 (Zw W) W 0 vs () x (fun g hg => hg) hv trivial (fun e => by cases e) (fun _ => rfl)).mono ?_
  rintro e w' ⟨v, us, bs, Z', rfl, t1, t2, _, _, _, _, _, t8, _⟩
  have t8 : W.grownBy w' none := t8
  refine ⟨?_, t8.os, t8.tape, t8.output, t8.size, fun k hk => t8.block k hk (by simp)⟩
  match us, t2 with
  | [u], ⟨b, b', _, h1, h2⟩ =>
    have h1 : RT _ w' .bo true [u] ∧ b = [] := h1
    rw [RT] at h1
    have e1 : u = .bool true := by simpa using h1.1
    rcases t1 with ⟨u', e2, rfl⟩ | ⟨h3, _⟩
    · cases e2; rw [e1]
    · simp at h3
end Go.Proofs.YtifonmdcicegdaaGreat

