/- Texts of this claim, joined: B37 A28 B38 O1 O3. -/
import Derived.ProofKit
import Derived.OpenShut
import Derived.ChangeOld
import Derived.Below
import Derived.Lib.SmallJoins
import Derived.Deep.Slices
import Derived.Deep.Fields
import Derived.ChangeSame
import Derived.ChangeMaps5
import Derived.Test.YtakaehdolpmelaaGreatQbc
set_option linter.unusedVariables false
set_option linter.unusedSimpArgs false
set_option maxRecDepth 100000
namespace Go.Proofs.YtakaehdolpmelaaGreat
open Go Go.RowKit
def FewTs (l : List (El tTide)) : Prop := ∀ t ∈ l, FewG (toGa t.2.2.1)
theorem mkv_tide : mkv tTideL = List.replicate 3 ((⟨#[98, 101, 104, 105, 110, 100]⟩, (0, 0, ()), dfl tTide |>.2.2.1, ()) : El tTide) := by kernel_rfl
theorem getD_mem {α : Type} {l : List α} {i : Nat} (h : i < l.length) (d : α) : l.getD i d ∈ l := by
  rw [List.getD_eq_getElem?_getD, List.getElem?_eq_getElem h]
  exact List.getElem_mem h
theorem take_one {α : Type} {l : List α} {i : Nat} (h : i < l.length) (d : α) : l.take (i + 1) = l.take i ++ [l.getD i d] := by
  rw [List.take_add_one, List.getElem?_eq_getElem h, List.getD_eq_getElem?_getD, List.getElem?_eq_getElem h]
  rfl
noncomputable def sp_kLentTides : Spec := { q := .un, ps := [.sl tTide], rs := [.lf tTideL], fresh := true, pre := fun _ x => some (x.1.length ≤ 100 ∧ FewTs x.1), post := fun _ x => ((), (x.1, ())) }
noncomputable def iv_kLentTides (y : El sp_kLentTides.q) (x : Els sp_kLentTides.ps) : Nat → Option Inv := fun k => if k = 0 then some { X := Nat, tm := fun i => [(0, .c (.sl tTide x.1)), (3, .c (.ow 1)), (4, .c (.sc (.int .i64 i)))], ob := fun i => [(1, .dp 30 tTideL (x.1.take i) 0)], n := 2, I := fun i => i ≤ x.1.length, μ := fun i => x.1.length - i } else none
noncomputable abbrev c_kLentTides : Cfg := { cfgS (Tryz.f52).ntmps false [(8, sp_kLentTide.prim)] with dp := [(30, tTideL)], un := [(1, 4)] }
def F_kLentTides (y : El sp_kLentTides.q) (x : Els sp_kLentTides.ps) : Prop :=
  (∃ (x_1 : Nat), x.1 = x.1 ∧ (↑x_1 : Int) = (0 : Int) ∧ List.take x_1 x.1 = [] ∧ x_1.le (List.length x.1)) ∧ ∀ (x_1 : Nat), x_1.le (List.length x.1) → (decide ((↑x_1 : Int) < (x.1.length : Int)) = true → ((0 : Int) ≤ (↑x_1 : Int) ∧ (↑x_1 : Int) < (x.1.length : Int)) ∧ (((toGa (List.getD x.1 (↑x_1 : Int).toNat (dfl tTide)).2.2.1).re.num.length ≤ (35184372087808 : Nat) ∧ (toGa (List.getD x.1 (↑x_1 : Int).toNat (dfl tTide)).2.2.1).re.den.length ≤ (35184372087808 : Nat)) ∧ (toGa (List.getD x.1 (↑x_1 : Int).toNat (dfl tTide)).2.2.1).im.num.length ≤ (35184372087808 : Nat) ∧ (toGa (List.getD x.1 (↑x_1 : Int).toNat (dfl tTide)).2.2.1).im.den.length ≤ (35184372087808 : Nat)) ∧ ∀ (r : Ro [tTideL]), r = ((), List.getD x.1 (↑x_1 : Int).toNat (dfl tTide), ()) → (List.take x_1 x.1).length + [r.2.1].length ≤ (1073741824 : Nat) ∧ ((-9223372036854775808 : Int) ≤ (↑x_1 : Int) + (1 : Int) ∧ (↑x_1 : Int) + (1 : Int) ≤ (9223372036854775807 : Int)) ∧ ∃ (x' : Nat), x.1 = x.1 ∧ (↑x' : Int) = (↑x_1 : Int) + (1 : Int) ∧ List.take x' x.1 = List.take x_1 x.1 ++ [r.2.1] ∧ x'.le (List.length x.1) ∧ List.length x.1 - x' < List.length x.1 - x_1) ∧ (decide ((↑x_1 : Int) < (x.1.length : Int)) = false → (decide ((0 : Int) < (3 : Int)) = true → ((0 : Nat) < (3 : Nat) ∧ (0 : Nat) < (mkv tTideL).length ∧ (List.take x_1 x.1).length + (4 : Nat) ≤ (1073741824 : Nat) ∧ { data := #[(98 : UInt8), (101 : UInt8), (104 : UInt8), (105 : UInt8), (110 : UInt8), (100 : UInt8)] } = ((mkv tTideL).getD (0 : Nat) (dfl (unl tTideL))).1 ∧ (0 : Int) = ((mkv tTideL).getD (0 : Nat) (dfl (unl tTideL))).2.1.1 ∧ (0 : Int) = ((mkv tTideL).getD (0 : Nat) (dfl (unl tTideL))).2.1.2.1 ∧ false = ((mkv tTideL).getD (0 : Nat) (dfl (unl tTideL))).2.2.1.1.1 ∧ ((mkv tTideL).getD (0 : Nat) (dfl (unl tTideL))).2.2.1.1.2.1 = [] ∧ ((mkv tTideL).getD (0 : Nat) (dfl (unl tTideL))).2.2.1.1.2.2.1 = [] ∧ false = ((mkv tTideL).getD (0 : Nat) (dfl (unl tTideL))).2.2.1.2.1.1 ∧ ((mkv tTideL).getD (0 : Nat) (dfl (unl tTideL))).2.2.1.2.1.2.1 = [] ∧ ((mkv tTideL).getD (0 : Nat) (dfl (unl tTideL))).2.2.1.2.1.2.2.1 = []) ∧ ((-9223372036854775808 : Int) ≤ (0 : Int) + (1 : Int) ∧ (0 : Int) + (1 : Int) ≤ (9223372036854775807 : Int)) ∧ (decide ((0 : Int) + (1 : Int) < (3 : Int)) = true → (nat_lit 0 + (1 : Nat) < (3 : Nat) ∧ nat_lit 0 + (1 : Nat) < (mkv tTideL).length ∧ (List.take x_1 x.1).length + (4 : Nat) ≤ (1073741824 : Nat) ∧ { data := #[(98 : UInt8), (101 : UInt8), (104 : UInt8), (105 : UInt8), (110 : UInt8), (100 : UInt8)] } = ((mkv tTideL).getD (nat_lit 0 + (1 : Nat)) (dfl (unl tTideL))).1 ∧ (0 : Int) = ((mkv tTideL).getD (nat_lit 0 + (1 : Nat)) (dfl (unl tTideL))).2.1.1 ∧ (0 : Int) = ((mkv tTideL).getD (nat_lit 0 + (1 : Nat)) (dfl (unl tTideL))).2.1.2.1 ∧ false = ((mkv tTideL).getD (nat_lit 0 + (1 : Nat)) (dfl (unl tTideL))).2.2.1.1.1 ∧ ((mkv tTideL).getD (nat_lit 0 + (1 : Nat)) (dfl (unl tTideL))).2.2.1.1.2.1 = [] ∧ ((mkv tTideL).getD (nat_lit 0 + (1 : Nat)) (dfl (unl tTideL))).2.2.1.1.2.2.1 = [] ∧ false = ((mkv tTideL).getD (nat_lit 0 + (1 : Nat)) (dfl (unl tTideL))).2.2.1.2.1.1 ∧ ((mkv tTideL).getD (nat_lit 0 + (1 : Nat)) (dfl (unl tTideL))).2.2.1.2.1.2.1 = [] ∧ ((mkv tTideL).getD (nat_lit 0 + (1 : Nat)) (dfl (unl tTideL))).2.2.1.2.1.2.2.1 = []) ∧ ((-9223372036854775808 : Int) ≤ (0 : Int) + (1 : Int) + (1 : Int) ∧ (0 : Int) + (1 : Int) + (1 : Int) ≤ (9223372036854775807 : Int)) ∧ (decide ((0 : Int) + (1 : Int) + (1 : Int) < (3 : Int)) = true → (nat_lit 1 + (1 : Nat) < (3 : Nat) ∧ nat_lit 1 + (1 : Nat) < (mkv tTideL).length ∧ (List.take x_1 x.1).length + (4 : Nat) ≤ (1073741824 : Nat) ∧ { data := #[(98 : UInt8), (101 : UInt8), (104 : UInt8), (105 : UInt8), (110 : UInt8), (100 : UInt8)] } = ((mkv tTideL).getD (nat_lit 1 + (1 : Nat)) (dfl (unl tTideL))).1 ∧ (0 : Int) = ((mkv tTideL).getD (nat_lit 1 + (1 : Nat)) (dfl (unl tTideL))).2.1.1 ∧ (0 : Int) = ((mkv tTideL).getD (nat_lit 1 + (1 : Nat)) (dfl (unl tTideL))).2.1.2.1 ∧ false = ((mkv tTideL).getD (nat_lit 1 + (1 : Nat)) (dfl (unl tTideL))).2.2.1.1.1 ∧ ((mkv tTideL).getD (nat_lit 1 + (1 : Nat)) (dfl (unl tTideL))).2.2.1.1.2.1 = [] ∧ ((mkv tTideL).getD (nat_lit 1 + (1 : Nat)) (dfl (unl tTideL))).2.2.1.1.2.2.1 = [] ∧ false = ((mkv tTideL).getD (nat_lit 1 + (1 : Nat)) (dfl (unl tTideL))).2.2.1.2.1.1 ∧ ((mkv tTideL).getD (nat_lit 1 + (1 : Nat)) (dfl (unl tTideL))).2.2.1.2.1.2.1 = [] ∧ ((mkv tTideL).getD (nat_lit 1 + (1 : Nat)) (dfl (unl tTideL))).2.2.1.2.1.2.2.1 = []) ∧ ((-9223372036854775808 : Int) ≤ (0 : Int) + (1 : Int) + (1 : Int) + (1 : Int) ∧ (0 : Int) + (1 : Int) + (1 : Int) + (1 : Int) ≤ (9223372036854775807 : Int)) ∧ (decide ((0 : Int) + (1 : Int) + (1 : Int) + (1 : Int) < (3 : Int)) = true → (nat_lit 2 + (1 : Nat) < (3 : Nat) ∧ nat_lit 2 + (1 : Nat) < (mkv tTideL).length ∧ (List.take x_1 x.1).length + (4 : Nat) ≤ (1073741824 : Nat) ∧ { data := #[(98 : UInt8), (101 : UInt8), (104 : UInt8), (105 : UInt8), (110 : UInt8), (100 : UInt8)] } = ((mkv tTideL).getD (nat_lit 2 + (1 : Nat)) (dfl (unl tTideL))).1 ∧ (0 : Int) = ((mkv tTideL).getD (nat_lit 2 + (1 : Nat)) (dfl (unl tTideL))).2.1.1 ∧ (0 : Int) = ((mkv tTideL).getD (nat_lit 2 + (1 : Nat)) (dfl (unl tTideL))).2.1.2.1 ∧ false = ((mkv tTideL).getD (nat_lit 2 + (1 : Nat)) (dfl (unl tTideL))).2.2.1.1.1 ∧ ((mkv tTideL).getD (nat_lit 2 + (1 : Nat)) (dfl (unl tTideL))).2.2.1.1.2.1 = [] ∧ ((mkv tTideL).getD (nat_lit 2 + (1 : Nat)) (dfl (unl tTideL))).2.2.1.1.2.2.1 = [] ∧ false = ((mkv tTideL).getD (nat_lit 2 + (1 : Nat)) (dfl (unl tTideL))).2.2.1.2.1.1 ∧ ((mkv tTideL).getD (nat_lit 2 + (1 : Nat)) (dfl (unl tTideL))).2.2.1.2.1.2.1 = [] ∧ ((mkv tTideL).getD (nat_lit 2 + (1 : Nat)) (dfl (unl tTideL))).2.2.1.2.1.2.2.1 = []) ∧ ((-9223372036854775808 : Int) ≤ (0 : Int) + (1 : Int) + (1 : Int) + (1 : Int) + (1 : Int) ∧ (0 : Int) + (1 : Int) + (1 : Int) + (1 : Int) + (1 : Int) ≤ (9223372036854775807 : Int)) ∧ False) ∧ (decide ((0 : Int) + (1 : Int) + (1 : Int) + (1 : Int) < (3 : Int)) = false → (List.take x_1 x.1, ()) = x)) ∧ (decide ((0 : Int) + (1 : Int) + (1 : Int) < (3 : Int)) = false → False)) ∧ (decide ((0 : Int) + (1 : Int) < (3 : Int)) = false → False)) ∧ (decide ((0 : Int) < (3 : Int)) = false → False))
theorem w_kLentTides (y : El sp_kLentTides.q) (x : Els sp_kLentTides.ps) : aW c_kLentTides (iv_kLentTides y x) Tryz.f52 sp_kLentTides y x = F_kLentTides y x := by kernel_rfl
theorem m_kLentTides (y : El (.un)) (x : Els [.sl tTide]) (h2 : wfE (.un) y) (h3 : wfEs [.sl tTide] x) (h4 : x.1.length ≤ 100 ∧ FewTs x.1) : F_kLentTides y x := by
  unfold F_kLentTides
  obtain ⟨hl, hf⟩ := h4
  rw [mkv_tide]
  refine ⟨⟨0, rfl, rfl, rfl, Nat.zero_le _⟩, fun i hi => ⟨fun l => ?_, fun l => ?_⟩⟩
  · have hi : i ≤ x.1.length := hi
    have l := ltT l
    have il : i < x.1.length := by omega
    refine ⟨⟨by omega, l⟩, hf _ (getD_mem il _), ?_⟩
    rintro _ rfl
    refine ⟨?_, by omega, i + 1, rfl, rfl, take_one il _, il, by omega⟩
    rw [List.length_take]
    show _ + 1 ≤ _
    omega
  · have hi : i ≤ x.1.length := hi
    have l := ltF l
    have tl : x.1.take i = x.1 := List.take_of_length_le (by omega)
    rw [tl]
    refine ⟨fun _ => ⟨?_, by decide, fun _ => ⟨?_, by decide, fun _ => ⟨?_, by decide, fun c => absurd c (by decide), fun _ => rfl⟩, fun c => absurd c (by decide)⟩, fun c => absurd c (by decide)⟩, fun c => absurd c (by decide)⟩
    all_goals
      and_intros
      all_goals first | rfl | decide | omega
theorem fo_kLentTides : FnOk Tryz.prog 52 sp_kLentTides := fnOk_of (C := c_kLentTides) iv_kLentTides Tryz.func52 rfl (by kernel_rfl) tys_ok (prims_cons (spec_prim fo_kLentTide) prims_nil) mixed_ (Nat.le_refl _) rfl fun y x h1 h2 h3 h4 =>
  Eq.mpr (w_kLentTides y x) (m_kLentTides y x h2 h3 h4)
noncomputable def sp_kKeptTides : Spec := { q := .un, ps := [.lf tTideL, .sl tTide], rs := [.bo], fresh := true, pre := fun _ x => some (x.1 = x.2.1 ∧ x.2.1.length ≤ 100 ∧ FewTs x.2.1), post := fun _ _ => ((), (true, ())) }
noncomputable def iv_kKeptTides (y : El sp_kKeptTides.q) (x : Els sp_kKeptTides.ps) : Nat → Option Inv := fun k => if k = 0 then some { X := Nat, tm := fun i => [(0, .c (.lf tTideL x.1)), (1, .c (.sl tTide x.2.1)), (5, .c (.sc (.int .i64 i)))], ob := fun i => [], n := 1, I := fun i => i ≤ x.2.1.length, μ := fun i => x.2.1.length - i } else if k = 1 then some { X := Nat, tm := fun i => [(0, .c (.lf tTideL x.1)), (1, .c (.sl tTide x.2.1)), (6, .c (.sc (.int .i64 (x.2.1.length + i))))], ob := fun i => [], n := 1, I := fun i => i ≤ 3, μ := fun i => 3 - i } else none
noncomputable abbrev c_kKeptTides : Cfg := { cfgS (Tryz.f69).ntmps false [(18, sp_kKeptTide.prim), (116, sp_kSameTide.prim)] with mj := [39] }
def F_kKeptTides (y : El sp_kKeptTides.q) (x : Els sp_kKeptTides.ps) : Prop :=
  ((-9223372036854775808 : Int) ≤ (x.2.1.length : Int) + (3 : Int) ∧ (x.2.1.length : Int) + (3 : Int) ≤ (9223372036854775807 : Int)) ∧ (((x.1.length : Int) + (↑(mkv tTideL).length : Int) != (x.2.1.length : Int) + (3 : Int)) = true → (false, ()) = (true, ())) ∧ (((x.1.length : Int) + (↑(mkv tTideL).length : Int) != (x.2.1.length : Int) + (3 : Int)) = false → (∃ (x_1 : Nat), x.1 = x.1 ∧ x.2.1 = x.2.1 ∧ (↑x_1 : Int) = (0 : Int) ∧ x_1.le (List.length x.2.1)) ∧ ∀ (x_1 : Nat), x_1.le (List.length x.2.1) → (decide ((↑x_1 : Int) < (x.2.1.length : Int)) = true → ((0 : Int) ≤ (↑x_1 : Int) ∧ (↑x_1 : Int) < (x.1.length : Int)) ∧ ((0 : Int) ≤ (↑x_1 : Int) ∧ (↑x_1 : Int) < (x.2.1.length : Int)) ∧ ((List.getD x.1 (↑x_1 : Int).toNat (dfl tTideL)).1 = (List.getD x.2.1 (↑x_1 : Int).toNat (dfl tTide)).1 ∧ (List.getD x.1 (↑x_1 : Int).toNat (dfl tTideL)).2.1 = (List.getD x.2.1 (↑x_1 : Int).toNat (dfl tTide)).2.1 ∧ toGaL (List.getD x.1 (↑x_1 : Int).toNat (dfl tTideL)).2.2.1 = toGa (List.getD x.2.1 (↑x_1 : Int).toNat (dfl tTide)).2.2.1 ∧ ((toGa (List.getD x.2.1 (↑x_1 : Int).toNat (dfl tTide)).2.2.1).re.num.length ≤ (35184372087808 : Nat) ∧ (toGa (List.getD x.2.1 (↑x_1 : Int).toNat (dfl tTide)).2.2.1).re.den.length ≤ (35184372087808 : Nat)) ∧ (toGa (List.getD x.2.1 (↑x_1 : Int).toNat (dfl tTide)).2.2.1).im.num.length ≤ (35184372087808 : Nat) ∧ (toGa (List.getD x.2.1 (↑x_1 : Int).toNat (dfl tTide)).2.2.1).im.den.length ≤ (35184372087808 : Nat)) ∧ ∀ (r : Ro [Ty.bo]), r = ((), true, ()) → ((!r.2.1) = true → (false, ()) = (true, ())) ∧ ((!r.2.1) = false → ((-9223372036854775808 : Int) ≤ (↑x_1 : Int) + (1 : Int) ∧ (↑x_1 : Int) + (1 : Int) ≤ (9223372036854775807 : Int)) ∧ ∃ (x' : Nat), x.1 = x.1 ∧ x.2.1 = x.2.1 ∧ (↑x' : Int) = (↑x_1 : Int) + (1 : Int) ∧ x'.le (List.length x.2.1) ∧ List.length x.2.1 - x' < List.length x.2.1 - x_1)) ∧ (decide ((↑x_1 : Int) < (x.2.1.length : Int)) = false → (∃ (x_2 : Nat), x.1 = x.1 ∧ x.2.1 = x.2.1 ∧ (x.2.1.length : Int) + (↑x_2 : Int) = (x.2.1.length : Int) ∧ x_2.le (3 : Nat)) ∧ ∀ (x_2 : Nat), x_2.le (3 : Nat) → (decide ((x.2.1.length : Int) + (↑x_2 : Int) < (x.1.length : Int) + (↑(mkv tTideL).length : Int)) = true → ((x.1.length : Int) ≤ (x.2.1.length : Int) + (↑x_2 : Int) ∧ (x.2.1.length : Int) + (↑x_2 : Int) < (x.1.length : Int) + (↑(mkv tTideL).length : Int)) ∧ ∀ (r : Ro [Ty.bo]), r = ((), sameT ((mkv tTideL).headD (dfl (unl tTideL))) ({ data := #[(98 : UInt8), (101 : UInt8), (104 : UInt8), (105 : UInt8), (110 : UInt8), (100 : UInt8)] }, ((0 : Int), (0 : Int), ()), ((false, [], [], ()), (false, [], [], ()), ()), ()), ()) → ((!r.2.1) = true → (false, ()) = (true, ())) ∧ ((!r.2.1) = false → ((-9223372036854775808 : Int) ≤ (x.2.1.length : Int) + (↑x_2 : Int) + (1 : Int) ∧ (x.2.1.length : Int) + (↑x_2 : Int) + (1 : Int) ≤ (9223372036854775807 : Int)) ∧ ∃ (x' : Nat), x.1 = x.1 ∧ x.2.1 = x.2.1 ∧ (x.2.1.length : Int) + (↑x' : Int) = (x.2.1.length : Int) + (↑x_2 : Int) + (1 : Int) ∧ x'.le (3 : Nat) ∧ (3 : Nat) - x' < (3 : Nat) - x_2)) ∧ (decide ((x.2.1.length : Int) + (↑x_2 : Int) < (x.1.length : Int) + (↑(mkv tTideL).length : Int)) = false → (true, ()) = (true, ()))))
theorem w_kKeptTides (y : El sp_kKeptTides.q) (x : Els sp_kKeptTides.ps) : aW c_kKeptTides (iv_kKeptTides y x) Tryz.f69 sp_kKeptTides y x = F_kKeptTides y x := by kernel_rfl
theorem m_kKeptTides (y : El (.un)) (x : Els [.lf tTideL, .sl tTide]) (h2 : wfE (.un) y) (h3 : wfEs [.lf tTideL, .sl tTide] x) (h4 : x.1 = x.2.1 ∧ x.2.1.length ≤ 100 ∧ FewTs x.2.1) : F_kKeptTides y x := by
  unfold F_kKeptTides
  obtain ⟨he, hl, hf⟩ := h4
  have he : (x.1 : List (El tTide)) = x.2.1 := he
  have hlen : (x.1 : List (El tTide)).length = x.2.1.length := by rw [he]
  have hlen : List.length x.1 = List.length x.2.1 := hlen
  have m3 : (mkv tTideL).length = 3 := by rw [mkv_tide]; rfl
  refine ⟨by omega, fun c => absurd (neT c) (by simp only [m3, hlen]; omega), fun _ => ⟨⟨0, rfl, rfl, rfl, Nat.zero_le _⟩, fun i hi => ⟨fun l => ?_, fun l => ⟨⟨0, rfl, rfl, Int.add_zero _, Nat.zero_le _⟩, fun j hj => ⟨fun m => ?_, fun m => rfl⟩⟩⟩⟩⟩
  · have hi : i ≤ x.2.1.length := hi
    have l := ltT l
    have il : i < x.2.1.length := by omega
    have eg : (List.getD x.1 (i : Int).toNat (dfl tTideL) : El tTide) = List.getD x.2.1 (i : Int).toNat (dfl tTide) := by
      show List.getD (x.1 : List (El tTide)) (i : Int).toNat (dfl tTide) = _
      rw [he]
    refine ⟨⟨by omega, by rw [hlen]; exact l⟩, ⟨by omega, l⟩, ⟨congrArg (fun t : El tTide => t.1) eg, congrArg (fun t : El tTide => t.2.1) eg, congrArg (fun t : El tTide => toGa t.2.2.1) eg, hf _ (getD_mem il _)⟩, ?_⟩
    rintro _ rfl
    refine ⟨fun c => absurd c (by decide), fun _ => ⟨by omega, i + 1, rfl, rfl, rfl, il, by omega⟩⟩
  · have hj : j ≤ 3 := hj
    have m := ltT m
    rw [m3, hlen] at m
    refine ⟨⟨by rw [hlen]; omega, by rw [m3, hlen]; omega⟩, ?_⟩
    have e : sameT ((mkv tTideL).headD (dfl (unl tTideL))) ((⟨#[98, 101, 104, 105, 110, 100]⟩, ((0 : Int), (0 : Int), ()), ((false, [], [], ()), (false, [], [], ()), ()), ()) : El tTide) = true := by
      rw [mkv_tide]
      exact sameT_refl _
    intro r hr
    obtain rfl : r = ((), true, ()) := hr.trans (congrArg (fun b => ((), b, ())) e)
    refine ⟨fun c => absurd c (by decide), fun _ => ⟨by omega, j + 1, rfl, rfl, ?_, ?_, by omega⟩⟩
    · omega
    · show j + 1 ≤ 3
      omega
theorem fo_kKeptTides : FnOk Tryz.prog 69 sp_kKeptTides := fnOk_of (C := c_kKeptTides) iv_kKeptTides Tryz.func69 rfl (by kernel_rfl) tys_ok (prims_cons (spec_prim fo_kKeptTide) (prims_cons (spec_prim fo_kSameTide) prims_nil)) mixed_ (Nat.le_refl _) rfl fun y x h1 h2 h3 h4 =>
  Eq.mpr (w_kKeptTides y x) (m_kKeptTides y x h2 h3 h4)
noncomputable def sp_kLentPort : Spec := { q := .un, ps := [tPort], rs := [tPortL], fresh := true, pre := fun _ x => some (Few (toFr x.1.2.1) ∧ x.1.2.2.1.length ≤ 100 ∧ FewTs x.1.2.2.1), post := fun _ x => ((), (x.1, ())) }
noncomputable def iv_kLentPort (y : El sp_kLentPort.q) (x : Els sp_kLentPort.ps) : Nat → Option Inv := fun _ => none
noncomputable abbrev c_kLentPort : Cfg := { cfgS (Tryz.f9).ntmps false [(51, sp_kLent.prim), (52, sp_kLentTides.prim)] with dp := [(30, tTideL)], ho := true }
def F_kLentPort (y : El sp_kLentPort.q) (x : Els sp_kLentPort.ps) : Prop :=
  ((toFr x.1.2.1).num.length ≤ (35184372087808 : Nat) ∧ (toFr x.1.2.1).den.length ≤ (35184372087808 : Nat)) ∧ ∀ (r : Ro [tRL]), r = ((), x.1.2.1, ()) → (List.length x.1.2.2.1 ≤ (100 : Nat) ∧ ∀ (t : El tTide), t ∈ x.1.2.2.1 → ((toGa t.2.2.1).re.num.length ≤ (35184372087808 : Nat) ∧ (toGa t.2.2.1).re.den.length ≤ (35184372087808 : Nat)) ∧ (toGa t.2.2.1).im.num.length ≤ (35184372087808 : Nat) ∧ (toGa t.2.2.1).im.den.length ≤ (35184372087808 : Nat)) ∧ ∀ (r_1 : Ro [tTideL.lf]), r_1 = ((), x.1.2.2) → ((0 : Int) = (0 : Int) ∧ (x.1.2.2.1.length : Int) = (r_1.2.1.length : Int)) ∧ ((x.1.1, r.2.1, r_1.2), ()) = x
theorem w_kLentPort (y : El sp_kLentPort.q) (x : Els sp_kLentPort.ps) : aW c_kLentPort (iv_kLentPort y x) Tryz.f9 sp_kLentPort y x = F_kLentPort y x := by kernel_rfl
theorem m_kLentPort (y : El (.un)) (x : Els [tPort]) (h2 : wfE (.un) y) (h3 : wfEs [tPort] x) (h4 : Few (toFr x.1.2.1) ∧ x.1.2.2.1.length ≤ 100 ∧ FewTs x.1.2.2.1) : F_kLentPort y x := by
  unfold F_kLentPort
  obtain ⟨h5, h6, h7⟩ := h4
  refine ⟨h5, ?_⟩
  rintro _ rfl
  refine ⟨⟨h6, h7⟩, ?_⟩
  rintro _ rfl
  exact ⟨⟨rfl, rfl⟩, rfl⟩
theorem fo_kLentPort : FnOk Tryz.prog 9 sp_kLentPort := fnOk_of (C := c_kLentPort) iv_kLentPort Tryz.func9 rfl (by kernel_rfl) tys_ok (prims_cons (spec_prim fo_kLent) (prims_cons (spec_prim fo_kLentTides) prims_nil)) mixed_ (Nat.le_refl _) rfl fun y x h1 h2 h3 h4 =>
  Eq.mpr (w_kLentPort y x) (m_kLentPort y x h2 h3 h4)
noncomputable def sp_kKeptPort : Spec := { q := .un, ps := [tPortL, tPort], rs := [.bo], fresh := true, pre := fun _ x => some (x.1 = x.2.1 ∧ Few (toFr x.2.1.2.1) ∧ x.2.1.2.2.1.length ≤ 100 ∧ FewTs x.2.1.2.2.1), post := fun _ _ => ((), (true, ())) }
noncomputable def iv_kKeptPort (y : El sp_kKeptPort.q) (x : Els sp_kKeptPort.ps) : Nat → Option Inv := fun _ => none
noncomputable abbrev c_kKeptPort : Cfg := cfgS (Tryz.f19).ntmps false [(68, sp_kKept.prim), (69, sp_kKeptTides.prim)]
def F_kKeptPort (y : El sp_kKeptPort.q) (x : Els sp_kKeptPort.ps) : Prop :=
  ((ByteArray.toList x.1.1 == ByteArray.toList x.2.1.1) = true → (toFrL x.1.2.1 = toFr x.2.1.2.1 ∧ (toFr x.2.1.2.1).num.length ≤ (35184372087808 : Nat) ∧ (toFr x.2.1.2.1).den.length ≤ (35184372087808 : Nat)) ∧ ∀ (r : Ro [Ty.bo]), r = ((), true, ()) → (r.2.1 = true → (((x.1.2.2.1.length : Int) == (x.2.1.2.2.1.length : Int)) = true → ((-9223372036854775808 : Int) ≤ (x.2.1.2.2.1.length : Int) + (3 : Int) ∧ (x.2.1.2.2.1.length : Int) + (3 : Int) ≤ (9223372036854775807 : Int)) ∧ ((0 : Int) = (0 : Int) ∧ (x.2.1.2.2.1.length : Int) + (3 : Int) = (x.1.2.2.1.length : Int) + (↑(mkv tTideL).length : Int)) ∧ (x.1.2.2.1 = x.2.1.2.2.1 ∧ List.length x.2.1.2.2.1 ≤ (100 : Nat) ∧ ∀ (t : El tTide), t ∈ x.2.1.2.2.1 → ((toGa t.2.2.1).re.num.length ≤ (35184372087808 : Nat) ∧ (toGa t.2.2.1).re.den.length ≤ (35184372087808 : Nat)) ∧ (toGa t.2.2.1).im.num.length ≤ (35184372087808 : Nat) ∧ (toGa t.2.2.1).im.den.length ≤ (35184372087808 : Nat)) ∧ ∀ (r : Ro [Ty.bo]), r = ((), true, ()) → r.2 = (true, ())) ∧ (((x.1.2.2.1.length : Int) == (x.2.1.2.2.1.length : Int)) = false → (false, ()) = (true, ()))) ∧ (r.2.1 = false → (false, ()) = (true, ()))) ∧ ((ByteArray.toList x.1.1 == ByteArray.toList x.2.1.1) = false → (false, ()) = (true, ()))
theorem w_kKeptPort (y : El sp_kKeptPort.q) (x : Els sp_kKeptPort.ps) : aW c_kKeptPort (iv_kKeptPort y x) Tryz.f19 sp_kKeptPort y x = F_kKeptPort y x := by kernel_rfl
theorem m_kKeptPort (y : El (.un)) (x : Els [tPortL, tPort]) (h2 : wfE (.un) y) (h3 : wfEs [tPortL, tPort] x) (h4 : x.1 = x.2.1 ∧ Few (toFr x.2.1.2.1) ∧ x.2.1.2.2.1.length ≤ 100 ∧ FewTs x.2.1.2.2.1) : F_kKeptPort y x := by
  unfold F_kKeptPort
  obtain ⟨he, h5, h6, h7⟩ := h4
  have e1 : x.1.1 = x.2.1.1 := congrArg (fun p : El tPort => p.1) he
  have e2 : toFrL x.1.2.1 = toFr x.2.1.2.1 := congrArg (fun p : El tPort => toFr p.2.1) he
  have e3 : (x.1.2.2.1 : List (El tTide)) = x.2.1.2.2.1 := congrArg (fun p : El tPort => p.2.2.1) he
  have hlen : List.length x.1.2.2.1 = List.length x.2.1.2.2.1 := congrArg (fun p : El tPort => List.length p.2.2.1) he
  have m3 : (mkv tTideL).length = 3 := by rw [mkv_tide]; rfl
  refine ⟨fun _ => ⟨⟨e2, h5⟩, ?_⟩, fun c => absurd ((ba_eq _ _).symm.trans c) (by rw [e1]; simp)⟩
  rintro _ rfl
  refine ⟨fun _ => ⟨fun _ => ⟨by omega, ⟨rfl, by rw [m3, hlen]; omega⟩, ⟨e3, h6, h7⟩, ?_⟩, fun c => absurd (eqF c) (by rw [hlen]; simp)⟩, fun c => absurd c (by decide)⟩
  rintro _ rfl
  rfl
theorem fo_kKeptPort : FnOk Tryz.prog 19 sp_kKeptPort := fnOk_of (C := c_kKeptPort) iv_kKeptPort Tryz.func19 rfl (by kernel_rfl) tys_ok (prims_cons (spec_prim fo_kKept) (prims_cons (spec_prim fo_kKeptTides) prims_nil)) mixed_ (Nat.le_refl _) rfl fun y x h1 h2 h3 h4 =>
  Eq.mpr (w_kKeptPort y x) (m_kKeptPort y x h2 h3 h4)
def parQ (a : El tGQ) : List (El tRQ) := [a.1, a.2.1]
noncomputable def sp_movP : Spec := { q := .un, ps := [.sl tGQ], rs := [.sl tRQ], fresh := true, pre := fun _ x => some (x.1.length ≤ 5000), post := fun _ x => ((), (x.1.flatMap parQ, ())) }
noncomputable def iv_movP (y : El sp_movP.q) (x : Els sp_movP.ps) : Nat → Option Inv := fun k => if k = 0 then some { X := Nat, tm := fun i => [(0, .c (.sl tGQ x.1)), (3, .c (.ow 1)), (4, .c (.sc (.int .i64 i)))], ob := fun i => [(1, .ty 26 tRQ ((x.1.take i).flatMap parQ) 0)], n := 2, I := fun i => i ≤ x.1.length, μ := fun i => x.1.length - i } else none
noncomputable abbrev c_movP : Cfg := { cfgS (Tryz.f21).ntmps false [] with ty := tysQ }
def F_movP (y : El sp_movP.q) (x : Els sp_movP.ps) : Prop :=
  (∃ (x_1 : Nat), x.1 = x.1 ∧ (↑x_1 : Int) = (0 : Int) ∧ List.flatMap parQ (List.take x_1 x.1) = [] ∧ x_1.le (List.length x.1)) ∧ ∀ (x_1 : Nat), x_1.le (List.length x.1) → (decide ((↑x_1 : Int) < (x.1.length : Int)) = true → ((0 : Int) ≤ (↑x_1 : Int) ∧ (↑x_1 : Int) < (x.1.length : Int)) ∧ ((0 : Int) ≤ (↑x_1 : Int) ∧ (↑x_1 : Int) < (x.1.length : Int)) ∧ (List.flatMap parQ (List.take x_1 x.1)).length + [(List.getD x.1 (↑x_1 : Int).toNat (dfl tGQ)).1, (List.getD x.1 (↑x_1 : Int).toNat (dfl tGQ)).2.1].length ≤ (1073741824 : Nat) ∧ ((-9223372036854775808 : Int) ≤ (↑x_1 : Int) + (1 : Int) ∧ (↑x_1 : Int) + (1 : Int) ≤ (9223372036854775807 : Int)) ∧ ∃ (x' : Nat), x.1 = x.1 ∧ (↑x' : Int) = (↑x_1 : Int) + (1 : Int) ∧ List.flatMap parQ (List.take x' x.1) = List.flatMap parQ (List.take x_1 x.1) ++ [(List.getD x.1 (↑x_1 : Int).toNat (dfl tGQ)).1, (List.getD x.1 (↑x_1 : Int).toNat (dfl tGQ)).2.1] ∧ x'.le (List.length x.1) ∧ List.length x.1 - x' < List.length x.1 - x_1) ∧ (decide ((↑x_1 : Int) < (x.1.length : Int)) = false → (List.flatMap parQ (List.take x_1 x.1), ()) = (List.flatMap parQ x.1, ()))
theorem w_movP (y : El sp_movP.q) (x : Els sp_movP.ps) : aW c_movP (iv_movP y x) Tryz.f21 sp_movP y x = F_movP y x := by kernel_rfl
theorem m_movP (y : El (.un)) (x : Els [.sl tGQ]) (h2 : wfE (.un) y) (h3 : wfEs [.sl tGQ] x) (h4 : x.1.length ≤ 5000) : F_movP y x := by
  unfold F_movP
  have hL : x.1.length ≤ 5000 := h4
  refine ⟨⟨0, rfl, rfl, rfl, Nat.zero_le _⟩, fun i hi => ⟨fun h => ?_, fun h => ?_⟩⟩
  all_goals have hi : i ≤ x.1.length := hi
  · have h := ltT h
    have hi' : i < x.1.length := by omega
    have fl := fl_len1 (f := parQ) (c := 2) (fun _ => rfl) (x.1.take i)
    rw [List.length_take] at fl
    refine ⟨⟨by omega, h⟩, ⟨by omega, h⟩, ?_, ⟨by omega, by omega⟩, i + 1, rfl, rfl, ?_, hi', by omega⟩
    · rw [fl]
      show _ + 2 ≤ _
      omega
    · rw [Int.toNat_natCast]
      exact take_fl hi' _
  · have h := ltF h
    rw [List.take_of_length_le (by omega)]
theorem fo_movP : FnOk Tryz.prog 21 sp_movP := fnOk_of (C := c_movP) iv_movP Tryz.func21 rfl (by kernel_rfl) tysQ_ok prims_nil mixed_ (Nat.le_refl _) rfl fun y x h1 h2 h3 h4 =>
  Eq.mpr (w_movP y x) (m_movP y x h2 h3 h4)
def parG (a : El tG) : List (El tR) := [a.1, a.2.1]
theorem mov_par : Mov tG tR parG parQ := fun w x vs b h => by
  obtain ⟨u1, u1', c1, c1', rfl, rfl, h1, h2⟩ := h
  obtain ⟨u2, u2', c2, c2', rfl, rfl, h3, h4⟩ := h2
  obtain ⟨rfl, rfl⟩ := h4
  have l1 : u1.length = 3 := h1.szd rfl
  have l2 : u2.length = 3 := h3.szd rfl
  have e1 : (opqV tG x (u1 ++ (u2 ++ []))).1 = opqV tR x.1 u1 := by
    show opqV tR x.1 ((u1 ++ (u2 ++ [])).take 3) = _
    rw [List.take_left' l1]
  have e2 : (opqV tG x (u1 ++ (u2 ++ []))).2.1 = opqV tR x.2.1 u2 := by
    show opqV tR x.2.1 (((u1 ++ (u2 ++ [])).drop 3).take 3) = _
    rw [List.drop_left' l1, List.append_nil, List.take_of_length_le (by omega)]
  have v1 : vcs (opq tR) (opqV tR x.1 u1) = u1 := ((h1.opq (Z' := noZ) rfl).vcs rfl).symm
  have v2 : vcs (opq tR) (opqV tR x.2.1 u2) = u2 := ((h3.opq (Z' := noZ) rfl).vcs rfl).symm
  refine ⟨[c1, c2], ?_, by simp⟩
  show FQ w tR [x.1, x.2.1] (vcs (opq tR) (opqV tG x (u1 ++ (u2 ++ []))).1 ++ (vcs (opq tR) (opqV tG x (u1 ++ (u2 ++ []))).2.1 ++ [])) [c1, c2]
  rw [e1, e2, v1, v2, List.append_nil]
  refine ⟨by rw [List.length_append, l1, l2]; rfl, rfl, fun j hj b hb => ?_⟩
  match j, hb with
  | 0, hb =>
    cases hb
    rw [Nat.zero_mul, List.drop_zero]
    show RQ true noZ w 0 tR x.1 ((u1 ++ u2).take 3) c1
    rw [List.take_left' l1]
    exact h1
  | 1, hb =>
    cases hb
    show RQ true noZ w 0 tR x.2.1 (((u1 ++ u2).drop 3).take 3) c2
    rw [List.drop_left' l1, List.take_of_length_le (by omega)]
    exact h3
  | j + 2, hb => simp at hb
def p_movP : Prim := p_mov tG tR parG
theorem pr_movP : PrimOk Tryz.prog 21 p_movP := mov_prim (t := tG) (u := tR) (Gq := parQ) fo_movP mov_par rfl rfl rfl rfl rfl rfl (by decide) (by decide)
end Go.Proofs.YtakaehdolpmelaaGreat
namespace Go.Proofs.YtakaehdolpmelaaGreat
open Go
def Ty.wt : Ty → Nat
  | .it .u32 => 4
  | _ => 0
def fits : (y : Ty) → El y → Prop
  | .sl u, l => List.length (α := El u) l * u.wt ≤ 140737488351232 ∧ ∀ x : El u, x ∈ (l : List (El u)) → fits u x
  | .pr a b, x => fits a (Prod.fst (α := El a) (β := El b) x) ∧ fits b (Prod.snd (α := El a) (β := El b) x)
  | .bo, _ => True
  | .it _, _ => True
  | .st, _ => True
  | .pt _, _ => True
  | .fn, _ => True
  | .un, _ => True
  | .lt _, _ => True
  | .lf _, _ => True
  | .oq, _ => True
end Go.Proofs.YtakaehdolpmelaaGreat
namespace Go.Proofs.YtakaehdolpmelaaGreat
open Go Go.RowKit
theorem eqno {a b : Int} {Q : Prop} (c : (a != b) = true) (e : a = b) : Q := absurd e (neT c)
theorem unL_T (l : List (El tTide)) : (unL tTideL l : List (El tTide)) = l := by
  have e : (unE tTideL : El tTide → El tTide) = id := funext fun x => rfl
  show (List.map (unE tTideL : El tTide → El tTide) l : List (El tTide)) = l
  rw [e, List.map_id]
theorem nodec {p : Prop} [Decidable p] {Q : Prop} (c : (!decide p) = true) (hp : p) : Q := by
  rw [decide_eq_true hp] at c
  cases c
theorem fits_R {f : El tR} (h : fits tR f) : Few (toFr f) := by
  have a : List.length (α := Int) f.2.1 * 4 ≤ 140737488351232 := h.2.1.1
  have b : List.length (α := Int) f.2.2.1 * 4 ≤ 140737488351232 := h.2.2.1.1
  refine ⟨?_, ?_⟩
  · show List.length (α := Int) f.2.1 ≤ 35184372087808
    omega
  · show List.length (α := Int) f.2.2.1 ≤ 35184372087808
    omega
theorem fits_G {a : El tG} (h : fits tG a) : FewG (toGa a) := ⟨fits_R h.1, fits_R h.2.1⟩
theorem few_num (c : El tTide) (t : Int) : FewG (numE c t).1 := by
  unfold numE
  split
  · exact few_gz
  · exact gmul_few _ _
theorem few_number (c : El tTide) (t : Int) : FewG (numberE c t).1 := by
  unfold numberE
  split
  · exact few_gz
  · split
    · exact few_gz
    · exact few_num c t
theorem few_hgt (s : Fr × Int) (hs : Few s.1) (l : List (El tTide)) (t : Int) : ∀ i, Few (hgtS s l t i).1
  | 0 => hs
  | i + 1 => by
    unfold hgtS
    split
    · exact few_hgt s hs l t i
    · split
      · exact few_hgt s hs l t i
      · exact (fadd_good _ _).few
theorem few_At (p : El tPort) (t : Int) : Few (AtE p t).1 := by
  unfold AtE
  split
  · exact few_zero
  · unfold atE endR
    split
    · exact few_zero
    · exact few_hgt _ (fadd_good _ _).few _ _ _
theorem few_sum (l : List (El tTide)) (t : Int) : ∀ i, FewG (sumS l t i).1
  | 0 => show FewG (gint 0 0) from ⟨⟨by decide +kernel, by decide +kernel⟩, ⟨by decide +kernel, by decide +kernel⟩⟩
  | i + 1 => by
    unfold sumS
    split
    · exact few_sum l t i
    · split
      · exact few_gz
      · exact gadd_few _ _
theorem few_Sum (p : El tPort) (t : Int) : FewG (SumE p t).1 := by
  unfold SumE
  split
  · exact few_gz
  · exact few_sum _ _ _
theorem few_all {l : List (El tR)} {ts : List (El tTide)} (h : ∀ r ∈ l, Few (toFr r)) (k : FewTs ts) : ∀ f ∈ List.flatMap (fun x : El tR => [toFr x]) (l ++ List.flatMap parG (List.flatMap numG ts)), Few f := by
  intro f hf
  obtain ⟨r, hr, e⟩ := List.mem_flatMap.1 hf
  obtain rfl := List.mem_singleton.1 e
  rcases List.mem_append.1 hr with hr | hr
  · exact h r hr
  · obtain ⟨g, hg, hr⟩ := List.mem_flatMap.1 hr
    obtain ⟨t, ht, hg⟩ := List.mem_flatMap.1 hg
    obtain rfl := List.mem_singleton.1 hg
    have := k t ht
    rcases List.mem_cons.1 hr with rfl | hr
    · exact this.1
    · obtain rfl := List.mem_singleton.1 hr
      exact this.2
noncomputable def sp_lawExactTells : Spec := { q := .un, ps := [tTide, tPort, .it .i64], rs := [.bo], fresh := true, pre := fun _ x => some (fits tTide x.1 ∧ fits tPort x.2.1), post := fun _ _ => ((), (true, ())) }
noncomputable def iv_lawExactTells (y : El sp_lawExactTells.q) (x : Els sp_lawExactTells.ps) : Nat → Option Inv := fun _ => none
noncomputable abbrev c_lawExactTells : Cfg := { cfgS (Tryz.f3).ntmps false [(6, sp_lWork.prim), (7, sp_lwords.prim), (8, sp_kLentTide.prim), (9, sp_kLentPort.prim), (10, sp_xNumber.prim), (11, sp_n15Number.prim), (12, sp_xAt.prim), (13, sp_n15At.prim), (14, sp_xSum.prim), (15, sp_n15Sum.prim), (16, sp_kSameGauss.prim), (17, sp_kSameRatio.prim), (18, sp_kKeptTide.prim), (19, sp_kKeptPort.prim), (22, p_movN), (21, p_movP), (20, p_apartR)] with dp := [(26, tR)] }
def F_lawExactTells (y : El sp_lawExactTells.q) (x : Els sp_lawExactTells.ps) : Prop :=
  (decide ((x.2.1.2.2.1.length : Int) > (40 : Int)) = true → (true, ()) = (true, ())) ∧ (decide ((x.2.1.2.2.1.length : Int) > (40 : Int)) = false → ∀ (r : Ro [Ty.it IntKind.i64]), r = ((), workZ x.2.1 x.2.2.1, ()) → (decide (r.2.1 > (1000000 : Int)) = true → (true, ()) = (true, ())) ∧ (decide (r.2.1 > (1000000 : Int)) = false → ∀ (r : Ro [Ty.it IntKind.i64]), r = ((), wordsZ x.1.2.1 x.2.2.1, ()) → (decide (r.2.1 ≥ (1000000 : Int)) = true → (true, ()) = (true, ())) ∧ (decide (r.2.1 ≥ (1000000 : Int)) = false → (((toGa x.1.2.2.1).re.num.length ≤ (35184372087808 : Nat) ∧ (toGa x.1.2.2.1).re.den.length ≤ (35184372087808 : Nat)) ∧ (toGa x.1.2.2.1).im.num.length ≤ (35184372087808 : Nat) ∧ (toGa x.1.2.2.1).im.den.length ≤ (35184372087808 : Nat)) ∧ ∀ (r : Ro [tTideL]), r = ((), x.1, ()) → (((toFr x.2.1.2.1).num.length ≤ (35184372087808 : Nat) ∧ (toFr x.2.1.2.1).den.length ≤ (35184372087808 : Nat)) ∧ List.length x.2.1.2.2.1 ≤ (100 : Nat) ∧ ∀ (t : El tTide), t ∈ x.2.1.2.2.1 → ((toGa t.2.2.1).re.num.length ≤ (35184372087808 : Nat) ∧ (toGa t.2.2.1).re.den.length ≤ (35184372087808 : Nat)) ∧ (toGa t.2.2.1).im.num.length ≤ (35184372087808 : Nat) ∧ (toGa t.2.2.1).im.den.length ≤ (35184372087808 : Nat)) ∧ ∀ (r_1 : Ro [tPortL]), r_1 = ((), x.2.1, ()) → ∀ (r_2 : Ro [tG, Ty.it IntKind.i64]), r_2 = pG (numberE r.2.1 x.2.2.1) → ∀ (r_3 : Ro [tG, Ty.it IntKind.i64]), r_3 = pG (numberE x.1 x.2.2.1) → ∀ (r_4 : Ro [tR, Ty.it IntKind.i64]), r_4 = pR (AtE (r_1.2.1.1, r_1.2.1.2.1, unL tTideL r_1.2.1.2.2.1, ()) x.2.2.1) → ∀ (r_5 : Ro [tR, Ty.it IntKind.i64]), r_5 = pR (AtE x.2.1 x.2.2.1) → ∀ (r_6 : Ro [tG, Ty.it IntKind.i64]), r_6 = pG (SumE (r_1.2.1.1, r_1.2.1.2.1, unL tTideL r_1.2.1.2.2.1, ()) x.2.2.1) → ∀ (r_7 : Ro [tG, Ty.it IntKind.i64]), r_7 = pG (SumE x.2.1 x.2.2.1) → ((r_2.2.2.1 != r_3.2.2.1) = true → (false, ()) = (true, ())) ∧ ((r_2.2.2.1 != r_3.2.2.1) = false → ((r_4.2.2.1 != r_5.2.2.1) = true → (false, ()) = (true, ())) ∧ ((r_4.2.2.1 != r_5.2.2.1) = false → ((r_6.2.2.1 != r_7.2.2.1) = true → (false, ()) = (true, ())) ∧ ((r_6.2.2.1 != r_7.2.2.1) = false → ∀ (r_8 : Ro [Ty.bo]), r_8 = ((), decide (toGa r_2.2.1 = toGa r_3.2.1), ()) → ((!r_8.2.1) = true → (false, ()) = (true, ())) ∧ ((!r_8.2.1) = false → ∀ (r_9 : Ro [Ty.bo]), r_9 = ((), decide (toFr r_4.2.1 = toFr r_5.2.1), ()) → ((!r_9.2.1) = true → (false, ()) = (true, ())) ∧ ((!r_9.2.1) = false → ∀ (r_10 : Ro [Ty.bo]), r_10 = ((), decide (toGa r_6.2.1 = toGa r_7.2.1), ()) → ((!r_10.2.1) = true → (false, ()) = (true, ())) ∧ ((!r_10.2.1) = false → (r.2.1.1 = x.1.1 ∧ r.2.1.2.1 = x.1.2.1 ∧ toGaL r.2.1.2.2.1 = toGa x.1.2.2.1 ∧ ((toGa x.1.2.2.1).re.num.length ≤ (35184372087808 : Nat) ∧ (toGa x.1.2.2.1).re.den.length ≤ (35184372087808 : Nat)) ∧ (toGa x.1.2.2.1).im.num.length ≤ (35184372087808 : Nat) ∧ (toGa x.1.2.2.1).im.den.length ≤ (35184372087808 : Nat)) ∧ ∀ (r_11 : Ro [Ty.bo]), r_11 = ((), true, ()) → ((!r_11.2.1) = true → (false, ()) = (true, ())) ∧ ((!r_11.2.1) = false → (r_1.2.1 = x.2.1 ∧ ((toFr x.2.1.2.1).num.length ≤ (35184372087808 : Nat) ∧ (toFr x.2.1.2.1).den.length ≤ (35184372087808 : Nat)) ∧ List.length x.2.1.2.2.1 ≤ (100 : Nat) ∧ ∀ (t : El tTide), t ∈ x.2.1.2.2.1 → ((toGa t.2.2.1).re.num.length ≤ (35184372087808 : Nat) ∧ (toGa t.2.2.1).re.den.length ≤ (35184372087808 : Nat)) ∧ (toGa t.2.2.1).im.num.length ≤ (35184372087808 : Nat) ∧ (toGa t.2.2.1).im.den.length ≤ (35184372087808 : Nat)) ∧ ∀ (r_12 : Ro [Ty.bo]), r_12 = ((), true, ()) → ((!r_12.2.1) = true → (false, ()) = (true, ())) ∧ ((!r_12.2.1) = false → (unL tTideL r_1.2.1.2.2.1).length ≤ (5000 : Nat) ∧ (List.flatMap numG (unL tTideL r_1.2.1.2.2.1)).length ≤ (5000 : Nat) ∧ [r_2.2.1.1, r_2.2.1.2.1, r_4.2.1, r_6.2.1.1, r_6.2.1.2.1, r.2.1.2.2.1.1, r.2.1.2.2.1.2.1, r_1.2.1.2.1].length + (List.flatMap parG (List.flatMap numG (unL tTideL r_1.2.1.2.2.1))).length ≤ (1073741824 : Nat) ∧ ((0 : Nat) < ([r_2.2.1.1, r_2.2.1.2.1, r_4.2.1, r_6.2.1.1, r_6.2.1.2.1, r.2.1.2.2.1.1, r.2.1.2.2.1.2.1, r_1.2.1.2.1] ++ List.flatMap parG (List.flatMap numG (unL tTideL r_1.2.1.2.2.1))).length ∧ ([r_2.2.1.1, r_2.2.1.2.1, r_4.2.1, r_6.2.1.1, r_6.2.1.2.1, r.2.1.2.2.1.1, r.2.1.2.2.1.2.1, r_1.2.1.2.1] ++ List.flatMap parG (List.flatMap numG (unL tTideL r_1.2.1.2.2.1))).length ≤ (5000 : Nat) ∧ ∀ (f : Fr), f ∈ List.flatMap (fun (x : El tR) => [toFr x]) ([r_2.2.1.1, r_2.2.1.2.1, r_4.2.1, r_6.2.1.1, r_6.2.1.2.1, r.2.1.2.2.1.1, r.2.1.2.2.1.2.1, r_1.2.1.2.1] ++ List.flatMap parG (List.flatMap numG (unL tTideL r_1.2.1.2.2.1))) → f.num.length ≤ (35184372087808 : Nat) ∧ f.den.length ≤ (35184372087808 : Nat)) ∧ (true, ()) = (true, ()))))))))))))
theorem w_lawExactTells (y : El sp_lawExactTells.q) (x : Els sp_lawExactTells.ps) : aW c_lawExactTells (iv_lawExactTells y x) Tryz.f3 sp_lawExactTells y x = F_lawExactTells y x := by kernel_rfl
theorem m_lawExactTells (y : El (.un)) (x : Els [tTide, tPort, .it .i64]) (h2 : wfE (.un) y) (h3 : wfEs [tTide, tPort, .it .i64] x) (h4 : fits tTide x.1 ∧ fits tPort x.2.1) : F_lawExactTells y x := by
  unfold F_lawExactTells
  have fc : FewG (toGa x.1.2.2.1) := fits_G h4.1.2.2.1
  have fp : Few (toFr x.2.1.2.1) := fits_R h4.2.2.1
  have ft : FewTs x.2.1.2.2.1 := fun t m => fits_G (h4.2.2.2.1.2 t m).2.2.1
  refine ⟨fun _ => rfl, fun l => ?_⟩
  have l : List.length (α := El tTide) x.2.1.2.2.1 ≤ 40 := by
    have := gtF l
    omega
  rintro _ rfl
  refine ⟨fun _ => rfl, fun _ => ?_⟩
  rintro _ rfl
  refine ⟨fun _ => rfl, fun _ => ⟨fc, ?_⟩⟩
  rintro _ rfl
  refine ⟨⟨fp, by omega, ft⟩, ?_⟩
  rintro _ rfl _ rfl _ rfl _ rfl _ rfl _ rfl _ rfl
  have eu := unL_T x.2.1.2.2.1
  have ep : ((x.2.1.1, x.2.1.2.1, unL tTideL x.2.1.2.2.1, ()) : El tPort) = x.2.1 := by rw [eu]
  refine ⟨fun c => eqno c rfl, fun _ => ⟨fun c => eqno c (congrArg (fun p => (AtE p x.2.2.1).2) ep), fun _ => ⟨fun c => eqno c (congrArg (fun p => (SumE p x.2.2.1).2) ep), fun _ => ?_⟩⟩⟩
  rintro _ rfl
  refine ⟨fun c => nodec c rfl, fun _ => ?_⟩
  rintro _ rfl
  refine ⟨fun c => nodec c (congrArg (fun p => (AtE p x.2.2.1).1) ep), fun _ => ?_⟩
  rintro _ rfl
  refine ⟨fun c => nodec c (congrArg (fun p => (SumE p x.2.2.1).1) ep), fun _ => ⟨⟨rfl, rfl, rfl, fc⟩, ?_⟩⟩
  rintro _ rfl
  refine ⟨fun c => absurd c (by decide), fun _ => ⟨⟨rfl, fp, by omega, ft⟩, ?_⟩⟩
  rintro _ rfl
  rw [eu]
  have n1 : (List.flatMap numG (x.2.1.2.2.1 : List (El tTide))).length = 1 * List.length (α := El tTide) x.2.1.2.2.1 := fl_len1 (f := numG) (c := 1) (fun _ => rfl) _
  have n2 : (List.flatMap parG (List.flatMap numG (x.2.1.2.2.1 : List (El tTide)))).length = 2 * _ := fl_len1 (f := parG) (c := 2) (fun _ => rfl) _
  refine ⟨fun c => absurd c (by decide), fun _ => ⟨show List.length (α := El tTide) x.2.1.2.2.1 ≤ 5000 by omega, show (List.flatMap numG (x.2.1.2.2.1 : List (El tTide))).length ≤ 5000 by omega, show 8 + (List.flatMap parG (List.flatMap numG (x.2.1.2.2.1 : List (El tTide)))).length ≤ 1073741824 by omega, ⟨?_, ?_, few_all ?_ ft⟩, rfl⟩⟩
  · rw [List.length_append]
    show 0 < 8 + _
    omega
  · rw [List.length_append]
    show 8 + (List.flatMap parG (List.flatMap numG (x.2.1.2.2.1 : List (El tTide)))).length ≤ 5000
    omega
  · have a1 := few_number x.1 x.2.2.1
    have a2 := few_At x.2.1 x.2.2.1
    have a3 := few_Sum x.2.1 x.2.2.1
    intro r hr
    simp only [List.mem_cons, List.not_mem_nil, or_false] at hr
    rcases hr with rfl | rfl | rfl | rfl | rfl | rfl | rfl | rfl
    · exact a1.1
    · exact a1.2
    · exact a2
    · exact a3.1
    · exact a3.2
    · exact fc.1
    · exact fc.2
    · exact fp
theorem fo_lawExactTells : FnOk Tryz.prog 3 sp_lawExactTells := fnOk_of (C := c_lawExactTells) iv_lawExactTells Tryz.func3 rfl (by kernel_rfl) tys_ok (prims_cons (spec_prim fo_lWork) (prims_cons (spec_prim fo_lwords) (prims_cons (spec_prim fo_kLentTide) (prims_cons (spec_prim fo_kLentPort) (prims_cons (spec_prim fo_xNumber) (prims_cons (spec_prim fo_n15Number) (prims_cons (spec_prim fo_xAt) (prims_cons (spec_prim fo_n15At) (prims_cons (spec_prim fo_xSum) (prims_cons (spec_prim fo_n15Sum) (prims_cons (spec_prim fo_kSameGauss) (prims_cons (spec_prim fo_kSameRatio) (prims_cons (spec_prim fo_kKeptTide) (prims_cons (spec_prim fo_kKeptPort) (prims_cons pr_movN (prims_cons pr_movP (prims_cons pr_apartR prims_nil))))))))))))))))) mixed_ (Nat.le_refl _) rfl fun y x h1 h2 h3 h4 =>
  Eq.mpr (w_lawExactTells y x) (m_lawExactTells y x h2 h3 h4)
end Go.Proofs.YtakaehdolpmelaaGreat
namespace Go.Proofs.YtakaehdolpmelaaGreat
open Go.ChangeShapes Go.WideShapes Go.ChangeAt Go.RowKit Go.Joins Go.Deep
set_option linter.unusedVariables false
section
variable {H : Type} {enc : TypeId × Value → H} {P : Program} {w : World} {base : Nat} {spare : Nat → Bool} {held : Bool}
end
theorem mk_own : ownKnob Tryz.prog.godebug = none := by kernel_rfl
theorem mk_laidOut : laidOutB Tryz.prog = true := by kernel_rfl
end Go.Proofs.YtakaehdolpmelaaGreat
namespace Go.Proofs.YtakaehdolpmelaaGreat
open Go Go.RowKit Go.ChangeShapes Go.WideShapes Go.ChangeAt Go.Joins Go.Deep
def Ty.inn : Ty → Bool
  | .bo => true
  | .it _ => true
  | .st => true
  | .sl t => t.inn && !Nat.beq t.size 0
  | .pr a b => a.inn && b.inn
  | .un => true
  | _ => false
abbrev Zw (W : World) : Nat → Prop := fun g => g < W.heap.size
theorem lit_wf {k : IntKind} {n : Int} (h : (Lit.int k n).wf = true) : k.min ≤ n ∧ n ≤ k.max := by simpa [Lit.wf] using h
theorem inn_struct {P : Program} {tb : Tbl} {t e : Nat} {a b : Ty} (h : TyOk P tb t (.pr a b) e) : ∃ fs, P.underlying t = some (.struct fs) ∧ fsB tb (.pr a b) 0 fs.toList = true := by
  obtain ⟨d, h1, h2⟩ := h.und
  unfold dscB at h2
  split at h2 <;> first
    | (cases h2; done)
    | (rename_i e2; cases e2; done)
    | skip
  all_goals
    rename_i e2
    cases e2
    exact ⟨_, h1, h2⟩
theorem inn_slice {P : Program} {tb : Tbl} {t e : Nat} {u : Ty} (h : TyOk P tb t (.sl u) e) : P.underlying t = some (.slice e) ∧ ∃ e', look tb e = some (u, e') := by
  obtain ⟨d, h1, h2⟩ := h.und
  unfold dscB at h2
  split at h2 <;> first
    | (cases h2; done)
    | (rename_i e2; cases e2; done)
    | skip
  all_goals
    rename_i e2
    cases e2
    simp only [Bool.and_eq_true] at h2
    rw [Nat.eq_of_beq_eq_true h2.1] at h1
    exact ⟨h1, isT_look h2.2⟩
theorem size_of_ {P : Program} {tb : Tbl} {t e : Nat} {y : Ty} (h : TyOk P tb t y e) : P.cellsOf t = y.size := by
  obtain ⟨i, z, h1, h2, _⟩ := h.info
  simp [Program.cellsOf, h1, h2]
theorem rt_in {H : Type} {enc : TypeId × Value → H} {P : Program} {W : World} {tb : Tbl} (hT : tyB P tb tb = true) : ∀ (y : Ty), y.inn = true →
    (∀ {t e fuel : Nat} {cs : List Value} {x : DataW H × List MemPlace}, look tb t = some (y, e) → DataW.trod enc P W 0 (fun _ => true) true fuel t cs = some x → ∃ v : El y, RT (Zw W) W y v cs) ∧
    (∀ {o : Nat} {fs : List Field} {cs : List Value}, fsB tb y o fs = true → (∀ (i : Nat) (f : Field), fs[i]? = some f → ∃ (n : Nat) (x : DataW H × List MemPlace), DataW.trod enc P W 0 (fun _ => true) true n f.type ((cs.drop f.offset).take (P.cellsOf f.type)) = some x) → cs.length = o + y.size → ∃ v : El y, RT (Zw W) W y v (cs.drop o))
  | .bo, _ => by
    refine ⟨fun {t e fuel cs x} hl h => ?_, fun {o fs cs} h _ _ => by simp [fsB] at h⟩
    obtain ⟨d, h1, h2⟩ := (tyB_sound hT hl).und
    have : d = .bool := by cases d <;> simp [dscB] at h2; rfl
    subst this
    obtain ⟨b, rfl, _⟩ := DataW.trod_bool h1 h
    exact ⟨b, by rw [RT]⟩
  | .it k, _ => by
    refine ⟨fun {t e fuel cs x} hl h => ?_, fun {o fs cs} h _ _ => by simp [fsB] at h⟩
    obtain ⟨d, h1, h2⟩ := (tyB_sound hT hl).und
    have : d = .int k := by cases d <;> simp [dscB] at h2; rw [h2]
    subst this
    obtain ⟨n, rfl, _, hw⟩ := DataW.trod_int h1 h
    exact ⟨n, by rw [RT]; exact ⟨rfl, lit_wf hw⟩⟩
  | .st, _ => by
    refine ⟨fun {t e fuel cs x} hl h => ?_, fun {o fs cs} h _ _ => by simp [fsB] at h⟩
    obtain ⟨d, h1, h2⟩ := (tyB_sound hT hl).und
    have : d = .string := by cases d <;> simp [dscB] at h2; rfl
    subst this
    obtain ⟨s, rfl, _, hs⟩ := DataW.trod_string h1 h
    exact ⟨s, by rw [RT]; exact ⟨rfl, by simp only [maxLen] at hs; omega⟩⟩
  | .un, _ => by
    refine ⟨fun {t e fuel cs x} hl h => ?_, fun {o fs cs} _ _ hl => ⟨(), by rw [RT]; exact List.drop_of_length_le (by rw [hl]; exact Nat.le_refl _)⟩⟩
    obtain ⟨d, h1, h2⟩ := (tyB_sound hT hl).und
    cases d with
    | struct fs =>
      obtain ⟨xs, n, _, _, hl', _⟩ := DataW.trod_struct h1 h
      rw [size_of_ (tyB_sound hT hl)] at hl'
      exact ⟨(), by rw [RT]; exact List.eq_nil_of_length_eq_zero hl'⟩
    | _ => simp [dscB] at h2
  | .sl u, hy => by
    refine ⟨fun {t e fuel cs x} hl h => ?_, fun {o fs cs} h _ _ => by simp [fsB] at h⟩
    simp only [Ty.inn, Bool.and_eq_true, Bool.not_eq_true'] at hy
    have hu : u.size ≠ 0 := fun e0 => by rw [e0] at hy; exact absurd hy.2 (by decide)
    obtain ⟨h1, e', h2⟩ := inn_slice (tyB_sound hT hl)
    have hs := size_of_ (tyB_sound hT h2)
    rcases open_slice h1 h with ⟨rfl, _⟩ | ⟨a, len, cap, m, n, D, Pl, rfl, _, hl2, hm, rfl, _, hi⟩
    · exact ⟨[], RT.sl_nil _ _ _⟩
    · have hi : ∀ i, i < m → ∃ cs', W.cells? 0 (a.add (i * P.cellsOf e)) (P.cellsOf e) = some cs' ∧ DataW.trod enc P W 0 (fun _ => true) true n e cs' = some (D i, Pl i) := fun i hic => hi i hic
      simp only [maxLen] at hm
      have each : ∀ j, j < len → ∃ v : El u, ∃ us, RT (Zw W) W u v us ∧ us.length = u.size ∧ ∀ (i : Nat) (z : Value), us[i]? = some z → W.cell? ((a.add (j * u.size)).add i) = some z := fun j hj => by
        obtain ⟨us, k1, k2⟩ := hi j (by omega)
        obtain ⟨_, k3, k4⟩ := World.cells?_some k1
        obtain ⟨v, hv⟩ := (rt_in hT u hy.1).1 h2 k2
        rw [hs] at k3 k4
        refine ⟨v, us, hv, k3, fun i z hz => ?_⟩
        rw [k4 i (by rw [← k3]; exact (List.getElem?_eq_some_iff.1 hz).1)]
        exact hz
      haveI : Inhabited (El u) := ⟨dfl u⟩
      obtain ⟨f, hf⟩ := choose_lt each
      have hlen : ((List.range len).map f).length = len := by simp
      refine ⟨(List.range len).map f, ?_⟩
      rw [RT]
      refine ⟨some a, m, by rw [hlen], by rw [hlen]; exact hl2, by omega, (fun e => by cases e), fun j hj => ?_⟩
      rw [hlen] at hj
      obtain ⟨us, k1, k2, k3⟩ := hf j hj
      have e1 : ((List.range len).map f)[j]'(by rw [hlen]; exact hj) = f j := by simp
      rw [e1]
      have hpos : 0 < us.length := by omega
      obtain ⟨us0, _, l2, l3⟩ := hf 0 (by omega)
      have d0 := l3 0 _ (List.getElem?_eq_getElem (show 0 < us0.length by omega))
      have c0 := k3 0 _ (List.getElem?_eq_getElem hpos)
      obtain ⟨g, o, s⟩ := a
      cases s with
      | some s =>
        exfalso
        have e3 : ((⟨g, o, some s⟩ : Addr).add (0 * u.size)).add 0 = ⟨g, o, some s⟩ := by rw [Nat.zero_mul]; rfl
        rw [e3] at d0
        unfold World.cell? at d0
        split at d0 <;> simp at d0
      | none =>
        have e2 : ∀ i, ((⟨g, o, none⟩ : Addr).add (j * u.size)).add i = ⟨g, o + (j * u.size + i), none⟩ := fun i => by rw [add_plain, add_plain, Nat.add_assoc]
        refine ⟨g, o, us, rfl, ?_, k1, fun i z hz => ?_⟩
        · rw [e2] at c0
          exact World.block_lt_of_cell? W _ c0
        · have := k3 i z hz
          rw [e2] at this
          exact this
  | .pr a b, hy => by
    simp only [Ty.inn, Bool.and_eq_true] at hy
    have key : ∀ {o : Nat} {fs : List Field} {cs : List Value}, fsB tb (.pr a b) o fs = true → (∀ (i : Nat) (f : Field), fs[i]? = some f → ∃ (n : Nat) (x : DataW H × List MemPlace), DataW.trod enc P W 0 (fun _ => true) true n f.type ((cs.drop f.offset).take (P.cellsOf f.type)) = some x) → cs.length = o + (Ty.pr a b).size → ∃ v : El (.pr a b), RT (Zw W) W (.pr a b) v (cs.drop o) := fun {o fs cs} h hf hl => by
      cases fs with
      | nil => simp [fsB] at h
      | cons f fs =>
        simp only [fsB, Bool.and_eq_true] at h
        obtain ⟨⟨h1, h2⟩, h3⟩ := h
        obtain ⟨e, h2⟩ := isT_look h2
        obtain ⟨n, x, h4⟩ := hf 0 f rfl
        obtain ⟨v, hv⟩ := (rt_in hT a hy.1).1 h2 h4
        have hl' : cs.length = o + a.size + b.size := by rw [hl]; show o + (a.size + b.size) = _; omega
        obtain ⟨v', hv'⟩ := (rt_in hT b hy.2).2 h3 (fun i f' h => hf (i + 1) f' (by simpa using h)) hl'
        rw [Nat.eq_of_beq_eq_true h1, size_of_ (tyB_sound hT h2)] at hv
        refine ⟨(v, v'), ?_⟩
        rw [RT]
        refine ⟨_, _, ?_, hv, hv'⟩
        rw [← List.drop_drop, List.take_append_drop]
    refine ⟨fun {t e fuel cs x} hl h => ?_, key⟩
    obtain ⟨fs, h1, h2⟩ := inn_struct (tyB_sound hT hl)
    obtain ⟨xs, n, _, _, h3, h4, h5⟩ := DataW.trod_struct h1 h
    rw [size_of_ (tyB_sound hT hl)] at h3
    have := key (cs := cs) h2 (fun i f hf => by
      have hi := (List.getElem?_eq_some_iff.1 hf).1
      have h6 := h5 i f (by simpa using hf)
      have h7 : i < xs.length := by rw [h4]; simpa using hi
      exact ⟨n, xs[i], h6.trans (List.getElem?_eq_getElem h7)⟩) (by omega)
    simpa using this
  | .pt _, h => by cases h
  | .fn, h => by cases h
  | .lt _, h => by cases h
  | .lf _, h => by cases h
  | .oq, h => by cases h
end Go.Proofs.YtakaehdolpmelaaGreat
