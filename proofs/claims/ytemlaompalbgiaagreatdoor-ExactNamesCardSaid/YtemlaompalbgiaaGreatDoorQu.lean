/- Texts of this claim, joined: B31 B32 F1 B33 B34. -/
import Derived.Test.YtemlaompalbgiaaGreatDoorQt
set_option linter.unusedVariables false
set_option linter.unusedSimpArgs false
set_option maxRecDepth 100000
namespace Go.Proofs.YtemlaompalbgiaaGreatDoor
open Go Go.RowKit
def tickE (t : Int) : Int := if t < 0 ∨ 1024 < t then 2 else 0
noncomputable def sp_xtick : Spec := { q := .un, ps := [.it .i64], rs := [.it .i64], fresh := true, pre := fun _ _ => none, post := fun _ x => ((), (tickE x.1, ())) }
noncomputable def iv_xtick (y : El sp_xtick.q) (x : Els sp_xtick.ps) : Nat → Option Inv := fun _ => none
noncomputable abbrev c_xtick : Cfg := cfgS (Tryz.f85).ntmps false []
def F_xtick (y : El sp_xtick.q) (x : Els sp_xtick.ps) : Prop :=
  (decide (x.1 < (0 : Int)) = true → ((2 : Int), ()) = (tickE x.1, ())) ∧ (decide (x.1 < (0 : Int)) = false → (decide (x.1 > (1024 : Int)) = true → ((2 : Int), ()) = (tickE x.1, ())) ∧ (decide (x.1 > (1024 : Int)) = false → ((0 : Int), ()) = (tickE x.1, ())))
theorem w_xtick (y : El sp_xtick.q) (x : Els sp_xtick.ps) : aW c_xtick (iv_xtick y x) Tryz.f85 sp_xtick y x = F_xtick y x := by kernel_rfl
theorem m_xtick (y : El (.un)) (x : Els [.it .i64]) (h2 : wfE (.un) y) (h3 : wfEs [.it .i64] x) : F_xtick y x := by
  unfold F_xtick
  unfold tickE
  refine ⟨fun h => ?_, fun h => ⟨fun k => ?_, fun k => ?_⟩⟩
  · rw [if_pos (.inl (ltT h))]
  · rw [if_pos (.inr (gtT k))]
  · have h := ltF h
    have k := gtF k
    rw [if_neg (by omega)]
theorem fo_xtick : FnOk Tryz.prog 85 sp_xtick := fnOk_of (C := c_xtick) iv_xtick Tryz.func85 rfl (by kernel_rfl) tys_ok prims_nil mixed_ (Nat.le_refl _) rfl fun y x h1 h2 h3 h4 =>
  Eq.mpr (w_xtick y x) (m_xtick y x h2 h3)
def numE (c : El tTide) (t : Int) : Ga × Int := if (powR c.2.1 t).2.1 ≠ 0 then (Ga.zero, (powR c.2.1 t).2.1) else gmul (toGa c.2.2.1) (toGa (powR c.2.1 t).1)
noncomputable def sp_xnumber : Spec := { q := .un, ps := [tTide, .it .i64], rs := [tG, .it .i64], fresh := true, pre := fun _ _ => none, post := fun _ x => pG (numE x.1 x.2.1) }
noncomputable def iv_xnumber (y : El sp_xnumber.q) (x : Els sp_xnumber.ps) : Nat → Option Inv := fun _ => none
noncomputable abbrev c_xnumber : Cfg := cfgS (Tryz.f86).ntmps false [(107, sp_rPow.prim), (108, sp_gMul.prim)]
def F_xnumber (y : El sp_xnumber.q) (x : Els sp_xnumber.ps) : Prop :=
  ∀ (r : Ro [tG, Ty.it IntKind.i64]), r = ((), powR x.1.2.1 x.2.1) → ((r.2.2.1 != (0 : Int)) = true → (((false, [], [], ()), (false, [], [], ()), ()), r.2.2) = (pG (numE x.1 x.2.1)).2) ∧ ((r.2.2.1 != (0 : Int)) = false → ∀ (r_1 : Ro [tG, Ty.it IntKind.i64]), r_1 = pG (gmul (toGa x.1.2.2.1) (toGa r.2.1)) → r_1.2 = (pG (numE x.1 x.2.1)).2)
theorem w_xnumber (y : El sp_xnumber.q) (x : Els sp_xnumber.ps) : aW c_xnumber (iv_xnumber y x) Tryz.f86 sp_xnumber y x = F_xnumber y x := by kernel_rfl
theorem m_xnumber (y : El (.un)) (x : Els [tTide, .it .i64]) (h2 : wfE (.un) y) (h3 : wfEs [tTide, .it .i64] x) : F_xnumber y x := by
  unfold F_xnumber
  rintro _ rfl
  refine ⟨fun h => ?_, fun h => ?_⟩
  · unfold numE
    rw [if_pos (neT h)]
    rfl
  · rintro _ rfl
    unfold numE
    rw [if_neg (fun c => c (neF h))]
theorem fo_xnumber : FnOk Tryz.prog 86 sp_xnumber := fnOk_of (C := c_xnumber) iv_xnumber Tryz.func86 rfl (by kernel_rfl) tys_ok (prims_cons (spec_prim fo_rPow) (prims_cons (spec_prim fo_gMul) prims_nil)) mixed_ (Nat.le_refl _) rfl fun y x h1 h2 h3 h4 =>
  Eq.mpr (w_xnumber y x) (m_xnumber y x h2 h3)
def numberE (c : El tTide) (t : Int) : Ga × Int := if tchk c ≠ 0 then (Ga.zero, tchk c) else if tickE t ≠ 0 then (Ga.zero, tickE t) else numE c t
noncomputable def sp_xNumber : Spec := { q := .un, ps := [tTide, .it .i64], rs := [tG, .it .i64], fresh := true, pre := fun _ _ => none, post := fun _ x => pG (numberE x.1 x.2.1) }
noncomputable def iv_xNumber (y : El sp_xNumber.q) (x : Els sp_xNumber.ps) : Nat → Option Inv := fun _ => none
noncomputable abbrev c_xNumber : Cfg := cfgS (Tryz.f14).ntmps false [(47, sp_tCk.prim), (85, sp_xtick.prim), (86, sp_xnumber.prim)]
def F_xNumber (y : El sp_xNumber.q) (x : Els sp_xNumber.ps) : Prop :=
  ∀ (r : Ro [Ty.it IntKind.i64]), r = ((), tchk x.1, ()) → ((r.2.1 != (0 : Int)) = true → (((false, [], [], ()), (false, [], [], ()), ()), r.2) = (pG (numberE x.1 x.2.1)).2) ∧ ((r.2.1 != (0 : Int)) = false → ∀ (r : Ro [Ty.it IntKind.i64]), r = ((), tickE x.2.1, ()) → ((r.2.1 != (0 : Int)) = true → (((false, [], [], ()), (false, [], [], ()), ()), r.2) = (pG (numberE x.1 x.2.1)).2) ∧ ((r.2.1 != (0 : Int)) = false → ∀ (r : Ro [tG, Ty.it IntKind.i64]), r = pG (numE x.1 x.2.1) → r.2 = (pG (numberE x.1 x.2.1)).2))
theorem w_xNumber (y : El sp_xNumber.q) (x : Els sp_xNumber.ps) : aW c_xNumber (iv_xNumber y x) Tryz.f14 sp_xNumber y x = F_xNumber y x := by kernel_rfl
theorem m_xNumber (y : El (.un)) (x : Els [tTide, .it .i64]) (h2 : wfE (.un) y) (h3 : wfEs [tTide, .it .i64] x) : F_xNumber y x := by
  unfold F_xNumber
  rintro _ rfl
  unfold numberE
  refine ⟨fun h => ?_, fun h => ?_⟩
  · rw [if_pos (neT h)]
    rfl
  · rw [if_neg (fun c => c (neF h))]
    rintro _ rfl
    refine ⟨fun k => ?_, fun k => ?_⟩
    · rw [if_pos (neT k)]
      rfl
    · rintro _ rfl
      rw [if_neg (fun c => c (neF k))]
theorem fo_xNumber : FnOk Tryz.prog 14 sp_xNumber := fnOk_of (C := c_xNumber) iv_xNumber Tryz.func14 rfl (by kernel_rfl) tys_ok (prims_cons (spec_prim fo_tCk) (prims_cons (spec_prim fo_xtick) (prims_cons (spec_prim fo_xnumber) prims_nil))) mixed_ (Nat.le_refl _) rfl fun y x h1 h2 h3 h4 =>
  Eq.mpr (w_xNumber y x) (m_xNumber y x h2 h3)
def wrongE (p : El tPort) (t : Int) : Int := if (portI p).1 ≠ 0 then (portI p).1 else tickE t
noncomputable def sp_xwrong : Spec := { q := .un, ps := [tPort, .it .i64], rs := [.it .i64], fresh := true, pre := fun _ _ => none, post := fun _ x => ((), (wrongE x.1 x.2.1, ())) }
noncomputable def iv_xwrong (y : El sp_xwrong.q) (x : Els sp_xwrong.ps) : Nat → Option Inv := fun _ => none
noncomputable abbrev c_xwrong : Cfg := cfgS (Tryz.f90).ntmps false [(71, sp_pCheck.prim), (85, sp_xtick.prim)]
def F_xwrong (y : El sp_xwrong.q) (x : Els sp_xwrong.ps) : Prop :=
  ∀ (r : Ro [tFault]), r = ((), portR x.1, ()) → ((r.2.1.1 != (0 : Int)) = true → (r.2.1.1, ()) = (wrongE x.1 x.2.1, ())) ∧ ((r.2.1.1 != (0 : Int)) = false → ∀ (r : Ro [Ty.it IntKind.i64]), r = ((), tickE x.2.1, ()) → r.2 = (wrongE x.1 x.2.1, ()))
theorem w_xwrong (y : El sp_xwrong.q) (x : Els sp_xwrong.ps) : aW c_xwrong (iv_xwrong y x) Tryz.f90 sp_xwrong y x = F_xwrong y x := by kernel_rfl
theorem m_xwrong (y : El (.un)) (x : Els [tPort, .it .i64]) (h2 : wfE (.un) y) (h3 : wfEs [tPort, .it .i64] x) : F_xwrong y x := by
  unfold F_xwrong
  rintro _ rfl
  unfold wrongE
  refine ⟨fun h => ?_, fun h => ?_⟩
  · have h : (portI x.1).1 ≠ 0 := neT h
    rw [if_pos h]
    rfl
  · have h : (portI x.1).1 = 0 := neF h
    rw [if_neg (fun c => c h)]
    rintro _ rfl
    rfl
theorem fo_xwrong : FnOk Tryz.prog 90 sp_xwrong := fnOk_of (C := c_xwrong) iv_xwrong Tryz.func90 rfl (by kernel_rfl) tys_ok (prims_cons (spec_prim fo_pCheck) (prims_cons (spec_prim fo_xtick) prims_nil)) mixed_ (Nat.le_refl _) rfl fun y x h1 h2 h3 h4 =>
  Eq.mpr (w_xwrong y x) (m_xwrong y x h2 h3)
def one0 : Fr := ⟨false, [], [1]⟩
def hgtS (s : Fr × Int) (l : List (El tTide)) (t : Int) : Nat → Fr × Int
  | 0 => s
  | i + 1 => if (hgtS s l t i).2 ≠ 0 then hgtS s l t i else if (numE (tdAt l i) t).2 ≠ 0 then ((hgtS s l t i).1, (numE (tdAt l i) t).2) else fadd (hgtS s l t i).1 (numE (tdAt l i) t).1.re
def endR (s : Fr × Int) : Fr × Int := if s.2 ≠ 0 then (Fr.zero, s.2) else s
def atE (p : El tPort) (t : Int) : Fr × Int := endR (hgtS (fadd (toFr p.2.1) one0) p.2.2.1 t p.2.2.1.length)
section
variable {s : Fr × Int} {l : List (El tTide)} {t : Int} {i : Nat}
theorem hg_stay (h : (hgtS s l t i).2 ≠ 0) : ∀ k, hgtS s l t (i + k) = hgtS s l t i
  | 0 => rfl
  | k + 1 => by
    have ih := hg_stay h k
    show (if (hgtS s l t (i + k)).2 ≠ 0 then hgtS s l t (i + k) else _) = _
    rw [ih, if_pos h]
theorem hg_bad (h : (hgtS s l t i).2 = 0) (k : (numE (tdAt l i) t).2 ≠ 0) : hgtS s l t (i + 1) = ((hgtS s l t i).1, (numE (tdAt l i) t).2) := (if_neg (fun c => c h)).trans (if_pos k)
theorem hg_add (h : (hgtS s l t i).2 = 0) (k : (numE (tdAt l i) t).2 = 0) : hgtS s l t (i + 1) = fadd (hgtS s l t i).1 (numE (tdAt l i) t).1.re := (if_neg (fun c => c h)).trans (if_neg (fun c => c k))
theorem hg_err {n : Nat} (h : (hgtS s l t i).2 ≠ 0) (hi : i ≤ n) : endR (hgtS s l t n) = (Fr.zero, (hgtS s l t i).2) := by
  have e := hg_stay h (n - i)
  rw [show i + (n - i) = n by omega] at e
  unfold endR
  rw [e, if_pos h]
theorem endR_ok {s : Fr × Int} (h : s.2 = 0) : endR s = s := if_neg (fun c => c h)
end
noncomputable def sp_xat : Spec := { q := .un, ps := [tPort, .it .i64], rs := [tR, .it .i64], fresh := true, pre := fun _ _ => none, post := fun _ x => pR (atE x.1 x.2.1) }
noncomputable def iv_xat (y : El sp_xat.q) (x : Els sp_xat.ps) : Nat → Option Inv := fun k => if k = 0 then some { X := Nat, tm := fun i => [(1, .c (.sc (.int .i64 x.2.1))), (2, .c (.pv 1 0)), (4, .c (.pv 2 0)), (6, .c (.pv 3 0)), (7, .c (.sc (.int .i64 (hgtS (fadd (toFr x.1.2.1) one0) x.1.2.2.1 x.2.1 i).2))), (8, .c (.sc (.int .i64 i)))], ob := fun i => [(1, .var (cel tPort x.1)), (2, .var (zer tR)), (3, .var [.sc (.bool (hgtS (fadd (toFr x.1.2.1) one0) x.1.2.2.1 x.2.1 i).1.neg), .ow 4, .ow 5]), (4, .ty 91 (.it .u32) (hgtS (fadd (toFr x.1.2.1) one0) x.1.2.2.1 x.2.1 i).1.num 0), (5, .ty 91 (.it .u32) (hgtS (fadd (toFr x.1.2.1) one0) x.1.2.2.1 x.2.1 i).1.den 0)], n := 6, I := fun i => i ≤ x.1.2.2.1.length, μ := fun i => x.1.2.2.1.length - i } else none
noncomputable abbrev c_xat : Cfg := cfgS (Tryz.f88).ntmps false [(64, sp_rAdd.prim), (86, sp_xnumber.prim)]
def F_xat (y : El sp_xat.q) (x : Els sp_xat.ps) : Prop :=
  ∀ (r : Ro [tR, Ty.it IntKind.i64]), r = pR (fadd (toFr x.1.2.1) (toFr (false, [], [(1 : Int)], ()))) → (∃ (x_1 : Nat), x.2.1 = x.2.1 ∧ (hgtS (fadd (toFr x.1.2.1) one0) x.1.2.2.1 x.2.1 x_1).2 = r.2.2.1 ∧ (↑x_1 : Int) = (0 : Int) ∧ x.1.1 = x.1.1 ∧ x.1.2.1.1 = x.1.2.1.1 ∧ x.1.2.1.2.1 = x.1.2.1.2.1 ∧ x.1.2.1.2.2.1 = x.1.2.1.2.2.1 ∧ x.1.2.2.1 = x.1.2.2.1 ∧ (hgtS (fadd (toFr x.1.2.1) one0) x.1.2.2.1 x.2.1 x_1).1.neg = r.2.1.1 ∧ (hgtS (fadd (toFr x.1.2.1) one0) x.1.2.2.1 x.2.1 x_1).1.num = r.2.1.2.1 ∧ (hgtS (fadd (toFr x.1.2.1) one0) x.1.2.2.1 x.2.1 x_1).1.den = r.2.1.2.2.1 ∧ x_1.le (List.length x.1.2.2.1)) ∧ ∀ (x_1 : Nat), x_1.le (List.length x.1.2.2.1) → (decide ((↑x_1 : Int) < (x.1.2.2.1.length : Int)) = true → (((hgtS (fadd (toFr x.1.2.1) one0) x.1.2.2.1 x.2.1 x_1).2 == (0 : Int)) = true → ((0 : Int) ≤ (↑x_1 : Int) ∧ (↑x_1 : Int) < (x.1.2.2.1.length : Int)) ∧ ∀ (r : Ro [tG, Ty.it IntKind.i64]), r = pG (numE (List.getD x.1.2.2.1 (↑x_1 : Int).toNat (dfl tTide)) x.2.1) → ((r.2.2.1 == (0 : Int)) = true → ∀ (r_1 : Ro [tR, Ty.it IntKind.i64]), r_1 = pR (fadd (toFr ((hgtS (fadd (toFr x.1.2.1) one0) x.1.2.2.1 x.2.1 x_1).1.neg, (hgtS (fadd (toFr x.1.2.1) one0) x.1.2.2.1 x.2.1 x_1).1.num, (hgtS (fadd (toFr x.1.2.1) one0) x.1.2.2.1 x.2.1 x_1).1.den, ())) (toFr r.2.1.1)) → ((-9223372036854775808 : Int) ≤ (↑x_1 : Int) + (1 : Int) ∧ (↑x_1 : Int) + (1 : Int) ≤ (9223372036854775807 : Int)) ∧ ∃ (x' : Nat), x.2.1 = x.2.1 ∧ (hgtS (fadd (toFr x.1.2.1) one0) x.1.2.2.1 x.2.1 x').2 = r_1.2.2.1 ∧ (↑x' : Int) = (↑x_1 : Int) + (1 : Int) ∧ x.1.1 = x.1.1 ∧ x.1.2.1.1 = x.1.2.1.1 ∧ x.1.2.1.2.1 = x.1.2.1.2.1 ∧ x.1.2.1.2.2.1 = x.1.2.1.2.2.1 ∧ x.1.2.2.1 = x.1.2.2.1 ∧ (hgtS (fadd (toFr x.1.2.1) one0) x.1.2.2.1 x.2.1 x').1.neg = r_1.2.1.1 ∧ (hgtS (fadd (toFr x.1.2.1) one0) x.1.2.2.1 x.2.1 x').1.num = r_1.2.1.2.1 ∧ (hgtS (fadd (toFr x.1.2.1) one0) x.1.2.2.1 x.2.1 x').1.den = r_1.2.1.2.2.1 ∧ x'.le (List.length x.1.2.2.1) ∧ List.length x.1.2.2.1 - x' < List.length x.1.2.2.1 - x_1) ∧ ((r.2.2.1 == (0 : Int)) = false → ((-9223372036854775808 : Int) ≤ (↑x_1 : Int) + (1 : Int) ∧ (↑x_1 : Int) + (1 : Int) ≤ (9223372036854775807 : Int)) ∧ ∃ (x' : Nat), x.2.1 = x.2.1 ∧ (hgtS (fadd (toFr x.1.2.1) one0) x.1.2.2.1 x.2.1 x').2 = r.2.2.1 ∧ (↑x' : Int) = (↑x_1 : Int) + (1 : Int) ∧ x.1.1 = x.1.1 ∧ x.1.2.1.1 = x.1.2.1.1 ∧ x.1.2.1.2.1 = x.1.2.1.2.1 ∧ x.1.2.1.2.2.1 = x.1.2.1.2.2.1 ∧ x.1.2.2.1 = x.1.2.2.1 ∧ (hgtS (fadd (toFr x.1.2.1) one0) x.1.2.2.1 x.2.1 x').1.neg = (hgtS (fadd (toFr x.1.2.1) one0) x.1.2.2.1 x.2.1 x_1).1.neg ∧ (hgtS (fadd (toFr x.1.2.1) one0) x.1.2.2.1 x.2.1 x').1.num = (hgtS (fadd (toFr x.1.2.1) one0) x.1.2.2.1 x.2.1 x_1).1.num ∧ (hgtS (fadd (toFr x.1.2.1) one0) x.1.2.2.1 x.2.1 x').1.den = (hgtS (fadd (toFr x.1.2.1) one0) x.1.2.2.1 x.2.1 x_1).1.den ∧ x'.le (List.length x.1.2.2.1) ∧ List.length x.1.2.2.1 - x' < List.length x.1.2.2.1 - x_1)) ∧ (((hgtS (fadd (toFr x.1.2.1) one0) x.1.2.2.1 x.2.1 x_1).2 == (0 : Int)) = false → (((hgtS (fadd (toFr x.1.2.1) one0) x.1.2.2.1 x.2.1 x_1).2 != (0 : Int)) = true → ((false, [], [], ()), (hgtS (fadd (toFr x.1.2.1) one0) x.1.2.2.1 x.2.1 x_1).2, ()) = (pR (atE x.1 x.2.1)).2) ∧ (((hgtS (fadd (toFr x.1.2.1) one0) x.1.2.2.1 x.2.1 x_1).2 != (0 : Int)) = false → (((hgtS (fadd (toFr x.1.2.1) one0) x.1.2.2.1 x.2.1 x_1).1.neg, (hgtS (fadd (toFr x.1.2.1) one0) x.1.2.2.1 x.2.1 x_1).1.num, (hgtS (fadd (toFr x.1.2.1) one0) x.1.2.2.1 x.2.1 x_1).1.den, ()), (0 : Int), ()) = (pR (atE x.1 x.2.1)).2))) ∧ (decide ((↑x_1 : Int) < (x.1.2.2.1.length : Int)) = false → (((hgtS (fadd (toFr x.1.2.1) one0) x.1.2.2.1 x.2.1 x_1).2 != (0 : Int)) = true → ((false, [], [], ()), (hgtS (fadd (toFr x.1.2.1) one0) x.1.2.2.1 x.2.1 x_1).2, ()) = (pR (atE x.1 x.2.1)).2) ∧ (((hgtS (fadd (toFr x.1.2.1) one0) x.1.2.2.1 x.2.1 x_1).2 != (0 : Int)) = false → (((hgtS (fadd (toFr x.1.2.1) one0) x.1.2.2.1 x.2.1 x_1).1.neg, (hgtS (fadd (toFr x.1.2.1) one0) x.1.2.2.1 x.2.1 x_1).1.num, (hgtS (fadd (toFr x.1.2.1) one0) x.1.2.2.1 x.2.1 x_1).1.den, ()), (0 : Int), ()) = (pR (atE x.1 x.2.1)).2))
theorem w_xat (y : El sp_xat.q) (x : Els sp_xat.ps) : aW c_xat (iv_xat y x) Tryz.f88 sp_xat y x = F_xat y x := by kernel_rfl
theorem m_xat (y : El (.un)) (x : Els [tPort, .it .i64]) (h2 : wfE (.un) y) (h3 : wfEs [tPort, .it .i64] x) : F_xat y x := by
  unfold F_xat
  rintro _ rfl
  refine ⟨⟨0, rfl, rfl, rfl, rfl, rfl, rfl, rfl, rfl, rfl, rfl, rfl, Nat.zero_le _⟩, fun i hi => ⟨fun l => ⟨fun h => ?_, fun h => ?_⟩, fun l => ?_⟩⟩
  · have hi : i ≤ x.1.2.2.1.length := hi
    have l := ltT l
    have il : i + 1 ≤ x.1.2.2.1.length := by omega
    have hL : x.1.2.2.1.length ≤ 9223372036854775807 := h3.1.2.2.1.1
    have h := eqT h
    refine ⟨⟨by omega, l⟩, ?_⟩
    rintro _ rfl
    refine ⟨fun k => ?_, fun k => ?_⟩
    · rintro _ rfl
      have e := hg_add h (eqT k)
      refine ⟨by omega, i + 1, rfl, ?_⟩
      and_intros
      all_goals first | rfl | exact il | (rw [e] <;> rfl) | omega
    · have e := hg_bad h (eqF k)
      refine ⟨by omega, i + 1, rfl, ?_⟩
      and_intros
      all_goals first | rfl | exact il | (rw [e] <;> rfl) | omega
  · refine ⟨fun k => ?_, fun k => absurd (neF k) (eqF h)⟩
    have e : atE x.1 x.2.1 = _ := hg_err (eqF h) hi
    rw [e]
    rfl
  · have hi : i ≤ x.1.2.2.1.length := hi
    have l := ltF l
    have ei : i = x.1.2.2.1.length := by omega
    refine ⟨fun k => ?_, fun k => ?_⟩
    · have e : atE x.1 x.2.1 = _ := hg_err (neT k) hi
      rw [e]
      rfl
    · have k := neF k
      have e : atE x.1 x.2.1 = _ := endR_ok (ei ▸ k)
      rw [e, ← ei]
      rw [show (pR (hgtS (fadd (toFr x.1.2.1) one0) x.1.2.2.1 x.2.1 i)).2 = (ofFr (hgtS (fadd (toFr x.1.2.1) one0) x.1.2.2.1 x.2.1 i).1, (hgtS (fadd (toFr x.1.2.1) one0) x.1.2.2.1 x.2.1 i).2, ()) from rfl, k]
theorem fo_xat : FnOk Tryz.prog 88 sp_xat := fnOk_of (C := c_xat) iv_xat Tryz.func88 rfl (by kernel_rfl) tys_ok (prims_cons (spec_prim fo_rAdd) (prims_cons (spec_prim fo_xnumber) prims_nil)) mixed_ (Nat.le_refl _) rfl fun y x h1 h2 h3 h4 =>
  Eq.mpr (w_xat y x) (m_xat y x h2 h3)
def AtE (p : El tPort) (t : Int) : Fr × Int := if wrongE p t ≠ 0 then (Fr.zero, wrongE p t) else atE p t
noncomputable def sp_xAt : Spec := { q := .un, ps := [tPort, .it .i64], rs := [tR, .it .i64], fresh := true, pre := fun _ _ => none, post := fun _ x => pR (AtE x.1 x.2.1) }
noncomputable def iv_xAt (y : El sp_xAt.q) (x : Els sp_xAt.ps) : Nat → Option Inv := fun _ => none
noncomputable abbrev c_xAt : Cfg := cfgS (Tryz.f18).ntmps false [(90, sp_xwrong.prim), (88, sp_xat.prim)]
def F_xAt (y : El sp_xAt.q) (x : Els sp_xAt.ps) : Prop :=
  ∀ (r : Ro [Ty.it IntKind.i64]), r = ((), wrongE x.1 x.2.1, ()) → ((r.2.1 != (0 : Int)) = true → ((false, [], [], ()), r.2) = (pR (AtE x.1 x.2.1)).2) ∧ ((r.2.1 != (0 : Int)) = false → ∀ (r : Ro [tR, Ty.it IntKind.i64]), r = pR (atE x.1 x.2.1) → r.2 = (pR (AtE x.1 x.2.1)).2)
theorem w_xAt (y : El sp_xAt.q) (x : Els sp_xAt.ps) : aW c_xAt (iv_xAt y x) Tryz.f18 sp_xAt y x = F_xAt y x := by kernel_rfl
theorem m_xAt (y : El (.un)) (x : Els [tPort, .it .i64]) (h2 : wfE (.un) y) (h3 : wfEs [tPort, .it .i64] x) : F_xAt y x := by
  unfold F_xAt
  rintro _ rfl
  unfold AtE
  refine ⟨fun h => ?_, fun h => ?_⟩
  · rw [if_pos (neT h)]
    rfl
  · rw [if_neg (fun c => c (neF h))]
    rintro _ rfl
    rfl
theorem fo_xAt : FnOk Tryz.prog 18 sp_xAt := fnOk_of (C := c_xAt) iv_xAt Tryz.func18 rfl (by kernel_rfl) tys_ok (prims_cons (spec_prim fo_xwrong) (prims_cons (spec_prim fo_xat) prims_nil)) mixed_ (Nat.le_refl _) rfl fun y x h1 h2 h3 h4 =>
  Eq.mpr (w_xAt y x) (m_xAt y x h2 h3)
def sumS (l : List (El tTide)) (t : Int) : Nat → Ga × Int
  | 0 => (gint 0 0, 0)
  | i + 1 => if (sumS l t i).2 ≠ 0 then sumS l t i else if (numE (tdAt l i) t).2 ≠ 0 then (Ga.zero, (numE (tdAt l i) t).2) else gadd (sumS l t i).1 (numE (tdAt l i) t).1
def SumE (p : El tPort) (t : Int) : Ga × Int := if wrongE p t ≠ 0 then (Ga.zero, wrongE p t) else sumS p.2.2.1 t p.2.2.1.length
section
variable {l : List (El tTide)} {t : Int} {i : Nat}
theorem su_stay (h : (sumS l t i).2 ≠ 0) : ∀ k, sumS l t (i + k) = sumS l t i
  | 0 => rfl
  | k + 1 => by
    have ih := su_stay h k
    show (if (sumS l t (i + k)).2 ≠ 0 then sumS l t (i + k) else _) = _
    rw [ih, if_pos h]
theorem su_bad (h : (sumS l t i).2 = 0) (k : (numE (tdAt l i) t).2 ≠ 0) : sumS l t (i + 1) = (Ga.zero, (numE (tdAt l i) t).2) := (if_neg (fun c => c h)).trans (if_pos k)
theorem su_add (h : (sumS l t i).2 = 0) (k : (numE (tdAt l i) t).2 = 0) : sumS l t (i + 1) = gadd (sumS l t i).1 (numE (tdAt l i) t).1 := (if_neg (fun c => c h)).trans (if_neg (fun c => c k))
theorem su_err {n : Nat} (h : (sumS l t (i + 1)).2 ≠ 0) (hi : i + 1 ≤ n) : sumS l t n = sumS l t (i + 1) := by
  have e := su_stay h (n - (i + 1))
  rw [show i + 1 + (n - (i + 1)) = n by omega] at e
  exact e
theorem gadd_bad {a b : Ga} (h : (gadd a b).2 ≠ 0) : gadd a b = (Ga.zero, (gadd a b).2) := by
  simp only [gadd, gtell] at h ⊢
  split at h
  · rename_i k
    rw [if_pos k]
  · rename_i k
    exact absurd rfl (h)
end
noncomputable def sp_xSum : Spec := { q := .un, ps := [tPort, .it .i64], rs := [tG, .it .i64], fresh := true, pre := fun _ _ => none, post := fun _ x => pG (SumE x.1 x.2.1) }
noncomputable def iv_xSum (y : El sp_xSum.q) (x : Els sp_xSum.ps) : Nat → Option Inv := fun k => if k = 0 then some { X := Nat, tm := fun i => [(1, .c (.sc (.int .i64 x.2.1))), (2, .c (.pv 1 0)), (4, .c (.pv 2 0)), (7, .c (.pv 3 0)), (21, .c (.sl tTide x.1.2.2.1)), (22, .c (.sc (.int .i64 x.1.2.2.1.length))), (23, .c (.sc (.int .i64 i)))], ob := fun i => [(1, .var (cel tPort x.1)), (2, .var (zer tG)), (3, .var [.sc (.bool (sumS x.1.2.2.1 x.2.1 i).1.re.neg), .ow 4, .ow 5, .sc (.bool (sumS x.1.2.2.1 x.2.1 i).1.im.neg), .ow 6, .ow 7]), (4, .ty 91 (.it .u32) (sumS x.1.2.2.1 x.2.1 i).1.re.num 0), (5, .ty 91 (.it .u32) (sumS x.1.2.2.1 x.2.1 i).1.re.den 0), (6, .ty 91 (.it .u32) (sumS x.1.2.2.1 x.2.1 i).1.im.num 0), (7, .ty 91 (.it .u32) (sumS x.1.2.2.1 x.2.1 i).1.im.den 0)], n := 8, I := fun i => i ≤ x.1.2.2.1.length ∧ (sumS x.1.2.2.1 x.2.1 i).2 = 0, μ := fun i => x.1.2.2.1.length - i } else none
noncomputable abbrev c_xSum : Cfg := cfgS (Tryz.f92).ntmps false [(90, sp_xwrong.prim), (40, sp_gInt.prim), (86, sp_xnumber.prim), (105, sp_gAdd.prim)]
def F_xSum (y : El sp_xSum.q) (x : Els sp_xSum.ps) : Prop :=
  ∀ (r : Ro [Ty.it IntKind.i64]), r = ((), wrongE x.1 x.2.1, ()) → ((r.2.1 != (0 : Int)) = true → (((false, [], [], ()), (false, [], [], ()), ()), r.2) = (pG (SumE x.1 x.2.1)).2) ∧ ((r.2.1 != (0 : Int)) = false → ∀ (r : Ro [tG]), r = ((), ofGa { re := (fsmall (0 : Int) (1 : Int)).1, im := (fsmall (0 : Int) (1 : Int)).1 }, ()) → (∃ (x_1 : Nat), x.2.1 = x.2.1 ∧ x.1.2.2.1 = x.1.2.2.1 ∧ (x.1.2.2.1.length : Int) = (x.1.2.2.1.length : Int) ∧ (↑x_1 : Int) = (0 : Int) ∧ x.1.1 = x.1.1 ∧ x.1.2.1.1 = x.1.2.1.1 ∧ x.1.2.1.2.1 = x.1.2.1.2.1 ∧ x.1.2.1.2.2.1 = x.1.2.1.2.2.1 ∧ x.1.2.2.1 = x.1.2.2.1 ∧ (sumS x.1.2.2.1 x.2.1 x_1).1.re.neg = r.2.1.1.1 ∧ (sumS x.1.2.2.1 x.2.1 x_1).1.im.neg = r.2.1.2.1.1 ∧ (sumS x.1.2.2.1 x.2.1 x_1).1.re.num = r.2.1.1.2.1 ∧ (sumS x.1.2.2.1 x.2.1 x_1).1.re.den = r.2.1.1.2.2.1 ∧ (sumS x.1.2.2.1 x.2.1 x_1).1.im.num = r.2.1.2.1.2.1 ∧ (sumS x.1.2.2.1 x.2.1 x_1).1.im.den = r.2.1.2.1.2.2.1 ∧ x_1 ≤ List.length x.1.2.2.1 ∧ (sumS x.1.2.2.1 x.2.1 x_1).2 = (0 : Int)) ∧ ∀ (x_1 : Nat), x_1 ≤ List.length x.1.2.2.1 ∧ (sumS x.1.2.2.1 x.2.1 x_1).2 = (0 : Int) → (decide ((↑x_1 : Int) < (x.1.2.2.1.length : Int)) = true → ((0 : Int) ≤ (↑x_1 : Int) ∧ (↑x_1 : Int) < (x.1.2.2.1.length : Int)) ∧ ∀ (r : Ro [tG, Ty.it IntKind.i64]), r = pG (numE (List.getD x.1.2.2.1 (↑x_1 : Int).toNat (dfl tTide)) x.2.1) → ((r.2.2.1 == (0 : Int)) = true → ∀ (r_1 : Ro [tG, Ty.it IntKind.i64]), r_1 = pG (gadd (toGa (((sumS x.1.2.2.1 x.2.1 x_1).1.re.neg, (sumS x.1.2.2.1 x.2.1 x_1).1.re.num, (sumS x.1.2.2.1 x.2.1 x_1).1.re.den, ()), ((sumS x.1.2.2.1 x.2.1 x_1).1.im.neg, (sumS x.1.2.2.1 x.2.1 x_1).1.im.num, (sumS x.1.2.2.1 x.2.1 x_1).1.im.den, ()), ())) (toGa r.2.1)) → ((r_1.2.2.1 != (0 : Int)) = true → (((false, [], [], ()), (false, [], [], ()), ()), r_1.2.2) = (pG (SumE x.1 x.2.1)).2) ∧ ((r_1.2.2.1 != (0 : Int)) = false → ((-9223372036854775808 : Int) ≤ (↑x_1 : Int) + (1 : Int) ∧ (↑x_1 : Int) + (1 : Int) ≤ (9223372036854775807 : Int)) ∧ ∃ (x' : Nat), x.2.1 = x.2.1 ∧ x.1.2.2.1 = x.1.2.2.1 ∧ (x.1.2.2.1.length : Int) = (x.1.2.2.1.length : Int) ∧ (↑x' : Int) = (↑x_1 : Int) + (1 : Int) ∧ x.1.1 = x.1.1 ∧ x.1.2.1.1 = x.1.2.1.1 ∧ x.1.2.1.2.1 = x.1.2.1.2.1 ∧ x.1.2.1.2.2.1 = x.1.2.1.2.2.1 ∧ x.1.2.2.1 = x.1.2.2.1 ∧ (sumS x.1.2.2.1 x.2.1 x').1.re.neg = r_1.2.1.1.1 ∧ (sumS x.1.2.2.1 x.2.1 x').1.im.neg = r_1.2.1.2.1.1 ∧ (sumS x.1.2.2.1 x.2.1 x').1.re.num = r_1.2.1.1.2.1 ∧ (sumS x.1.2.2.1 x.2.1 x').1.re.den = r_1.2.1.1.2.2.1 ∧ (sumS x.1.2.2.1 x.2.1 x').1.im.num = r_1.2.1.2.1.2.1 ∧ (sumS x.1.2.2.1 x.2.1 x').1.im.den = r_1.2.1.2.1.2.2.1 ∧ (x' ≤ List.length x.1.2.2.1 ∧ (sumS x.1.2.2.1 x.2.1 x').2 = (0 : Int)) ∧ List.length x.1.2.2.1 - x' < List.length x.1.2.2.1 - x_1)) ∧ ((r.2.2.1 == (0 : Int)) = false → ((r.2.2.1 != (0 : Int)) = true → (((false, [], [], ()), (false, [], [], ()), ()), r.2.2) = (pG (SumE x.1 x.2.1)).2) ∧ ((r.2.2.1 != (0 : Int)) = false → ((-9223372036854775808 : Int) ≤ (↑x_1 : Int) + (1 : Int) ∧ (↑x_1 : Int) + (1 : Int) ≤ (9223372036854775807 : Int)) ∧ ∃ (x' : Nat), x.2.1 = x.2.1 ∧ x.1.2.2.1 = x.1.2.2.1 ∧ (x.1.2.2.1.length : Int) = (x.1.2.2.1.length : Int) ∧ (↑x' : Int) = (↑x_1 : Int) + (1 : Int) ∧ x.1.1 = x.1.1 ∧ x.1.2.1.1 = x.1.2.1.1 ∧ x.1.2.1.2.1 = x.1.2.1.2.1 ∧ x.1.2.1.2.2.1 = x.1.2.1.2.2.1 ∧ x.1.2.2.1 = x.1.2.2.1 ∧ (sumS x.1.2.2.1 x.2.1 x').1.re.neg = (sumS x.1.2.2.1 x.2.1 x_1).1.re.neg ∧ (sumS x.1.2.2.1 x.2.1 x').1.im.neg = (sumS x.1.2.2.1 x.2.1 x_1).1.im.neg ∧ (sumS x.1.2.2.1 x.2.1 x').1.re.num = (sumS x.1.2.2.1 x.2.1 x_1).1.re.num ∧ (sumS x.1.2.2.1 x.2.1 x').1.re.den = (sumS x.1.2.2.1 x.2.1 x_1).1.re.den ∧ (sumS x.1.2.2.1 x.2.1 x').1.im.num = (sumS x.1.2.2.1 x.2.1 x_1).1.im.num ∧ (sumS x.1.2.2.1 x.2.1 x').1.im.den = (sumS x.1.2.2.1 x.2.1 x_1).1.im.den ∧ (x' ≤ List.length x.1.2.2.1 ∧ (sumS x.1.2.2.1 x.2.1 x').2 = (0 : Int)) ∧ List.length x.1.2.2.1 - x' < List.length x.1.2.2.1 - x_1))) ∧ (decide ((↑x_1 : Int) < (x.1.2.2.1.length : Int)) = false → ((((sumS x.1.2.2.1 x.2.1 x_1).1.re.neg, (sumS x.1.2.2.1 x.2.1 x_1).1.re.num, (sumS x.1.2.2.1 x.2.1 x_1).1.re.den, ()), ((sumS x.1.2.2.1 x.2.1 x_1).1.im.neg, (sumS x.1.2.2.1 x.2.1 x_1).1.im.num, (sumS x.1.2.2.1 x.2.1 x_1).1.im.den, ()), ()), (0 : Int), ()) = (pG (SumE x.1 x.2.1)).2))
theorem w_xSum (y : El sp_xSum.q) (x : Els sp_xSum.ps) : aW c_xSum (iv_xSum y x) Tryz.f92 sp_xSum y x = F_xSum y x := by kernel_rfl
theorem m_xSum (y : El (.un)) (x : Els [tPort, .it .i64]) (h2 : wfE (.un) y) (h3 : wfEs [tPort, .it .i64] x) : F_xSum y x := by
  unfold F_xSum
  rintro _ rfl
  refine ⟨fun h => ?_, fun h => ?_⟩
  · unfold SumE
    rw [if_pos (neT h)]
    rfl
  · have eS : SumE x.1 x.2.1 = sumS x.1.2.2.1 x.2.1 x.1.2.2.1.length := by
      unfold SumE
      rw [if_neg (fun c => c (neF h))]
    rw [eS]
    have hL : x.1.2.2.1.length ≤ 9223372036854775807 := h3.1.2.2.1.1
    rintro _ rfl
    refine ⟨⟨0, rfl, rfl, rfl, rfl, rfl, rfl, rfl, rfl, rfl, rfl, rfl, rfl, rfl, rfl, rfl, Nat.zero_le _, rfl⟩, fun i hi => ⟨fun l => ?_, fun l => ?_⟩⟩
    · obtain ⟨hi, h0⟩ := hi
      have l := ltT l
      have il : i + 1 ≤ x.1.2.2.1.length := by omega
      refine ⟨⟨by omega, l⟩, ?_⟩
      rintro _ rfl
      refine ⟨fun k => ?_, fun k => ⟨fun _ => ?_, fun m => absurd (neF m) (eqF k)⟩⟩
      · rintro _ rfl
        have e := su_add h0 (eqT k)
        refine ⟨fun m => ?_, fun m => ?_⟩
        · have m : (gadd (sumS x.1.2.2.1 x.2.1 i).1 (numE (tdAt x.1.2.2.1 i) x.2.1).1).2 ≠ 0 := neT m
          rw [su_err (by rw [e]; exact m) il, e, gadd_bad m]
          rfl
        · have m : (gadd (sumS x.1.2.2.1 x.2.1 i).1 (numE (tdAt x.1.2.2.1 i) x.2.1).1).2 = 0 := neF m
          refine ⟨by omega, i + 1, ?_⟩
          and_intros
          all_goals first | rfl | exact il | (rw [e]; exact m) | (rw [e] <;> rfl) | omega
      · have e := su_bad h0 (eqF k)
        rw [su_err (by rw [e]; exact eqF k) il, e]
        rfl
    · obtain ⟨hi, h0⟩ := hi
      have l := ltF l
      have ei : i = x.1.2.2.1.length := by omega
      rw [← ei]
      rw [show (pG (sumS x.1.2.2.1 x.2.1 i)).2 = (ofGa (sumS x.1.2.2.1 x.2.1 i).1, (sumS x.1.2.2.1 x.2.1 i).2, ()) from rfl, h0]
theorem fo_xSum : FnOk Tryz.prog 92 sp_xSum := fnOk_of (C := c_xSum) iv_xSum Tryz.func92 rfl (by kernel_rfl) tys_ok (prims_cons (spec_prim fo_xwrong) (prims_cons (spec_prim fo_gInt) (prims_cons (spec_prim fo_xnumber) (prims_cons (spec_prim fo_gAdd) prims_nil)))) mixed_ (Nat.le_refl _) rfl fun y x h1 h2 h3 h4 =>
  Eq.mpr (w_xSum y x) (m_xSum y x h2 h3)
def spanS (p : El tPort) (a : Int) : Nat → List (El tR) × Int
  | 0 => ([], 0)
  | k + 1 => if (spanS p a k).2 ≠ 0 then spanS p a k else if (atE p (a + k)).2 ≠ 0 then ([], (atE p (a + k)).2) else ((spanS p a k).1 ++ [ofFr (atE p (a + k)).1], 0)
def SpanE (p : El tPort) (a b : Int) : List (El tR) × Int := if (portI p).1 ≠ 0 then ([], (portI p).1) else if a < 0 ∨ 1025 < b ∨ b < a then ([], 2) else spanS p a (b - a).toNat
section
variable {p : El tPort} {a b : Int} {k : Nat}
theorem sp_stay (h : (spanS p a k).2 ≠ 0) : ∀ j, spanS p a (k + j) = spanS p a k
  | 0 => rfl
  | j + 1 => by
    have ih := sp_stay h j
    show (if (spanS p a (k + j)).2 ≠ 0 then spanS p a (k + j) else _) = _
    rw [ih, if_pos h]
theorem sp_bad (h : (spanS p a k).2 = 0) (m : (atE p (a + k)).2 ≠ 0) : spanS p a (k + 1) = ([], (atE p (a + k)).2) := (if_neg (fun c => c h)).trans (if_pos m)
theorem sp_add (h : (spanS p a k).2 = 0) (m : (atE p (a + k)).2 = 0) : spanS p a (k + 1) = ((spanS p a k).1 ++ [ofFr (atE p (a + k)).1], 0) := (if_neg (fun c => c h)).trans (if_neg (fun c => c m))
theorem sp_err {n : Nat} (h : (spanS p a (k + 1)).2 ≠ 0) (hk : k + 1 ≤ n) : spanS p a n = spanS p a (k + 1) := by
  have e := sp_stay h (n - (k + 1))
  rw [show k + 1 + (n - (k + 1)) = n by omega] at e
  exact e
theorem sp_len (h : (spanS p a k).2 = 0) : (spanS p a k).1.length = k := by
  induction k with
  | zero => rfl
  | succ k ih =>
    have h0 : (spanS p a k).2 = 0 := by
      refine Decidable.byContradiction fun c => ?_
      have := sp_stay c 1
      rw [this] at h
      exact c h
    have h1 : (atE p (a + k)).2 = 0 := by
      refine Decidable.byContradiction fun c => ?_
      rw [sp_bad h0 c] at h
      exact c h
    rw [sp_add h0 h1]
    simp [ih h0]
theorem sE_1 (h : (portI p).1 ≠ 0) : SpanE p a b = ([], (portI p).1) := if_pos h
theorem sE_2 (h : (portI p).1 = 0) (c : a < 0 ∨ 1025 < b ∨ b < a) : SpanE p a b = ([], 2) := (if_neg (fun c => c h)).trans (if_pos c)
theorem sE_3 (h : (portI p).1 = 0) (c : ¬ (a < 0 ∨ 1025 < b ∨ b < a)) : SpanE p a b = spanS p a (b - a).toNat := (if_neg (fun c => c h)).trans (if_neg c)
end
noncomputable def sp_xSpan : Spec := { q := .un, ps := [tPort, .it .i64, .it .i64], rs := [.sl tR, .it .i64], fresh := true, pre := fun _ _ => none, post := fun _ x => ((), ((SpanE x.1 x.2.1 x.2.2.1).1, (SpanE x.1 x.2.1 x.2.2.1).2, ())) }
noncomputable def iv_xSpan (y : El sp_xSpan.q) (x : Els sp_xSpan.ps) : Nat → Option Inv := fun k => if k = 0 then some { X := Nat, tm := fun i => [(2, .c (.sc (.int .i64 x.2.2.1))), (3, .c (.pv 1 0)), (9, .c (.ow 2)), (10, .c (.sc (.int .i64 (x.2.1 + i))))], ob := fun i => [(1, .var (cel tPort x.1)), (2, .dp 24 tR (spanS x.1 x.2.1 i).1 0)], n := 3, I := fun i => i ≤ (x.2.2.1 - x.2.1).toNat ∧ (spanS x.1 x.2.1 i).2 = 0, μ := fun i => (x.2.2.1 - x.2.1).toNat - i } else none
noncomputable abbrev c_xSpan : Cfg := { cfgS (Tryz.f16).ntmps false [(71, sp_pCheck.prim), (88, sp_xat.prim)] with dp := [(24, tR)] }
def F_xSpan (y : El sp_xSpan.q) (x : Els sp_xSpan.ps) : Prop :=
  (fun (i21 : Int) (i221 : Int) => ∀ (r : Ro [tFault]), r = ((), portR x.1, ()) → ((r.2.1.1 != (0 : Int)) = true → ([], r.2.1.1, ()) = ((SpanE x.1 i21 i221).1, (SpanE x.1 i21 i221).2, ())) ∧ ((r.2.1.1 != (0 : Int)) = false → (decide (i21 < (0 : Int)) = true → ([], (2 : Int), ()) = ((SpanE x.1 i21 i221).1, (SpanE x.1 i21 i221).2, ())) ∧ (decide (i21 < (0 : Int)) = false → (decide (i221 > (1025 : Int)) = true → ([], (2 : Int), ()) = ((SpanE x.1 i21 i221).1, (SpanE x.1 i21 i221).2, ())) ∧ (decide (i221 > (1025 : Int)) = false → (decide (i21 > i221) = true → ([], (2 : Int), ()) = ((SpanE x.1 i21 i221).1, (SpanE x.1 i21 i221).2, ())) ∧ (decide (i21 > i221) = false → (∃ (x_1 : Nat), i221 = i221 ∧ i21 + (↑x_1 : Int) = i21 ∧ x.1.1 = x.1.1 ∧ x.1.2.1.1 = x.1.2.1.1 ∧ x.1.2.1.2.1 = x.1.2.1.2.1 ∧ x.1.2.1.2.2.1 = x.1.2.1.2.2.1 ∧ x.1.2.2.1 = x.1.2.2.1 ∧ (spanS x.1 i21 x_1).1 = [] ∧ x_1 ≤ Int.toNat (i221 - i21) ∧ (spanS x.1 i21 x_1).2 = (0 : Int)) ∧ ∀ (x_1 : Nat), x_1 ≤ Int.toNat (i221 - i21) ∧ (spanS x.1 i21 x_1).2 = (0 : Int) → (decide (i21 + (↑x_1 : Int) < i221) = true → ∀ (r : Ro [tR, Ty.it IntKind.i64]), r = ((), ((atE x.1 (i21 + (↑x_1 : Int))).1.neg, (atE x.1 (i21 + (↑x_1 : Int))).1.num, (atE x.1 (i21 + (↑x_1 : Int))).1.den, ()), (atE x.1 (i21 + (↑x_1 : Int))).2, ()) → ((r.2.2.1 != (0 : Int)) = true → ([], r.2.2) = ((SpanE x.1 i21 i221).1, (SpanE x.1 i21 i221).2, ())) ∧ ((r.2.2.1 != (0 : Int)) = false → (spanS x.1 i21 x_1).1.length + [r.2.1].length ≤ (1073741824 : Nat) ∧ ((-9223372036854775808 : Int) ≤ i21 + (↑x_1 : Int) + (1 : Int) ∧ i21 + (↑x_1 : Int) + (1 : Int) ≤ (9223372036854775807 : Int)) ∧ ∃ (x' : Nat), i221 = i221 ∧ i21 + (↑x' : Int) = i21 + (↑x_1 : Int) + (1 : Int) ∧ x.1.1 = x.1.1 ∧ x.1.2.1.1 = x.1.2.1.1 ∧ x.1.2.1.2.1 = x.1.2.1.2.1 ∧ x.1.2.1.2.2.1 = x.1.2.1.2.2.1 ∧ x.1.2.2.1 = x.1.2.2.1 ∧ (spanS x.1 i21 x').1 = (spanS x.1 i21 x_1).1 ++ [r.2.1] ∧ (x' ≤ Int.toNat (i221 - i21) ∧ (spanS x.1 i21 x').2 = (0 : Int)) ∧ Int.toNat (i221 - i21) - x' < Int.toNat (i221 - i21) - x_1)) ∧ (decide (i21 + (↑x_1 : Int) < i221) = false → ((spanS x.1 i21 x_1).1, (0 : Int), ()) = ((SpanE x.1 i21 i221).1, (SpanE x.1 i21 i221).2, ()))))))) x.2.1 x.2.2.1
theorem w_xSpan (y : El sp_xSpan.q) (x : Els sp_xSpan.ps) : aW c_xSpan (iv_xSpan y x) Tryz.f16 sp_xSpan y x = F_xSpan y x := by kernel_rfl
theorem m_xSpan (y : El (.un)) (x : Els [tPort, .it .i64, .it .i64]) (h2 : wfE (.un) y) (h3 : wfEs [tPort, .it .i64, .it .i64] x) : F_xSpan y x := by
  unfold F_xSpan
  dsimp only
  rintro _ rfl
  refine ⟨fun h => ?_, fun h => ?_⟩
  · have h : (portI x.1).1 ≠ 0 := neT h
    rw [sE_1 h]
    rfl
  · have h : (portI x.1).1 = 0 := neF h
    refine ⟨fun a => ?_, fun a => ⟨fun b => ?_, fun b => ⟨fun c => ?_, fun c => ?_⟩⟩⟩
    · rw [sE_2 h (.inl (ltT a))]
    · rw [sE_2 h (.inr (.inl (gtT b)))]
    · rw [sE_2 h (.inr (.inr (gtT c)))]
    · have a := ltF a
      have b := gtF b
      have c := gtF c
      rw [sE_3 h (by omega)]
      refine ⟨⟨0, rfl, Int.add_zero _, rfl, rfl, rfl, rfl, rfl, rfl, Nat.zero_le _, rfl⟩, fun k hk => ⟨fun l => ?_, fun l => ?_⟩⟩
      · obtain ⟨hk, h0⟩ := hk
        have l := ltT l
        have kl : k + 1 ≤ Int.toNat (x.2.2.1 - x.2.1) := by omega
        rintro _ rfl
        refine ⟨fun m => ?_, fun m => ?_⟩
        · have e := sp_bad h0 (neT m)
          rw [sp_err (by rw [e]; exact neT m) kl, e]
        · have e := sp_add h0 (neF m)
          have len := sp_len h0
          refine ⟨by rw [len]; show k + 1 ≤ _; omega, by omega, k + 1, ?_⟩
          and_intros
          all_goals first | rfl | exact kl | (rw [e] <;> rfl) | omega
      · obtain ⟨hk, h0⟩ := hk
        have l := ltF l
        have ek : k = Int.toNat (x.2.2.1 - x.2.1) := by omega
        rw [← ek, h0]
theorem fo_xSpan : FnOk Tryz.prog 16 sp_xSpan := fnOk_of (C := c_xSpan) iv_xSpan Tryz.func16 rfl (by kernel_rfl) tys_ok (prims_cons (spec_prim fo_pCheck) (prims_cons (spec_prim fo_xat) prims_nil)) mixed_ (Nat.le_refl _) rfl fun y x h1 h2 h3 h4 =>
  Eq.mpr (w_xSpan y x) (m_xSpan y x h2 h3)
section
variable {r : El tRot} {t : Int}
end
section
variable {p : El tPort} {a b : Int}
end
def rwAt (l : List (El tR)) (k : Nat) : El tR := l.getD k (dfl tR)
def lowE (l : List (El tR)) : Nat → Nat
  | 0 => 0
  | k + 1 => if (fcmp (toFr (rwAt l k)) (toFr (rwAt l (lowE l k)))).1 < 0 then k else lowE l k
def highE (l : List (El tR)) : Nat → Nat
  | 0 => 0
  | k + 1 => if (fcmp (toFr (rwAt l k)) (toFr (rwAt l (highE l k)))).1 > 0 then k else highE l k
def EndsE (p : El tPort) (a b : Int) : Int × Int × Int × Unit := if (SpanE p a b).2 ≠ 0 then (0, 0, (SpanE p a b).2, ()) else if (SpanE p a b).1 = [] then (0, 0, 2, ()) else (a + lowE (SpanE p a b).1 (SpanE p a b).1.length, a + highE (SpanE p a b).1 (SpanE p a b).1.length, 0, ())
section
variable {l : List (El tR)} {i : Nat} {p : El tPort} {a b : Int}
theorem low_le : ∀ i, lowE l i ≤ i
  | 0 => Nat.le_refl 0
  | i + 1 => by
    have := low_le i
    show (if _ then i else lowE l i) ≤ i + 1
    split <;> omega
theorem high_le : ∀ i, highE l i ≤ i
  | 0 => Nat.le_refl 0
  | i + 1 => by
    have := high_le i
    show (if _ then i else highE l i) ≤ i + 1
    split <;> omega
theorem low_t (h : decide ((fcmp (toFr (rwAt l i)) (toFr (rwAt l (lowE l i)))).1 < (0 : Int)) = true) : ((lowE l (i + 1) : Nat) : Int) = (i : Int) := congrArg Int.ofNat (if_pos (of_decide_eq_true h))
theorem low_f (h : decide ((fcmp (toFr (rwAt l i)) (toFr (rwAt l (lowE l i)))).1 < (0 : Int)) = false) : ((lowE l (i + 1) : Nat) : Int) = (lowE l i : Int) := congrArg Int.ofNat (if_neg (of_decide_eq_false h))
theorem high_t (h : decide ((fcmp (toFr (rwAt l i)) (toFr (rwAt l (highE l i)))).1 > (0 : Int)) = true) : ((highE l (i + 1) : Nat) : Int) = (i : Int) := congrArg Int.ofNat (if_pos (of_decide_eq_true h))
theorem high_f (h : decide ((fcmp (toFr (rwAt l i)) (toFr (rwAt l (highE l i)))).1 > (0 : Int)) = false) : ((highE l (i + 1) : Nat) : Int) = (highE l i : Int) := congrArg Int.ofNat (if_neg (of_decide_eq_false h))
theorem span_rng (h : (SpanE p a b).2 = 0) : 0 ≤ a ∧ a ≤ b ∧ b ≤ 1025 ∧ (SpanE p a b).1.length = (b - a).toNat := by
  by_cases k : (portI p).1 = 0
  · by_cases c : a < 0 ∨ 1025 < b ∨ b < a
    · rw [sE_2 k c] at h
      cases h
    · rw [sE_3 k c] at h ⊢
      exact ⟨by omega, by omega, by omega, sp_len h⟩
  · rw [sE_1 k] at h
    exact absurd h k
theorem ends_rng {a : Int} {k : Nat} (h : 0 ≤ a) (g : a ≤ 1025) (m : k ≤ 1025) : -9223372036854775808 ≤ a + (k : Int) ∧ a + (k : Int) ≤ 9223372036854775807 := by omega
theorem ends_1 (h : (SpanE p a b).2 ≠ 0) : EndsE p a b = (0, 0, (SpanE p a b).2, ()) := if_pos h
theorem ends_2 (h : (SpanE p a b).2 = 0) (k : (SpanE p a b).1 = []) : EndsE p a b = (0, 0, 2, ()) := (if_neg (fun c => c h)).trans (if_pos k)
theorem ends_3 (h : (SpanE p a b).2 = 0) (k : (SpanE p a b).1 ≠ []) (hi : i = (SpanE p a b).1.length) : EndsE p a b = (a + lowE (SpanE p a b).1 i, a + highE (SpanE p a b).1 i, 0, ()) := by
  rw [hi]
  exact (if_neg (fun c => c h)).trans (if_neg k)
end
noncomputable def sp_xEnds : Spec := { q := .un, ps := [tPort, .it .i64, .it .i64], rs := [.it .i64, .it .i64, .it .i64], fresh := true, pre := fun _ _ => none, post := fun _ x => ((), EndsE x.1 x.2.1 x.2.2.1) }
noncomputable def iv_xEnds (y : El sp_xEnds.q) (x : Els sp_xEnds.ps) : Nat → Option Inv := fun k => if k = 0 then some { X := Nat, tm := fun i => [(1, .c (.sc (.int .i64 x.2.1))), (6, .c (.sc (.int .i64 (lowE (SpanE x.1 x.2.1 x.2.2.1).1 i)))), (7, .c (.sc (.int .i64 (highE (SpanE x.1 x.2.1 x.2.2.1).1 i)))), (9, .c (.sl tR (SpanE x.1 x.2.1 x.2.2.1).1)), (29, .c (.sl tR (SpanE x.1 x.2.1 x.2.2.1).1)), (30, .c (.sc (.int .i64 (SpanE x.1 x.2.1 x.2.2.1).1.length))), (31, .c (.sc (.int .i64 i)))], ob := fun _ => [], n := 2, I := fun i => i ≤ (SpanE x.1 x.2.1 x.2.2.1).1.length, μ := fun i => (SpanE x.1 x.2.1 x.2.2.1).1.length - i } else none
noncomputable abbrev c_xEnds : Cfg := cfgS (Tryz.f17).ntmps false [(16, (sp_xSpan.rd).prim), (89, sp_rCmp.prim)]
def F_xEnds (y : El sp_xEnds.q) (x : Els sp_xEnds.ps) : Prop :=
  ∀ (r : Ro [tR.sl, Ty.it IntKind.i64]), r = ((), (SpanE x.1 x.2.1 x.2.2.1).1, (SpanE x.1 x.2.1 x.2.2.1).2, ()) → ((r.2.2.1 != (0 : Int)) = true → ((0 : Int), (0 : Int), r.2.2) = EndsE x.1 x.2.1 x.2.2.1) ∧ ((r.2.2.1 != (0 : Int)) = false → (((r.2.1.length : Int) == (0 : Int)) = true → ((0 : Int), (0 : Int), (2 : Int), ()) = EndsE x.1 x.2.1 x.2.2.1) ∧ (((r.2.1.length : Int) == (0 : Int)) = false → (∃ (x_1 : Nat), x.2.1 = x.2.1 ∧ (↑(lowE (SpanE x.1 x.2.1 x.2.2.1).1 x_1) : Int) = (0 : Int) ∧ (↑(highE (SpanE x.1 x.2.1 x.2.2.1).1 x_1) : Int) = (0 : Int) ∧ (SpanE x.1 x.2.1 x.2.2.1).1 = r.2.1 ∧ (SpanE x.1 x.2.1 x.2.2.1).1 = r.2.1 ∧ (↑(SpanE x.1 x.2.1 x.2.2.1).1.length : Int) = (r.2.1.length : Int) ∧ (↑x_1 : Int) = (0 : Int) ∧ x_1.le (SpanE x.1 x.2.1 x.2.2.1).1.length) ∧ ∀ (x_1 : Nat), x_1.le (SpanE x.1 x.2.1 x.2.2.1).1.length → (decide ((↑x_1 : Int) < (↑(SpanE x.1 x.2.1 x.2.2.1).1.length : Int)) = true → ((0 : Int) ≤ (↑x_1 : Int) ∧ (↑x_1 : Int) < (↑(SpanE x.1 x.2.1 x.2.2.1).1.length : Int)) ∧ ((0 : Int) ≤ (↑(lowE (SpanE x.1 x.2.1 x.2.2.1).1 x_1) : Int) ∧ (↑(lowE (SpanE x.1 x.2.1 x.2.2.1).1 x_1) : Int) < (↑(SpanE x.1 x.2.1 x.2.2.1).1.length : Int)) ∧ ∀ (r : El spC2.q × Els spC2.rs), r = spC2.post (dfl spC2.q) ((SpanE x.1 x.2.1 x.2.2.1).1.getD (↑x_1 : Int).toNat (dfl tR), (SpanE x.1 x.2.1 x.2.2.1).1.getD (↑(lowE (SpanE x.1 x.2.1 x.2.2.1).1 x_1) : Int).toNat (dfl tR), ()) → (decide (r.2.1 < (0 : Int)) = true → ((0 : Int) ≤ (↑(highE (SpanE x.1 x.2.1 x.2.2.1).1 x_1) : Int) ∧ (↑(highE (SpanE x.1 x.2.1 x.2.2.1).1 x_1) : Int) < (↑(SpanE x.1 x.2.1 x.2.2.1).1.length : Int)) ∧ ∀ (r : El spC2.q × Els spC2.rs), r = spC2.post (dfl spC2.q) ((SpanE x.1 x.2.1 x.2.2.1).1.getD (↑x_1 : Int).toNat (dfl tR), (SpanE x.1 x.2.1 x.2.2.1).1.getD (↑(highE (SpanE x.1 x.2.1 x.2.2.1).1 x_1) : Int).toNat (dfl tR), ()) → (decide (r.2.1 > (0 : Int)) = true → ((-9223372036854775808 : Int) ≤ (↑x_1 : Int) + (1 : Int) ∧ (↑x_1 : Int) + (1 : Int) ≤ (9223372036854775807 : Int)) ∧ ∃ (x' : Nat), x.2.1 = x.2.1 ∧ (↑(lowE (SpanE x.1 x.2.1 x.2.2.1).1 x') : Int) = (↑x_1 : Int) ∧ (↑(highE (SpanE x.1 x.2.1 x.2.2.1).1 x') : Int) = (↑x_1 : Int) ∧ (SpanE x.1 x.2.1 x.2.2.1).1 = (SpanE x.1 x.2.1 x.2.2.1).1 ∧ (SpanE x.1 x.2.1 x.2.2.1).1 = (SpanE x.1 x.2.1 x.2.2.1).1 ∧ (↑(SpanE x.1 x.2.1 x.2.2.1).1.length : Int) = (↑(SpanE x.1 x.2.1 x.2.2.1).1.length : Int) ∧ (↑x' : Int) = (↑x_1 : Int) + (1 : Int) ∧ x'.le (SpanE x.1 x.2.1 x.2.2.1).1.length ∧ (SpanE x.1 x.2.1 x.2.2.1).1.length - x' < (SpanE x.1 x.2.1 x.2.2.1).1.length - x_1) ∧ (decide (r.2.1 > (0 : Int)) = false → ((-9223372036854775808 : Int) ≤ (↑x_1 : Int) + (1 : Int) ∧ (↑x_1 : Int) + (1 : Int) ≤ (9223372036854775807 : Int)) ∧ ∃ (x' : Nat), x.2.1 = x.2.1 ∧ (↑(lowE (SpanE x.1 x.2.1 x.2.2.1).1 x') : Int) = (↑x_1 : Int) ∧ (↑(highE (SpanE x.1 x.2.1 x.2.2.1).1 x') : Int) = (↑(highE (SpanE x.1 x.2.1 x.2.2.1).1 x_1) : Int) ∧ (SpanE x.1 x.2.1 x.2.2.1).1 = (SpanE x.1 x.2.1 x.2.2.1).1 ∧ (SpanE x.1 x.2.1 x.2.2.1).1 = (SpanE x.1 x.2.1 x.2.2.1).1 ∧ (↑(SpanE x.1 x.2.1 x.2.2.1).1.length : Int) = (↑(SpanE x.1 x.2.1 x.2.2.1).1.length : Int) ∧ (↑x' : Int) = (↑x_1 : Int) + (1 : Int) ∧ x'.le (SpanE x.1 x.2.1 x.2.2.1).1.length ∧ (SpanE x.1 x.2.1 x.2.2.1).1.length - x' < (SpanE x.1 x.2.1 x.2.2.1).1.length - x_1)) ∧ (decide (r.2.1 < (0 : Int)) = false → ((0 : Int) ≤ (↑(highE (SpanE x.1 x.2.1 x.2.2.1).1 x_1) : Int) ∧ (↑(highE (SpanE x.1 x.2.1 x.2.2.1).1 x_1) : Int) < (↑(SpanE x.1 x.2.1 x.2.2.1).1.length : Int)) ∧ ∀ (r : El spC2.q × Els spC2.rs), r = spC2.post (dfl spC2.q) ((SpanE x.1 x.2.1 x.2.2.1).1.getD (↑x_1 : Int).toNat (dfl tR), (SpanE x.1 x.2.1 x.2.2.1).1.getD (↑(highE (SpanE x.1 x.2.1 x.2.2.1).1 x_1) : Int).toNat (dfl tR), ()) → (decide (r.2.1 > (0 : Int)) = true → ((-9223372036854775808 : Int) ≤ (↑x_1 : Int) + (1 : Int) ∧ (↑x_1 : Int) + (1 : Int) ≤ (9223372036854775807 : Int)) ∧ ∃ (x' : Nat), x.2.1 = x.2.1 ∧ (↑(lowE (SpanE x.1 x.2.1 x.2.2.1).1 x') : Int) = (↑(lowE (SpanE x.1 x.2.1 x.2.2.1).1 x_1) : Int) ∧ (↑(highE (SpanE x.1 x.2.1 x.2.2.1).1 x') : Int) = (↑x_1 : Int) ∧ (SpanE x.1 x.2.1 x.2.2.1).1 = (SpanE x.1 x.2.1 x.2.2.1).1 ∧ (SpanE x.1 x.2.1 x.2.2.1).1 = (SpanE x.1 x.2.1 x.2.2.1).1 ∧ (↑(SpanE x.1 x.2.1 x.2.2.1).1.length : Int) = (↑(SpanE x.1 x.2.1 x.2.2.1).1.length : Int) ∧ (↑x' : Int) = (↑x_1 : Int) + (1 : Int) ∧ x'.le (SpanE x.1 x.2.1 x.2.2.1).1.length ∧ (SpanE x.1 x.2.1 x.2.2.1).1.length - x' < (SpanE x.1 x.2.1 x.2.2.1).1.length - x_1) ∧ (decide (r.2.1 > (0 : Int)) = false → ((-9223372036854775808 : Int) ≤ (↑x_1 : Int) + (1 : Int) ∧ (↑x_1 : Int) + (1 : Int) ≤ (9223372036854775807 : Int)) ∧ ∃ (x' : Nat), x.2.1 = x.2.1 ∧ (↑(lowE (SpanE x.1 x.2.1 x.2.2.1).1 x') : Int) = (↑(lowE (SpanE x.1 x.2.1 x.2.2.1).1 x_1) : Int) ∧ (↑(highE (SpanE x.1 x.2.1 x.2.2.1).1 x') : Int) = (↑(highE (SpanE x.1 x.2.1 x.2.2.1).1 x_1) : Int) ∧ (SpanE x.1 x.2.1 x.2.2.1).1 = (SpanE x.1 x.2.1 x.2.2.1).1 ∧ (SpanE x.1 x.2.1 x.2.2.1).1 = (SpanE x.1 x.2.1 x.2.2.1).1 ∧ (↑(SpanE x.1 x.2.1 x.2.2.1).1.length : Int) = (↑(SpanE x.1 x.2.1 x.2.2.1).1.length : Int) ∧ (↑x' : Int) = (↑x_1 : Int) + (1 : Int) ∧ x'.le (SpanE x.1 x.2.1 x.2.2.1).1.length ∧ (SpanE x.1 x.2.1 x.2.2.1).1.length - x' < (SpanE x.1 x.2.1 x.2.2.1).1.length - x_1))) ∧ (decide ((↑x_1 : Int) < (↑(SpanE x.1 x.2.1 x.2.2.1).1.length : Int)) = false → ((-9223372036854775808 : Int) ≤ x.2.1 + (↑(lowE (SpanE x.1 x.2.1 x.2.2.1).1 x_1) : Int) ∧ x.2.1 + (↑(lowE (SpanE x.1 x.2.1 x.2.2.1).1 x_1) : Int) ≤ (9223372036854775807 : Int)) ∧ ((-9223372036854775808 : Int) ≤ x.2.1 + (↑(highE (SpanE x.1 x.2.1 x.2.2.1).1 x_1) : Int) ∧ x.2.1 + (↑(highE (SpanE x.1 x.2.1 x.2.2.1).1 x_1) : Int) ≤ (9223372036854775807 : Int)) ∧ (x.2.1 + (↑(lowE (SpanE x.1 x.2.1 x.2.2.1).1 x_1) : Int), x.2.1 + (↑(highE (SpanE x.1 x.2.1 x.2.2.1).1 x_1) : Int), (0 : Int), ()) = EndsE x.1 x.2.1 x.2.2.1)))
theorem w_xEnds (y : El sp_xEnds.q) (x : Els sp_xEnds.ps) : aW c_xEnds (iv_xEnds y x) Tryz.f17 sp_xEnds y x = F_xEnds y x := by kernel_rfl
theorem m_xEnds (y : El (.un)) (x : Els [tPort, .it .i64, .it .i64]) (h2 : wfE (.un) y) (h3 : wfEs [tPort, .it .i64, .it .i64] x) : F_xEnds y x := by
  unfold F_xEnds
  rintro _ rfl
  refine ⟨fun h => (ends_1 (neT h)).symm, fun h => ⟨fun k => (ends_2 (neF h) (List.eq_nil_of_length_eq_zero (Int.ofNat_inj.1 (eqT k)))).symm, fun k => ⟨⟨0, rfl, rfl, rfl, rfl, rfl, rfl, rfl, Nat.zero_le _⟩, fun i hi => ⟨fun l => ?_, fun l => ?_⟩⟩⟩⟩
  · have l := ltT l
    have il : i < (SpanE x.1 x.2.1 x.2.2.1).1.length := Int.ofNat_lt.1 l
    obtain ⟨r1, r2, r3, r4⟩ := span_rng (neF h)
    have b1 := low_le (l := (SpanE x.1 x.2.1 x.2.2.1).1) i
    have b2 := high_le (l := (SpanE x.1 x.2.1 x.2.2.1).1) i
    refine ⟨⟨by omega, l⟩, ⟨by omega, by omega⟩, ?_⟩
    rintro _ rfl
    refine ⟨fun m => ⟨⟨by omega, by omega⟩, ?_⟩, fun m => ⟨⟨by omega, by omega⟩, ?_⟩⟩
    · rintro _ rfl
      refine ⟨fun n => ⟨⟨by omega, by omega⟩, i + 1, rfl, ?_, ?_, rfl, rfl, rfl, rfl, il, by omega⟩, fun n => ⟨⟨by omega, by omega⟩, i + 1, rfl, ?_, ?_, rfl, rfl, rfl, rfl, il, by omega⟩⟩
      · exact low_t m
      · exact high_t n
      · exact low_t m
      · exact high_f n
    · rintro _ rfl
      refine ⟨fun n => ⟨⟨by omega, by omega⟩, i + 1, rfl, ?_, ?_, rfl, rfl, rfl, rfl, il, by omega⟩, fun n => ⟨⟨by omega, by omega⟩, i + 1, rfl, ?_, ?_, rfl, rfl, rfl, rfl, il, by omega⟩⟩
      · exact low_f m
      · exact high_t n
      · exact low_f m
      · exact high_f n
  · have l := ltF l
    have hi : i ≤ (SpanE x.1 x.2.1 x.2.2.1).1.length := hi
    have ei : i = (SpanE x.1 x.2.1 x.2.2.1).1.length := by omega
    obtain ⟨r1, r2, r3, r4⟩ := span_rng (neF h)
    have b1 := low_le (l := (SpanE x.1 x.2.1 x.2.2.1).1) i
    have b2 := high_le (l := (SpanE x.1 x.2.1 x.2.2.1).1) i
    refine ⟨ends_rng r1 (by omega) (show lowE (SpanE x.1 x.2.1 x.2.2.1).1 i ≤ 1025 by omega), ends_rng r1 (by omega) (show highE (SpanE x.1 x.2.1 x.2.2.1).1 i ≤ 1025 by omega), (ends_3 (neF h) (fun c => ?_) ei).symm⟩
    have k : ((SpanE x.1 x.2.1 x.2.2.1).1.length : Int) ≠ 0 := beq_eq_false_iff_ne.1 k
    rw [c] at k
    exact k rfl
theorem fo_xEnds : FnOk Tryz.prog 17 sp_xEnds := fnOk_of (C := c_xEnds) iv_xEnds Tryz.func17 rfl (by kernel_rfl) tys_ok (prims_cons (spec_prim (FnOk.read fo_xSpan)) (prims_cons (spec_prim fo_rCmp) prims_nil)) mixed_ (Nat.le_refl _) rfl fun y x h1 h2 h3 h4 =>
  Eq.mpr (w_xEnds y x) (m_xEnds y x h2 h3)
noncomputable def sp_osmall : Spec := { q := .un, ps := [.it .i64, .it .i64], rs := [tR], fresh := true, pre := fun _ _ => none, post := fun _ x => ((), (ofFr (fsmall x.1 x.2.1).1, ())) }
noncomputable def iv_osmall (y : El sp_osmall.q) (x : Els sp_osmall.ps) : Nat → Option Inv := fun _ => none
noncomputable abbrev c_osmall : Cfg := cfgS (Tryz.f20).ntmps false [(59, sp_rSmall.prim)]
def F_osmall (y : El sp_osmall.q) (x : Els sp_osmall.ps) : Prop :=
  ∀ (r : Ro [tR, Ty.it IntKind.i64]), r = pR (fsmall x.1 x.2.1) → (r.2.1, ()) = (ofFr (fsmall x.1 x.2.1).1, ())
theorem w_osmall (y : El sp_osmall.q) (x : Els sp_osmall.ps) : aW c_osmall (iv_osmall y x) Tryz.f20 sp_osmall y x = F_osmall y x := by kernel_rfl
theorem m_osmall (y : El (.un)) (x : Els [.it .i64, .it .i64]) (h2 : wfE (.un) y) (h3 : wfEs [.it .i64, .it .i64] x) : F_osmall y x := by
  unfold F_osmall
  rintro _ rfl
  rfl
theorem fo_osmall : FnOk Tryz.prog 20 sp_osmall := fnOk_of (C := c_osmall) iv_osmall Tryz.func20 rfl (by kernel_rfl) tys_ok (prims_cons (spec_prim fo_rSmall) prims_nil) mixed_ (Nat.le_refl _) rfl fun y x h1 h2 h3 h4 =>
  Eq.mpr (w_osmall y x) (m_osmall y x h2 h3)
def exT : El tTide := (⟨#[77, 50]⟩, (2, 1, ()), ofGa ⟨(fsmall 5 1).1, (fsmall 0 1).1⟩, ())
def exP : El tPort := (⟨#[72, 117, 108, 108]⟩, ofFr (fsmall 1 2).1, [exT], ())
noncomputable def sp_oexample : Spec := { q := .un, ps := [], rs := [tPort], fresh := true, pre := fun _ _ => none, post := fun _ x => ((), (exP, ())) }
noncomputable def iv_oexample (y : El sp_oexample.q) (x : Els sp_oexample.ps) : Nat → Option Inv := fun _ => none
noncomputable abbrev c_oexample : Cfg := cfgS (Tryz.f13).ntmps false [(20, sp_osmall.prim), (40, sp_gInt.prim)]
def F_oexample (y : El sp_oexample.q) (x : Els sp_oexample.ps) : Prop :=
  ∀ (r : Ro [tR]), r = ((), ofFr (fsmall (1 : Int) (2 : Int)).1, ()) → ∀ (r_1 : Ro [tG]), r_1 = ((), ofGa { re := (fsmall (5 : Int) (1 : Int)).1, im := (fsmall (0 : Int) (1 : Int)).1 }, ()) → (({ data := #[(72 : UInt8), (117 : UInt8), (108 : UInt8), (108 : UInt8)] }, r.2.1, [({ data := #[(77 : UInt8), (50 : UInt8)] }, ((2 : Int), (1 : Int), ()), r_1.2)], ()), ()) = (exP, ())
theorem w_oexample (y : El sp_oexample.q) (x : Els sp_oexample.ps) : aW c_oexample (iv_oexample y x) Tryz.f13 sp_oexample y x = F_oexample y x := by kernel_rfl
theorem m_oexample (y : El (.un)) (x : Els []) (h2 : wfE (.un) y) (h3 : wfEs [] x) : F_oexample y x := by
  unfold F_oexample
  rintro _ rfl _ rfl
  rfl
theorem fo_oexample : FnOk Tryz.prog 13 sp_oexample := fnOk_of (C := c_oexample) iv_oexample Tryz.func13 rfl (by kernel_rfl) tys_ok (prims_cons (spec_prim fo_osmall) (prims_cons (spec_prim fo_gInt) prims_nil)) mixed_ (Nat.le_refl _) rfl fun y x h1 h2 h3 h4 =>
  Eq.mpr (w_oexample y x) (m_oexample y x h2 h3)
theorem s_12 : fsmall 1 2 = (enc (1/2), 0) := fsmall_s (by decide) (by decide +kernel) (by decide +kernel)
theorem s_50 : fsmall 5 1 = (enc 5, 0) := fsmall_s (by decide) (by decide +kernel) (by decide +kernel)
theorem one0_eq : one0 = enc 0 := enc_zero.symm
theorem exT_eq : exT = (⟨#[77, 50]⟩, (2, 1, ()), ofGa (ge 5 0), ()) := by unfold exT; rw [s_50, fsmall_nought_]; rfl
theorem exP_eq : exP = (⟨#[72, 117, 108, 108]⟩, ofFr (enc (1/2)), [(⟨#[77, 50]⟩, (2, 1, ()), ofGa (ge 5 0), ())], ()) := by unfold exP; rw [exT_eq, s_12]
theorem exP_ok : portI exP = (0, 0) := by
  rw [exP_eq]
  unfold portI
  have n1 : nameS ⟨#[72, 117, 108, 108]⟩ = true := by decide +kernel
  have n2 : nameS ⟨#[77, 50]⟩ = true := by decide +kernel
  have r1 : rotC ((2, 1, ()) : El tRot) = 0 := by decide +kernel
  have g1 : gchk (ge 5 0) = 0 := gchk_s (by decide +kernel)
  have t1 : tchk ((⟨#[77, 50]⟩, (2, 1, ()), ofGa (ge 5 0), ()) : El tTide) = 0 := by
    unfold tchk
    rw [if_neg (by rw [n2]; decide), if_neg (by rw [r1]; decide)]
    exact g1
  unfold pcS
  dsimp only
  rw [if_neg (by rw [n1]; decide), if_neg (by rw [show toFr (ofFr (enc (1/2))) = enc (1/2) from rfl, fchk_s (by decide +kernel)]; decide), if_neg (by decide)]
  show pcF _ _ 0 1 = _
  rw [pcF_next (by exact t1) (by rfl)]
  rfl
theorem exP_wrong {t : Int} (h : tickE t = 0) : wrongE exP t = 0 := by
  unfold wrongE
  rw [exP_ok, if_neg (by decide), h]
theorem rp_1 : rpow 2 1 1 = ge (3/5) (4/5) := by
  show (⟨enc (mkRat (gpow 2 1 2).1 (nrmR 2 1 ^ 1).toNat), enc (mkRat (gpow 2 1 2).2 (nrmR 2 1 ^ 1).toNat)⟩ : Ga) = _
  rw [show mkRat (gpow 2 1 2).1 (nrmR 2 1 ^ 1).toNat = 3/5 by decide +kernel, show mkRat (gpow 2 1 2).2 (nrmR 2 1 ^ 1).toNat = 4/5 by decide +kernel]
  rfl
theorem rp_2 : rpow 2 1 2 = ge (-7/25) (24/25) := by
  show (⟨enc (mkRat (gpow 2 1 4).1 (nrmR 2 1 ^ 2).toNat), enc (mkRat (gpow 2 1 4).2 (nrmR 2 1 ^ 2).toNat)⟩ : Ga) = _
  rw [show mkRat (gpow 2 1 4).1 (nrmR 2 1 ^ 2).toNat = -7/25 by decide +kernel, show mkRat (gpow 2 1 4).2 (nrmR 2 1 ^ 2).toNat = 24/25 by decide +kernel]
  rfl
theorem pR_1 : powR ((2, 1, ()) : El tRot) 1 = (ofGa (ge (3/5) (4/5)), 0, ()) := by
  rw [← pw_3 (by decide +kernel) (by decide)]
  exact congrArg (fun g => ((ofGa g, 0, ()) : El tG × Int × Unit)) rp_1
theorem pR_2 : powR ((2, 1, ()) : El tRot) 2 = (ofGa (ge (-7/25) (24/25)), 0, ()) := by
  rw [← pw_3 (by decide +kernel) (by decide)]
  exact congrArg (fun g => ((ofGa g, 0, ()) : El tG × Int × Unit)) rp_2
theorem nE_1 : numE ((⟨#[77, 50]⟩, (2, 1, ()), ofGa (ge 5 0), ()) : El tTide) 1 = (ge 3 4, 0) := by
  unfold numE
  dsimp only
  rw [pR_1, if_neg (by decide)]
  exact gmul_s (u := 3) (v := 0) (x := 4) (y := 0) (by decide +kernel) (by decide +kernel) (by decide +kernel) (by decide +kernel) (by decide +kernel) (by decide +kernel) (by decide +kernel)
theorem nE_2 : numE ((⟨#[77, 50]⟩, (2, 1, ()), ofGa (ge 5 0), ()) : El tTide) 2 = (ge (-7/5) (24/5), 0) := by
  unfold numE
  dsimp only
  rw [pR_2, if_neg (by decide)]
  exact gmul_s (u := -7/5) (v := 0) (x := 24/5) (y := 0) (by decide +kernel) (by decide +kernel) (by decide +kernel) (by decide +kernel) (by decide +kernel) (by decide +kernel) (by decide +kernel)
theorem exA {t : Int} {r i h : Rat} (k : tickE t = 0) (e : numE ((⟨#[77, 50]⟩, (2, 1, ()), ofGa (ge 5 0), ()) : El tTide) t = (ge r i, 0)) (s : (sm (1/2) && sm r && sm h) = true) (a : 1/2 + r = h) : AtE exP t = (enc h, 0) := by
  unfold AtE
  rw [exP_wrong k, if_neg (by decide), exP_eq]
  unfold atE
  dsimp only
  have z : fadd (toFr (ofFr (enc (1/2)))) one0 = (enc (1/2), 0) := by
    rw [one0_eq]
    exact fadd_s (p := 1/2) (q := 0) (by decide +kernel) (by decide +kernel)
  rw [z]
  have st : hgtS (enc (1/2), 0) [((⟨#[77, 50]⟩, (2, 1, ()), ofGa (ge 5 0), ()) : El tTide)] t 1 = (enc h, 0) := by
    rw [hg_add (i := 0) rfl (by show (numE ((⟨#[77, 50]⟩, (2, 1, ()), ofGa (ge 5 0), ()) : El tTide) t).2 = 0; rw [e])]
    show fadd (enc (1/2)) (numE ((⟨#[77, 50]⟩, (2, 1, ()), ofGa (ge 5 0), ()) : El tTide) t).1.re = _
    rw [e]
    exact fadd_s s a
  show endR (hgtS (enc (1/2), 0) [((⟨#[77, 50]⟩, (2, 1, ()), ofGa (ge 5 0), ()) : El tTide)] t 1) = _
  rw [st]
  rfl
theorem aw_1 : AtE exP 1 = (enc (7/2), 0) := exA (by decide) nE_1 (by decide +kernel) (by decide +kernel)
theorem aw_2 : AtE exP 2 = (enc (-9/10), 0) := exA (by decide) nE_2 (by decide +kernel) (by decide +kernel)
theorem aw_3 : SumE exP 1 = (ge 3 4, 0) := by
  unfold SumE
  rw [exP_wrong (by decide), if_neg (by decide), exP_eq]
  dsimp only
  show sumS [((⟨#[77, 50]⟩, (2, 1, ()), ofGa (ge 5 0), ()) : El tTide)] 1 1 = _
  rw [su_add (i := 0) rfl (by show (numE ((⟨#[77, 50]⟩, (2, 1, ()), ofGa (ge 5 0), ()) : El tTide) 1).2 = 0; rw [nE_1])]
  show gadd (gint 0 0) (numE ((⟨#[77, 50]⟩, (2, 1, ()), ofGa (ge 5 0), ()) : El tTide) 1).1 = _
  rw [nE_1, show gint 0 0 = ge 0 0 by unfold gint; rw [fsmall_nought_]; rfl]
  exact gadd_s (by decide +kernel) (by decide +kernel) (by decide +kernel)
theorem s_72 : fsmall 7 2 = (enc (7/2), 0) := fsmall_s (by decide) (by decide +kernel) (by decide +kernel)
theorem s_910 : fsmall (-9) 10 = (enc (-9/10), 0) := fsmall_s (by decide) (by decide +kernel) (by decide +kernel)
theorem s_31 : fsmall 3 1 = (enc 3, 0) := fsmall_s (by decide) (by decide +kernel) (by decide +kernel)
theorem s_41 : fsmall 4 1 = (enc 4, 0) := fsmall_s (by decide) (by decide +kernel) (by decide +kernel)
theorem gs_34 : gsame (ge 3 4) (ge 3 4) = true := by
  unfold gsame
  have : gchk2 (ge 3 4) (ge 3 4) = 0 := gchk2_s (by decide +kernel) (by decide +kernel)
  simp [this]
noncomputable def sp_oawake : Spec := { q := .un, ps := [], rs := [.bo], fresh := true, pre := fun _ _ => none, post := fun _ x => ((), (true, ())) }
noncomputable def iv_oawake (y : El sp_oawake.q) (x : Els sp_oawake.ps) : Nat → Option Inv := fun _ => none
noncomputable abbrev c_oawake : Cfg := cfgS (Tryz.f21).ntmps false [(13, sp_oexample.prim), (18, sp_xAt.prim), (92, sp_xSum.prim), (20, sp_osmall.prim), (19, sp_rSame.prim), (40, sp_gInt.prim), (22, sp_gSame.prim)]
def F_oawake (y : El sp_oawake.q) (x : Els sp_oawake.ps) : Prop :=
  ∀ (r : Ro [tPort]), r = ((), exP, ()) → ∀ (r_1 : Ro [tR, Ty.it IntKind.i64]), r_1 = pR (AtE r.2.1 (1 : Int)) → ∀ (r_2 : Ro [tR, Ty.it IntKind.i64]), r_2 = pR (AtE r.2.1 (2 : Int)) → ∀ (r_3 : Ro [tG, Ty.it IntKind.i64]), r_3 = pG (SumE r.2.1 (1 : Int)) → ((r_1.2.2.1 == (0 : Int)) = true → ∀ (r : Ro [tR]), r = ((), ofFr (fsmall (7 : Int) (2 : Int)).1, ()) → ∀ (r_4 : Ro [Ty.bo]), r_4 = ((), decide (toFr r_1.2.1 = toFr r.2.1), ()) → (r_4.2.1 = true → ((r_2.2.2.1 == (0 : Int)) = true → ∀ (r : Ro [tR]), r = ((), ofFr (fsmall (-9 : Int) (10 : Int)).1, ()) → ∀ (r_5 : Ro [Ty.bo]), r_5 = ((), decide (toFr r_2.2.1 = toFr r.2.1), ()) → (r_5.2.1 = true → ((r_3.2.2.1 == (0 : Int)) = true → ∀ (r : Ro [tG]), r = ((), ofGa { re := (fsmall (3 : Int) (1 : Int)).1, im := (fsmall (4 : Int) (1 : Int)).1 }, ()) → ∀ (r_6 : Ro [Ty.bo]), r_6 = ((), gsame (toGa r_3.2.1) (toGa r.2.1), ()) → r_6.2 = (true, ())) ∧ ((r_3.2.2.1 == (0 : Int)) = false → (false, ()) = (true, ()))) ∧ (r_5.2.1 = false → (false, ()) = (true, ()))) ∧ ((r_2.2.2.1 == (0 : Int)) = false → (false, ()) = (true, ()))) ∧ (r_4.2.1 = false → (false, ()) = (true, ()))) ∧ ((r_1.2.2.1 == (0 : Int)) = false → (false, ()) = (true, ()))
theorem w_oawake (y : El sp_oawake.q) (x : Els sp_oawake.ps) : aW c_oawake (iv_oawake y x) Tryz.f21 sp_oawake y x = F_oawake y x := by kernel_rfl
theorem m_oawake (y : El (.un)) (x : Els []) (h2 : wfE (.un) y) (h3 : wfEs [] x) : F_oawake y x := by
  unfold F_oawake
  rintro _ rfl _ rfl _ rfl _ rfl
  dsimp only
  rw [aw_1, aw_2, aw_3, s_72, s_910, s_31, s_41]
  refine ⟨fun _ => ?_, fun h => absurd h (by decide)⟩
  rintro _ rfl _ rfl
  refine ⟨fun _ => ⟨fun _ => ?_, fun h => absurd h (by decide)⟩, fun h => absurd h (by simp [toFr, ofFr, pR])⟩
  rintro _ rfl _ rfl
  refine ⟨fun _ => ⟨fun _ => ?_, fun h => absurd h (by decide)⟩, fun h => absurd h (by simp [toFr, ofFr, pR])⟩
  rintro _ rfl _ rfl
  exact congrArg (fun b => (b, ())) gs_34
theorem fo_oawake : FnOk Tryz.prog 21 sp_oawake := fnOk_of (C := c_oawake) iv_oawake Tryz.func21 rfl (by kernel_rfl) tys_ok (prims_cons (spec_prim fo_oexample) (prims_cons (spec_prim fo_xAt) (prims_cons (spec_prim fo_xSum) (prims_cons (spec_prim fo_osmall) (prims_cons (spec_prim fo_rSame) (prims_cons (spec_prim fo_gInt) (prims_cons (spec_prim fo_gSame) prims_nil))))))) mixed_ (Nat.le_refl _) rfl fun y x h1 h2 h3 h4 =>
  Eq.mpr (w_oawake y x) (m_oawake y x h2 h3)
end Go.Proofs.YtemlaompalbgiaaGreatDoor
