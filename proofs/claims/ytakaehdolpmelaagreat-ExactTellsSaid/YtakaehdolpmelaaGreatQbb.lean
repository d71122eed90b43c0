/- Texts of this claim, joined: B31 B32. -/
import Derived.Test.YtakaehdolpmelaaGreatQba
set_option linter.unusedVariables false
set_option linter.unusedSimpArgs false
set_option maxRecDepth 100000
namespace Go.Proofs.YtakaehdolpmelaaGreat
open Go Go.RowKit
def tickE (t : Int) : Int := if t < 0 ∨ 1024 < t then 2 else 0
noncomputable def sp_xtick : Spec := { q := .un, ps := [.it .i64], rs := [.it .i64], fresh := true, pre := fun _ _ => none, post := fun _ x => ((), (tickE x.1, ())) }
noncomputable def iv_xtick (y : El sp_xtick.q) (x : Els sp_xtick.ps) : Nat → Option Inv := fun _ => none
noncomputable abbrev c_xtick : Cfg := cfgS (Tryz.f54).ntmps false []
def F_xtick (y : El sp_xtick.q) (x : Els sp_xtick.ps) : Prop :=
  (decide (x.1 < (0 : Int)) = true → ((2 : Int), ()) = (tickE x.1, ())) ∧ (decide (x.1 < (0 : Int)) = false → (decide (x.1 > (1024 : Int)) = true → ((2 : Int), ()) = (tickE x.1, ())) ∧ (decide (x.1 > (1024 : Int)) = false → ((0 : Int), ()) = (tickE x.1, ())))
theorem w_xtick (y : El sp_xtick.q) (x : Els sp_xtick.ps) : aW c_xtick (iv_xtick y x) Tryz.f54 sp_xtick y x = F_xtick y x := by kernel_rfl
theorem m_xtick (y : El (.un)) (x : Els [.it .i64]) (h2 : wfE (.un) y) (h3 : wfEs [.it .i64] x) : F_xtick y x := by
  unfold F_xtick
  unfold tickE
  refine ⟨fun h => ?_, fun h => ⟨fun k => ?_, fun k => ?_⟩⟩
  · rw [if_pos (.inl (ltT h))]
  · rw [if_pos (.inr (gtT k))]
  · have h := ltF h
    have k := gtF k
    rw [if_neg (by omega)]
theorem fo_xtick : FnOk Tryz.prog 54 sp_xtick := fnOk_of (C := c_xtick) iv_xtick Tryz.func54 rfl (by kernel_rfl) tys_ok prims_nil mixed_ (Nat.le_refl _) rfl fun y x h1 h2 h3 h4 =>
  Eq.mpr (w_xtick y x) (m_xtick y x h2 h3)
def numE (c : El tTide) (t : Int) : Ga × Int := if (powR c.2.1 t).2.1 ≠ 0 then (Ga.zero, (powR c.2.1 t).2.1) else gmul (toGa c.2.2.1) (toGa (powR c.2.1 t).1)
noncomputable def sp_xnumber : Spec := { q := .un, ps := [tTide, .it .i64], rs := [tG, .it .i64], fresh := true, pre := fun _ _ => none, post := fun _ x => pG (numE x.1 x.2.1) }
noncomputable def iv_xnumber (y : El sp_xnumber.q) (x : Els sp_xnumber.ps) : Nat → Option Inv := fun _ => none
noncomputable abbrev c_xnumber : Cfg := cfgS (Tryz.f55).ntmps false [(103, sp_rPow.prim), (104, sp_gMul.prim)]
def F_xnumber (y : El sp_xnumber.q) (x : Els sp_xnumber.ps) : Prop :=
  ∀ (r : Ro [tG, Ty.it IntKind.i64]), r = ((), powR x.1.2.1 x.2.1) → ((r.2.2.1 != (0 : Int)) = true → (((false, [], [], ()), (false, [], [], ()), ()), r.2.2) = (pG (numE x.1 x.2.1)).2) ∧ ((r.2.2.1 != (0 : Int)) = false → ∀ (r_1 : Ro [tG, Ty.it IntKind.i64]), r_1 = pG (gmul (toGa x.1.2.2.1) (toGa r.2.1)) → r_1.2 = (pG (numE x.1 x.2.1)).2)
theorem w_xnumber (y : El sp_xnumber.q) (x : Els sp_xnumber.ps) : aW c_xnumber (iv_xnumber y x) Tryz.f55 sp_xnumber y x = F_xnumber y x := by kernel_rfl
theorem m_xnumber (y : El (.un)) (x : Els [tTide, .it .i64]) (h2 : wfE (.un) y) (h3 : wfEs [tTide, .it .i64] x) : F_xnumber y x := by
  unfold F_xnumber
  rintro _ rfl
  refine ⟨fun h => ?_, fun h => ?_⟩
  · unfold numE
    rw [if_pos (neT h)]
    rfl
  · rintro _ rfl
    unfold numE
    rw [if_neg (fun c => c (neF h))]
theorem fo_xnumber : FnOk Tryz.prog 55 sp_xnumber := fnOk_of (C := c_xnumber) iv_xnumber Tryz.func55 rfl (by kernel_rfl) tys_ok (prims_cons (spec_prim fo_rPow) (prims_cons (spec_prim fo_gMul) prims_nil)) mixed_ (Nat.le_refl _) rfl fun y x h1 h2 h3 h4 =>
  Eq.mpr (w_xnumber y x) (m_xnumber y x h2 h3)
def numberE (c : El tTide) (t : Int) : Ga × Int := if tchk c ≠ 0 then (Ga.zero, tchk c) else if tickE t ≠ 0 then (Ga.zero, tickE t) else numE c t
noncomputable def sp_xNumber : Spec := { q := .un, ps := [tTide, .it .i64], rs := [tG, .it .i64], fresh := true, pre := fun _ _ => none, post := fun _ x => pG (numberE x.1 x.2.1) }
noncomputable def iv_xNumber (y : El sp_xNumber.q) (x : Els sp_xNumber.ps) : Nat → Option Inv := fun _ => none
noncomputable abbrev c_xNumber : Cfg := cfgS (Tryz.f10).ntmps false [(53, sp_tCk.prim), (54, sp_xtick.prim), (55, sp_xnumber.prim)]
def F_xNumber (y : El sp_xNumber.q) (x : Els sp_xNumber.ps) : Prop :=
  ∀ (r : Ro [Ty.it IntKind.i64]), r = ((), tchk x.1, ()) → ((r.2.1 != (0 : Int)) = true → (((false, [], [], ()), (false, [], [], ()), ()), r.2) = (pG (numberE x.1 x.2.1)).2) ∧ ((r.2.1 != (0 : Int)) = false → ∀ (r : Ro [Ty.it IntKind.i64]), r = ((), tickE x.2.1, ()) → ((r.2.1 != (0 : Int)) = true → (((false, [], [], ()), (false, [], [], ()), ()), r.2) = (pG (numberE x.1 x.2.1)).2) ∧ ((r.2.1 != (0 : Int)) = false → ∀ (r : Ro [tG, Ty.it IntKind.i64]), r = pG (numE x.1 x.2.1) → r.2 = (pG (numberE x.1 x.2.1)).2))
theorem w_xNumber (y : El sp_xNumber.q) (x : Els sp_xNumber.ps) : aW c_xNumber (iv_xNumber y x) Tryz.f10 sp_xNumber y x = F_xNumber y x := by kernel_rfl
theorem m_xNumber (y : El (.un)) (x : Els [tTide, .it .i64]) (h2 : wfE (.un) y) (h3 : wfEs [tTide, .it .i64] x) : F_xNumber y x := by
  unfold F_xNumber
  rintro _ rfl
  unfold numberE
  refine ⟨fun h => ?_, fun h => ?_⟩
  · rw [if_pos (neT h)]
    rfl
  · rw [if_neg (fun c => c (neF h))]
    rintro _ rfl
    refine ⟨fun k => ?_, fun k => ?_⟩
    · rw [if_pos (neT k)]
      rfl
    · rintro _ rfl
      rw [if_neg (fun c => c (neF k))]
theorem fo_xNumber : FnOk Tryz.prog 10 sp_xNumber := fnOk_of (C := c_xNumber) iv_xNumber Tryz.func10 rfl (by kernel_rfl) tys_ok (prims_cons (spec_prim fo_tCk) (prims_cons (spec_prim fo_xtick) (prims_cons (spec_prim fo_xnumber) prims_nil))) mixed_ (Nat.le_refl _) rfl fun y x h1 h2 h3 h4 =>
  Eq.mpr (w_xNumber y x) (m_xNumber y x h2 h3)
def wrongE (p : El tPort) (t : Int) : Int := if (portI p).1 ≠ 0 then (portI p).1 else tickE t
noncomputable def sp_xwrong : Spec := { q := .un, ps := [tPort, .it .i64], rs := [.it .i64], fresh := true, pre := fun _ _ => none, post := fun _ x => ((), (wrongE x.1 x.2.1, ())) }
noncomputable def iv_xwrong (y : El sp_xwrong.q) (x : Els sp_xwrong.ps) : Nat → Option Inv := fun _ => none
noncomputable abbrev c_xwrong : Cfg := cfgS (Tryz.f58).ntmps false [(71, sp_pCheck.prim), (54, sp_xtick.prim)]
def F_xwrong (y : El sp_xwrong.q) (x : Els sp_xwrong.ps) : Prop :=
  ∀ (r : Ro [tFault]), r = ((), portR x.1, ()) → ((r.2.1.1 != (0 : Int)) = true → (r.2.1.1, ()) = (wrongE x.1 x.2.1, ())) ∧ ((r.2.1.1 != (0 : Int)) = false → ∀ (r : Ro [Ty.it IntKind.i64]), r = ((), tickE x.2.1, ()) → r.2 = (wrongE x.1 x.2.1, ()))
theorem w_xwrong (y : El sp_xwrong.q) (x : Els sp_xwrong.ps) : aW c_xwrong (iv_xwrong y x) Tryz.f58 sp_xwrong y x = F_xwrong y x := by kernel_rfl
theorem m_xwrong (y : El (.un)) (x : Els [tPort, .it .i64]) (h2 : wfE (.un) y) (h3 : wfEs [tPort, .it .i64] x) : F_xwrong y x := by
  unfold F_xwrong
  rintro _ rfl
  unfold wrongE
  refine ⟨fun h => ?_, fun h => ?_⟩
  · have h : (portI x.1).1 ≠ 0 := neT h
    rw [if_pos h]
    rfl
  · have h : (portI x.1).1 = 0 := neF h
    rw [if_neg (fun c => c h)]
    rintro _ rfl
    rfl
theorem fo_xwrong : FnOk Tryz.prog 58 sp_xwrong := fnOk_of (C := c_xwrong) iv_xwrong Tryz.func58 rfl (by kernel_rfl) tys_ok (prims_cons (spec_prim fo_pCheck) (prims_cons (spec_prim fo_xtick) prims_nil)) mixed_ (Nat.le_refl _) rfl fun y x h1 h2 h3 h4 =>
  Eq.mpr (w_xwrong y x) (m_xwrong y x h2 h3)
def one0 : Fr := ⟨false, [], [1]⟩
def hgtS (s : Fr × Int) (l : List (El tTide)) (t : Int) : Nat → Fr × Int
  | 0 => s
  | i + 1 => if (hgtS s l t i).2 ≠ 0 then hgtS s l t i else if (numE (tdAt l i) t).2 ≠ 0 then ((hgtS s l t i).1, (numE (tdAt l i) t).2) else fadd (hgtS s l t i).1 (numE (tdAt l i) t).1.re
def endR (s : Fr × Int) : Fr × Int := if s.2 ≠ 0 then (Fr.zero, s.2) else s
def atE (p : El tPort) (t : Int) : Fr × Int := endR (hgtS (fadd (toFr p.2.1) one0) p.2.2.1 t p.2.2.1.length)
section
variable {s : Fr × Int} {l : List (El tTide)} {t : Int} {i : Nat}
theorem hg_stay (h : (hgtS s l t i).2 ≠ 0) : ∀ k, hgtS s l t (i + k) = hgtS s l t i
  | 0 => rfl
  | k + 1 => by
    have ih := hg_stay h k
    show (if (hgtS s l t (i + k)).2 ≠ 0 then hgtS s l t (i + k) else _) = _
    rw [ih, if_pos h]
theorem hg_bad (h : (hgtS s l t i).2 = 0) (k : (numE (tdAt l i) t).2 ≠ 0) : hgtS s l t (i + 1) = ((hgtS s l t i).1, (numE (tdAt l i) t).2) := (if_neg (fun c => c h)).trans (if_pos k)
theorem hg_add (h : (hgtS s l t i).2 = 0) (k : (numE (tdAt l i) t).2 = 0) : hgtS s l t (i + 1) = fadd (hgtS s l t i).1 (numE (tdAt l i) t).1.re := (if_neg (fun c => c h)).trans (if_neg (fun c => c k))
theorem hg_err {n : Nat} (h : (hgtS s l t i).2 ≠ 0) (hi : i ≤ n) : endR (hgtS s l t n) = (Fr.zero, (hgtS s l t i).2) := by
  have e := hg_stay h (n - i)
  rw [show i + (n - i) = n by omega] at e
  unfold endR
  rw [e, if_pos h]
theorem endR_ok {s : Fr × Int} (h : s.2 = 0) : endR s = s := if_neg (fun c => c h)
end
noncomputable def sp_xat : Spec := { q := .un, ps := [tPort, .it .i64], rs := [tR, .it .i64], fresh := true, pre := fun _ _ => none, post := fun _ x => pR (atE x.1 x.2.1) }
noncomputable def iv_xat (y : El sp_xat.q) (x : Els sp_xat.ps) : Nat → Option Inv := fun k => if k = 0 then some { X := Nat, tm := fun i => [(1, .c (.sc (.int .i64 x.2.1))), (2, .c (.pv 1 0)), (4, .c (.pv 2 0)), (6, .c (.pv 3 0)), (7, .c (.sc (.int .i64 (hgtS (fadd (toFr x.1.2.1) one0) x.1.2.2.1 x.2.1 i).2))), (8, .c (.sc (.int .i64 i)))], ob := fun i => [(1, .var (cel tPort x.1)), (2, .var (zer tR)), (3, .var [.sc (.bool (hgtS (fadd (toFr x.1.2.1) one0) x.1.2.2.1 x.2.1 i).1.neg), .ow 4, .ow 5]), (4, .ty 114 (.it .u32) (hgtS (fadd (toFr x.1.2.1) one0) x.1.2.2.1 x.2.1 i).1.num 0), (5, .ty 114 (.it .u32) (hgtS (fadd (toFr x.1.2.1) one0) x.1.2.2.1 x.2.1 i).1.den 0)], n := 6, I := fun i => i ≤ x.1.2.2.1.length, μ := fun i => x.1.2.2.1.length - i } else none
noncomputable abbrev c_xat : Cfg := cfgS (Tryz.f59).ntmps false [(93, sp_rAdd.prim), (55, sp_xnumber.prim)]
def F_xat (y : El sp_xat.q) (x : Els sp_xat.ps) : Prop :=
  ∀ (r : Ro [tR, Ty.it IntKind.i64]), r = pR (fadd (toFr x.1.2.1) (toFr (false, [], [(1 : Int)], ()))) → (∃ (x_1 : Nat), x.2.1 = x.2.1 ∧ (hgtS (fadd (toFr x.1.2.1) one0) x.1.2.2.1 x.2.1 x_1).2 = r.2.2.1 ∧ (↑x_1 : Int) = (0 : Int) ∧ x.1.1 = x.1.1 ∧ x.1.2.1.1 = x.1.2.1.1 ∧ x.1.2.1.2.1 = x.1.2.1.2.1 ∧ x.1.2.1.2.2.1 = x.1.2.1.2.2.1 ∧ x.1.2.2.1 = x.1.2.2.1 ∧ (hgtS (fadd (toFr x.1.2.1) one0) x.1.2.2.1 x.2.1 x_1).1.neg = r.2.1.1 ∧ (hgtS (fadd (toFr x.1.2.1) one0) x.1.2.2.1 x.2.1 x_1).1.num = r.2.1.2.1 ∧ (hgtS (fadd (toFr x.1.2.1) one0) x.1.2.2.1 x.2.1 x_1).1.den = r.2.1.2.2.1 ∧ x_1.le (List.length x.1.2.2.1)) ∧ ∀ (x_1 : Nat), x_1.le (List.length x.1.2.2.1) → (decide ((↑x_1 : Int) < (x.1.2.2.1.length : Int)) = true → (((hgtS (fadd (toFr x.1.2.1) one0) x.1.2.2.1 x.2.1 x_1).2 == (0 : Int)) = true → ((0 : Int) ≤ (↑x_1 : Int) ∧ (↑x_1 : Int) < (x.1.2.2.1.length : Int)) ∧ ∀ (r : Ro [tG, Ty.it IntKind.i64]), r = pG (numE (List.getD x.1.2.2.1 (↑x_1 : Int).toNat (dfl tTide)) x.2.1) → ((r.2.2.1 == (0 : Int)) = true → ∀ (r_1 : Ro [tR, Ty.it IntKind.i64]), r_1 = pR (fadd (toFr ((hgtS (fadd (toFr x.1.2.1) one0) x.1.2.2.1 x.2.1 x_1).1.neg, (hgtS (fadd (toFr x.1.2.1) one0) x.1.2.2.1 x.2.1 x_1).1.num, (hgtS (fadd (toFr x.1.2.1) one0) x.1.2.2.1 x.2.1 x_1).1.den, ())) (toFr r.2.1.1)) → ((-9223372036854775808 : Int) ≤ (↑x_1 : Int) + (1 : Int) ∧ (↑x_1 : Int) + (1 : Int) ≤ (9223372036854775807 : Int)) ∧ ∃ (x' : Nat), x.2.1 = x.2.1 ∧ (hgtS (fadd (toFr x.1.2.1) one0) x.1.2.2.1 x.2.1 x').2 = r_1.2.2.1 ∧ (↑x' : Int) = (↑x_1 : Int) + (1 : Int) ∧ x.1.1 = x.1.1 ∧ x.1.2.1.1 = x.1.2.1.1 ∧ x.1.2.1.2.1 = x.1.2.1.2.1 ∧ x.1.2.1.2.2.1 = x.1.2.1.2.2.1 ∧ x.1.2.2.1 = x.1.2.2.1 ∧ (hgtS (fadd (toFr x.1.2.1) one0) x.1.2.2.1 x.2.1 x').1.neg = r_1.2.1.1 ∧ (hgtS (fadd (toFr x.1.2.1) one0) x.1.2.2.1 x.2.1 x').1.num = r_1.2.1.2.1 ∧ (hgtS (fadd (toFr x.1.2.1) one0) x.1.2.2.1 x.2.1 x').1.den = r_1.2.1.2.2.1 ∧ x'.le (List.length x.1.2.2.1) ∧ List.length x.1.2.2.1 - x' < List.length x.1.2.2.1 - x_1) ∧ ((r.2.2.1 == (0 : Int)) = false → ((-9223372036854775808 : Int) ≤ (↑x_1 : Int) + (1 : Int) ∧ (↑x_1 : Int) + (1 : Int) ≤ (9223372036854775807 : Int)) ∧ ∃ (x' : Nat), x.2.1 = x.2.1 ∧ (hgtS (fadd (toFr x.1.2.1) one0) x.1.2.2.1 x.2.1 x').2 = r.2.2.1 ∧ (↑x' : Int) = (↑x_1 : Int) + (1 : Int) ∧ x.1.1 = x.1.1 ∧ x.1.2.1.1 = x.1.2.1.1 ∧ x.1.2.1.2.1 = x.1.2.1.2.1 ∧ x.1.2.1.2.2.1 = x.1.2.1.2.2.1 ∧ x.1.2.2.1 = x.1.2.2.1 ∧ (hgtS (fadd (toFr x.1.2.1) one0) x.1.2.2.1 x.2.1 x').1.neg = (hgtS (fadd (toFr x.1.2.1) one0) x.1.2.2.1 x.2.1 x_1).1.neg ∧ (hgtS (fadd (toFr x.1.2.1) one0) x.1.2.2.1 x.2.1 x').1.num = (hgtS (fadd (toFr x.1.2.1) one0) x.1.2.2.1 x.2.1 x_1).1.num ∧ (hgtS (fadd (toFr x.1.2.1) one0) x.1.2.2.1 x.2.1 x').1.den = (hgtS (fadd (toFr x.1.2.1) one0) x.1.2.2.1 x.2.1 x_1).1.den ∧ x'.le (List.length x.1.2.2.1) ∧ List.length x.1.2.2.1 - x' < List.length x.1.2.2.1 - x_1)) ∧ (((hgtS (fadd (toFr x.1.2.1) one0) x.1.2.2.1 x.2.1 x_1).2 == (0 : Int)) = false → (((hgtS (fadd (toFr x.1.2.1) one0) x.1.2.2.1 x.2.1 x_1).2 != (0 : Int)) = true → ((false, [], [], ()), (hgtS (fadd (toFr x.1.2.1) one0) x.1.2.2.1 x.2.1 x_1).2, ()) = (pR (atE x.1 x.2.1)).2) ∧ (((hgtS (fadd (toFr x.1.2.1) one0) x.1.2.2.1 x.2.1 x_1).2 != (0 : Int)) = false → (((hgtS (fadd (toFr x.1.2.1) one0) x.1.2.2.1 x.2.1 x_1).1.neg, (hgtS (fadd (toFr x.1.2.1) one0) x.1.2.2.1 x.2.1 x_1).1.num, (hgtS (fadd (toFr x.1.2.1) one0) x.1.2.2.1 x.2.1 x_1).1.den, ()), (0 : Int), ()) = (pR (atE x.1 x.2.1)).2))) ∧ (decide ((↑x_1 : Int) < (x.1.2.2.1.length : Int)) = false → (((hgtS (fadd (toFr x.1.2.1) one0) x.1.2.2.1 x.2.1 x_1).2 != (0 : Int)) = true → ((false, [], [], ()), (hgtS (fadd (toFr x.1.2.1) one0) x.1.2.2.1 x.2.1 x_1).2, ()) = (pR (atE x.1 x.2.1)).2) ∧ (((hgtS (fadd (toFr x.1.2.1) one0) x.1.2.2.1 x.2.1 x_1).2 != (0 : Int)) = false → (((hgtS (fadd (toFr x.1.2.1) one0) x.1.2.2.1 x.2.1 x_1).1.neg, (hgtS (fadd (toFr x.1.2.1) one0) x.1.2.2.1 x.2.1 x_1).1.num, (hgtS (fadd (toFr x.1.2.1) one0) x.1.2.2.1 x.2.1 x_1).1.den, ()), (0 : Int), ()) = (pR (atE x.1 x.2.1)).2))
theorem w_xat (y : El sp_xat.q) (x : Els sp_xat.ps) : aW c_xat (iv_xat y x) Tryz.f59 sp_xat y x = F_xat y x := by kernel_rfl
theorem m_xat (y : El (.un)) (x : Els [tPort, .it .i64]) (h2 : wfE (.un) y) (h3 : wfEs [tPort, .it .i64] x) : F_xat y x := by
  unfold F_xat
  rintro _ rfl
  refine ⟨⟨0, rfl, rfl, rfl, rfl, rfl, rfl, rfl, rfl, rfl, rfl, rfl, Nat.zero_le _⟩, fun i hi => ⟨fun l => ⟨fun h => ?_, fun h => ?_⟩, fun l => ?_⟩⟩
  · have hi : i ≤ x.1.2.2.1.length := hi
    have l := ltT l
    have il : i + 1 ≤ x.1.2.2.1.length := by omega
    have hL : x.1.2.2.1.length ≤ 9223372036854775807 := h3.1.2.2.1.1
    have h := eqT h
    refine ⟨⟨by omega, l⟩, ?_⟩
    rintro _ rfl
    refine ⟨fun k => ?_, fun k => ?_⟩
    · rintro _ rfl
      have e := hg_add h (eqT k)
      refine ⟨by omega, i + 1, rfl, ?_⟩
      and_intros
      all_goals first | rfl | exact il | (rw [e] <;> rfl) | omega
    · have e := hg_bad h (eqF k)
      refine ⟨by omega, i + 1, rfl, ?_⟩
      and_intros
      all_goals first | rfl | exact il | (rw [e] <;> rfl) | omega
  · refine ⟨fun k => ?_, fun k => absurd (neF k) (eqF h)⟩
    have e : atE x.1 x.2.1 = _ := hg_err (eqF h) hi
    rw [e]
    rfl
  · have hi : i ≤ x.1.2.2.1.length := hi
    have l := ltF l
    have ei : i = x.1.2.2.1.length := by omega
    refine ⟨fun k => ?_, fun k => ?_⟩
    · have e : atE x.1 x.2.1 = _ := hg_err (neT k) hi
      rw [e]
      rfl
    · have k := neF k
      have e : atE x.1 x.2.1 = _ := endR_ok (ei ▸ k)
      rw [e, ← ei]
      rw [show (pR (hgtS (fadd (toFr x.1.2.1) one0) x.1.2.2.1 x.2.1 i)).2 = (ofFr (hgtS (fadd (toFr x.1.2.1) one0) x.1.2.2.1 x.2.1 i).1, (hgtS (fadd (toFr x.1.2.1) one0) x.1.2.2.1 x.2.1 i).2, ()) from rfl, k]
theorem fo_xat : FnOk Tryz.prog 59 sp_xat := fnOk_of (C := c_xat) iv_xat Tryz.func59 rfl (by kernel_rfl) tys_ok (prims_cons (spec_prim fo_rAdd) (prims_cons (spec_prim fo_xnumber) prims_nil)) mixed_ (Nat.le_refl _) rfl fun y x h1 h2 h3 h4 =>
  Eq.mpr (w_xat y x) (m_xat y x h2 h3)
def AtE (p : El tPort) (t : Int) : Fr × Int := if wrongE p t ≠ 0 then (Fr.zero, wrongE p t) else atE p t
noncomputable def sp_xAt : Spec := { q := .un, ps := [tPort, .it .i64], rs := [tR, .it .i64], fresh := true, pre := fun _ _ => none, post := fun _ x => pR (AtE x.1 x.2.1) }
noncomputable def iv_xAt (y : El sp_xAt.q) (x : Els sp_xAt.ps) : Nat → Option Inv := fun _ => none
noncomputable abbrev c_xAt : Cfg := cfgS (Tryz.f12).ntmps false [(58, sp_xwrong.prim), (59, sp_xat.prim)]
def F_xAt (y : El sp_xAt.q) (x : Els sp_xAt.ps) : Prop :=
  ∀ (r : Ro [Ty.it IntKind.i64]), r = ((), wrongE x.1 x.2.1, ()) → ((r.2.1 != (0 : Int)) = true → ((false, [], [], ()), r.2) = (pR (AtE x.1 x.2.1)).2) ∧ ((r.2.1 != (0 : Int)) = false → ∀ (r : Ro [tR, Ty.it IntKind.i64]), r = pR (atE x.1 x.2.1) → r.2 = (pR (AtE x.1 x.2.1)).2)
theorem w_xAt (y : El sp_xAt.q) (x : Els sp_xAt.ps) : aW c_xAt (iv_xAt y x) Tryz.f12 sp_xAt y x = F_xAt y x := by kernel_rfl
theorem m_xAt (y : El (.un)) (x : Els [tPort, .it .i64]) (h2 : wfE (.un) y) (h3 : wfEs [tPort, .it .i64] x) : F_xAt y x := by
  unfold F_xAt
  rintro _ rfl
  unfold AtE
  refine ⟨fun h => ?_, fun h => ?_⟩
  · rw [if_pos (neT h)]
    rfl
  · rw [if_neg (fun c => c (neF h))]
    rintro _ rfl
    rfl
theorem fo_xAt : FnOk Tryz.prog 12 sp_xAt := fnOk_of (C := c_xAt) iv_xAt Tryz.func12 rfl (by kernel_rfl) tys_ok (prims_cons (spec_prim fo_xwrong) (prims_cons (spec_prim fo_xat) prims_nil)) mixed_ (Nat.le_refl _) rfl fun y x h1 h2 h3 h4 =>
  Eq.mpr (w_xAt y x) (m_xAt y x h2 h3)
def sumS (l : List (El tTide)) (t : Int) : Nat → Ga × Int
  | 0 => (gint 0 0, 0)
  | i + 1 => if (sumS l t i).2 ≠ 0 then sumS l t i else if (numE (tdAt l i) t).2 ≠ 0 then (Ga.zero, (numE (tdAt l i) t).2) else gadd (sumS l t i).1 (numE (tdAt l i) t).1
def SumE (p : El tPort) (t : Int) : Ga × Int := if wrongE p t ≠ 0 then (Ga.zero, wrongE p t) else sumS p.2.2.1 t p.2.2.1.length
section
variable {l : List (El tTide)} {t : Int} {i : Nat}
theorem su_stay (h : (sumS l t i).2 ≠ 0) : ∀ k, sumS l t (i + k) = sumS l t i
  | 0 => rfl
  | k + 1 => by
    have ih := su_stay h k
    show (if (sumS l t (i + k)).2 ≠ 0 then sumS l t (i + k) else _) = _
    rw [ih, if_pos h]
theorem su_bad (h : (sumS l t i).2 = 0) (k : (numE (tdAt l i) t).2 ≠ 0) : sumS l t (i + 1) = (Ga.zero, (numE (tdAt l i) t).2) := (if_neg (fun c => c h)).trans (if_pos k)
theorem su_add (h : (sumS l t i).2 = 0) (k : (numE (tdAt l i) t).2 = 0) : sumS l t (i + 1) = gadd (sumS l t i).1 (numE (tdAt l i) t).1 := (if_neg (fun c => c h)).trans (if_neg (fun c => c k))
theorem su_err {n : Nat} (h : (sumS l t (i + 1)).2 ≠ 0) (hi : i + 1 ≤ n) : sumS l t n = sumS l t (i + 1) := by
  have e := su_stay h (n - (i + 1))
  rw [show i + 1 + (n - (i + 1)) = n by omega] at e
  exact e
theorem gadd_bad {a b : Ga} (h : (gadd a b).2 ≠ 0) : gadd a b = (Ga.zero, (gadd a b).2) := by
  simp only [gadd, gtell] at h ⊢
  split at h
  · rename_i k
    rw [if_pos k]
  · rename_i k
    exact absurd rfl (h)
end
noncomputable def sp_xSum : Spec := { q := .un, ps := [tPort, .it .i64], rs := [tG, .it .i64], fresh := true, pre := fun _ _ => none, post := fun _ x => pG (SumE x.1 x.2.1) }
noncomputable def iv_xSum (y : El sp_xSum.q) (x : Els sp_xSum.ps) : Nat → Option Inv := fun k => if k = 0 then some { X := Nat, tm := fun i => [(1, .c (.sc (.int .i64 x.2.1))), (2, .c (.pv 1 0)), (4, .c (.pv 2 0)), (7, .c (.pv 3 0)), (21, .c (.sl tTide x.1.2.2.1)), (22, .c (.sc (.int .i64 x.1.2.2.1.length))), (23, .c (.sc (.int .i64 i)))], ob := fun i => [(1, .var (cel tPort x.1)), (2, .var (zer tG)), (3, .var [.sc (.bool (sumS x.1.2.2.1 x.2.1 i).1.re.neg), .ow 4, .ow 5, .sc (.bool (sumS x.1.2.2.1 x.2.1 i).1.im.neg), .ow 6, .ow 7]), (4, .ty 114 (.it .u32) (sumS x.1.2.2.1 x.2.1 i).1.re.num 0), (5, .ty 114 (.it .u32) (sumS x.1.2.2.1 x.2.1 i).1.re.den 0), (6, .ty 114 (.it .u32) (sumS x.1.2.2.1 x.2.1 i).1.im.num 0), (7, .ty 114 (.it .u32) (sumS x.1.2.2.1 x.2.1 i).1.im.den 0)], n := 8, I := fun i => i ≤ x.1.2.2.1.length ∧ (sumS x.1.2.2.1 x.2.1 i).2 = 0, μ := fun i => x.1.2.2.1.length - i } else none
noncomputable abbrev c_xSum : Cfg := cfgS (Tryz.f14).ntmps false [(58, sp_xwrong.prim), (62, sp_gInt.prim), (55, sp_xnumber.prim), (63, sp_gAdd.prim)]
def F_xSum (y : El sp_xSum.q) (x : Els sp_xSum.ps) : Prop :=
  ∀ (r : Ro [Ty.it IntKind.i64]), r = ((), wrongE x.1 x.2.1, ()) → ((r.2.1 != (0 : Int)) = true → (((false, [], [], ()), (false, [], [], ()), ()), r.2) = (pG (SumE x.1 x.2.1)).2) ∧ ((r.2.1 != (0 : Int)) = false → ∀ (r : Ro [tG]), r = ((), ofGa { re := (fsmall (0 : Int) (1 : Int)).1, im := (fsmall (0 : Int) (1 : Int)).1 }, ()) → (∃ (x_1 : Nat), x.2.1 = x.2.1 ∧ x.1.2.2.1 = x.1.2.2.1 ∧ (x.1.2.2.1.length : Int) = (x.1.2.2.1.length : Int) ∧ (↑x_1 : Int) = (0 : Int) ∧ x.1.1 = x.1.1 ∧ x.1.2.1.1 = x.1.2.1.1 ∧ x.1.2.1.2.1 = x.1.2.1.2.1 ∧ x.1.2.1.2.2.1 = x.1.2.1.2.2.1 ∧ x.1.2.2.1 = x.1.2.2.1 ∧ (sumS x.1.2.2.1 x.2.1 x_1).1.re.neg = r.2.1.1.1 ∧ (sumS x.1.2.2.1 x.2.1 x_1).1.im.neg = r.2.1.2.1.1 ∧ (sumS x.1.2.2.1 x.2.1 x_1).1.re.num = r.2.1.1.2.1 ∧ (sumS x.1.2.2.1 x.2.1 x_1).1.re.den = r.2.1.1.2.2.1 ∧ (sumS x.1.2.2.1 x.2.1 x_1).1.im.num = r.2.1.2.1.2.1 ∧ (sumS x.1.2.2.1 x.2.1 x_1).1.im.den = r.2.1.2.1.2.2.1 ∧ x_1 ≤ List.length x.1.2.2.1 ∧ (sumS x.1.2.2.1 x.2.1 x_1).2 = (0 : Int)) ∧ ∀ (x_1 : Nat), x_1 ≤ List.length x.1.2.2.1 ∧ (sumS x.1.2.2.1 x.2.1 x_1).2 = (0 : Int) → (decide ((↑x_1 : Int) < (x.1.2.2.1.length : Int)) = true → ((0 : Int) ≤ (↑x_1 : Int) ∧ (↑x_1 : Int) < (x.1.2.2.1.length : Int)) ∧ ∀ (r : Ro [tG, Ty.it IntKind.i64]), r = pG (numE (List.getD x.1.2.2.1 (↑x_1 : Int).toNat (dfl tTide)) x.2.1) → ((r.2.2.1 == (0 : Int)) = true → ∀ (r_1 : Ro [tG, Ty.it IntKind.i64]), r_1 = pG (gadd (toGa (((sumS x.1.2.2.1 x.2.1 x_1).1.re.neg, (sumS x.1.2.2.1 x.2.1 x_1).1.re.num, (sumS x.1.2.2.1 x.2.1 x_1).1.re.den, ()), ((sumS x.1.2.2.1 x.2.1 x_1).1.im.neg, (sumS x.1.2.2.1 x.2.1 x_1).1.im.num, (sumS x.1.2.2.1 x.2.1 x_1).1.im.den, ()), ())) (toGa r.2.1)) → ((r_1.2.2.1 != (0 : Int)) = true → (((false, [], [], ()), (false, [], [], ()), ()), r_1.2.2) = (pG (SumE x.1 x.2.1)).2) ∧ ((r_1.2.2.1 != (0 : Int)) = false → ((-9223372036854775808 : Int) ≤ (↑x_1 : Int) + (1 : Int) ∧ (↑x_1 : Int) + (1 : Int) ≤ (9223372036854775807 : Int)) ∧ ∃ (x' : Nat), x.2.1 = x.2.1 ∧ x.1.2.2.1 = x.1.2.2.1 ∧ (x.1.2.2.1.length : Int) = (x.1.2.2.1.length : Int) ∧ (↑x' : Int) = (↑x_1 : Int) + (1 : Int) ∧ x.1.1 = x.1.1 ∧ x.1.2.1.1 = x.1.2.1.1 ∧ x.1.2.1.2.1 = x.1.2.1.2.1 ∧ x.1.2.1.2.2.1 = x.1.2.1.2.2.1 ∧ x.1.2.2.1 = x.1.2.2.1 ∧ (sumS x.1.2.2.1 x.2.1 x').1.re.neg = r_1.2.1.1.1 ∧ (sumS x.1.2.2.1 x.2.1 x').1.im.neg = r_1.2.1.2.1.1 ∧ (sumS x.1.2.2.1 x.2.1 x').1.re.num = r_1.2.1.1.2.1 ∧ (sumS x.1.2.2.1 x.2.1 x').1.re.den = r_1.2.1.1.2.2.1 ∧ (sumS x.1.2.2.1 x.2.1 x').1.im.num = r_1.2.1.2.1.2.1 ∧ (sumS x.1.2.2.1 x.2.1 x').1.im.den = r_1.2.1.2.1.2.2.1 ∧ (x' ≤ List.length x.1.2.2.1 ∧ (sumS x.1.2.2.1 x.2.1 x').2 = (0 : Int)) ∧ List.length x.1.2.2.1 - x' < List.length x.1.2.2.1 - x_1)) ∧ ((r.2.2.1 == (0 : Int)) = false → ((r.2.2.1 != (0 : Int)) = true → (((false, [], [], ()), (false, [], [], ()), ()), r.2.2) = (pG (SumE x.1 x.2.1)).2) ∧ ((r.2.2.1 != (0 : Int)) = false → ((-9223372036854775808 : Int) ≤ (↑x_1 : Int) + (1 : Int) ∧ (↑x_1 : Int) + (1 : Int) ≤ (9223372036854775807 : Int)) ∧ ∃ (x' : Nat), x.2.1 = x.2.1 ∧ x.1.2.2.1 = x.1.2.2.1 ∧ (x.1.2.2.1.length : Int) = (x.1.2.2.1.length : Int) ∧ (↑x' : Int) = (↑x_1 : Int) + (1 : Int) ∧ x.1.1 = x.1.1 ∧ x.1.2.1.1 = x.1.2.1.1 ∧ x.1.2.1.2.1 = x.1.2.1.2.1 ∧ x.1.2.1.2.2.1 = x.1.2.1.2.2.1 ∧ x.1.2.2.1 = x.1.2.2.1 ∧ (sumS x.1.2.2.1 x.2.1 x').1.re.neg = (sumS x.1.2.2.1 x.2.1 x_1).1.re.neg ∧ (sumS x.1.2.2.1 x.2.1 x').1.im.neg = (sumS x.1.2.2.1 x.2.1 x_1).1.im.neg ∧ (sumS x.1.2.2.1 x.2.1 x').1.re.num = (sumS x.1.2.2.1 x.2.1 x_1).1.re.num ∧ (sumS x.1.2.2.1 x.2.1 x').1.re.den = (sumS x.1.2.2.1 x.2.1 x_1).1.re.den ∧ (sumS x.1.2.2.1 x.2.1 x').1.im.num = (sumS x.1.2.2.1 x.2.1 x_1).1.im.num ∧ (sumS x.1.2.2.1 x.2.1 x').1.im.den = (sumS x.1.2.2.1 x.2.1 x_1).1.im.den ∧ (x' ≤ List.length x.1.2.2.1 ∧ (sumS x.1.2.2.1 x.2.1 x').2 = (0 : Int)) ∧ List.length x.1.2.2.1 - x' < List.length x.1.2.2.1 - x_1))) ∧ (decide ((↑x_1 : Int) < (x.1.2.2.1.length : Int)) = false → ((((sumS x.1.2.2.1 x.2.1 x_1).1.re.neg, (sumS x.1.2.2.1 x.2.1 x_1).1.re.num, (sumS x.1.2.2.1 x.2.1 x_1).1.re.den, ()), ((sumS x.1.2.2.1 x.2.1 x_1).1.im.neg, (sumS x.1.2.2.1 x.2.1 x_1).1.im.num, (sumS x.1.2.2.1 x.2.1 x_1).1.im.den, ()), ()), (0 : Int), ()) = (pG (SumE x.1 x.2.1)).2))
theorem w_xSum (y : El sp_xSum.q) (x : Els sp_xSum.ps) : aW c_xSum (iv_xSum y x) Tryz.f14 sp_xSum y x = F_xSum y x := by kernel_rfl
theorem m_xSum (y : El (.un)) (x : Els [tPort, .it .i64]) (h2 : wfE (.un) y) (h3 : wfEs [tPort, .it .i64] x) : F_xSum y x := by
  unfold F_xSum
  rintro _ rfl
  refine ⟨fun h => ?_, fun h => ?_⟩
  · unfold SumE
    rw [if_pos (neT h)]
    rfl
  · have eS : SumE x.1 x.2.1 = sumS x.1.2.2.1 x.2.1 x.1.2.2.1.length := by
      unfold SumE
      rw [if_neg (fun c => c (neF h))]
    rw [eS]
    have hL : x.1.2.2.1.length ≤ 9223372036854775807 := h3.1.2.2.1.1
    rintro _ rfl
    refine ⟨⟨0, rfl, rfl, rfl, rfl, rfl, rfl, rfl, rfl, rfl, rfl, rfl, rfl, rfl, rfl, rfl, Nat.zero_le _, rfl⟩, fun i hi => ⟨fun l => ?_, fun l => ?_⟩⟩
    · obtain ⟨hi, h0⟩ := hi
      have l := ltT l
      have il : i + 1 ≤ x.1.2.2.1.length := by omega
      refine ⟨⟨by omega, l⟩, ?_⟩
      rintro _ rfl
      refine ⟨fun k => ?_, fun k => ⟨fun _ => ?_, fun m => absurd (neF m) (eqF k)⟩⟩
      · rintro _ rfl
        have e := su_add h0 (eqT k)
        refine ⟨fun m => ?_, fun m => ?_⟩
        · have m : (gadd (sumS x.1.2.2.1 x.2.1 i).1 (numE (tdAt x.1.2.2.1 i) x.2.1).1).2 ≠ 0 := neT m
          rw [su_err (by rw [e]; exact m) il, e, gadd_bad m]
          rfl
        · have m : (gadd (sumS x.1.2.2.1 x.2.1 i).1 (numE (tdAt x.1.2.2.1 i) x.2.1).1).2 = 0 := neF m
          refine ⟨by omega, i + 1, ?_⟩
          and_intros
          all_goals first | rfl | exact il | (rw [e]; exact m) | (rw [e] <;> rfl) | omega
      · have e := su_bad h0 (eqF k)
        rw [su_err (by rw [e]; exact eqF k) il, e]
        rfl
    · obtain ⟨hi, h0⟩ := hi
      have l := ltF l
      have ei : i = x.1.2.2.1.length := by omega
      rw [← ei]
      rw [show (pG (sumS x.1.2.2.1 x.2.1 i)).2 = (ofGa (sumS x.1.2.2.1 x.2.1 i).1, (sumS x.1.2.2.1 x.2.1 i).2, ()) from rfl, h0]
theorem fo_xSum : FnOk Tryz.prog 14 sp_xSum := fnOk_of (C := c_xSum) iv_xSum Tryz.func14 rfl (by kernel_rfl) tys_ok (prims_cons (spec_prim fo_xwrong) (prims_cons (spec_prim fo_gInt) (prims_cons (spec_prim fo_xnumber) (prims_cons (spec_prim fo_gAdd) prims_nil)))) mixed_ (Nat.le_refl _) rfl fun y x h1 h2 h3 h4 =>
  Eq.mpr (w_xSum y x) (m_xSum y x h2 h3)
def spanS (p : El tPort) (a : Int) : Nat → List (El tR) × Int
  | 0 => ([], 0)
  | k + 1 => if (spanS p a k).2 ≠ 0 then spanS p a k else if (atE p (a + k)).2 ≠ 0 then ([], (atE p (a + k)).2) else ((spanS p a k).1 ++ [ofFr (atE p (a + k)).1], 0)
section
variable {p : El tPort} {a b : Int} {k : Nat}
theorem sp_stay (h : (spanS p a k).2 ≠ 0) : ∀ j, spanS p a (k + j) = spanS p a k
  | 0 => rfl
  | j + 1 => by
    have ih := sp_stay h j
    show (if (spanS p a (k + j)).2 ≠ 0 then spanS p a (k + j) else _) = _
    rw [ih, if_pos h]
end
def bitsZ (n : Int) : Int := if n ≤ 0 then 0 else ((n.toNat.log2 + 1 : Nat) : Int)
theorem bits_0 {n : Int} (h : n ≤ 0) : bitsZ n = 0 := if_pos h
theorem bits_half {n : Int} (h : 0 < n) : bitsZ n = bitsZ (n / 2) + 1 := by
  obtain ⟨m, rfl⟩ : ∃ m : Nat, n = m := ⟨n.toNat, by omega⟩
  have e2 : ((m : Int) / 2) = ((m / 2 : Nat) : Int) := by omega
  rw [e2]
  unfold bitsZ
  rw [if_neg (by omega), Int.toNat_natCast]
  by_cases k : m < 2
  · obtain rfl : m = 1 := by omega
    decide
  · rw [if_neg (by omega), Int.toNat_natCast, Nat.log2_def m, if_pos (by omega)]
    omega
theorem bits_rng {n : Int} (h : n ≤ 9223372036854775807) : 0 ≤ bitsZ n ∧ bitsZ n ≤ 63 := by
  unfold bitsZ
  split
  · omega
  · rename_i k
    have : n.toNat.log2 < 63 := (Nat.log2_lt (by omega)).2 (by omega)
    omega
noncomputable def sp_lbits : Spec := { q := .un, ps := [.it .i64], rs := [.it .i64], fresh := true, pre := fun _ _ => none, post := fun _ x => ((), (bitsZ x.1, ())) }
noncomputable def iv_lbits (y : El sp_lbits.q) (x : Els sp_lbits.ps) : Nat → Option Inv := fun k => if k = 0 then some { X := Int × Nat, tm := fun i => [(0, .c (.sc (.int .i64 i.1))), (3, .c (.sc (.int .i64 i.2)))], ob := fun _ => [], n := 1, I := fun i => bitsZ i.1 + i.2 = bitsZ x.1 ∧ i.1 ≤ 9223372036854775807, μ := fun i => i.1.toNat } else none
noncomputable abbrev c_lbits : Cfg := cfgS (Tryz.f49).ntmps false []
def F_lbits (y : El sp_lbits.q) (x : Els sp_lbits.ps) : Prop :=
  (∃ (x_1 : Int × Nat), x_1.1 = x.1 ∧ (↑x_1.2 : Int) = (0 : Int) ∧ bitsZ x_1.1 + (↑x_1.2 : Int) = bitsZ x.1 ∧ x_1.1 ≤ (9223372036854775807 : Int)) ∧ ∀ (x_1 : Int × Nat), bitsZ x_1.1 + (↑x_1.2 : Int) = bitsZ x.1 ∧ x_1.1 ≤ (9223372036854775807 : Int) → (decide (x_1.1 > (0 : Int)) = true → ((-9223372036854775808 : Int) ≤ (↑x_1.2 : Int) + (1 : Int) ∧ (↑x_1.2 : Int) + (1 : Int) ≤ (9223372036854775807 : Int)) ∧ ((0 : Int) ≤ x_1.1 ∧ (0 : Int) < (2 : Int)) ∧ ∃ (x' : Int × Nat), x'.1 = x_1.1 / (2 : Int) ∧ (↑x'.2 : Int) = (↑x_1.2 : Int) + (1 : Int) ∧ (bitsZ x'.1 + (↑x'.2 : Int) = bitsZ x.1 ∧ x'.1 ≤ (9223372036854775807 : Int)) ∧ x'.1.toNat < x_1.1.toNat) ∧ (decide (x_1.1 > (0 : Int)) = false → ((↑x_1.2 : Int), ()) = (bitsZ x.1, ()))
theorem w_lbits (y : El sp_lbits.q) (x : Els sp_lbits.ps) : aW c_lbits (iv_lbits y x) Tryz.f49 sp_lbits y x = F_lbits y x := by kernel_rfl
theorem m_lbits (y : El (.un)) (x : Els [.it .i64]) (h2 : wfE (.un) y) (h3 : wfEs [.it .i64] x) : F_lbits y x := by
  unfold F_lbits
  have hx : x.1 ≤ 9223372036854775807 := h3.1.2
  refine ⟨⟨(x.1, 0), rfl, rfl, by rw [show ((0 : Nat) : Int) = 0 from rfl, Int.add_zero], hx⟩, fun i hi => ⟨fun l => ?_, fun l => ?_⟩⟩
  all_goals obtain ⟨e, hi⟩ := hi
  · have l := gtT l
    have b := bits_half l
    have r := bits_rng hi
    have r0 := bits_rng (show x.1 ≤ 9223372036854775807 from h3.1.2)
    refine ⟨by omega, ⟨by omega, by decide⟩, (i.1 / 2, i.2 + 1), rfl, rfl, ⟨?_, ?_⟩, ?_⟩
    · show bitsZ (i.1 / 2) + ((i.2 + 1 : Nat) : Int) = _
      omega
    · show i.1 / 2 ≤ _
      omega
    · show (i.1 / 2).toNat < _
      omega
  · have l := gtF l
    rw [← e, bits_0 l, Int.zero_add]
theorem fo_lbits : FnOk Tryz.prog 49 sp_lbits := fnOk_of (C := c_lbits) iv_lbits Tryz.func49 rfl (by kernel_rfl) tys_ok prims_nil mixed_ (Nat.le_refl _) rfl fun y x h1 h2 h3 h4 =>
  Eq.mpr (w_lbits y x) (m_lbits y x h2 h3)
def wordsZ (r : El tRot) (t : Int) : Int := if t < 0 ∨ 1024 < t ∨ rA r < 1 ∨ 1000 < rA r ∨ rB r < -1000 ∨ 1000 < rB r then 0 else if 200 < t ∧ (40 < rA r ∨ 40 < rB r ∨ rB r < -40) then 1000000 else t * bitsZ (rA r * rA r + rB r * rB r) / 32 + 1
section
variable {r : El tRot} {t : Int}
theorem w_1 (h : t < 0 ∨ 1024 < t ∨ rA r < 1 ∨ 1000 < rA r ∨ rB r < -1000 ∨ 1000 < rB r) : ((0 : Int), ()) = (wordsZ r t, ()) := by unfold wordsZ; rw [if_pos h]
theorem w_2 (h : ¬ (t < 0 ∨ 1024 < t ∨ rA r < 1 ∨ 1000 < rA r ∨ rB r < -1000 ∨ 1000 < rB r)) (k : 200 < t ∧ (40 < rA r ∨ 40 < rB r ∨ rB r < -40)) : ((1000000 : Int), ()) = (wordsZ r t, ()) := by unfold wordsZ; rw [if_neg h, if_pos k]
theorem w_3 (h : ¬ (t < 0 ∨ 1024 < t ∨ rA r < 1 ∨ 1000 < rA r ∨ rB r < -1000 ∨ 1000 < rB r)) (k : ¬ (200 < t ∧ (40 < rA r ∨ 40 < rB r ∨ rB r < -40))) : (t * bitsZ (rA r * rA r + rB r * rB r) / 32 + 1, ()) = (wordsZ r t, ()) := by unfold wordsZ; rw [if_neg h, if_neg k]
theorem w_c1 (a : 0 ≤ t) (b : t ≤ 1024) (c : 1 ≤ rA r) (d : rA r ≤ 1000) (e : -1000 ≤ rB r) (f : rB r ≤ 1000) : ¬ (t < 0 ∨ 1024 < t ∨ rA r < 1 ∨ 1000 < rA r ∨ rB r < -1000 ∨ 1000 < rB r) := by omega
theorem w_c2 (a : rA r ≤ 40) (b : rB r ≤ 40) (c : -40 ≤ rB r) : ¬ (200 < t ∧ (40 < rA r ∨ 40 < rB r ∨ rB r < -40)) := by omega
theorem w_c3 (a : t ≤ 200) : ¬ (200 < t ∧ (40 < rA r ∨ 40 < rB r ∨ rB r < -40)) := by omega
theorem sq_1000 {z : Int} (h : -1000 ≤ z) (k : z ≤ 1000) : 0 ≤ z * z ∧ z * z ≤ 1000000 := by
  have e : (z * z).natAbs ≤ 1000 * 1000 := by rw [Int.natAbs_mul]; exact Nat.mul_le_mul (by omega) (by omega)
  have f : 0 ≤ z * z := by
    rcases Int.le_total 0 z with p | p
    · exact Int.mul_nonneg p p
    · exact Int.mul_nonneg_of_nonpos_of_nonpos p p
  omega
theorem tb_rng {b : Int} (h : ¬ (t < 0 ∨ 1024 < t ∨ rA r < 1 ∨ 1000 < rA r ∨ rB r < -1000 ∨ 1000 < rB r)) (hb : 0 ≤ b ∧ b ≤ 63) : 0 ≤ t * b ∧ t * b ≤ 64512 := by
  refine ⟨Int.mul_nonneg (by omega) hb.1, ?_⟩
  have := Int.mul_le_mul (show t ≤ 1024 by omega) hb.2 hb.1 (show (0 : Int) ≤ 1024 by decide)
  omega
theorem words_rng (r : El tRot) (t : Int) : 0 ≤ wordsZ r t ∧ wordsZ r t ≤ 1000000 := by
  unfold wordsZ
  split
  · omega
  · rename_i h
    split
    · omega
    · have hs : rA r * rA r + rB r * rB r ≤ 9223372036854775807 := by
        have e1 : (rA r * rA r).natAbs ≤ 1000 * 1000 := by rw [Int.natAbs_mul]; exact Nat.mul_le_mul (by omega) (by omega)
        have e2 : (rB r * rB r).natAbs ≤ 1000 * 1000 := by rw [Int.natAbs_mul]; exact Nat.mul_le_mul (by omega) (by omega)
        omega
      have := tb_rng h (bits_rng hs)
      omega
end
noncomputable def sp_lwords : Spec := { q := .un, ps := [tRot, .it .i64], rs := [.it .i64], fresh := true, pre := fun _ _ => none, post := fun _ x => ((), (wordsZ x.1 x.2.1, ())) }
noncomputable def iv_lwords (y : El sp_lwords.q) (x : Els sp_lwords.ps) : Nat → Option Inv := fun _ => none
noncomputable abbrev c_lwords : Cfg := cfgS (Tryz.f7).ntmps false [(49, sp_lbits.prim)]
def F_lwords (y : El sp_lwords.q) (x : Els sp_lwords.ps) : Prop :=
  (fun (i21 : Int) (i11 : Int) (i121 : Int) => (decide (i21 < (0 : Int)) = true → ((0 : Int), ()) = (wordsZ x.1 i21, ())) ∧ (decide (i21 < (0 : Int)) = false → (decide (i21 > (1024 : Int)) = true → ((0 : Int), ()) = (wordsZ x.1 i21, ())) ∧ (decide (i21 > (1024 : Int)) = false → (decide (IntKind.i64.wrap i11 < (1 : Int)) = true → ((0 : Int), ()) = (wordsZ x.1 i21, ())) ∧ (decide (IntKind.i64.wrap i11 < (1 : Int)) = false → (decide (IntKind.i64.wrap i11 > (1000 : Int)) = true → ((0 : Int), ()) = (wordsZ x.1 i21, ())) ∧ (decide (IntKind.i64.wrap i11 > (1000 : Int)) = false → (decide (IntKind.i64.wrap i121 < (-1000 : Int)) = true → ((0 : Int), ()) = (wordsZ x.1 i21, ())) ∧ (decide (IntKind.i64.wrap i121 < (-1000 : Int)) = false → (decide (IntKind.i64.wrap i121 > (1000 : Int)) = true → ((0 : Int), ()) = (wordsZ x.1 i21, ())) ∧ (decide (IntKind.i64.wrap i121 > (1000 : Int)) = false → (decide (i21 > (200 : Int)) = true → (decide (IntKind.i64.wrap i11 > (40 : Int)) = true → ((1000000 : Int), ()) = (wordsZ x.1 i21, ())) ∧ (decide (IntKind.i64.wrap i11 > (40 : Int)) = false → (decide (IntKind.i64.wrap i121 > (40 : Int)) = true → ((1000000 : Int), ()) = (wordsZ x.1 i21, ())) ∧ (decide (IntKind.i64.wrap i121 > (40 : Int)) = false → (decide (IntKind.i64.wrap i121 < (-40 : Int)) = true → ((1000000 : Int), ()) = (wordsZ x.1 i21, ())) ∧ (decide (IntKind.i64.wrap i121 < (-40 : Int)) = false → ((-9223372036854775808 : Int) ≤ IntKind.i64.wrap i11 * IntKind.i64.wrap i11 ∧ IntKind.i64.wrap i11 * IntKind.i64.wrap i11 ≤ (9223372036854775807 : Int)) ∧ ((-9223372036854775808 : Int) ≤ IntKind.i64.wrap i121 * IntKind.i64.wrap i121 ∧ IntKind.i64.wrap i121 * IntKind.i64.wrap i121 ≤ (9223372036854775807 : Int)) ∧ ((-9223372036854775808 : Int) ≤ IntKind.i64.wrap i11 * IntKind.i64.wrap i11 + IntKind.i64.wrap i121 * IntKind.i64.wrap i121 ∧ IntKind.i64.wrap i11 * IntKind.i64.wrap i11 + IntKind.i64.wrap i121 * IntKind.i64.wrap i121 ≤ (9223372036854775807 : Int)) ∧ ∀ (r : Ro [Ty.it IntKind.i64]), r = ((), bitsZ (IntKind.i64.wrap i11 * IntKind.i64.wrap i11 + IntKind.i64.wrap i121 * IntKind.i64.wrap i121), ()) → ((-9223372036854775808 : Int) ≤ i21 * r.2.1 ∧ i21 * r.2.1 ≤ (9223372036854775807 : Int)) ∧ ((0 : Int) ≤ i21 * r.2.1 ∧ (0 : Int) < (32 : Int)) ∧ ((-9223372036854775808 : Int) ≤ i21 * r.2.1 / (32 : Int) + (1 : Int) ∧ i21 * r.2.1 / (32 : Int) + (1 : Int) ≤ (9223372036854775807 : Int)) ∧ (i21 * r.2.1 / (32 : Int) + (1 : Int), ()) = (wordsZ x.1 i21, ()))))) ∧ (decide (i21 > (200 : Int)) = false → ((-9223372036854775808 : Int) ≤ IntKind.i64.wrap i11 * IntKind.i64.wrap i11 ∧ IntKind.i64.wrap i11 * IntKind.i64.wrap i11 ≤ (9223372036854775807 : Int)) ∧ ((-9223372036854775808 : Int) ≤ IntKind.i64.wrap i121 * IntKind.i64.wrap i121 ∧ IntKind.i64.wrap i121 * IntKind.i64.wrap i121 ≤ (9223372036854775807 : Int)) ∧ ((-9223372036854775808 : Int) ≤ IntKind.i64.wrap i11 * IntKind.i64.wrap i11 + IntKind.i64.wrap i121 * IntKind.i64.wrap i121 ∧ IntKind.i64.wrap i11 * IntKind.i64.wrap i11 + IntKind.i64.wrap i121 * IntKind.i64.wrap i121 ≤ (9223372036854775807 : Int)) ∧ ∀ (r : Ro [Ty.it IntKind.i64]), r = ((), bitsZ (IntKind.i64.wrap i11 * IntKind.i64.wrap i11 + IntKind.i64.wrap i121 * IntKind.i64.wrap i121), ()) → ((-9223372036854775808 : Int) ≤ i21 * r.2.1 ∧ i21 * r.2.1 ≤ (9223372036854775807 : Int)) ∧ ((0 : Int) ≤ i21 * r.2.1 ∧ (0 : Int) < (32 : Int)) ∧ ((-9223372036854775808 : Int) ≤ i21 * r.2.1 / (32 : Int) + (1 : Int) ∧ i21 * r.2.1 / (32 : Int) + (1 : Int) ≤ (9223372036854775807 : Int)) ∧ (i21 * r.2.1 / (32 : Int) + (1 : Int), ()) = (wordsZ x.1 i21, ()))))))))) x.2.1 x.1.1 x.1.2.1
theorem w_lwords (y : El sp_lwords.q) (x : Els sp_lwords.ps) : aW c_lwords (iv_lwords y x) Tryz.f7 sp_lwords y x = F_lwords y x := by kernel_rfl
theorem m_lwords (y : El (.un)) (x : Els [tRot, .it .i64]) (h2 : wfE (.un) y) (h3 : wfEs [tRot, .it .i64] x) : F_lwords y x := by
  unfold F_lwords
  dsimp only
  simp only [wrap64_32 (i32_rng h3.1.1), wrap64_32 (i32_rng h3.1.2.1)]
  refine ⟨fun a => w_1 (.inl (ltT a)), fun a => ⟨fun b => w_1 (.inr (.inl (gtT b))), fun b => ⟨fun c => w_1 (.inr (.inr (.inl (ltT c)))), fun c => ⟨fun d => w_1 (.inr (.inr (.inr (.inl (gtT d))))), fun d => ⟨fun e => w_1 (.inr (.inr (.inr (.inr (.inl (ltT e)))))), fun e => ⟨fun f => w_1 (.inr (.inr (.inr (.inr (.inr (gtT f)))))), fun f => ?_⟩⟩⟩⟩⟩⟩
  have c1 := w_c1 (r := x.1) (ltF a) (gtF b) (ltF c) (gtF d) (ltF e) (gtF f)
  have s1 := sq_1000 (z := x.1.1) (Int.le_trans (by decide) (ltF c)) (gtF d)
  have s2 := sq_1000 (z := x.1.2.1) (ltF e) (gtF f)
  refine ⟨fun g => ⟨fun h => w_2 c1 ⟨gtT g, .inl (gtT h)⟩, fun h => ⟨fun i => w_2 c1 ⟨gtT g, .inr (.inl (gtT i))⟩, fun i => ⟨fun j => w_2 c1 ⟨gtT g, .inr (.inr (ltT j))⟩, fun j => ?_⟩⟩⟩, fun g => ?_⟩
  · have c2 := w_c2 (r := x.1) (t := x.2.1) (gtF h) (gtF i) (ltF j)
    refine ⟨⟨by omega, by omega⟩, ⟨by omega, by omega⟩, ⟨by omega, by omega⟩, ?_⟩
    rintro _ rfl
    have tb := tb_rng (r := x.1) (t := x.2.1) (b := bitsZ (x.1.1 * x.1.1 + x.1.2.1 * x.1.2.1)) c1 (bits_rng (Int.le_trans (Int.add_le_add s1.2 s2.2) (by decide)))
    dsimp only
    exact ⟨⟨Int.le_trans (by decide) tb.1, Int.le_trans tb.2 (by decide)⟩, ⟨tb.1, by decide⟩, ⟨by have := Int.ediv_nonneg tb.1 (show (0 : Int) ≤ 32 by decide); omega, by have := Int.ediv_le_self 32 tb.1; omega⟩, w_3 (r := x.1) c1 c2⟩
  · have c2 := w_c3 (r := x.1) (gtF g)
    refine ⟨⟨by omega, by omega⟩, ⟨by omega, by omega⟩, ⟨by omega, by omega⟩, ?_⟩
    rintro _ rfl
    have tb := tb_rng (r := x.1) (t := x.2.1) (b := bitsZ (x.1.1 * x.1.1 + x.1.2.1 * x.1.2.1)) c1 (bits_rng (Int.le_trans (Int.add_le_add s1.2 s2.2) (by decide)))
    dsimp only
    exact ⟨⟨Int.le_trans (by decide) tb.1, Int.le_trans tb.2 (by decide)⟩, ⟨tb.1, by decide⟩, ⟨by have := Int.ediv_nonneg tb.1 (show (0 : Int) ≤ 32 by decide); omega, by have := Int.ediv_le_self 32 tb.1; omega⟩, w_3 (r := x.1) c1 c2⟩
theorem fo_lwords : FnOk Tryz.prog 7 sp_lwords := fnOk_of (C := c_lwords) iv_lwords Tryz.func7 rfl (by kernel_rfl) tys_ok (prims_cons (spec_prim fo_lbits) prims_nil) mixed_ (Nat.le_refl _) rfl fun y x h1 h2 h3 h4 =>
  Eq.mpr (w_lwords y x) (m_lwords y x h2 h3)
def wsum (l : List (El tTide)) (t : Int) : Nat → Int
  | 0 => 0
  | i + 1 => wsum l t i + wordsZ (tdAt l i).2.1 t
def workZ (p : El tPort) (t : Int) : Int := if 40 < p.2.2.1.length then 0 else p.2.2.1.length * wsum p.2.2.1 t p.2.2.1.length * wsum p.2.2.1 t p.2.2.1.length
theorem wsum_rng (l : List (El tTide)) (t : Int) : ∀ i, 0 ≤ wsum l t i ∧ wsum l t i ≤ 1000000 * i
  | 0 => ⟨Int.le_refl _, by show (0 : Int) ≤ 1000000 * ((0 : Nat) : Int); decide⟩
  | i + 1 => by
    have ih := wsum_rng l t i
    have w := words_rng (tdAt l i).2.1 t
    have e : wsum l t (i + 1) = wsum l t i + wordsZ (tdAt l i).2.1 t := rfl
    rw [e]
    omega
theorem wk_rng {n s : Int} (hn : 0 ≤ n ∧ n ≤ 40) (hs : 0 ≤ s ∧ s ≤ 40000000) : (0 ≤ n * s ∧ n * s ≤ 1600000000) ∧ 0 ≤ n * s * s ∧ n * s * s ≤ 64000000000000000 := by
  have a := Int.mul_nonneg hn.1 hs.1
  have b := Int.mul_le_mul hn.2 hs.2 hs.1 (show (0 : Int) ≤ 40 by decide)
  have c := Int.mul_nonneg a hs.1
  have d := Int.mul_le_mul (show n * s ≤ 1600000000 by omega) hs.2 hs.1 (show (0 : Int) ≤ 1600000000 by decide)
  omega
noncomputable def sp_lWork : Spec := { q := .un, ps := [tPort, .it .i64], rs := [.it .i64], fresh := true, pre := fun _ _ => none, post := fun _ x => ((), (workZ x.1 x.2.1, ())) }
noncomputable def iv_lWork (y : El sp_lWork.q) (x : Els sp_lWork.ps) : Nat → Option Inv := fun k => if k = 0 then some { X := Nat, tm := fun i => [(1, .c (.sc (.int .i64 x.2.1))), (2, .c (.pv 1 0)), (5, .c (.sc (.int .i64 (wsum x.1.2.2.1 x.2.1 i)))), (6, .c (.sc (.int .i64 i)))], ob := fun i => [(1, .var (cel tPort x.1))], n := 2, I := fun i => i ≤ x.1.2.2.1.length, μ := fun i => x.1.2.2.1.length - i } else none
noncomputable abbrev c_lWork : Cfg := cfgS (Tryz.f6).ntmps false [(7, sp_lwords.prim)]
def F_lWork (y : El sp_lWork.q) (x : Els sp_lWork.ps) : Prop :=
  (decide ((x.1.2.2.1.length : Int) > (40 : Int)) = true → ((0 : Int), ()) = (workZ x.1 x.2.1, ())) ∧ (decide ((x.1.2.2.1.length : Int) > (40 : Int)) = false → (∃ (x_1 : Nat), x.2.1 = x.2.1 ∧ wsum x.1.2.2.1 x.2.1 x_1 = (0 : Int) ∧ (↑x_1 : Int) = (0 : Int) ∧ x.1.1 = x.1.1 ∧ x.1.2.1.1 = x.1.2.1.1 ∧ x.1.2.1.2.1 = x.1.2.1.2.1 ∧ x.1.2.1.2.2.1 = x.1.2.1.2.2.1 ∧ x.1.2.2.1 = x.1.2.2.1 ∧ x_1.le (List.length x.1.2.2.1)) ∧ ∀ (x_1 : Nat), x_1.le (List.length x.1.2.2.1) → (decide ((↑x_1 : Int) < (x.1.2.2.1.length : Int)) = true → ((0 : Int) ≤ (↑x_1 : Int) ∧ (↑x_1 : Int) < (x.1.2.2.1.length : Int)) ∧ ∀ (r : Ro [Ty.it IntKind.i64]), r = ((), wordsZ (List.getD x.1.2.2.1 (↑x_1 : Int).toNat (dfl tTide)).2.1 x.2.1, ()) → ((-9223372036854775808 : Int) ≤ wsum x.1.2.2.1 x.2.1 x_1 + r.2.1 ∧ wsum x.1.2.2.1 x.2.1 x_1 + r.2.1 ≤ (9223372036854775807 : Int)) ∧ ((-9223372036854775808 : Int) ≤ (↑x_1 : Int) + (1 : Int) ∧ (↑x_1 : Int) + (1 : Int) ≤ (9223372036854775807 : Int)) ∧ ∃ (x' : Nat), x.2.1 = x.2.1 ∧ wsum x.1.2.2.1 x.2.1 x' = wsum x.1.2.2.1 x.2.1 x_1 + r.2.1 ∧ (↑x' : Int) = (↑x_1 : Int) + (1 : Int) ∧ x.1.1 = x.1.1 ∧ x.1.2.1.1 = x.1.2.1.1 ∧ x.1.2.1.2.1 = x.1.2.1.2.1 ∧ x.1.2.1.2.2.1 = x.1.2.1.2.2.1 ∧ x.1.2.2.1 = x.1.2.2.1 ∧ x'.le (List.length x.1.2.2.1) ∧ List.length x.1.2.2.1 - x' < List.length x.1.2.2.1 - x_1) ∧ (decide ((↑x_1 : Int) < (x.1.2.2.1.length : Int)) = false → ((-9223372036854775808 : Int) ≤ (x.1.2.2.1.length : Int) * wsum x.1.2.2.1 x.2.1 x_1 ∧ (x.1.2.2.1.length : Int) * wsum x.1.2.2.1 x.2.1 x_1 ≤ (9223372036854775807 : Int)) ∧ ((-9223372036854775808 : Int) ≤ (x.1.2.2.1.length : Int) * wsum x.1.2.2.1 x.2.1 x_1 * wsum x.1.2.2.1 x.2.1 x_1 ∧ (x.1.2.2.1.length : Int) * wsum x.1.2.2.1 x.2.1 x_1 * wsum x.1.2.2.1 x.2.1 x_1 ≤ (9223372036854775807 : Int)) ∧ ((x.1.2.2.1.length : Int) * wsum x.1.2.2.1 x.2.1 x_1 * wsum x.1.2.2.1 x.2.1 x_1, ()) = (workZ x.1 x.2.1, ())))
theorem w_lWork (y : El sp_lWork.q) (x : Els sp_lWork.ps) : aW c_lWork (iv_lWork y x) Tryz.f6 sp_lWork y x = F_lWork y x := by kernel_rfl
theorem m_lWork (y : El (.un)) (x : Els [tPort, .it .i64]) (h2 : wfE (.un) y) (h3 : wfEs [tPort, .it .i64] x) : F_lWork y x := by
  unfold F_lWork
  refine ⟨fun h => ?_, fun h => ⟨⟨0, rfl, rfl, rfl, rfl, rfl, rfl, rfl, rfl, Nat.zero_le _⟩, fun i hi => ⟨fun l => ?_, fun l => ?_⟩⟩⟩
  · have h := gtT h
    unfold workZ
    rw [if_pos (by omega)]
  · have hi : i ≤ x.1.2.2.1.length := hi
    have h := gtF h
    have l := ltT l
    have il : i + 1 ≤ x.1.2.2.1.length := by omega
    refine ⟨⟨by omega, l⟩, ?_⟩
    rintro _ rfl
    have w1 : 0 ≤ wordsZ (List.getD x.1.2.2.1 ((i : Int)).toNat (dfl tTide)).2.1 x.2.1 ∧ wordsZ (List.getD x.1.2.2.1 ((i : Int)).toNat (dfl tTide)).2.1 x.2.1 ≤ 1000000 := words_rng _ _
    have w2 := wsum_rng x.1.2.2.1 x.2.1 i
    dsimp only
    refine ⟨⟨by omega, by omega⟩, by omega, i + 1, ?_⟩
    and_intros
    all_goals first | rfl | exact il | omega
  · have hi : i ≤ x.1.2.2.1.length := hi
    have h := gtF h
    have l := ltF l
    have ei : i = x.1.2.2.1.length := by omega
    rw [ei]
    have w2 := wsum_rng x.1.2.2.1 x.2.1 x.1.2.2.1.length
    obtain ⟨k1, k2⟩ := wk_rng (n := x.1.2.2.1.length) (s := wsum x.1.2.2.1 x.2.1 x.1.2.2.1.length) ⟨by omega, by omega⟩ ⟨w2.1, by omega⟩
    refine ⟨⟨Int.le_trans (by decide) k1.1, Int.le_trans k1.2 (by decide)⟩, ⟨Int.le_trans (by decide) k2.1, Int.le_trans k2.2 (by decide)⟩, ?_⟩
    unfold workZ
    rw [if_neg (by omega)]
theorem fo_lWork : FnOk Tryz.prog 6 sp_lWork := fnOk_of (C := c_lWork) iv_lWork Tryz.func6 rfl (by kernel_rfl) tys_ok (prims_cons (spec_prim fo_lwords) prims_nil) mixed_ (Nat.le_refl _) rfl fun y x h1 h2 h3 h4 =>
  Eq.mpr (w_lWork y x) (m_lWork y x h2 h3)
section
variable {p : El tPort} {a b : Int}
end
end Go.Proofs.YtakaehdolpmelaaGreat
