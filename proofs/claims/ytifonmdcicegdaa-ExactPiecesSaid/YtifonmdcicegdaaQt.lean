/- Texts of this claim, joined: B31. -/
import Derived.Test.YtifonmdcicegdaaQs
set_option linter.unusedVariables false
set_option linter.unusedSimpArgs false
namespace Go.Proofs.Ytifonmdcicegdaa
open Go Go.RowKit

def tickE (t : Int) : Int := if t < 0 ∨ 1024 < t then 2 else 0
noncomputable def sp_xtick : Spec := { q := .un, ps := [.it .i64], rs := [.it .i64], fresh := true, pre := fun _ _ => none, post := fun _ x => ((), (tickE x.1, ())) }
noncomputable def iv_xtick (y : El sp_xtick.q) (x : Els sp_xtick.ps) : Nat → Option Inv := fun _ => none
noncomputable abbrev c_xtick : Cfg := cfgS (Try.f59).ntmps false []
def F_xtick (y : El sp_xtick.q) (x : Els sp_xtick.ps) : Prop :=
  (decide (x.1 < (0 : Int)) = true → ((2 : Int), ()) = (tickE x.1, ())) ∧ (decide (x.1 < (0 : Int)) = false → (decide (x.1 > (1024 : Int)) = true → ((2 : Int), ()) = (tickE x.1, ())) ∧ (decide (x.1 > (1024 : Int)) = false → ((0 : Int), ()) = (tickE x.1, ())))
set_option maxRecDepth 100000 in
theorem w_xtick (y : El sp_xtick.q) (x : Els sp_xtick.ps) : aw c_xtick (iv_xtick y x) (codeOf Try.f59) 0 (retQ c_xtick sp_xtick (Try.f59).results.toList y x) (startT sp_xtick x) (startO sp_xtick y) 1 = F_xtick y x := by kernel_rfl
theorem m_xtick (y : El (.un)) (x : Els [.it .i64]) (h2 : wfE (.un) y) (h3 : wfEs [.it .i64] x) : F_xtick y x := by
  unfold F_xtick
  unfold tickE
  refine ⟨fun h => ?_, fun h => ⟨fun k => ?_, fun k => ?_⟩⟩
  · rw [if_pos (.inl (ltT h))]
  · rw [if_pos (.inr (gtT k))]
  · have h := ltF h
    have k := gtF k
    rw [if_neg (by omega)]
set_option maxRecDepth 100000 in
theorem fo_xtick : FnOk Try.prog 59 sp_xtick := fnOk_of (C := c_xtick) iv_xtick Try.func59 rfl (by kernel_rfl) tys_ok prims_nil mixed_ (Nat.le_refl _) rfl fun y x h1 h2 h3 h4 =>
  Eq.mpr (w_xtick y x) (m_xtick y x h2 h3)
def numE (c : El tTide) (t : Int) : Ga × Int := if (powR c.2.1 t).2.1 ≠ 0 then (Ga.zero, (powR c.2.1 t).2.1) else gmul (toGa c.2.2.1) (toGa (powR c.2.1 t).1)
noncomputable def sp_xnumber : Spec := { q := .un, ps := [tTide, .it .i64], rs := [tG, .it .i64], fresh := true, pre := fun _ _ => none, post := fun _ x => pG (numE x.1 x.2.1) }
noncomputable def iv_xnumber (y : El sp_xnumber.q) (x : Els sp_xnumber.ps) : Nat → Option Inv := fun _ => none
noncomputable abbrev c_xnumber : Cfg := cfgS (Try.f40).ntmps false [(38, sp_rPow.prim), (39, sp_gMul.prim)]
def F_xnumber (y : El sp_xnumber.q) (x : Els sp_xnumber.ps) : Prop :=
  ∀ (r : El Ty.un × Els [tG, Ty.it IntKind.i64]), r = ((), powR x.1.2.1 x.2.1) → ((r.2.2.1 != (0 : Int)) = true → (((false, [], [], ()), (false, [], [], ()), ()), r.2.2) = (pG (numE x.1 x.2.1)).2) ∧ ((r.2.2.1 != (0 : Int)) = false → ∀ (r_1 : El Ty.un × Els [tG, Ty.it IntKind.i64]), r_1 = pG (gmul (toGa x.1.2.2.1) (toGa r.2.1)) → r_1.2 = (pG (numE x.1 x.2.1)).2)
set_option maxRecDepth 100000 in
theorem w_xnumber (y : El sp_xnumber.q) (x : Els sp_xnumber.ps) : aw c_xnumber (iv_xnumber y x) (codeOf Try.f40) 0 (retQ c_xnumber sp_xnumber (Try.f40).results.toList y x) (startT sp_xnumber x) (startO sp_xnumber y) 1 = F_xnumber y x := by kernel_rfl
theorem m_xnumber (y : El (.un)) (x : Els [tTide, .it .i64]) (h2 : wfE (.un) y) (h3 : wfEs [tTide, .it .i64] x) : F_xnumber y x := by
  unfold F_xnumber
  rintro _ rfl
  refine ⟨fun h => ?_, fun h => ?_⟩
  · unfold numE
    rw [if_pos (neT h)]
    rfl
  · rintro _ rfl
    unfold numE
    rw [if_neg (fun c => c (neF h))]
set_option maxRecDepth 100000 in
theorem fo_xnumber : FnOk Try.prog 40 sp_xnumber := fnOk_of (C := c_xnumber) iv_xnumber Try.func40 rfl (by kernel_rfl) tys_ok (prims_cons (spec_prim fo_rPow) (prims_cons (spec_prim fo_gMul) prims_nil)) mixed_ (Nat.le_refl _) rfl fun y x h1 h2 h3 h4 =>
  Eq.mpr (w_xnumber y x) (m_xnumber y x h2 h3)
def wrongE (p : El tPort) (t : Int) : Int := if (portI p).1 ≠ 0 then (portI p).1 else tickE t
noncomputable def sp_xwrong : Spec := { q := .un, ps := [tPort, .it .i64], rs := [.it .i64], fresh := true, pre := fun _ _ => none, post := fun _ x => ((), (wrongE x.1 x.2.1, ())) }
noncomputable def iv_xwrong (y : El sp_xwrong.q) (x : Els sp_xwrong.ps) : Nat → Option Inv := fun _ => none
noncomputable abbrev c_xwrong : Cfg := cfgS (Try.f31).ntmps false [(13, sp_pCheck.prim), (59, sp_xtick.prim)]
def F_xwrong (y : El sp_xwrong.q) (x : Els sp_xwrong.ps) : Prop :=
  ∀ (r : El Ty.un × Els [tFault]), r = ((), portR x.1, ()) → ((r.2.1.1 != (0 : Int)) = true → (r.2.1.1, ()) = (wrongE x.1 x.2.1, ())) ∧ ((r.2.1.1 != (0 : Int)) = false → ∀ (r : El Ty.un × Els [Ty.it IntKind.i64]), r = ((), tickE x.2.1, ()) → r.2 = (wrongE x.1 x.2.1, ()))
set_option maxRecDepth 100000 in
theorem w_xwrong (y : El sp_xwrong.q) (x : Els sp_xwrong.ps) : aw c_xwrong (iv_xwrong y x) (codeOf Try.f31) 0 (retQ c_xwrong sp_xwrong (Try.f31).results.toList y x) (startT sp_xwrong x) (startO sp_xwrong y) 1 = F_xwrong y x := by kernel_rfl
theorem m_xwrong (y : El (.un)) (x : Els [tPort, .it .i64]) (h2 : wfE (.un) y) (h3 : wfEs [tPort, .it .i64] x) : F_xwrong y x := by
  unfold F_xwrong
  rintro _ rfl
  unfold wrongE
  refine ⟨fun h => ?_, fun h => ?_⟩
  · have h : (portI x.1).1 ≠ 0 := neT h
    rw [if_pos h]
    rfl
  · have h : (portI x.1).1 = 0 := neF h
    rw [if_neg (fun c => c h)]
    rintro _ rfl
    rfl
set_option maxRecDepth 100000 in
theorem fo_xwrong : FnOk Try.prog 31 sp_xwrong := fnOk_of (C := c_xwrong) iv_xwrong Try.func31 rfl (by kernel_rfl) tys_ok (prims_cons (spec_prim fo_pCheck) (prims_cons (spec_prim fo_xtick) prims_nil)) mixed_ (Nat.le_refl _) rfl fun y x h1 h2 h3 h4 =>
  Eq.mpr (w_xwrong y x) (m_xwrong y x h2 h3)
def one0 : Fr := ⟨false, [], [1]⟩
def hgtS (s : Fr × Int) (l : List (El tTide)) (t : Int) : Nat → Fr × Int
  | 0 => s
  | i + 1 => if (hgtS s l t i).2 ≠ 0 then hgtS s l t i else if (numE (tdAt l i) t).2 ≠ 0 then ((hgtS s l t i).1, (numE (tdAt l i) t).2) else fadd (hgtS s l t i).1 (numE (tdAt l i) t).1.re
def endR (s : Fr × Int) : Fr × Int := if s.2 ≠ 0 then (Fr.zero, s.2) else s
def atE (p : El tPort) (t : Int) : Fr × Int := endR (hgtS (fadd (toFr p.2.1) one0) p.2.2.1 t p.2.2.1.length)
section
variable {s : Fr × Int} {l : List (El tTide)} {t : Int} {i : Nat}
theorem hg_stay (h : (hgtS s l t i).2 ≠ 0) : ∀ k, hgtS s l t (i + k) = hgtS s l t i
  | 0 => rfl
  | k + 1 => by
    have ih := hg_stay h k
    show (if (hgtS s l t (i + k)).2 ≠ 0 then hgtS s l t (i + k) else _) = _
    rw [ih, if_pos h]
theorem hg_bad (h : (hgtS s l t i).2 = 0) (k : (numE (tdAt l i) t).2 ≠ 0) : hgtS s l t (i + 1) = ((hgtS s l t i).1, (numE (tdAt l i) t).2) := (if_neg (fun c => c h)).trans (if_pos k)
theorem hg_add (h : (hgtS s l t i).2 = 0) (k : (numE (tdAt l i) t).2 = 0) : hgtS s l t (i + 1) = fadd (hgtS s l t i).1 (numE (tdAt l i) t).1.re := (if_neg (fun c => c h)).trans (if_neg (fun c => c k))
theorem hg_err {n : Nat} (h : (hgtS s l t i).2 ≠ 0) (hi : i ≤ n) : endR (hgtS s l t n) = (Fr.zero, (hgtS s l t i).2) := by
  have e := hg_stay h (n - i)
  rw [show i + (n - i) = n by omega] at e
  unfold endR
  rw [e, if_pos h]
theorem endR_ok {s : Fr × Int} (h : s.2 = 0) : endR s = s := if_neg (fun c => c h)
end
noncomputable def sp_xat : Spec := { q := .un, ps := [tPort, .it .i64], rs := [tR, .it .i64], fresh := true, pre := fun _ _ => none, post := fun _ x => pR (atE x.1 x.2.1) }
noncomputable def iv_xat (y : El sp_xat.q) (x : Els sp_xat.ps) : Nat → Option Inv := fun k => if k = 0 then some { X := Nat, tm := fun i => [(1, .c (.sc (.int .i64 x.2.1))), (2, .c (.pv 1 0)), (4, .c (.pv 2 0)), (6, .c (.pv 3 0)), (7, .c (.sc (.int .i64 (hgtS (fadd (toFr x.1.2.1) one0) x.1.2.2.1 x.2.1 i).2))), (8, .c (.sc (.int .i64 i)))], ob := fun i => [(1, .var (cel tPort x.1)), (2, .var (zer tR)), (3, .var [.sc (.bool (hgtS (fadd (toFr x.1.2.1) one0) x.1.2.2.1 x.2.1 i).1.neg), .ow 4, .ow 5]), (4, .ty 100 (.it .u32) (hgtS (fadd (toFr x.1.2.1) one0) x.1.2.2.1 x.2.1 i).1.num 0), (5, .ty 100 (.it .u32) (hgtS (fadd (toFr x.1.2.1) one0) x.1.2.2.1 x.2.1 i).1.den 0)], n := 6, I := fun i => i ≤ x.1.2.2.1.length, μ := fun i => x.1.2.2.1.length - i } else none
noncomputable abbrev c_xat : Cfg := cfgS (Try.f29).ntmps false [(17, sp_rAdd.prim), (40, sp_xnumber.prim)]
def F_xat (y : El sp_xat.q) (x : Els sp_xat.ps) : Prop :=
  ∀ (r : El Ty.un × Els [tR, Ty.it IntKind.i64]), r = pR (fadd (toFr x.1.2.1) (toFr (false, [], [(1 : Int)], ()))) → (∃ (x_1 : Nat), x.2.1 = x.2.1 ∧ (hgtS (fadd (toFr x.1.2.1) one0) x.1.2.2.1 x.2.1 x_1).2 = r.2.2.1 ∧ (↑x_1 : Int) = (0 : Int) ∧ x.1.1 = x.1.1 ∧ x.1.2.1.1 = x.1.2.1.1 ∧ x.1.2.1.2.1 = x.1.2.1.2.1 ∧ x.1.2.1.2.2.1 = x.1.2.1.2.2.1 ∧ x.1.2.2.1 = x.1.2.2.1 ∧ (hgtS (fadd (toFr x.1.2.1) one0) x.1.2.2.1 x.2.1 x_1).1.neg = r.2.1.1 ∧ (hgtS (fadd (toFr x.1.2.1) one0) x.1.2.2.1 x.2.1 x_1).1.num = r.2.1.2.1 ∧ (hgtS (fadd (toFr x.1.2.1) one0) x.1.2.2.1 x.2.1 x_1).1.den = r.2.1.2.2.1 ∧ x_1.le (List.length x.1.2.2.1)) ∧ ∀ (x_1 : Nat), x_1.le (List.length x.1.2.2.1) → (decide ((↑x_1 : Int) < (↑(List.length x.1.2.2.1) : Int)) = true → (((hgtS (fadd (toFr x.1.2.1) one0) x.1.2.2.1 x.2.1 x_1).2 == (0 : Int)) = true → ((0 : Int) ≤ (↑x_1 : Int) ∧ (↑x_1 : Int) < (↑(List.length x.1.2.2.1) : Int)) ∧ ∀ (r : El Ty.un × Els [tG, Ty.it IntKind.i64]), r = pG (numE (List.getD x.1.2.2.1 (↑x_1 : Int).toNat (dfl tTide)) x.2.1) → ((r.2.2.1 == (0 : Int)) = true → ∀ (r_1 : El Ty.un × Els [tR, Ty.it IntKind.i64]), r_1 = pR (fadd (toFr ((hgtS (fadd (toFr x.1.2.1) one0) x.1.2.2.1 x.2.1 x_1).1.neg, (hgtS (fadd (toFr x.1.2.1) one0) x.1.2.2.1 x.2.1 x_1).1.num, (hgtS (fadd (toFr x.1.2.1) one0) x.1.2.2.1 x.2.1 x_1).1.den, ())) (toFr r.2.1.1)) → ((-9223372036854775808 : Int) ≤ (↑x_1 : Int) + (1 : Int) ∧ (↑x_1 : Int) + (1 : Int) ≤ (9223372036854775807 : Int)) ∧ ∃ (x' : Nat), x.2.1 = x.2.1 ∧ (hgtS (fadd (toFr x.1.2.1) one0) x.1.2.2.1 x.2.1 x').2 = r_1.2.2.1 ∧ (↑x' : Int) = (↑x_1 : Int) + (1 : Int) ∧ x.1.1 = x.1.1 ∧ x.1.2.1.1 = x.1.2.1.1 ∧ x.1.2.1.2.1 = x.1.2.1.2.1 ∧ x.1.2.1.2.2.1 = x.1.2.1.2.2.1 ∧ x.1.2.2.1 = x.1.2.2.1 ∧ (hgtS (fadd (toFr x.1.2.1) one0) x.1.2.2.1 x.2.1 x').1.neg = r_1.2.1.1 ∧ (hgtS (fadd (toFr x.1.2.1) one0) x.1.2.2.1 x.2.1 x').1.num = r_1.2.1.2.1 ∧ (hgtS (fadd (toFr x.1.2.1) one0) x.1.2.2.1 x.2.1 x').1.den = r_1.2.1.2.2.1 ∧ x'.le (List.length x.1.2.2.1) ∧ List.length x.1.2.2.1 - x' < List.length x.1.2.2.1 - x_1) ∧ ((r.2.2.1 == (0 : Int)) = false → ((-9223372036854775808 : Int) ≤ (↑x_1 : Int) + (1 : Int) ∧ (↑x_1 : Int) + (1 : Int) ≤ (9223372036854775807 : Int)) ∧ ∃ (x' : Nat), x.2.1 = x.2.1 ∧ (hgtS (fadd (toFr x.1.2.1) one0) x.1.2.2.1 x.2.1 x').2 = r.2.2.1 ∧ (↑x' : Int) = (↑x_1 : Int) + (1 : Int) ∧ x.1.1 = x.1.1 ∧ x.1.2.1.1 = x.1.2.1.1 ∧ x.1.2.1.2.1 = x.1.2.1.2.1 ∧ x.1.2.1.2.2.1 = x.1.2.1.2.2.1 ∧ x.1.2.2.1 = x.1.2.2.1 ∧ (hgtS (fadd (toFr x.1.2.1) one0) x.1.2.2.1 x.2.1 x').1.neg = (hgtS (fadd (toFr x.1.2.1) one0) x.1.2.2.1 x.2.1 x_1).1.neg ∧ (hgtS (fadd (toFr x.1.2.1) one0) x.1.2.2.1 x.2.1 x').1.num = (hgtS (fadd (toFr x.1.2.1) one0) x.1.2.2.1 x.2.1 x_1).1.num ∧ (hgtS (fadd (toFr x.1.2.1) one0) x.1.2.2.1 x.2.1 x').1.den = (hgtS (fadd (toFr x.1.2.1) one0) x.1.2.2.1 x.2.1 x_1).1.den ∧ x'.le (List.length x.1.2.2.1) ∧ List.length x.1.2.2.1 - x' < List.length x.1.2.2.1 - x_1)) ∧ (((hgtS (fadd (toFr x.1.2.1) one0) x.1.2.2.1 x.2.1 x_1).2 == (0 : Int)) = false → (((hgtS (fadd (toFr x.1.2.1) one0) x.1.2.2.1 x.2.1 x_1).2 != (0 : Int)) = true → ((false, [], [], ()), (hgtS (fadd (toFr x.1.2.1) one0) x.1.2.2.1 x.2.1 x_1).2, ()) = (pR (atE x.1 x.2.1)).2) ∧ (((hgtS (fadd (toFr x.1.2.1) one0) x.1.2.2.1 x.2.1 x_1).2 != (0 : Int)) = false → (((hgtS (fadd (toFr x.1.2.1) one0) x.1.2.2.1 x.2.1 x_1).1.neg, (hgtS (fadd (toFr x.1.2.1) one0) x.1.2.2.1 x.2.1 x_1).1.num, (hgtS (fadd (toFr x.1.2.1) one0) x.1.2.2.1 x.2.1 x_1).1.den, ()), (0 : Int), ()) = (pR (atE x.1 x.2.1)).2))) ∧ (decide ((↑x_1 : Int) < (↑(List.length x.1.2.2.1) : Int)) = false → (((hgtS (fadd (toFr x.1.2.1) one0) x.1.2.2.1 x.2.1 x_1).2 != (0 : Int)) = true → ((false, [], [], ()), (hgtS (fadd (toFr x.1.2.1) one0) x.1.2.2.1 x.2.1 x_1).2, ()) = (pR (atE x.1 x.2.1)).2) ∧ (((hgtS (fadd (toFr x.1.2.1) one0) x.1.2.2.1 x.2.1 x_1).2 != (0 : Int)) = false → (((hgtS (fadd (toFr x.1.2.1) one0) x.1.2.2.1 x.2.1 x_1).1.neg, (hgtS (fadd (toFr x.1.2.1) one0) x.1.2.2.1 x.2.1 x_1).1.num, (hgtS (fadd (toFr x.1.2.1) one0) x.1.2.2.1 x.2.1 x_1).1.den, ()), (0 : Int), ()) = (pR (atE x.1 x.2.1)).2))
set_option maxRecDepth 100000 in
theorem w_xat (y : El sp_xat.q) (x : Els sp_xat.ps) : aw c_xat (iv_xat y x) (codeOf Try.f29) 0 (retQ c_xat sp_xat (Try.f29).results.toList y x) (startT sp_xat x) (startO sp_xat y) 1 = F_xat y x := by kernel_rfl
theorem m_xat (y : El (.un)) (x : Els [tPort, .it .i64]) (h2 : wfE (.un) y) (h3 : wfEs [tPort, .it .i64] x) : F_xat y x := by
  unfold F_xat
  rintro _ rfl
  refine ⟨⟨0, rfl, rfl, rfl, rfl, rfl, rfl, rfl, rfl, rfl, rfl, rfl, Nat.zero_le _⟩, fun i hi => ⟨fun l => ⟨fun h => ?_, fun h => ?_⟩, fun l => ?_⟩⟩
  · have hi : i ≤ x.1.2.2.1.length := hi
    have l := ltT l
    have il : i + 1 ≤ x.1.2.2.1.length := by omega
    have hL : x.1.2.2.1.length ≤ 9223372036854775807 := h3.1.2.2.1.1
    have h := eqT h
    refine ⟨⟨by omega, l⟩, ?_⟩
    rintro _ rfl
    refine ⟨fun k => ?_, fun k => ?_⟩
    · rintro _ rfl
      have e := hg_add h (eqT k)
      refine ⟨by omega, i + 1, rfl, ?_⟩
      and_intros
      all_goals first | rfl | exact il | (rw [e] <;> rfl) | omega
    · have e := hg_bad h (eqF k)
      refine ⟨by omega, i + 1, rfl, ?_⟩
      and_intros
      all_goals first | rfl | exact il | (rw [e] <;> rfl) | omega
  · refine ⟨fun k => ?_, fun k => absurd (neF k) (eqF h)⟩
    have e : atE x.1 x.2.1 = _ := hg_err (eqF h) hi
    rw [e]
    rfl
  · have hi : i ≤ x.1.2.2.1.length := hi
    have l := ltF l
    have ei : i = x.1.2.2.1.length := by omega
    refine ⟨fun k => ?_, fun k => ?_⟩
    · have e : atE x.1 x.2.1 = _ := hg_err (neT k) hi
      rw [e]
      rfl
    · have k := neF k
      have e : atE x.1 x.2.1 = _ := endR_ok (ei ▸ k)
      rw [e, ← ei]
      rw [show (pR (hgtS (fadd (toFr x.1.2.1) one0) x.1.2.2.1 x.2.1 i)).2 = (ofFr (hgtS (fadd (toFr x.1.2.1) one0) x.1.2.2.1 x.2.1 i).1, (hgtS (fadd (toFr x.1.2.1) one0) x.1.2.2.1 x.2.1 i).2, ()) from rfl, k]
set_option maxRecDepth 100000 in
theorem fo_xat : FnOk Try.prog 29 sp_xat := fnOk_of (C := c_xat) iv_xat Try.func29 rfl (by kernel_rfl) tys_ok (prims_cons (spec_prim fo_rAdd) (prims_cons (spec_prim fo_xnumber) prims_nil)) mixed_ (Nat.le_refl _) rfl fun y x h1 h2 h3 h4 =>
  Eq.mpr (w_xat y x) (m_xat y x h2 h3)
def AtE (p : El tPort) (t : Int) : Fr × Int := if wrongE p t ≠ 0 then (Fr.zero, wrongE p t) else atE p t
noncomputable def sp_xAt : Spec := { q := .un, ps := [tPort, .it .i64], rs := [tR, .it .i64], fresh := true, pre := fun _ _ => none, post := fun _ x => pR (AtE x.1 x.2.1) }
noncomputable def iv_xAt (y : El sp_xAt.q) (x : Els sp_xAt.ps) : Nat → Option Inv := fun _ => none
noncomputable abbrev c_xAt : Cfg := cfgS (Try.f11).ntmps false [(31, sp_xwrong.prim), (29, sp_xat.prim)]
def F_xAt (y : El sp_xAt.q) (x : Els sp_xAt.ps) : Prop :=
  ∀ (r : El Ty.un × Els [Ty.it IntKind.i64]), r = ((), wrongE x.1 x.2.1, ()) → ((r.2.1 != (0 : Int)) = true → ((false, [], [], ()), r.2) = (pR (AtE x.1 x.2.1)).2) ∧ ((r.2.1 != (0 : Int)) = false → ∀ (r : El Ty.un × Els [tR, Ty.it IntKind.i64]), r = pR (atE x.1 x.2.1) → r.2 = (pR (AtE x.1 x.2.1)).2)
set_option maxRecDepth 100000 in
theorem w_xAt (y : El sp_xAt.q) (x : Els sp_xAt.ps) : aw c_xAt (iv_xAt y x) (codeOf Try.f11) 0 (retQ c_xAt sp_xAt (Try.f11).results.toList y x) (startT sp_xAt x) (startO sp_xAt y) 1 = F_xAt y x := by kernel_rfl
theorem m_xAt (y : El (.un)) (x : Els [tPort, .it .i64]) (h2 : wfE (.un) y) (h3 : wfEs [tPort, .it .i64] x) : F_xAt y x := by
  unfold F_xAt
  rintro _ rfl
  unfold AtE
  refine ⟨fun h => ?_, fun h => ?_⟩
  · rw [if_pos (neT h)]
    rfl
  · rw [if_neg (fun c => c (neF h))]
    rintro _ rfl
    rfl
set_option maxRecDepth 100000 in
theorem fo_xAt : FnOk Try.prog 11 sp_xAt := fnOk_of (C := c_xAt) iv_xAt Try.func11 rfl (by kernel_rfl) tys_ok (prims_cons (spec_prim fo_xwrong) (prims_cons (spec_prim fo_xat) prims_nil)) mixed_ (Nat.le_refl _) rfl fun y x h1 h2 h3 h4 =>
  Eq.mpr (w_xAt y x) (m_xAt y x h2 h3)
def sumS (l : List (El tTide)) (t : Int) : Nat → Ga × Int
  | 0 => (gint 0 0, 0)
  | i + 1 => if (sumS l t i).2 ≠ 0 then sumS l t i else if (numE (tdAt l i) t).2 ≠ 0 then (Ga.zero, (numE (tdAt l i) t).2) else gadd (sumS l t i).1 (numE (tdAt l i) t).1
def SumE (p : El tPort) (t : Int) : Ga × Int := if wrongE p t ≠ 0 then (Ga.zero, wrongE p t) else sumS p.2.2.1 t p.2.2.1.length
section
variable {l : List (El tTide)} {t : Int} {i : Nat}
theorem su_stay (h : (sumS l t i).2 ≠ 0) : ∀ k, sumS l t (i + k) = sumS l t i
  | 0 => rfl
  | k + 1 => by
    have ih := su_stay h k
    show (if (sumS l t (i + k)).2 ≠ 0 then sumS l t (i + k) else _) = _
    rw [ih, if_pos h]
theorem su_bad (h : (sumS l t i).2 = 0) (k : (numE (tdAt l i) t).2 ≠ 0) : sumS l t (i + 1) = (Ga.zero, (numE (tdAt l i) t).2) := (if_neg (fun c => c h)).trans (if_pos k)
theorem su_add (h : (sumS l t i).2 = 0) (k : (numE (tdAt l i) t).2 = 0) : sumS l t (i + 1) = gadd (sumS l t i).1 (numE (tdAt l i) t).1 := (if_neg (fun c => c h)).trans (if_neg (fun c => c k))
theorem su_err {n : Nat} (h : (sumS l t (i + 1)).2 ≠ 0) (hi : i + 1 ≤ n) : sumS l t n = sumS l t (i + 1) := by
  have e := su_stay h (n - (i + 1))
  rw [show i + 1 + (n - (i + 1)) = n by omega] at e
  exact e
theorem gadd_bad {a b : Ga} (h : (gadd a b).2 ≠ 0) : gadd a b = (Ga.zero, (gadd a b).2) := by
  simp only [gadd, gtell] at h ⊢
  split at h
  · rename_i k
    rw [if_pos k]
  · rename_i k
    exact absurd rfl (h)
end
noncomputable def sp_xSum : Spec := { q := .un, ps := [tPort, .it .i64], rs := [tG, .it .i64], fresh := true, pre := fun _ _ => none, post := fun _ x => pG (SumE x.1 x.2.1) }
noncomputable def iv_xSum (y : El sp_xSum.q) (x : Els sp_xSum.ps) : Nat → Option Inv := fun k => if k = 0 then some { X := Nat, tm := fun i => [(1, .c (.sc (.int .i64 x.2.1))), (2, .c (.pv 1 0)), (4, .c (.pv 2 0)), (7, .c (.pv 3 0)), (21, .c (.sl tTide x.1.2.2.1)), (22, .c (.sc (.int .i64 x.1.2.2.1.length))), (23, .c (.sc (.int .i64 i)))], ob := fun i => [(1, .var (cel tPort x.1)), (2, .var (zer tG)), (3, .var [.sc (.bool (sumS x.1.2.2.1 x.2.1 i).1.re.neg), .ow 4, .ow 5, .sc (.bool (sumS x.1.2.2.1 x.2.1 i).1.im.neg), .ow 6, .ow 7]), (4, .ty 100 (.it .u32) (sumS x.1.2.2.1 x.2.1 i).1.re.num 0), (5, .ty 100 (.it .u32) (sumS x.1.2.2.1 x.2.1 i).1.re.den 0), (6, .ty 100 (.it .u32) (sumS x.1.2.2.1 x.2.1 i).1.im.num 0), (7, .ty 100 (.it .u32) (sumS x.1.2.2.1 x.2.1 i).1.im.den 0)], n := 8, I := fun i => i ≤ x.1.2.2.1.length ∧ (sumS x.1.2.2.1 x.2.1 i).2 = 0, μ := fun i => x.1.2.2.1.length - i } else none
noncomputable abbrev c_xSum : Cfg := cfgS (Try.f16).ntmps false [(31, sp_xwrong.prim), (18, sp_gInt.prim), (40, sp_xnumber.prim), (19, sp_gAdd.prim)]
def F_xSum (y : El sp_xSum.q) (x : Els sp_xSum.ps) : Prop :=
  ∀ (r : El Ty.un × Els [Ty.it IntKind.i64]), r = ((), wrongE x.1 x.2.1, ()) → ((r.2.1 != (0 : Int)) = true → (((false, [], [], ()), (false, [], [], ()), ()), r.2) = (pG (SumE x.1 x.2.1)).2) ∧ ((r.2.1 != (0 : Int)) = false → ∀ (r : El Ty.un × Els [tG]), r = ((), ofGa { re := (fsmall (0 : Int) (1 : Int)).1, im := (fsmall (0 : Int) (1 : Int)).1 }, ()) → (∃ (x_1 : Nat), x.2.1 = x.2.1 ∧ x.1.2.2.1 = x.1.2.2.1 ∧ (↑(List.length x.1.2.2.1) : Int) = (↑(List.length x.1.2.2.1) : Int) ∧ (↑x_1 : Int) = (0 : Int) ∧ x.1.1 = x.1.1 ∧ x.1.2.1.1 = x.1.2.1.1 ∧ x.1.2.1.2.1 = x.1.2.1.2.1 ∧ x.1.2.1.2.2.1 = x.1.2.1.2.2.1 ∧ x.1.2.2.1 = x.1.2.2.1 ∧ (sumS x.1.2.2.1 x.2.1 x_1).1.re.neg = r.2.1.1.1 ∧ (sumS x.1.2.2.1 x.2.1 x_1).1.im.neg = r.2.1.2.1.1 ∧ (sumS x.1.2.2.1 x.2.1 x_1).1.re.num = r.2.1.1.2.1 ∧ (sumS x.1.2.2.1 x.2.1 x_1).1.re.den = r.2.1.1.2.2.1 ∧ (sumS x.1.2.2.1 x.2.1 x_1).1.im.num = r.2.1.2.1.2.1 ∧ (sumS x.1.2.2.1 x.2.1 x_1).1.im.den = r.2.1.2.1.2.2.1 ∧ x_1 ≤ List.length x.1.2.2.1 ∧ (sumS x.1.2.2.1 x.2.1 x_1).2 = (0 : Int)) ∧ ∀ (x_1 : Nat), x_1 ≤ List.length x.1.2.2.1 ∧ (sumS x.1.2.2.1 x.2.1 x_1).2 = (0 : Int) → (decide ((↑x_1 : Int) < (↑(List.length x.1.2.2.1) : Int)) = true → ((0 : Int) ≤ (↑x_1 : Int) ∧ (↑x_1 : Int) < (↑(List.length x.1.2.2.1) : Int)) ∧ ∀ (r : El Ty.un × Els [tG, Ty.it IntKind.i64]), r = pG (numE (List.getD x.1.2.2.1 (↑x_1 : Int).toNat (dfl tTide)) x.2.1) → ((r.2.2.1 == (0 : Int)) = true → ∀ (r_1 : El Ty.un × Els [tG, Ty.it IntKind.i64]), r_1 = pG (gadd (toGa (((sumS x.1.2.2.1 x.2.1 x_1).1.re.neg, (sumS x.1.2.2.1 x.2.1 x_1).1.re.num, (sumS x.1.2.2.1 x.2.1 x_1).1.re.den, ()), ((sumS x.1.2.2.1 x.2.1 x_1).1.im.neg, (sumS x.1.2.2.1 x.2.1 x_1).1.im.num, (sumS x.1.2.2.1 x.2.1 x_1).1.im.den, ()), ())) (toGa r.2.1)) → ((r_1.2.2.1 != (0 : Int)) = true → (((false, [], [], ()), (false, [], [], ()), ()), r_1.2.2) = (pG (SumE x.1 x.2.1)).2) ∧ ((r_1.2.2.1 != (0 : Int)) = false → ((-9223372036854775808 : Int) ≤ (↑x_1 : Int) + (1 : Int) ∧ (↑x_1 : Int) + (1 : Int) ≤ (9223372036854775807 : Int)) ∧ ∃ (x' : Nat), x.2.1 = x.2.1 ∧ x.1.2.2.1 = x.1.2.2.1 ∧ (↑(List.length x.1.2.2.1) : Int) = (↑(List.length x.1.2.2.1) : Int) ∧ (↑x' : Int) = (↑x_1 : Int) + (1 : Int) ∧ x.1.1 = x.1.1 ∧ x.1.2.1.1 = x.1.2.1.1 ∧ x.1.2.1.2.1 = x.1.2.1.2.1 ∧ x.1.2.1.2.2.1 = x.1.2.1.2.2.1 ∧ x.1.2.2.1 = x.1.2.2.1 ∧ (sumS x.1.2.2.1 x.2.1 x').1.re.neg = r_1.2.1.1.1 ∧ (sumS x.1.2.2.1 x.2.1 x').1.im.neg = r_1.2.1.2.1.1 ∧ (sumS x.1.2.2.1 x.2.1 x').1.re.num = r_1.2.1.1.2.1 ∧ (sumS x.1.2.2.1 x.2.1 x').1.re.den = r_1.2.1.1.2.2.1 ∧ (sumS x.1.2.2.1 x.2.1 x').1.im.num = r_1.2.1.2.1.2.1 ∧ (sumS x.1.2.2.1 x.2.1 x').1.im.den = r_1.2.1.2.1.2.2.1 ∧ (x' ≤ List.length x.1.2.2.1 ∧ (sumS x.1.2.2.1 x.2.1 x').2 = (0 : Int)) ∧ List.length x.1.2.2.1 - x' < List.length x.1.2.2.1 - x_1)) ∧ ((r.2.2.1 == (0 : Int)) = false → ((r.2.2.1 != (0 : Int)) = true → (((false, [], [], ()), (false, [], [], ()), ()), r.2.2) = (pG (SumE x.1 x.2.1)).2) ∧ ((r.2.2.1 != (0 : Int)) = false → ((-9223372036854775808 : Int) ≤ (↑x_1 : Int) + (1 : Int) ∧ (↑x_1 : Int) + (1 : Int) ≤ (9223372036854775807 : Int)) ∧ ∃ (x' : Nat), x.2.1 = x.2.1 ∧ x.1.2.2.1 = x.1.2.2.1 ∧ (↑(List.length x.1.2.2.1) : Int) = (↑(List.length x.1.2.2.1) : Int) ∧ (↑x' : Int) = (↑x_1 : Int) + (1 : Int) ∧ x.1.1 = x.1.1 ∧ x.1.2.1.1 = x.1.2.1.1 ∧ x.1.2.1.2.1 = x.1.2.1.2.1 ∧ x.1.2.1.2.2.1 = x.1.2.1.2.2.1 ∧ x.1.2.2.1 = x.1.2.2.1 ∧ (sumS x.1.2.2.1 x.2.1 x').1.re.neg = (sumS x.1.2.2.1 x.2.1 x_1).1.re.neg ∧ (sumS x.1.2.2.1 x.2.1 x').1.im.neg = (sumS x.1.2.2.1 x.2.1 x_1).1.im.neg ∧ (sumS x.1.2.2.1 x.2.1 x').1.re.num = (sumS x.1.2.2.1 x.2.1 x_1).1.re.num ∧ (sumS x.1.2.2.1 x.2.1 x').1.re.den = (sumS x.1.2.2.1 x.2.1 x_1).1.re.den ∧ (sumS x.1.2.2.1 x.2.1 x').1.im.num = (sumS x.1.2.2.1 x.2.1 x_1).1.im.num ∧ (sumS x.1.2.2.1 x.2.1 x').1.im.den = (sumS x.1.2.2.1 x.2.1 x_1).1.im.den ∧ (x' ≤ List.length x.1.2.2.1 ∧ (sumS x.1.2.2.1 x.2.1 x').2 = (0 : Int)) ∧ List.length x.1.2.2.1 - x' < List.length x.1.2.2.1 - x_1))) ∧ (decide ((↑x_1 : Int) < (↑(List.length x.1.2.2.1) : Int)) = false → ((((sumS x.1.2.2.1 x.2.1 x_1).1.re.neg, (sumS x.1.2.2.1 x.2.1 x_1).1.re.num, (sumS x.1.2.2.1 x.2.1 x_1).1.re.den, ()), ((sumS x.1.2.2.1 x.2.1 x_1).1.im.neg, (sumS x.1.2.2.1 x.2.1 x_1).1.im.num, (sumS x.1.2.2.1 x.2.1 x_1).1.im.den, ()), ()), (0 : Int), ()) = (pG (SumE x.1 x.2.1)).2))
set_option maxRecDepth 100000 in
theorem w_xSum (y : El sp_xSum.q) (x : Els sp_xSum.ps) : aw c_xSum (iv_xSum y x) (codeOf Try.f16) 0 (retQ c_xSum sp_xSum (Try.f16).results.toList y x) (startT sp_xSum x) (startO sp_xSum y) 1 = F_xSum y x := by kernel_rfl
theorem m_xSum (y : El (.un)) (x : Els [tPort, .it .i64]) (h2 : wfE (.un) y) (h3 : wfEs [tPort, .it .i64] x) : F_xSum y x := by
  unfold F_xSum
  rintro _ rfl
  refine ⟨fun h => ?_, fun h => ?_⟩
  · unfold SumE
    rw [if_pos (neT h)]
    rfl
  · have eS : SumE x.1 x.2.1 = sumS x.1.2.2.1 x.2.1 x.1.2.2.1.length := by
      unfold SumE
      rw [if_neg (fun c => c (neF h))]
    rw [eS]
    have hL : x.1.2.2.1.length ≤ 9223372036854775807 := h3.1.2.2.1.1
    rintro _ rfl
    refine ⟨⟨0, rfl, rfl, rfl, rfl, rfl, rfl, rfl, rfl, rfl, rfl, rfl, rfl, rfl, rfl, rfl, Nat.zero_le _, rfl⟩, fun i hi => ⟨fun l => ?_, fun l => ?_⟩⟩
    · obtain ⟨hi, h0⟩ := hi
      have l := ltT l
      have il : i + 1 ≤ x.1.2.2.1.length := by omega
      refine ⟨⟨by omega, l⟩, ?_⟩
      rintro _ rfl
      refine ⟨fun k => ?_, fun k => ⟨fun _ => ?_, fun m => absurd (neF m) (eqF k)⟩⟩
      · rintro _ rfl
        have e := su_add h0 (eqT k)
        refine ⟨fun m => ?_, fun m => ?_⟩
        · have m : (gadd (sumS x.1.2.2.1 x.2.1 i).1 (numE (tdAt x.1.2.2.1 i) x.2.1).1).2 ≠ 0 := neT m
          rw [su_err (by rw [e]; exact m) il, e, gadd_bad m]
          rfl
        · have m : (gadd (sumS x.1.2.2.1 x.2.1 i).1 (numE (tdAt x.1.2.2.1 i) x.2.1).1).2 = 0 := neF m
          refine ⟨by omega, i + 1, ?_⟩
          and_intros
          all_goals first | rfl | exact il | (rw [e]; exact m) | (rw [e] <;> rfl) | omega
      · have e := su_bad h0 (eqF k)
        rw [su_err (by rw [e]; exact eqF k) il, e]
        rfl
    · obtain ⟨hi, h0⟩ := hi
      have l := ltF l
      have ei : i = x.1.2.2.1.length := by omega
      rw [← ei]
      rw [show (pG (sumS x.1.2.2.1 x.2.1 i)).2 = (ofGa (sumS x.1.2.2.1 x.2.1 i).1, (sumS x.1.2.2.1 x.2.1 i).2, ()) from rfl, h0]
set_option maxRecDepth 100000 in
theorem fo_xSum : FnOk Try.prog 16 sp_xSum := fnOk_of (C := c_xSum) iv_xSum Try.func16 rfl (by kernel_rfl) tys_ok (prims_cons (spec_prim fo_xwrong) (prims_cons (spec_prim fo_gInt) (prims_cons (spec_prim fo_xnumber) (prims_cons (spec_prim fo_gAdd) prims_nil)))) mixed_ (Nat.le_refl _) rfl fun y x h1 h2 h3 h4 =>
  Eq.mpr (w_xSum y x) (m_xSum y x h2 h3)
end Go.Proofs.Ytifonmdcicegdaa

