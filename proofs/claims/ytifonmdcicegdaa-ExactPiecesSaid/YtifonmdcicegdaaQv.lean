/- Texts of this claim, joined: B34 B35 O1 O3 L13a. -/
import Derived.ProofKit
import Derived.OpenShut
import Derived.ChangeOld
import Derived.Below
import Derived.Lib.SmallJoins
import Derived.Deep.Slices
import Derived.Deep.Fields
import Derived.ChangeSame
import Derived.ChangeMaps5
import Derived.Test.YtifonmdcicegdaaRows
import Derived.Test.YtifonmdcicegdaaQu
set_option linter.unusedVariables false
set_option linter.unusedSimpArgs false
namespace Go.Proofs.Ytifonmdcicegdaa
open Go Go.RowKit

theorem s_12 : fsmall 1 2 = (enc (1/2), 0) := fsmall_s (by decide) (by decide +kernel) (by decide +kernel)
theorem s_50 : fsmall 5 1 = (enc 5, 0) := fsmall_s (by decide) (by decide +kernel) (by decide +kernel)
theorem one0_eq : one0 = enc 0 := enc_zero.symm
theorem exT_eq : exT = (⟨#[77, 50]⟩, (2, 1, ()), ofGa (ge 5 0), ()) := by unfold exT; rw [s_50, fsmall_nought_]; rfl
theorem exP_eq : exP = (⟨#[72, 117, 108, 108]⟩, ofFr (enc (1/2)), [(⟨#[77, 50]⟩, (2, 1, ()), ofGa (ge 5 0), ())], ()) := by unfold exP; rw [exT_eq, s_12]
theorem exP_ok : portI exP = (0, 0) := by
  rw [exP_eq]
  unfold portI
  have n1 : nameS ⟨#[72, 117, 108, 108]⟩ = true := by decide +kernel
  have n2 : nameS ⟨#[77, 50]⟩ = true := by decide +kernel
  have r1 : rotC ((2, 1, ()) : El tRot) = 0 := by decide +kernel
  have g1 : gchk (ge 5 0) = 0 := gchk_s (by decide +kernel)
  have t1 : tchk ((⟨#[77, 50]⟩, (2, 1, ()), ofGa (ge 5 0), ()) : El tTide) = 0 := by
    unfold tchk
    rw [if_neg (by rw [n2]; decide), if_neg (by rw [r1]; decide)]
    exact g1
  unfold pcS
  dsimp only
  rw [if_neg (by rw [n1]; decide), if_neg (by rw [show toFr (ofFr (enc (1/2))) = enc (1/2) from rfl, fchk_s (by decide +kernel)]; decide), if_neg (by decide)]
  show pcF _ _ 0 1 = _
  rw [pcF_next (by exact t1) (by rfl)]
  rfl
theorem exP_wrong {t : Int} (h : tickE t = 0) : wrongE exP t = 0 := by
  unfold wrongE
  rw [exP_ok, if_neg (by decide), h]
theorem rp_1 : rpow 2 1 1 = ge (3/5) (4/5) := by
  show (⟨enc (mkRat (gpow 2 1 2).1 (nrmR 2 1 ^ 1).toNat), enc (mkRat (gpow 2 1 2).2 (nrmR 2 1 ^ 1).toNat)⟩ : Ga) = _
  rw [show mkRat (gpow 2 1 2).1 (nrmR 2 1 ^ 1).toNat = 3/5 by decide +kernel, show mkRat (gpow 2 1 2).2 (nrmR 2 1 ^ 1).toNat = 4/5 by decide +kernel]
  rfl
theorem rp_2 : rpow 2 1 2 = ge (-7/25) (24/25) := by
  show (⟨enc (mkRat (gpow 2 1 4).1 (nrmR 2 1 ^ 2).toNat), enc (mkRat (gpow 2 1 4).2 (nrmR 2 1 ^ 2).toNat)⟩ : Ga) = _
  rw [show mkRat (gpow 2 1 4).1 (nrmR 2 1 ^ 2).toNat = -7/25 by decide +kernel, show mkRat (gpow 2 1 4).2 (nrmR 2 1 ^ 2).toNat = 24/25 by decide +kernel]
  rfl
theorem pR_1 : powR ((2, 1, ()) : El tRot) 1 = (ofGa (ge (3/5) (4/5)), 0, ()) := by
  rw [← pw_3 (by decide +kernel) (by decide)]
  exact congrArg (fun g => ((ofGa g, 0, ()) : El tG × Int × Unit)) rp_1
theorem pR_2 : powR ((2, 1, ()) : El tRot) 2 = (ofGa (ge (-7/25) (24/25)), 0, ()) := by
  rw [← pw_3 (by decide +kernel) (by decide)]
  exact congrArg (fun g => ((ofGa g, 0, ()) : El tG × Int × Unit)) rp_2
theorem nE_1 : numE ((⟨#[77, 50]⟩, (2, 1, ()), ofGa (ge 5 0), ()) : El tTide) 1 = (ge 3 4, 0) := by
  unfold numE
  dsimp only
  rw [pR_1, if_neg (by decide)]
  exact gmul_s (u := 3) (v := 0) (x := 4) (y := 0) (by decide +kernel) (by decide +kernel) (by decide +kernel) (by decide +kernel) (by decide +kernel) (by decide +kernel) (by decide +kernel)
theorem nE_2 : numE ((⟨#[77, 50]⟩, (2, 1, ()), ofGa (ge 5 0), ()) : El tTide) 2 = (ge (-7/5) (24/5), 0) := by
  unfold numE
  dsimp only
  rw [pR_2, if_neg (by decide)]
  exact gmul_s (u := -7/5) (v := 0) (x := 24/5) (y := 0) (by decide +kernel) (by decide +kernel) (by decide +kernel) (by decide +kernel) (by decide +kernel) (by decide +kernel) (by decide +kernel)
theorem exA {t : Int} {r i h : Rat} (k : tickE t = 0) (e : numE ((⟨#[77, 50]⟩, (2, 1, ()), ofGa (ge 5 0), ()) : El tTide) t = (ge r i, 0)) (s : (sm (1/2) && sm r && sm h) = true) (a : 1/2 + r = h) : AtE exP t = (enc h, 0) := by
  unfold AtE
  rw [exP_wrong k, if_neg (by decide), exP_eq]
  unfold atE
  dsimp only
  have z : fadd (toFr (ofFr (enc (1/2)))) one0 = (enc (1/2), 0) := by
    rw [one0_eq]
    exact fadd_s (p := 1/2) (q := 0) (by decide +kernel) (by decide +kernel)
  rw [z]
  have st : hgtS (enc (1/2), 0) [((⟨#[77, 50]⟩, (2, 1, ()), ofGa (ge 5 0), ()) : El tTide)] t 1 = (enc h, 0) := by
    rw [hg_add (i := 0) rfl (by show (numE ((⟨#[77, 50]⟩, (2, 1, ()), ofGa (ge 5 0), ()) : El tTide) t).2 = 0; rw [e])]
    show fadd (enc (1/2)) (numE ((⟨#[77, 50]⟩, (2, 1, ()), ofGa (ge 5 0), ()) : El tTide) t).1.re = _
    rw [e]
    exact fadd_s s a
  show endR (hgtS (enc (1/2), 0) [((⟨#[77, 50]⟩, (2, 1, ()), ofGa (ge 5 0), ()) : El tTide)] t 1) = _
  rw [st]
  rfl
theorem aw_1 : AtE exP 1 = (enc (7/2), 0) := exA (by decide) nE_1 (by decide +kernel) (by decide +kernel)
theorem aw_2 : AtE exP 2 = (enc (-9/10), 0) := exA (by decide) nE_2 (by decide +kernel) (by decide +kernel)
theorem aw_3 : SumE exP 1 = (ge 3 4, 0) := by
  unfold SumE
  rw [exP_wrong (by decide), if_neg (by decide), exP_eq]
  dsimp only
  show sumS [((⟨#[77, 50]⟩, (2, 1, ()), ofGa (ge 5 0), ()) : El tTide)] 1 1 = _
  rw [su_add (i := 0) rfl (by show (numE ((⟨#[77, 50]⟩, (2, 1, ()), ofGa (ge 5 0), ()) : El tTide) 1).2 = 0; rw [nE_1])]
  show gadd (gint 0 0) (numE ((⟨#[77, 50]⟩, (2, 1, ()), ofGa (ge 5 0), ()) : El tTide) 1).1 = _
  rw [nE_1, show gint 0 0 = ge 0 0 by unfold gint; rw [fsmall_nought_]; rfl]
  exact gadd_s (by decide +kernel) (by decide +kernel) (by decide +kernel)
theorem s_72 : fsmall 7 2 = (enc (7/2), 0) := fsmall_s (by decide) (by decide +kernel) (by decide +kernel)
theorem s_910 : fsmall (-9) 10 = (enc (-9/10), 0) := fsmall_s (by decide) (by decide +kernel) (by decide +kernel)
theorem s_31 : fsmall 3 1 = (enc 3, 0) := fsmall_s (by decide) (by decide +kernel) (by decide +kernel)
theorem s_41 : fsmall 4 1 = (enc 4, 0) := fsmall_s (by decide) (by decide +kernel) (by decide +kernel)
theorem gs_34 : gsame (ge 3 4) (ge 3 4) = true := by
  unfold gsame
  have : gchk2 (ge 3 4) (ge 3 4) = 0 := gchk2_s (by decide +kernel) (by decide +kernel)
  simp [this]
noncomputable def sp_oawake : Spec := { q := .un, ps := [], rs := [.bo], fresh := true, pre := fun _ _ => none, post := fun _ x => ((), (true, ())) }
noncomputable def iv_oawake (y : El sp_oawake.q) (x : Els sp_oawake.ps) : Nat → Option Inv := fun _ => none
noncomputable abbrev c_oawake : Cfg := cfgS (Try.f6).ntmps false [(27, sp_oexample.prim), (11, sp_xAt.prim), (16, sp_xSum.prim), (28, sp_osmall.prim), (12, sp_rSame.prim), (18, sp_gInt.prim), (20, sp_gSame.prim)]
def F_oawake (y : El sp_oawake.q) (x : Els sp_oawake.ps) : Prop :=
  ∀ (r : El Ty.un × Els [tPort]), r = ((), exP, ()) → ∀ (r_1 : El Ty.un × Els [tR, Ty.it IntKind.i64]), r_1 = pR (AtE r.2.1 (1 : Int)) → ∀ (r_2 : El Ty.un × Els [tR, Ty.it IntKind.i64]), r_2 = pR (AtE r.2.1 (2 : Int)) → ∀ (r_3 : El Ty.un × Els [tG, Ty.it IntKind.i64]), r_3 = pG (SumE r.2.1 (1 : Int)) → ((r_1.2.2.1 == (0 : Int)) = true → ∀ (r : El Ty.un × Els [tR]), r = ((), ofFr (fsmall (7 : Int) (2 : Int)).1, ()) → ∀ (r_4 : El Ty.un × Els [Ty.bo]), r_4 = ((), decide (toFr r_1.2.1 = toFr r.2.1), ()) → (r_4.2.1 = true → ((r_2.2.2.1 == (0 : Int)) = true → ∀ (r : El Ty.un × Els [tR]), r = ((), ofFr (fsmall (-9 : Int) (10 : Int)).1, ()) → ∀ (r_5 : El Ty.un × Els [Ty.bo]), r_5 = ((), decide (toFr r_2.2.1 = toFr r.2.1), ()) → (r_5.2.1 = true → ((r_3.2.2.1 == (0 : Int)) = true → ∀ (r : El Ty.un × Els [tG]), r = ((), ofGa { re := (fsmall (3 : Int) (1 : Int)).1, im := (fsmall (4 : Int) (1 : Int)).1 }, ()) → ∀ (r_6 : El Ty.un × Els [Ty.bo]), r_6 = ((), gsame (toGa r_3.2.1) (toGa r.2.1), ()) → r_6.2 = (true, ())) ∧ ((r_3.2.2.1 == (0 : Int)) = false → (false, ()) = (true, ()))) ∧ (r_5.2.1 = false → (false, ()) = (true, ()))) ∧ ((r_2.2.2.1 == (0 : Int)) = false → (false, ()) = (true, ()))) ∧ (r_4.2.1 = false → (false, ()) = (true, ()))) ∧ ((r_1.2.2.1 == (0 : Int)) = false → (false, ()) = (true, ()))
set_option maxRecDepth 100000 in
theorem w_oawake (y : El sp_oawake.q) (x : Els sp_oawake.ps) : aw c_oawake (iv_oawake y x) (codeOf Try.f6) 0 (retQ c_oawake sp_oawake (Try.f6).results.toList y x) (startT sp_oawake x) (startO sp_oawake y) 1 = F_oawake y x := by kernel_rfl
theorem m_oawake (y : El (.un)) (x : Els []) (h2 : wfE (.un) y) (h3 : wfEs [] x) : F_oawake y x := by
  unfold F_oawake
  rintro _ rfl _ rfl _ rfl _ rfl
  dsimp only
  rw [aw_1, aw_2, aw_3, s_72, s_910, s_31, s_41]
  refine ⟨fun _ => ?_, fun h => absurd h (by decide)⟩
  rintro _ rfl _ rfl
  refine ⟨fun _ => ⟨fun _ => ?_, fun h => absurd h (by decide)⟩, fun h => absurd h (by simp [toFr, ofFr, pR])⟩
  rintro _ rfl _ rfl
  refine ⟨fun _ => ⟨fun _ => ?_, fun h => absurd h (by decide)⟩, fun h => absurd h (by simp [toFr, ofFr, pR])⟩
  rintro _ rfl _ rfl
  exact congrArg (fun b => (b, ())) gs_34
set_option maxRecDepth 100000 in
theorem fo_oawake : FnOk Try.prog 6 sp_oawake := fnOk_of (C := c_oawake) iv_oawake Try.func6 rfl (by kernel_rfl) tys_ok (prims_cons (spec_prim fo_oexample) (prims_cons (spec_prim fo_xAt) (prims_cons (spec_prim fo_xSum) (prims_cons (spec_prim fo_osmall) (prims_cons (spec_prim fo_rSame) (prims_cons (spec_prim fo_gInt) (prims_cons (spec_prim fo_gSame) prims_nil))))))) mixed_ (Nat.le_refl _) rfl fun y x h1 h2 h3 h4 =>
  Eq.mpr (w_oawake y x) (m_oawake y x h2 h3)
end Go.Proofs.Ytifonmdcicegdaa

namespace Go.Proofs.Ytifonmdcicegdaa
open Go Go.RowKit

section
variable {p : El tPort} {a b : Int} {k n i j : Nat}
theorem span_ok (h : (SpanE p a b).2 = 0) : (portI p).1 = 0 ∧ 0 ≤ a ∧ b ≤ 1025 ∧ a ≤ b ∧ SpanE p a b = spanS p a (b - a).toNat := by
  by_cases h1 : (portI p).1 = 0
  · by_cases c : a < 0 ∨ 1025 < b ∨ b < a
    · rw [sE_2 h1 c] at h
      cases h
    · exact ⟨h1, by omega, by omega, by omega, sE_3 h1 c⟩
  · rw [sE_1 h1] at h
    exact absurd h h1
theorem sp_nil (h : (spanS p a k).2 ≠ 0) : (spanS p a k).1 = [] := by
  induction k with
  | zero => rfl
  | succ k ih =>
    by_cases c : (spanS p a k).2 = 0
    · by_cases d : (atE p (a + k)).2 = 0
      · rw [sp_add c d] at h
        exact absurd rfl h
      · rw [sp_bad c d]
    · rw [sp_stay c 1]
      exact ih c
theorem span_nil (h : (SpanE p a b).2 ≠ 0) : (SpanE p a b).1 = [] := by
  by_cases h1 : (portI p).1 = 0
  · by_cases c : a < 0 ∨ 1025 < b ∨ b < a
    · rw [sE_2 h1 c]
    · rw [sE_3 h1 c] at h ⊢
      exact sp_nil h
  · rw [sE_1 h1]
theorem sp_pre (h : (spanS p a (i + 1)).2 = 0) : (spanS p a i).2 = 0 ∧ (atE p (a + i)).2 = 0 := by
  have h0 : (spanS p a i).2 = 0 := by
    refine Decidable.byContradiction fun c => ?_
    rw [sp_stay c 1] at h
    exact c h
  refine ⟨h0, Decidable.byContradiction fun c => ?_⟩
  rw [sp_bad h0 c] at h
  exact c h
theorem sp_split : ∀ {j : Nat}, (spanS p a (i + j)).2 = 0 → (spanS p a i).2 = 0 ∧ (spanS p (a + i) j).2 = 0 ∧ (spanS p a (i + j)).1 = (spanS p a i).1 ++ (spanS p (a + i) j).1
  | 0, h => ⟨h, rfl, (List.append_nil _).symm⟩
  | j + 1, h => by
    obtain ⟨h0, h1⟩ := sp_pre (i := i + j) h
    obtain ⟨k1, k2, k3⟩ := sp_split h0
    have e : a + ((i + j : Nat) : Int) = a + i + j := by omega
    rw [e] at h1
    have h1' : (atE p (a + ((i + j : Nat) : Int))).2 = 0 := by rw [e]; exact h1
    refine ⟨k1, ?_, ?_⟩
    · rw [sp_add k2 h1]
    · rw [show i + (j + 1) = i + j + 1 from rfl, sp_add h0 h1', sp_add k2 h1, k3, e, List.append_assoc]
theorem sp_at (h : (spanS p a n).2 = 0) (hk : k < n) : (atE p (a + k)).2 = 0 ∧ (spanS p a n).1.getD k (dfl tR) = ofFr (atE p (a + k)).1 := by
  obtain ⟨j, rfl⟩ : ∃ j, n = k + 1 + j := ⟨n - (k + 1), by omega⟩
  obtain ⟨k1, _, k3⟩ := sp_split h
  obtain ⟨h0, h1⟩ := sp_pre k1
  refine ⟨h1, ?_⟩
  rw [k3, sp_add h0 h1, List.append_assoc, List.getD_eq_getElem?_getD, List.getElem?_append_right (by rw [sp_len h0]; exact Nat.le_refl _), sp_len h0, Nat.sub_self]
  rfl
theorem pick_rng {x m : Int} (h : 0 < m) : 0 ≤ pickZ x m ∧ pickZ x m < m := ⟨Int.emod_nonneg _ (by omega), Int.emod_lt_of_pos _ h⟩
theorem At_in {t : Int} (h : (portI p).1 = 0) (t0 : 0 ≤ t) (t1 : t ≤ 1024) : AtE p t = atE p t := by
  have e : wrongE p t = 0 := by
    unfold wrongE tickE
    rw [if_neg (fun c => c h), if_neg (by omega)]
  unfold AtE
  rw [if_neg (fun c => c e)]
theorem span_in {m : Int} (h : (SpanE p a b).2 = 0) (h0 : a ≤ m) (h1 : m ≤ b) : (SpanE p a m).2 = 0 ∧ (SpanE p m b).2 = 0 ∧ (SpanE p a b).1 = (SpanE p a m).1 ++ (SpanE p m b).1 := by
  obtain ⟨p0, a0, b0, ab, es⟩ := span_ok h
  have e1 : SpanE p a m = spanS p a (m - a).toNat := sE_3 p0 (by omega)
  have e2 : SpanE p m b = spanS p m (b - m).toNat := sE_3 p0 (by omega)
  have e3 : (b - a).toNat = (m - a).toNat + (b - m).toNat := by omega
  have e4 : a + (((m - a).toNat : Nat) : Int) = m := by omega
  rw [es, e3] at h
  have := sp_split h
  rw [e4] at this
  rw [es, e1, e2, e3]
  exact this
theorem span_len (h : (SpanE p a b).2 = 0) : ((SpanE p a b).1.length : Int) = b - a := by
  obtain ⟨p0, a0, b0, ab, es⟩ := span_ok h
  rw [es] at h ⊢
  rw [sp_len h]
  omega
theorem span_at (h : (SpanE p a b).2 = 0) (hk : k < (SpanE p a b).1.length) : (AtE p (a + k)).2 = 0 ∧ (SpanE p a b).1.getD k (dfl tR) = ofFr (AtE p (a + k)).1 := by
  have hl := span_len h
  obtain ⟨p0, a0, b0, ab, es⟩ := span_ok h
  rw [At_in p0 (by omega) (by omega)]
  have hk : k < (b - a).toNat := by omega
  rw [es] at h ⊢
  exact sp_at h hk
end
noncomputable def sp_lawExactPieces : Spec := { q := .un, ps := [tPort, .it .i64, .it .i64, .it .i64], rs := [.bo], fresh := true, pre := fun _ _ => none, post := fun _ _ => ((), (true, ())) }
noncomputable def iv_lawExactPieces (y : El sp_lawExactPieces.q) (x : Els sp_lawExactPieces.ps) : Nat → Option Inv := fun k => if k = 0 then some { X := Nat, tm := fun i => [(1, .c (.sc (.int .i64 x.2.1))), (4, .c (.pv 1 0)), (9, .c (.sc (.bool true))), (10, .c (.sl tR (SpanE x.1 x.2.1 x.2.2.2.1).1)), (16, .c (.sc (.int .i64 i)))], ob := fun i => [(1, .var (cel tPort x.1))], n := 2, I := fun i => i ≤ (SpanE x.1 x.2.1 x.2.2.2.1).1.length, μ := fun i => (SpanE x.1 x.2.1 x.2.2.2.1).1.length - i } else none
noncomputable abbrev c_lawExactPieces : Cfg := cfgS (Try.f3).ntmps false [(6, sp_oawake.prim), (7, sp_lLong.prim), (8, sp_xSpan.prim), (9, sp_kPick.prim), (10, (sp_kSameRatios.rd).prim), (11, sp_xAt.prim), (12, sp_rSame.prim)]
def F_lawExactPieces (y : El sp_lawExactPieces.q) (x : Els sp_lawExactPieces.ps) : Prop :=
  (fun (i21 : Int) (i221 : Int) (i2221 : Int) => ∀ (r : El Ty.un × Els [Ty.bo]), r = ((), true, ()) → ∀ (r_1 : El Ty.un × Els [Ty.bo]), r_1 = ((), longZ x.1 i21 i2221, ()) → (r_1.2.1 = true → r.2 = (true, ())) ∧ (r_1.2.1 = false → (decide (i21 > i2221) = true → r.2 = (true, ())) ∧ (decide (i21 > i2221) = false → ∀ (r_2 : El Ty.un × Els [tR.sl, Ty.it IntKind.i64]), r_2 = ((), (SpanE x.1 i21 i2221).1, (SpanE x.1 i21 i2221).2, ()) → ((r_2.2.2.1 != (0 : Int)) = true → (r.2.1 = true → (lenM (0 : Nat) tR r_2.2.1 == (0 : Int), ()) = (true, ())) ∧ (r.2.1 = false → (false, ()) = (true, ()))) ∧ ((r_2.2.2.1 != (0 : Int)) = false → ((-9223372036854775808 : Int) ≤ i2221 - i21 ∧ i2221 - i21 ≤ (9223372036854775807 : Int)) ∧ ((-9223372036854775808 : Int) ≤ i2221 - i21 + (1 : Int) ∧ i2221 - i21 + (1 : Int) ≤ (9223372036854775807 : Int)) ∧ ((0 : El (Ty.it IntKind.i64)) < i2221 - i21 + (1 : Int) ∧ i2221 - i21 + (1 : Int) ≤ (4611686018427387904 : El (Ty.it IntKind.i64))) ∧ ∀ (r_3 : El Ty.un × Els [Ty.it IntKind.i64]), r_3 = ((), pickZ i221 (i2221 - i21 + (1 : Int)), ()) → ((-9223372036854775808 : Int) ≤ i21 + r_3.2.1 ∧ i21 + r_3.2.1 ≤ (9223372036854775807 : Int)) ∧ ∀ (r_4 : El Ty.un × Els [tR.sl, Ty.it IntKind.i64]), r_4 = ((), (SpanE x.1 i21 (i21 + r_3.2.1)).1, (SpanE x.1 i21 (i21 + r_3.2.1)).2, ()) → ∀ (r_5 : El Ty.un × Els [tR.sl, Ty.it IntKind.i64]), r_5 = ((), (SpanE x.1 (i21 + r_3.2.1) i2221).1, (SpanE x.1 (i21 + r_3.2.1) i2221).2, ()) → ((r_4.2.2.1 != (0 : Int)) = true → (false, ()) = (true, ())) ∧ ((r_4.2.2.1 != (0 : Int)) = false → ((r_5.2.2.1 != (0 : Int)) = true → (false, ()) = (true, ())) ∧ ((r_5.2.2.1 != (0 : Int)) = false → ((-9223372036854775808 : Int) ≤ i2221 - i21 ∧ i2221 - i21 ≤ (9223372036854775807 : Int)) ∧ ((lenM (0 : Nat) tR r_2.2.1 != i2221 - i21) = true → (false, ()) = (true, ())) ∧ ((lenM (0 : Nat) tR r_2.2.1 != i2221 - i21) = false → (0 : Nat) + List.length r_4.2.1 ≤ (1073741824 : Nat) ∧ ([] ++ r_4.2.1).length + List.length r_5.2.1 ≤ (1073741824 : Nat) ∧ ∀ (r_6 : El Ty.un × Els [Ty.bo]), r_6 = ((), sameRs r_2.2.1 ([] ++ r_4.2.1 ++ r_5.2.1), ()) → ((!r_6.2.1) = true → (false, ()) = (true, ())) ∧ ((!r_6.2.1) = false → (∃ (x_1 : Nat), i21 = i21 ∧ true = r.2.1 ∧ (SpanE x.1 i21 i2221).1 = r_2.2.1 ∧ (↑x_1 : Int) = (0 : Int) ∧ x.1.1 = x.1.1 ∧ x.1.2.1.1 = x.1.2.1.1 ∧ x.1.2.1.2.1 = x.1.2.1.2.1 ∧ x.1.2.1.2.2.1 = x.1.2.1.2.2.1 ∧ x.1.2.2.1 = x.1.2.2.1 ∧ x_1.le (SpanE x.1 i21 i2221).1.length) ∧ ∀ (x_1 : Nat), x_1.le (SpanE x.1 i21 i2221).1.length → (decide ((↑x_1 : Int) < (↑(SpanE x.1 i21 i2221).1.length : Int)) = true → ((-9223372036854775808 : Int) ≤ i21 + (↑x_1 : Int) ∧ i21 + (↑x_1 : Int) ≤ (9223372036854775807 : Int)) ∧ ∀ (r : El Ty.un × Els [tR, Ty.it IntKind.i64]), r = ((), ((AtE x.1 (i21 + (↑x_1 : Int))).1.neg, (AtE x.1 (i21 + (↑x_1 : Int))).1.num, (AtE x.1 (i21 + (↑x_1 : Int))).1.den, ()), (AtE x.1 (i21 + (↑x_1 : Int))).2, ()) → ((r.2.2.1 != (0 : Int)) = true → (false, ()) = (true, ())) ∧ ((r.2.2.1 != (0 : Int)) = false → ((0 : Int) ≤ (↑x_1 : Int) ∧ (↑x_1 : Int) < (↑(SpanE x.1 i21 i2221).1.length : Int)) ∧ ∀ (r_7 : El Ty.un × Els [Ty.bo]), r_7 = ((), decide (toFr r.2.1 = toFr ((SpanE x.1 i21 i2221).1.getD (↑x_1 : Int).toNat (dfl tR))), ()) → ((!r_7.2.1) = true → (false, ()) = (true, ())) ∧ ((!r_7.2.1) = false → ((-9223372036854775808 : Int) ≤ (↑x_1 : Int) + (1 : Int) ∧ (↑x_1 : Int) + (1 : Int) ≤ (9223372036854775807 : Int)) ∧ ∃ (x' : Nat), i21 = i21 ∧ true = true ∧ (SpanE x.1 i21 i2221).1 = (SpanE x.1 i21 i2221).1 ∧ (↑x' : Int) = (↑x_1 : Int) + (1 : Int) ∧ x.1.1 = x.1.1 ∧ x.1.2.1.1 = x.1.2.1.1 ∧ x.1.2.1.2.1 = x.1.2.1.2.1 ∧ x.1.2.1.2.2.1 = x.1.2.1.2.2.1 ∧ x.1.2.2.1 = x.1.2.2.1 ∧ x'.le (SpanE x.1 i21 i2221).1.length ∧ (SpanE x.1 i21 i2221).1.length - x' < (SpanE x.1 i21 i2221).1.length - x_1))) ∧ (decide ((↑x_1 : Int) < (↑(SpanE x.1 i21 i2221).1.length : Int)) = false → (true, ()) = (true, ())))))))))) x.2.1 x.2.2.1 x.2.2.2.1
set_option maxRecDepth 100000 in
theorem w_lawExactPieces (y : El sp_lawExactPieces.q) (x : Els sp_lawExactPieces.ps) : aw c_lawExactPieces (iv_lawExactPieces y x) (codeOf Try.f3) 0 (retQ c_lawExactPieces sp_lawExactPieces (Try.f3).results.toList y x) (startT sp_lawExactPieces x) (startO sp_lawExactPieces y) 1 = F_lawExactPieces y x := by kernel_rfl
theorem m_lawExactPieces (y : El (.un)) (x : Els [tPort, .it .i64, .it .i64, .it .i64]) (h2 : wfE (.un) y) (h3 : wfEs [tPort, .it .i64, .it .i64, .it .i64] x) : F_lawExactPieces y x := by
  unfold F_lawExactPieces
  dsimp only
  rintro _ rfl _ rfl
  refine ⟨fun _ => rfl, fun _ => ⟨fun _ => rfl, fun ab => ?_⟩⟩
  rintro _ rfl
  refine ⟨fun h => ⟨fun _ => ?_, fun c => by cases c⟩, fun h => ?_⟩
  · rw [span_nil (neT h)]
    rfl
  · have h : (SpanE x.1 x.2.1 x.2.2.2.1).2 = 0 := neF h
    obtain ⟨p0, a0, b0, ab0, _⟩ := span_ok h
    refine ⟨by omega, by omega, ⟨show (0 : Int) < _ by omega, show _ ≤ (4611686018427387904 : Int) by omega⟩, ?_⟩
    rintro _ rfl
    have pr := pick_rng (x := x.2.2.1) (m := x.2.2.2.1 - x.2.1 + 1) (by omega)
    dsimp only
    refine ⟨by omega, ?_⟩
    obtain ⟨m, hm⟩ : ∃ m : Int, m = x.2.1 + pickZ x.2.2.1 (x.2.2.2.1 - x.2.1 + 1) := ⟨_, rfl⟩
    rw [← hm]
    obtain ⟨s1, s2, s3⟩ := span_in (m := m) h (by omega) (by omega)
    have sl := span_len h
    have sl1 := span_len s1
    have sl2 := span_len s2
    rintro _ rfl _ rfl
    refine ⟨fun c => absurd s1 (neT c), fun _ => ⟨fun c => absurd s2 (neT c), fun _ => ⟨by omega, fun c => absurd sl (neT c), fun _ => ⟨?_, ?_, ?_⟩⟩⟩⟩
    · show 0 + (SpanE x.1 x.2.1 m).1.length ≤ _
      omega
    · rw [List.nil_append]
      show (SpanE x.1 x.2.1 m).1.length + (SpanE x.1 m x.2.2.2.1).1.length ≤ _
      omega
    · rintro _ rfl
      refine ⟨fun c => ?_, fun _ => ⟨⟨0, rfl, rfl, rfl, rfl, rfl, rfl, rfl, rfl, rfl, Nat.zero_le _⟩, fun i hi => ⟨fun l => ?_, fun l => rfl⟩⟩⟩
      · have c : sameRs (SpanE x.1 x.2.1 x.2.2.2.1).1 ([] ++ (SpanE x.1 x.2.1 m).1 ++ (SpanE x.1 m x.2.2.2.1).1) = false := ntt c
        rw [List.nil_append, ← s3] at c
        unfold sameRs at c
        rw [decide_eq_true rfl] at c
        cases c
      · have hi : i ≤ (SpanE x.1 x.2.1 x.2.2.2.1).1.length := hi
        have l := ltT l
        have il : i + 1 ≤ (SpanE x.1 x.2.1 x.2.2.2.1).1.length := by omega
        obtain ⟨q1, q2⟩ := span_at h il
        refine ⟨by omega, ?_⟩
        rintro _ rfl
        refine ⟨fun c => absurd q1 (neT c), fun _ => ⟨⟨by omega, l⟩, ?_⟩⟩
        rintro _ rfl
        refine ⟨fun c => ?_, fun _ => ⟨by omega, i + 1, ?_⟩⟩
        · have c := of_decide_eq_false (ntt c)
          rw [Int.toNat_natCast, q2] at c
          exact absurd rfl c
        · and_intros
          all_goals first | rfl | exact il | omega
set_option maxRecDepth 100000 in
theorem fo_lawExactPieces : FnOk Try.prog 3 sp_lawExactPieces := fnOk_of (C := c_lawExactPieces) iv_lawExactPieces Try.func3 rfl (by kernel_rfl) tys_ok (prims_cons (spec_prim fo_oawake) (prims_cons (spec_prim fo_lLong) (prims_cons (spec_prim fo_xSpan) (prims_cons (spec_prim fo_kPick) (prims_cons (spec_prim (FnOk.read fo_kSameRatios)) (prims_cons (spec_prim fo_xAt) (prims_cons (spec_prim fo_rSame) prims_nil))))))) mixed_ (Nat.le_refl _) rfl fun y x h1 h2 h3 h4 =>
  Eq.mpr (w_lawExactPieces y x) (m_lawExactPieces y x h2 h3)
end Go.Proofs.Ytifonmdcicegdaa

namespace Go.Proofs.Ytifonmdcicegdaa
open Go.ChangeShapes Go.WideShapes Go.ChangeAt Go.RowKit Go.Joins Go.Deep
set_option linter.unusedVariables false

section
variable {H : Type} {enc : TypeId × Value → H} {P : Program} {w : World} {base : Nat} {spare : Nat → Bool} {held : Bool}
end

theorem mk_own : ownKnob Try.prog.godebug = none := by kernel_rfl
theorem mk_laidOut : laidOutB Try.prog = true := by kernel_rfl

end Go.Proofs.Ytifonmdcicegdaa

namespace Go.Proofs.Ytifonmdcicegdaa
open Go Go.RowKit Go.ChangeShapes Go.WideShapes Go.ChangeAt Go.Joins Go.Deep

/-- a form of what comes in -/
def Ty.inn : Ty → Bool
  | .bo => true
  | .it _ => true
  | .st => true
  | .sl t => t.inn && !Nat.beq t.size 0
  | .pr a b => a.inn && b.inn
  | .un => true
  | _ => false
abbrev Zw (W : World) : Nat → Prop := fun g => g < W.heap.size
theorem lit_wf {k : IntKind} {n : Int} (h : (Lit.int k n).wf = true) : k.min ≤ n ∧ n ≤ k.max := by simpa [Lit.wf] using h
theorem inn_struct {P : Program} {tb : Tbl} {t e : Nat} {a b : Ty} (h : TyOk P tb t (.pr a b) e) : ∃ fs, P.underlying t = some (.struct fs) ∧ fsB tb (.pr a b) 0 fs.toList = true := by
  obtain ⟨d, h1, h2⟩ := h.und
  unfold dscB at h2
  split at h2 <;> first
    | (cases h2; done)
    | (rename_i e2; cases e2; done)
    | skip
  all_goals
    rename_i e2
    cases e2
    exact ⟨_, h1, h2⟩
theorem inn_slice {P : Program} {tb : Tbl} {t e : Nat} {u : Ty} (h : TyOk P tb t (.sl u) e) : P.underlying t = some (.slice e) ∧ ∃ e', look tb e = some (u, e') := by
  obtain ⟨d, h1, h2⟩ := h.und
  unfold dscB at h2
  split at h2 <;> first
    | (cases h2; done)
    | (rename_i e2; cases e2; done)
    | skip
  all_goals
    rename_i e2
    cases e2
    simp only [Bool.and_eq_true] at h2
    rw [Nat.eq_of_beq_eq_true h2.1] at h1
    exact ⟨h1, isT_look h2.2⟩
theorem size_of_ {P : Program} {tb : Tbl} {t e : Nat} {y : Ty} (h : TyOk P tb t y e) : P.cellsOf t = y.size := by
  obtain ⟨i, z, h1, h2, _⟩ := h.info
  simp [Program.cellsOf, h1, h2]
/-- cells that come in say a value -/
theorem rt_in {H : Type} {enc : TypeId × Value → H} {P : Program} {W : World} {tb : Tbl} (hT : tyB P tb tb = true) : ∀ (y : Ty), y.inn = true →
    (∀ {t e fuel : Nat} {cs : List Value} {x : DataW H × List MemPlace}, look tb t = some (y, e) → DataW.trod enc P W 0 (fun _ => true) true fuel t cs = some x → ∃ v : El y, RT (Zw W) W y v cs) ∧
    (∀ {o : Nat} {fs : List Field} {cs : List Value}, fsB tb y o fs = true → (∀ (i : Nat) (f : Field), fs[i]? = some f → ∃ (n : Nat) (x : DataW H × List MemPlace), DataW.trod enc P W 0 (fun _ => true) true n f.type ((cs.drop f.offset).take (P.cellsOf f.type)) = some x) → cs.length = o + y.size → ∃ v : El y, RT (Zw W) W y v (cs.drop o))
  | .bo, _ => by
    refine ⟨fun {t e fuel cs x} hl h => ?_, fun {o fs cs} h _ _ => by simp [fsB] at h⟩
    obtain ⟨d, h1, h2⟩ := (tyB_sound hT hl).und
    have : d = .bool := by cases d <;> simp [dscB] at h2; rfl
    subst this
    obtain ⟨b, rfl, _⟩ := DataW.trod_bool h1 h
    exact ⟨b, by rw [RT]⟩
  | .it k, _ => by
    refine ⟨fun {t e fuel cs x} hl h => ?_, fun {o fs cs} h _ _ => by simp [fsB] at h⟩
    obtain ⟨d, h1, h2⟩ := (tyB_sound hT hl).und
    have : d = .int k := by cases d <;> simp [dscB] at h2; rw [h2]
    subst this
    obtain ⟨n, rfl, _, hw⟩ := DataW.trod_int h1 h
    exact ⟨n, by rw [RT]; exact ⟨rfl, lit_wf hw⟩⟩
  | .st, _ => by
    refine ⟨fun {t e fuel cs x} hl h => ?_, fun {o fs cs} h _ _ => by simp [fsB] at h⟩
    obtain ⟨d, h1, h2⟩ := (tyB_sound hT hl).und
    have : d = .string := by cases d <;> simp [dscB] at h2; rfl
    subst this
    obtain ⟨s, rfl, _, hs⟩ := DataW.trod_string h1 h
    exact ⟨s, by rw [RT]; exact ⟨rfl, by simp only [maxLen] at hs; omega⟩⟩
  | .un, _ => by
    refine ⟨fun {t e fuel cs x} hl h => ?_, fun {o fs cs} _ _ hl => ⟨(), by rw [RT]; exact List.drop_of_length_le (by rw [hl]; exact Nat.le_refl _)⟩⟩
    obtain ⟨d, h1, h2⟩ := (tyB_sound hT hl).und
    cases d with
    | struct fs =>
      obtain ⟨xs, n, _, _, hl', _⟩ := DataW.trod_struct h1 h
      rw [size_of_ (tyB_sound hT hl)] at hl'
      exact ⟨(), by rw [RT]; exact List.eq_nil_of_length_eq_zero hl'⟩
    | _ => simp [dscB] at h2
  | .sl u, hy => by
    refine ⟨fun {t e fuel cs x} hl h => ?_, fun {o fs cs} h _ _ => by simp [fsB] at h⟩
    simp only [Ty.inn, Bool.and_eq_true, Bool.not_eq_true'] at hy
    have hu : u.size ≠ 0 := fun e0 => by rw [e0] at hy; exact absurd hy.2 (by decide)
    obtain ⟨h1, e', h2⟩ := inn_slice (tyB_sound hT hl)
    have hs := size_of_ (tyB_sound hT h2)
    rcases open_slice h1 h with ⟨rfl, _⟩ | ⟨a, len, cap, m, n, D, Pl, rfl, _, hl2, hm, rfl, _, hi⟩
    · exact ⟨[], RT.sl_nil _ _ _⟩
    · have hi : ∀ i, i < m → ∃ cs', W.cells? 0 (a.add (i * P.cellsOf e)) (P.cellsOf e) = some cs' ∧ DataW.trod enc P W 0 (fun _ => true) true n e cs' = some (D i, Pl i) := fun i hic => hi i hic
      simp only [maxLen] at hm
      have each : ∀ j, j < len → ∃ v : El u, ∃ us, RT (Zw W) W u v us ∧ us.length = u.size ∧ ∀ (i : Nat) (z : Value), us[i]? = some z → W.cell? ((a.add (j * u.size)).add i) = some z := fun j hj => by
        obtain ⟨us, k1, k2⟩ := hi j (by omega)
        obtain ⟨_, k3, k4⟩ := World.cells?_some k1
        obtain ⟨v, hv⟩ := (rt_in hT u hy.1).1 h2 k2
        rw [hs] at k3 k4
        refine ⟨v, us, hv, k3, fun i z hz => ?_⟩
        rw [k4 i (by rw [← k3]; exact (List.getElem?_eq_some_iff.1 hz).1)]
        exact hz
      haveI : Inhabited (El u) := ⟨dfl u⟩
      obtain ⟨f, hf⟩ := choose_lt each
      have hlen : ((List.range len).map f).length = len := by simp
      refine ⟨(List.range len).map f, ?_⟩
      rw [RT]
      refine ⟨some a, m, by rw [hlen], by rw [hlen]; exact hl2, by omega, (fun e => by cases e), fun j hj => ?_⟩
      rw [hlen] at hj
      obtain ⟨us, k1, k2, k3⟩ := hf j hj
      have e1 : ((List.range len).map f)[j]'(by rw [hlen]; exact hj) = f j := by simp
      rw [e1]
      have hpos : 0 < us.length := by omega
      obtain ⟨us0, _, l2, l3⟩ := hf 0 (by omega)
      have d0 := l3 0 _ (List.getElem?_eq_getElem (show 0 < us0.length by omega))
      have c0 := k3 0 _ (List.getElem?_eq_getElem hpos)
      obtain ⟨g, o, s⟩ := a
      cases s with
      | some s =>
        exfalso
        have e3 : ((⟨g, o, some s⟩ : Addr).add (0 * u.size)).add 0 = ⟨g, o, some s⟩ := by rw [Nat.zero_mul]; rfl
        rw [e3] at d0
        unfold World.cell? at d0
        split at d0 <;> simp at d0
      | none =>
        have e2 : ∀ i, ((⟨g, o, none⟩ : Addr).add (j * u.size)).add i = ⟨g, o + (j * u.size + i), none⟩ := fun i => by rw [add_plain, add_plain, Nat.add_assoc]
        refine ⟨g, o, us, rfl, ?_, k1, fun i z hz => ?_⟩
        · rw [e2] at c0
          exact World.block_lt_of_cell? W _ c0
        · have := k3 i z hz
          rw [e2] at this
          exact this
  | .pr a b, hy => by
    simp only [Ty.inn, Bool.and_eq_true] at hy
    have key : ∀ {o : Nat} {fs : List Field} {cs : List Value}, fsB tb (.pr a b) o fs = true → (∀ (i : Nat) (f : Field), fs[i]? = some f → ∃ (n : Nat) (x : DataW H × List MemPlace), DataW.trod enc P W 0 (fun _ => true) true n f.type ((cs.drop f.offset).take (P.cellsOf f.type)) = some x) → cs.length = o + (Ty.pr a b).size → ∃ v : El (.pr a b), RT (Zw W) W (.pr a b) v (cs.drop o) := fun {o fs cs} h hf hl => by
      cases fs with
      | nil => simp [fsB] at h
      | cons f fs =>
        simp only [fsB, Bool.and_eq_true] at h
        obtain ⟨⟨h1, h2⟩, h3⟩ := h
        obtain ⟨e, h2⟩ := isT_look h2
        obtain ⟨n, x, h4⟩ := hf 0 f rfl
        obtain ⟨v, hv⟩ := (rt_in hT a hy.1).1 h2 h4
        have hl' : cs.length = o + a.size + b.size := by rw [hl]; show o + (a.size + b.size) = _; omega
        obtain ⟨v', hv'⟩ := (rt_in hT b hy.2).2 h3 (fun i f' h => hf (i + 1) f' (by simpa using h)) hl'
        rw [Nat.eq_of_beq_eq_true h1, size_of_ (tyB_sound hT h2)] at hv
        refine ⟨(v, v'), ?_⟩
        rw [RT]
        refine ⟨_, _, ?_, hv, hv'⟩
        rw [← List.drop_drop, List.take_append_drop]
    refine ⟨fun {t e fuel cs x} hl h => ?_, key⟩
    obtain ⟨fs, h1, h2⟩ := inn_struct (tyB_sound hT hl)
    obtain ⟨xs, n, _, _, h3, h4, h5⟩ := DataW.trod_struct h1 h
    rw [size_of_ (tyB_sound hT hl)] at h3
    have := key (cs := cs) h2 (fun i f hf => by
      have hi := (List.getElem?_eq_some_iff.1 hf).1
      have h6 := h5 i f (by simpa using hf)
      have h7 : i < xs.length := by rw [h4]; simpa using hi
      exact ⟨n, xs[i], h6.trans (List.getElem?_eq_getElem h7)⟩) (by omega)
    simpa using this
  | .pt _, h => by cases h
  | .fn, h => by cases h
  | .lt _, h => by cases h
  | .lf _, h => by cases h
  | .oq, h => by cases h
/-- an argument that comes in, by value -/
theorem rv_in {H : Type} {enc : TypeId × Value → H} {P : Program} {W : World} {tb : Tbl} (hT : tyB P tb tb = true) {b0 t e : Nat} (y : Ty) (hy : y.inn = true) (hl : look tb t = some (y, e)) {v : Value} {d : DataW H} {p : List MemPlace} (hv : Value.okWide P W .any b0 t v) (h : DataW.Trod enc P W 0 (fun _ => true) true t v d p) : ∃ x : El y, RV (Zw W) W y x v := by
  obtain ⟨fuel, h⟩ := h
  have hty := tyB_sound hT hl
  obtain ⟨x, hx⟩ := (rt_in hT y hy).1 hl h
  refine ⟨x, ?_⟩
  unfold RV
  have one : v.cells.toList = [v] → y.agg = false → (if y.agg = true then ∃ us, v = .agg us ∧ RT (Zw W) W y x us.toList else RT (Zw W) W y x [v]) := fun h1 h2 => by
    rw [if_neg (by simp [h2]), ← h1]; exact hx
  obtain ⟨dsc, u1, u2⟩ := hty.und
  cases y with
  | bo =>
    have : dsc = .bool := by cases dsc <;> simp [dscB] at u2; rfl
    subst this
    obtain ⟨b, rfl⟩ := okWide_bool u1 hv
    exact one rfl rfl
  | it k =>
    have : dsc = .int k := by cases dsc <;> simp [dscB] at u2; rw [u2]
    subst this
    obtain ⟨n, rfl⟩ := okWide_int u1 hv
    exact one rfl rfl
  | st =>
    have : dsc = .string := by cases dsc <;> simp [dscB] at u2; rfl
    subst this
    obtain ⟨n, rfl⟩ := okWide_string u1 hv
    exact one rfl rfl
  | sl u =>
    obtain ⟨h1, _⟩ := inn_slice hty
    obtain ⟨A, l, c, rfl⟩ := okWide_slice h1 hv
    exact one rfl rfl
  | un =>
    cases dsc with
    | struct fs =>
      obtain ⟨cs, rfl, _⟩ := okWide_struct u1 hv
      rw [if_pos (show Ty.un.agg = true from rfl)]
      exact ⟨cs, rfl, hx⟩
    | _ => simp [dscB] at u2
  | pr a b =>
    obtain ⟨fs, h1, _⟩ := inn_struct hty
    obtain ⟨cs, rfl, _⟩ := okWide_struct h1 hv
    rw [if_pos (show (Ty.pr a b).agg = true from rfl)]
    exact ⟨cs, rfl, hx⟩
  | pt _ => cases hy
  | fn => cases hy
  | lt _ => cases hy
  | lf _ => cases hy
  | oq => cases hy
/-- a law's call -/
theorem law_calls {P : Program} {f : Nat} {ps : List Ty} (h : FnOk P f { q := .un, ps := ps, rs := [.bo], fresh := true, pre := fun _ _ => none, post := fun _ _ => ((), (true, ())) }) {W : World} {x : Els ps} {vs : List Value} (hv : RVs (Zw W) W ps x vs) : Calls P f vs.toArray W fun e W' => e = .returned (.bool true) ∧ Below W.heap.size W W' := by
  refine (h.2 (Zw W) W 0 vs () x (fun g hg => hg) hv trivial (fun e => by cases e) (fun _ => rfl)).mono ?_
  rintro e w' ⟨v, us, bs, Z', rfl, t1, t2, _, _, _, _, _, t8, _⟩
  have t8 : W.grownBy w' none := t8
  refine ⟨?_, t8.os, t8.tape, t8.output, t8.size, fun k hk => t8.block k hk (by simp)⟩
  match us, t2 with
  | [u], ⟨b, b', _, h1, h2⟩ =>
    have h1 : RT _ w' .bo true [u] ∧ b = [] := h1
    rw [RT] at h1
    have e1 : u = .bool true := by simpa using h1.1
    rcases t1 with ⟨u', e2, rfl⟩ | ⟨h3, _⟩
    · cases e2; rw [e1]
    · simp at h3
end Go.Proofs.Ytifonmdcicegdaa

namespace Go.Proofs.Ytifonmdcicegdaa
open Go.ChangeShapes Go.WideShapes Go.ChangeAt Go.RowKit Go.Joins
set_option linter.unusedVariables false

set_option maxRecDepth 100000 in
theorem mk_lifted (os : Os) (started : os.Started) (H : Type) (enc : TypeId × Value → H) :
    ReturnsInHanded {} Try.checked os 3 .any (Rows.exactPiecesSpec.pre6 enc Try.prog Try.f3 Rows.exactPiecesRow.domain false) (Rows.exactPiecesSpec.post enc Try.prog Try.f3 false true false false) := by
  refine returnsInHanded_of_change (C := Try.checked) mk_own started (by kernel_rfl) Try.func3
    (ChangeSpec.witness6 (enc := enc) (C := Try.checked) false ⟨#[], #[.agg #[.string ⟨#[]⟩, .bool false, .slice none 0 0, .slice none 0 0, .slice none 0 0], .int .i64 0, .int .i64 0, .int .i64 0], []⟩ 8 (by kernel_rfl) (by kernel_rfl) (by kernel_rfl) (by kernel_rfl)) ?_
  intro W base args ds gs before hval0 hW hcnd _
  have hval : ∀ (j : Nat) t v, Try.f3.params[j]? = some t → args[j]? = some v → Value.okWide Try.prog W .any base t v := hval0
  have hW' := hW
  obtain ⟨p, q, hA0, hV, rfl, hfz, hnd⟩ := hW
  have hA : DataW.TrodAll enc Try.prog W 0 (fun _ => true) true Try.f3.params.toList args.toList ds p := hA0
  rw [Try.params3] at hA hval
  obtain ⟨v0, vs0, d0, ds0, p0, q0, hargs, rfl, rfl, h0, r0⟩ := trodAll_cons hA
  obtain ⟨v1, vs1, d1, ds1, p1, q1, rfl, rfl, rfl, h1, r1⟩ := trodAll_cons r0
  obtain ⟨v2, vs2, d2, ds2, p2, q2, rfl, rfl, rfl, h2, r2⟩ := trodAll_cons r1
  obtain ⟨v3, vs3, d3, ds3, p3, q3, rfl, rfl, rfl, h3, r3⟩ := trodAll_cons r2
  obtain ⟨rfl, rfl, rfl⟩ := trodAll_nil r3
  obtain rfl : args = #[v0, v1, v2, v3] := by cases args; simp_all
  obtain ⟨rfl, rfl⟩ := trodVars_none hV
  have k0 := h0
  have lt0 : ∀ x ∈ p0, x.block < W.heap.size := by obtain ⟨m, hm⟩ := k0; exact DataW.trod_lt m _ _ _ hm
  have k1 := h1
  have lt1 : ∀ x ∈ p1, x.block < W.heap.size := by obtain ⟨m, hm⟩ := k1; exact DataW.trod_lt m _ _ _ hm
  have k2 := h2
  have lt2 : ∀ x ∈ p2, x.block < W.heap.size := by obtain ⟨m, hm⟩ := k2; exact DataW.trod_lt m _ _ _ hm
  have k3 := h3
  have lt3 : ∀ x ∈ p3, x.block < W.heap.size := by obtain ⟨m, hm⟩ := k3; exact DataW.trod_lt m _ _ _ hm
  obtain ⟨x0, hx0⟩ := rv_in tys_ok (e := 0) (tPort) rfl rfl (hval 0 27 v0 rfl rfl) h0
  obtain ⟨x1, hx1⟩ := rv_in tys_ok (e := 0) (ti) rfl rfl (hval 1 3 v1 rfl rfl) h1
  obtain ⟨x2, hx2⟩ := rv_in tys_ok (e := 0) (ti) rfl rfl (hval 2 3 v2 rfl rfl) h2
  obtain ⟨x3, hx3⟩ := rv_in tys_ok (e := 0) (ti) rfl rfl (hval 3 3 v3 rfl rfl) h3
  clear hA0 hval0
  refine (law_calls (x := (x0, x1, x2, x3, ())) (vs := [v0, v1, v2, v3]) fo_lawExactPieces ⟨hx0, hx1, hx2, hx3, trivial⟩).mono fun e W' ⟨he, bel⟩ => ?_
  subst he
  exact ⟨_, rfl, _, _, _, [], _, [], hW', trodAll_mk1 (shut_bool Try.underlying4 _), (trodAll_cons_mk (Below.trod mk_laidOut (by kernel_rfl) (of_decide_eq_true (by kernel_rfl)) k0 bel lt0) (trodAll_cons_mk (Below.trod mk_laidOut (by kernel_rfl) (of_decide_eq_true (by kernel_rfl)) k1 bel lt1) (trodAll_cons_mk (Below.trod mk_laidOut (by kernel_rfl) (of_decide_eq_true (by kernel_rfl)) k2 bel lt2) (trodAll_cons_mk (Below.trod mk_laidOut (by kernel_rfl) (of_decide_eq_true (by kernel_rfl)) k3 bel lt3) trodAll_mk0)))), rfl, Below.frame bel _, fun h => by cases h⟩

end Go.Proofs.Ytifonmdcicegdaa

