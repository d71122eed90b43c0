/- Texts of this claim, joined: W3. -/
import Derived.Test.YtjoonfegjobgbaaGreatDoorQx
set_option linter.unusedVariables false
set_option linter.unusedSimpArgs false
set_option maxRecDepth 100000
namespace Go.Proofs.YtjoonfegjobgbaaGreatDoor
open Go Go.RowKit
def pickZ (a n : Int) : Int := a % n
theorem pick_law (a n : Int) (h : 0 < n) (k : n ≤ 4611686018427387904) : n ≠ 0 ∧ (decide (Int.tmod a n < 0) = true → (-9223372036854775808 ≤ Int.tmod a n + n ∧ Int.tmod a n + n ≤ 9223372036854775807) ∧ (Int.tmod a n + n, ()) = (pickZ a n, ())) ∧ (decide (Int.tmod a n < 0) = false → (Int.tmod a n, ()) = (pickZ a n, ())) := by
  have e := @Int.tmod_eq_emod a n
  have m0 := Int.emod_nonneg a (show n ≠ 0 by omega)
  have m1 := Int.emod_lt_of_pos a h
  have ea : ((n.natAbs : Nat) : Int) = n := by omega
  refine ⟨by omega, fun l => ?_, fun l => ?_⟩
  · have l := ltT l
    unfold pickZ
    split at e
    · simp only [Int.natCast_zero, Int.sub_zero] at e
      omega
    · exact ⟨by omega, by rw [show Int.tmod a n + n = a % n by omega]⟩
  · have l := ltF l
    unfold pickZ
    split at e
    · simp only [Int.natCast_zero, Int.sub_zero] at e
      rw [e]
    · rw [show Int.tmod a n = a % n by omega]
noncomputable def sp_kPick : Spec := { q := .un, ps := [.it .i64, .it .i64], rs := [.it .i64], fresh := true, pre := fun _ x => some (0 < (x.2.1 : Int) ∧ (x.2.1 : Int) ≤ 4611686018427387904), post := fun _ x => ((), (pickZ x.1 x.2.1, ())) }
noncomputable def iv_kPick (y : El sp_kPick.q) (x : Els sp_kPick.ps) : Nat → Option Inv := fun _ => none
noncomputable abbrev c_kPick : Cfg := cfgS (Tryz.f34).ntmps false []
def F_kPick (y : El sp_kPick.q) (x : Els sp_kPick.ps) : Prop :=
  (fun (i1 : Int) (i21 : Int) => i21 ≠ (0 : Int) ∧ (decide (Int.tmod i1 i21 < (0 : Int)) = true → ((-9223372036854775808 : Int) ≤ Int.tmod i1 i21 + i21 ∧ Int.tmod i1 i21 + i21 ≤ (9223372036854775807 : Int)) ∧ (Int.tmod i1 i21 + i21, ()) = (pickZ i1 i21, ())) ∧ (decide (Int.tmod i1 i21 < (0 : Int)) = false → (Int.tmod i1 i21, ()) = (pickZ i1 i21, ()))) x.1 x.2.1
theorem w_kPick (y : El sp_kPick.q) (x : Els sp_kPick.ps) : aW c_kPick (iv_kPick y x) Tryz.f34 sp_kPick y x = F_kPick y x := by kernel_rfl
theorem m_kPick (y : El (.un)) (x : Els [.it .i64, .it .i64]) (h2 : wfE (.un) y) (h3 : wfEs [.it .i64, .it .i64] x) (h4 : 0 < (x.2.1 : Int) ∧ (x.2.1 : Int) ≤ 4611686018427387904) : F_kPick y x := by
  unfold F_kPick
  dsimp only
  exact pick_law x.1 x.2.1 h4.1 h4.2
theorem fo_kPick : FnOk Tryz.prog 34 sp_kPick := fnOk_of (C := c_kPick) iv_kPick Tryz.func34 rfl (by kernel_rfl) tys_ok prims_nil mixed_ (Nat.le_refl _) rfl fun y x h1 h2 h3 h4 =>
  Eq.mpr (w_kPick y x) (m_kPick y x h2 h3 h4)
theorem pick_20 (a : Int) : ∃ t : Nat, t ≤ 20 ∧ pickZ a 20 = (t : Int) := by
  have m0 := Int.emod_nonneg a (show (20 : Int) ≠ 0 by decide)
  have m1 := Int.emod_lt_of_pos a (show (0 : Int) < 20 by decide)
  exact ⟨(a % 20).toNat, by omega, (Int.toNat_of_nonneg m0).symm⟩
theorem near_bad {a b : El tRot} {n : Int} (h : rotC a ≠ 0 ∨ rotC b ≠ 0) : (nearR a b n).2 ≠ 0 := by
  unfold nearR
  by_cases k : rotC a = 0
  · rcases h with h | h
    · exact absurd k h
    · rw [if_neg (fun c => c k), if_pos h]
      exact h
  · rw [if_pos k]
    exact k
theorem parts_bad {a b : El tRot} {n : Int} (h : rotC a ≠ 0 ∨ rotC b ≠ 0) : (((pR (nearR a b n)).2.2.1 != (0 : Int)) = true → ((pR (nearR b a n)).2.2.1 != (0 : Int), ()) = (true, ())) ∧ (((pR (nearR a b n)).2.2.1 != (0 : Int)) = false → (false, ()) = (true, ())) :=
  ⟨fun _ => congrArg (fun t => (t, ())) (bne_iff_ne.2 (near_bad (n := n) h.symm)), fun c => absurd (neF c) (near_bad h)⟩
noncomputable def sp_lawInferParts : Spec := { q := .un, ps := [tRot, tRot, .it .i64], rs := [.bo], fresh := true, pre := fun _ _ => none, post := fun _ _ => ((), (true, ())) }
noncomputable def iv_lawInferParts (y : El sp_lawInferParts.q) (x : Els sp_lawInferParts.ps) : Nat → Option Inv := fun _ => none
noncomputable abbrev c_lawInferParts : Cfg := cfgS (Tryz.f6).ntmps false [(28, p_sure (sp_w4awake.prim)), (34, sp_kPick.prim), (35, sp_iNear.prim), (36, sp_rCk.prim), (20, sp_rSgn.prim), (22, p_sure (sp_rSame.prim)), (24, sp_rCheck.prim)]
def F_lawInferParts (y : El sp_lawInferParts.q) (x : Els sp_lawInferParts.ps) : Prop :=
  true = true ∧ ((0 : El (Ty.it IntKind.i64)) < (20 : Int) ∧ (20 : Int) ≤ (4611686018427387904 : El (Ty.it IntKind.i64))) ∧ ∀ (r : Ro [Ty.it IntKind.i64]), r = ((), pickZ x.2.2.1 (20 : Int), ()) → ∀ (r_1 : Ro [tR, Ty.it IntKind.i64]), r_1 = pR (nearR x.1 x.2.1 r.2.1) → ∀ (r_2 : Ro [tR, Ty.it IntKind.i64]), r_2 = pR (nearR x.2.1 x.1 r.2.1) → ∀ (r_3 : Ro [Ty.it IntKind.i64]), r_3 = ((), rotC x.1, ()) → ((r_3.2.1 != (0 : Int)) = true → ((r_1.2.2.1 != (0 : Int)) = true → (r_2.2.2.1 != (0 : Int), ()) = (true, ())) ∧ ((r_1.2.2.1 != (0 : Int)) = false → (false, ()) = (true, ()))) ∧ ((r_3.2.1 != (0 : Int)) = false → ∀ (r_4 : Ro [Ty.it IntKind.i64]), r_4 = ((), rotC x.2.1, ()) → ((r_4.2.1 != (0 : Int)) = true → ((r_1.2.2.1 != (0 : Int)) = true → (r_2.2.2.1 != (0 : Int), ()) = (true, ())) ∧ ((r_1.2.2.1 != (0 : Int)) = false → (false, ()) = (true, ()))) ∧ ((r_4.2.1 != (0 : Int)) = false → ((r_1.2.2.1 != (0 : Int)) = true → (r_1.2.2.1 == (3 : Int), ()) = (true, ())) ∧ ((r_1.2.2.1 != (0 : Int)) = false → ((r_2.2.2.1 != (0 : Int)) = true → (r_1.2.2.1 == (3 : Int), ()) = (true, ())) ∧ ((r_2.2.2.1 != (0 : Int)) = false → ∀ (r_5 : Ro [Ty.it IntKind.i64]), r_5 = ((), fsign (toFr r_1.2.1), ()) → decide (toFr r_1.2.1 = toFr r_2.2.1) = true ∧ ∀ (r_6 : Ro [Ty.it IntKind.i64]), r_6 = ((), fchk (toFr r_1.2.1), ()) → ((r_6.2.1 == (0 : Int)) = true → (decide (r_5.2.1 ≥ (0 : Int)) = true → (eqV tRot x.1 x.2.1 = true → ((r_5.2.1 == (0 : Int)) == true, ()) = (true, ())) ∧ (eqV tRot x.1 x.2.1 = false → ((r_5.2.1 == (0 : Int)) == decide (r.2.1 < (2 : Int)), ()) = (true, ()))) ∧ (decide (r_5.2.1 ≥ (0 : Int)) = false → (false, ()) = (true, ()))) ∧ ((r_6.2.1 == (0 : Int)) = false → (false, ()) = (true, ()))))))
theorem w_lawInferParts (y : El sp_lawInferParts.q) (x : Els sp_lawInferParts.ps) : aW c_lawInferParts (iv_lawInferParts y x) Tryz.f6 sp_lawInferParts y x = F_lawInferParts y x := by kernel_rfl
theorem m_lawInferParts (y : El (.un)) (x : Els [tRot, tRot, .it .i64]) (h2 : wfE (.un) y) (h3 : wfEs [tRot, tRot, .it .i64] x) : F_lawInferParts y x := by
  unfold F_lawInferParts
  refine ⟨rfl, ⟨(show (0 : Int) < 20 by decide), (show (20 : Int) ≤ 4611686018427387904 by decide)⟩, ?_⟩
  rintro _ rfl
  obtain ⟨t, ht, he⟩ := pick_20 x.2.2.1
  intro r1 hr1 r2 hr2
  dsimp only at hr1 hr2
  rintro _ rfl
  by_cases ha : rotC x.1 = 0
  · refine ⟨fun h => absurd ha (neT h), fun _ => ?_⟩
    rintro _ rfl
    by_cases hb : rotC x.2.1 = 0
    · refine ⟨fun h => absurd hb (neT h), fun _ => ?_⟩
      obtain ⟨q, hl, e1, e2, h0, hq⟩ := near_parts ha hb ht
      obtain rfl := hr1.trans (congrArg pR ((congrArg (nearR x.1 x.2.1) he).trans e1))
      obtain rfl := hr2.trans (congrArg pR ((congrArg (nearR x.2.1 x.1) he).trans e2))
      obtain ⟨s0, s1⟩ := sign_q hl h0
      have k : fchk (enc q) = 0 := fchk_enc q hl
      refine ⟨fun h => Bool.noConfusion (show false = true from h), fun _ => ⟨fun h => Bool.noConfusion (show false = true from h), fun _ => ?_⟩⟩
      rintro _ rfl
      refine ⟨decide_eq_true rfl, ?_⟩
      rintro _ rfl
      refine ⟨fun _ => ⟨fun _ => ⟨fun h => ?_, fun h => ?_⟩, fun h => absurd s0 (Int.not_le.2 (geF h))⟩, fun h => absurd k (eqF h)⟩
      · have h' : x.1 = x.2.1 := by
          rw [eq_rot] at h
          exact of_decide_eq_true h
        show ((fsign (enc q) == (0 : Int)) == true, ()) = (true, ())
        rw [s1.2 (hq.2 (.inl h'))]
        rfl
      · have h' : x.1 ≠ x.2.1 := by
          rw [eq_rot] at h
          exact of_decide_eq_false h
        show ((fsign (enc q) == (0 : Int)) == decide (pickZ x.2.2.1 20 < 2), ()) = (true, ())
        rw [he]
        by_cases h2 : t < 2
        · rw [s1.2 (hq.2 (.inr h2)), decide_eq_true (show (t : Int) < 2 by omega)]
          rfl
        · have : fsign (enc q) ≠ 0 := fun c => by
            rcases hq.1 (s1.1 c) with c | c
            · exact h' c
            · exact h2 c
          rw [beq_eq_false_iff_ne.2 this, decide_eq_false (show ¬ (t : Int) < 2 by omega)]
          rfl
    · refine ⟨fun _ => ?_, fun h => absurd (neF h) hb⟩
      subst hr1 hr2
      exact parts_bad (.inr hb)
  · refine ⟨fun _ => ?_, fun h => absurd (neF h) ha⟩
    subst hr1 hr2
    exact parts_bad (.inl ha)
theorem fo_lawInferParts : FnOk Tryz.prog 6 sp_lawInferParts := fnOk_of (C := c_lawInferParts) iv_lawInferParts Tryz.func6 rfl (by kernel_rfl) tys_ok (prims_cons (pr_sure (spec_prim fo_w4awake)) (prims_cons (spec_prim fo_kPick) (prims_cons (spec_prim fo_iNear) (prims_cons (spec_prim fo_rCk) (prims_cons (spec_prim fo_rSgn) (prims_cons (pr_sure (spec_prim fo_rSame)) (prims_cons (spec_prim fo_rCheck) prims_nil))))))) mixed_ (Nat.le_refl _) rfl fun y x h1 h2 h3 h4 =>
  Eq.mpr (w_lawInferParts y x) (m_lawInferParts y x h2 h3)
end Go.Proofs.YtjoonfegjobgbaaGreatDoor
