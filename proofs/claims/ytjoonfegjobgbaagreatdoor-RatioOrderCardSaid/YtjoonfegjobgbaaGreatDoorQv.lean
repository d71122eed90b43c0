/- Texts of this claim, joined: E10 B20 B21 B22 P9. -/
import Derived.Test.YtjoonfegjobgbaaGreatDoorQu
set_option linter.unusedVariables false
set_option linter.unusedSimpArgs false
set_option maxRecDepth 100000
namespace Go.Proofs.YtjoonfegjobgbaaGreatDoor
open Go Go.RowKit
theorem c2_ok {a b : El tR} {c e : Int} (h : fcmp (toFr a) (toFr b) = (c, e)) : spC2.post (dfl spC2.q) (a, b, ()) = ((), (c, e, ())) := by
  show (((), ((fcmp (toFr a) (toFr b)).1, (fcmp (toFr a) (toFr b)).2, ())) : El .un × Els [.it .i64, .it .i64]) = _
  rw [h]
theorem r3_11 : fsmall 1 1 = (enc 1, 0) := fsmall_s (by decide) (by decide +kernel) (by decide +kernel)
theorem enc_eq {p q : Rat} : (enc p = enc q) ↔ p = q := ⟨enc_inj, fun e => by rw [e]⟩
noncomputable def sp_lawRatioOrder : Spec := { q := .un, ps := [tR, tR], rs := [.bo], fresh := true, pre := fun _ _ => none, post := fun _ _ => ((), (true, ())) }
noncomputable def iv_lawRatioOrder (y : El sp_lawRatioOrder.q) (x : Els sp_lawRatioOrder.ps) : Nat → Option Inv := fun _ => none
noncomputable abbrev c_lawRatioOrder : Cfg := cfgS (Tryz.f4).ntmps false [(13, p_sure (sp_f3awake.prim)), (14, sp_kLong.prim), (23, sp_rCmp.prim), (24, sp_rCheck.prim), (18, sp_rSub.prim), (22, sp_rSame.prim), (20, sp_rSgn.prim), (25, sp_rFloor.prim), (26, sp_rMake.prim), (15, sp_rAdd.prim), (27, sp_f3small.prim)]
def F_lawRatioOrder (y : El sp_lawRatioOrder.q) (x : Els sp_lawRatioOrder.ps) : Prop :=
  true = true ∧ ∀ (r : Ro [Ty.bo]), r = ((), longs [x.1, x.2.1], ()) → (r.2.1 = true → (true, ()) = (true, ())) ∧ (r.2.1 = false → ∀ (r : El spC2.q × Els spC2.rs), r = spC2.post (dfl spC2.q) x → ∀ (r_1 : El spC2.q × Els spC2.rs), r_1 = spC2.post (dfl spC2.q) (x.2.1, x.1, ()) → ((r.2.2.1 != (0 : Int)) = true → ((r.2.1 == (0 : Int)) = true → ((r_1.2.1 == (0 : Int)) = true → ∀ (r : Ro [Ty.it IntKind.i64]), r = ((), fchk (toFr x.1), ()) → ((r.2.1 != (0 : Int)) = true → (true, ()) = (true, ())) ∧ ((r.2.1 != (0 : Int)) = false → ∀ (r : Ro [Ty.it IntKind.i64]), r = ((), fchk (toFr x.2.1), ()) → (r.2.1 != (0 : Int), ()) = (true, ()))) ∧ ((r_1.2.1 == (0 : Int)) = false → (false, ()) = (true, ()))) ∧ ((r.2.1 == (0 : Int)) = false → (false, ()) = (true, ()))) ∧ ((r.2.2.1 != (0 : Int)) = false → ((r_1.2.2.1 != (0 : Int)) = true → ((r.2.1 == (0 : Int)) = true → ((r_1.2.1 == (0 : Int)) = true → ∀ (r : Ro [Ty.it IntKind.i64]), r = ((), fchk (toFr x.1), ()) → ((r.2.1 != (0 : Int)) = true → (true, ()) = (true, ())) ∧ ((r.2.1 != (0 : Int)) = false → ∀ (r : Ro [Ty.it IntKind.i64]), r = ((), fchk (toFr x.2.1), ()) → (r.2.1 != (0 : Int), ()) = (true, ()))) ∧ ((r_1.2.1 == (0 : Int)) = false → (false, ()) = (true, ()))) ∧ ((r.2.1 == (0 : Int)) = false → (false, ()) = (true, ()))) ∧ ((r_1.2.2.1 != (0 : Int)) = false → ∀ (r_2 : Ro [tR, Ty.it IntKind.i64]), r_2 = pR (fsub (toFr x.1) (toFr x.2.1)) → ((-9223372036854775808 : Int) ≤ -r_1.2.1 ∧ -r_1.2.1 ≤ (9223372036854775807 : Int)) ∧ ((r.2.1 != -r_1.2.1) = true → (false, ()) = (true, ())) ∧ ((r.2.1 != -r_1.2.1) = false → (decide (r.2.1 < (-1 : Int)) = true → (false, ()) = (true, ())) ∧ (decide (r.2.1 < (-1 : Int)) = false → (decide (r.2.1 > (1 : Int)) = true → (false, ()) = (true, ())) ∧ (decide (r.2.1 > (1 : Int)) = false → ∀ (r_3 : Ro [Ty.bo]), r_3 = ((), decide (toFr x.1 = toFr x.2.1), ()) → ((!(r.2.1 == (0 : Int)) == r_3.2.1) = true → (false, ()) = (true, ())) ∧ ((!(r.2.1 == (0 : Int)) == r_3.2.1) = false → ((r_2.2.2.1 == (0 : Int)) = true → ∀ (r_4 : Ro [Ty.it IntKind.i64]), r_4 = ((), fsign (toFr r_2.2.1), ()) → ((r_4.2.1 != r.2.1) = true → (false, ()) = (true, ())) ∧ ((r_4.2.1 != r.2.1) = false → ∀ (r : Ro [Ty.it IntKind.i64]), r = ((), fchk (toFr r_2.2.1), ()) → ((r.2.1 != (0 : Int)) = true → (false, ()) = (true, ())) ∧ ((r.2.1 != (0 : Int)) = false → ∀ (r : Ro [tWhole, Ty.it IntKind.i64]), r = flR (ffloor (toFr x.1)) → ∀ (r_5 : Ro [tR, Ty.it IntKind.i64]), r_5 = pR (fmake r.2.1.1 r.2.1.2.1 false [(1 : Int)]) → ((r.2.2.1 != (0 : Int)) = true → (false, ()) = (true, ())) ∧ ((r.2.2.1 != (0 : Int)) = false → ((r_5.2.2.1 != (0 : Int)) = true → (false, ()) = (true, ())) ∧ ((r_5.2.2.1 != (0 : Int)) = false → ∀ (r : Ro [tR]), r = ((), ofFr (fsmall (1 : Int) (1 : Int)).1, ()) → ∀ (r_6 : Ro [tR, Ty.it IntKind.i64]), r_6 = pR (fadd (toFr r_5.2.1) (toFr r.2.1)) → ∀ (r : El spC2.q × Els spC2.rs), r = spC2.post (dfl spC2.q) (r_5.2.1, x.1, ()) → ∀ (r_7 : El spC2.q × Els spC2.rs), r_7 = spC2.post (dfl spC2.q) (x.1, r_6.2.1, ()) → (decide (r.2.1 ≤ (0 : Int)) = true → ((r.2.2.1 == (0 : Int)) = true → ((r_6.2.2.1 != (0 : Int)) = true → (true, ()) = (true, ())) ∧ ((r_6.2.2.1 != (0 : Int)) = false → (decide (r_7.2.1 < (0 : Int)) = true → (r_7.2.2.1 == (0 : Int), ()) = (true, ())) ∧ (decide (r_7.2.1 < (0 : Int)) = false → (false, ()) = (true, ())))) ∧ ((r.2.2.1 == (0 : Int)) = false → (false, ()) = (true, ()))) ∧ (decide (r.2.1 ≤ (0 : Int)) = false → (false, ()) = (true, ()))))))) ∧ ((r_2.2.2.1 == (0 : Int)) = false → ∀ (r : Ro [tWhole, Ty.it IntKind.i64]), r = flR (ffloor (toFr x.1)) → ∀ (r_4 : Ro [tR, Ty.it IntKind.i64]), r_4 = pR (fmake r.2.1.1 r.2.1.2.1 false [(1 : Int)]) → ((r.2.2.1 != (0 : Int)) = true → (false, ()) = (true, ())) ∧ ((r.2.2.1 != (0 : Int)) = false → ((r_4.2.2.1 != (0 : Int)) = true → (false, ()) = (true, ())) ∧ ((r_4.2.2.1 != (0 : Int)) = false → ∀ (r : Ro [tR]), r = ((), ofFr (fsmall (1 : Int) (1 : Int)).1, ()) → ∀ (r_5 : Ro [tR, Ty.it IntKind.i64]), r_5 = pR (fadd (toFr r_4.2.1) (toFr r.2.1)) → ∀ (r : El spC2.q × Els spC2.rs), r = spC2.post (dfl spC2.q) (r_4.2.1, x.1, ()) → ∀ (r_6 : El spC2.q × Els spC2.rs), r_6 = spC2.post (dfl spC2.q) (x.1, r_5.2.1, ()) → (decide (r.2.1 ≤ (0 : Int)) = true → ((r.2.2.1 == (0 : Int)) = true → ((r_5.2.2.1 != (0 : Int)) = true → (true, ()) = (true, ())) ∧ ((r_5.2.2.1 != (0 : Int)) = false → (decide (r_6.2.1 < (0 : Int)) = true → (r_6.2.2.1 == (0 : Int), ()) = (true, ())) ∧ (decide (r_6.2.1 < (0 : Int)) = false → (false, ()) = (true, ())))) ∧ ((r.2.2.1 == (0 : Int)) = false → (false, ()) = (true, ()))) ∧ (decide (r.2.1 ≤ (0 : Int)) = false → (false, ()) = (true, ()))))))))))))
theorem w_lawRatioOrder (y : El sp_lawRatioOrder.q) (x : Els sp_lawRatioOrder.ps) : aW c_lawRatioOrder (iv_lawRatioOrder y x) Tryz.f4 sp_lawRatioOrder y x = F_lawRatioOrder y x := by kernel_rfl
theorem m_lawRatioOrder (y : El (.un)) (x : Els [tR, tR]) (h2 : wfE (.un) y) (h3 : wfEs [tR, tR] x) : F_lawRatioOrder y x := by
  unfold F_lawRatioOrder
  refine ⟨rfl, ?_⟩
  rintro _ rfl
  refine ⟨fun _ => rfl, fun _ => ?_⟩
  have wa := wf_fr h3.1
  have wb := wf_fr h3.2.1
  by_cases hc : fchk2 (toFr x.1) (toFr x.2.1) = 0
  · obtain ⟨p, q, ea, eb, lp, lq⟩ := fchk2_ok wa wb hc
    have c1 : fcmp (toFr x.1) (toFr x.2.1) = (cmpq p q, 0) := by rw [ea, eb]; exact fcmp_enc lp lq
    have c2 : fcmp (toFr x.2.1) (toFr x.1) = (cmpq q p, 0) := by rw [ea, eb]; exact fcmp_enc lq lp
    have c3 : fcmp (toFr (ofFr (enc (p.floor : Rat)))) (toFr x.1) = (cmpq (p.floor : Rat) p, 0) := by rw [ea]; exact fcmp_enc (floor_lng lp) lp
    have fl : ffloor (toFr x.1) = (decide (p.num < 0), wd p.floor.natAbs, 0) := by rw [ea]; exact fl_enc lp
    have an := cmpq_anti p q
    obtain ⟨r1, r2⟩ := cmpq_rng p q
    obtain ⟨r3, r4⟩ := cmpq_rng q p
    intro r hr
    obtain rfl := hr.trans (c2_ok (a := x.1) (b := x.2.1) c1)
    intro r hr
    obtain rfl := hr.trans (c2_ok c2)
    refine ⟨fun h => Bool.noConfusion (show false = true from h), fun _ => ⟨fun h => Bool.noConfusion (show false = true from h), fun _ => ?_⟩⟩
    intro r5 hr5
    refine ⟨⟨?_, ?_⟩, fun h => absurd an (neT h), fun _ => ⟨fun h => absurd (ltT h) (Int.not_lt.2 r1), fun _ => ⟨fun h => absurd (gtT h) (Int.not_lt.2 r2), fun _ => ?_⟩⟩⟩
    · show -9223372036854775808 ≤ -cmpq q p
      omega
    · show -cmpq q p ≤ 9223372036854775807
      omega
    rintro _ rfl
    have eq : (cmpq p q == 0) = decide (toFr x.1 = toFr x.2.1) := by
      rw [cmpq_eq, ea, eb]
      exact decide_eq_decide.2 enc_eq.symm
    refine ⟨fun h => ?_, fun _ => ?_⟩
    · have h : (!((cmpq p q == (0 : Int)) == decide (toFr x.1 = toFr x.2.1))) = true := h
      rw [eq, beq_self_eq_true] at h
      exact Bool.noConfusion h
    by_cases ld : lng (p - q) = true
    · have fs : fsub (toFr x.1) (toFr x.2.1) = (Fr.zero, 3) := by rw [ea, eb, fsub_enc lp lq]; exact if_pos ld
      obtain rfl := hr5.trans (congrArg pR fs)
      refine ⟨fun h => Bool.noConfusion (show false = true from h), fun _ => ?_⟩
      intro r hr
      obtain rfl := hr.trans (congrArg flR fl)
      intro r hr
      obtain rfl := hr.trans (congrArg pR (mk_enc lp))
      refine ⟨fun h => Bool.noConfusion (show false = true from h), fun _ => ⟨fun h => Bool.noConfusion (show false = true from h), fun _ => ?_⟩⟩
      intro r hr
      obtain rfl := hr.trans (congrArg (fun t => (((), (ofFr t.1, ())) : El .un × Els [tR])) r3_11)
      by_cases l1 : lng ((p.floor : Rat) + 1) = true
      · intro r hr
        obtain rfl := hr.trans (congrArg pR ((fadd_enc (floor_lng lp) (sm_lng (q := 1) (by decide +kernel))).trans (if_pos l1)))
        intro r hr
        obtain rfl := hr.trans (c2_ok c3)
        intro r hr
        exact ⟨fun _ => ⟨fun _ => ⟨fun _ => rfl, fun h => Bool.noConfusion (show true = false from h)⟩, fun h => Bool.noConfusion (show true = false from h)⟩, fun h => absurd (leF h) (Int.not_lt.2 (cmpq_le (Rat.floor_le p)))⟩
      · intro r hr
        obtain rfl := hr.trans (congrArg pR ((fadd_enc (floor_lng lp) (sm_lng (q := 1) (by decide +kernel))).trans (tell_ok l1)))
        have c4 : fcmp (toFr x.1) (enc ((p.floor : Rat) + 1)) = (-1, 0) := by
          rw [ea, fcmp_enc lp l1, cmpq_lt]
          have := Rat.lt_floor_add_one p
          rw [Rat.intCast_add] at this
          exact this
        intro r hr
        obtain rfl := hr.trans (c2_ok c3)
        intro r hr
        obtain rfl := hr.trans (c2_ok (b := ofFr (enc ((p.floor : Rat) + 1))) c4)
        exact ⟨fun _ => ⟨fun _ => ⟨fun h => Bool.noConfusion (show false = true from h), fun _ => ⟨fun _ => rfl, fun h => Bool.noConfusion (show true = false from h)⟩⟩, fun h => Bool.noConfusion (show true = false from h)⟩, fun h => absurd (leF h) (Int.not_lt.2 (cmpq_le (Rat.floor_le p)))⟩
    · have fs : fsub (toFr x.1) (toFr x.2.1) = (enc (p - q), 0) := by rw [ea, eb, fsub_enc lp lq]; exact tell_ok ld
      obtain rfl := hr5.trans (congrArg pR fs)
      refine ⟨fun _ => ?_, fun h => Bool.noConfusion (show true = false from h)⟩
      rintro _ rfl
      refine ⟨fun h => ?_, fun _ => ?_⟩
      · exact absurd ((fsign_enc ld).trans (cmpq_sub p q)) (neT h)
      rintro _ rfl
      refine ⟨fun h => absurd (fchk_enc (p - q) ld) (neT h), fun _ => ?_⟩
      intro r hr
      obtain rfl := hr.trans (congrArg flR fl)
      intro r hr
      obtain rfl := hr.trans (congrArg pR (mk_enc lp))
      refine ⟨fun h => Bool.noConfusion (show false = true from h), fun _ => ⟨fun h => Bool.noConfusion (show false = true from h), fun _ => ?_⟩⟩
      intro r hr
      obtain rfl := hr.trans (congrArg (fun t => (((), (ofFr t.1, ())) : El .un × Els [tR])) r3_11)
      by_cases l1 : lng ((p.floor : Rat) + 1) = true
      · intro r hr
        obtain rfl := hr.trans (congrArg pR ((fadd_enc (floor_lng lp) (sm_lng (q := 1) (by decide +kernel))).trans (if_pos l1)))
        intro r hr
        obtain rfl := hr.trans (c2_ok c3)
        intro r hr
        exact ⟨fun _ => ⟨fun _ => ⟨fun _ => rfl, fun h => Bool.noConfusion (show true = false from h)⟩, fun h => Bool.noConfusion (show true = false from h)⟩, fun h => absurd (leF h) (Int.not_lt.2 (cmpq_le (Rat.floor_le p)))⟩
      · intro r hr
        obtain rfl := hr.trans (congrArg pR ((fadd_enc (floor_lng lp) (sm_lng (q := 1) (by decide +kernel))).trans (tell_ok l1)))
        have c4 : fcmp (toFr x.1) (enc ((p.floor : Rat) + 1)) = (-1, 0) := by
          rw [ea, fcmp_enc lp l1, cmpq_lt]
          have := Rat.lt_floor_add_one p
          rw [Rat.intCast_add] at this
          exact this
        intro r hr
        obtain rfl := hr.trans (c2_ok c3)
        intro r hr
        obtain rfl := hr.trans (c2_ok (b := ofFr (enc ((p.floor : Rat) + 1))) c4)
        exact ⟨fun _ => ⟨fun _ => ⟨fun h => Bool.noConfusion (show false = true from h), fun _ => ⟨fun _ => rfl, fun h => Bool.noConfusion (show true = false from h)⟩⟩, fun h => Bool.noConfusion (show true = false from h)⟩, fun h => absurd (leF h) (Int.not_lt.2 (cmpq_le (Rat.floor_le p)))⟩
  · have hc' := fchk2_swap hc
    have c1 : fcmp (toFr x.1) (toFr x.2.1) = (0, fchk2 (toFr x.1) (toFr x.2.1)) := if_pos hc
    have c2 : fcmp (toFr x.2.1) (toFr x.1) = (0, fchk2 (toFr x.2.1) (toFr x.1)) := if_pos hc'
    intro r hr
    obtain rfl := hr.trans (c2_ok (a := x.1) (b := x.2.1) c1)
    intro r hr
    obtain rfl := hr.trans (c2_ok c2)
    refine ⟨fun _ => ⟨fun _ => ⟨fun _ => ?_, fun h => Bool.noConfusion (show true = false from h)⟩, fun h => Bool.noConfusion (show true = false from h)⟩, fun h => absurd (neF h) hc⟩
    rintro _ rfl
    refine ⟨fun _ => rfl, fun h => ?_⟩
    rintro _ rfl
    refine congrArg (fun b => (b, ())) (bne_iff_ne.2 (fun hb => hc ?_))
    unfold fchk2
    rw [if_neg (fun c => c (neF h))]
    exact hb
theorem fo_lawRatioOrder : FnOk Tryz.prog 4 sp_lawRatioOrder := fnOk_of (C := c_lawRatioOrder) iv_lawRatioOrder Tryz.func4 rfl (by kernel_rfl) tys_ok (prims_cons (pr_sure (spec_prim fo_f3awake)) (prims_cons (spec_prim fo_kLong) (prims_cons (spec_prim fo_rCmp) (prims_cons (spec_prim fo_rCheck) (prims_cons (spec_prim fo_rSub) (prims_cons (spec_prim fo_rSame) (prims_cons (spec_prim fo_rSgn) (prims_cons (spec_prim fo_rFloor) (prims_cons (spec_prim fo_rMake) (prims_cons (spec_prim fo_rAdd) (prims_cons (spec_prim fo_f3small) prims_nil))))))))))) mixed_ (Nat.le_refl _) rfl fun y x h1 h2 h3 h4 =>
  Eq.mpr (w_lawRatioOrder y x) (m_lawRatioOrder y x h2 h3)
def gpow (a b : Int) : Nat → Int × Int
  | 0 => (1, 0)
  | n + 1 => ((gpow a b n).1 * a - (gpow a b n).2 * b, (gpow a b n).1 * b + (gpow a b n).2 * a)
def nrmR (a b : Int) : Int := a * a + b * b
def rpow (a b : Int) (n : Nat) : Ga := ⟨enc (mkRat (gpow a b (2 * n)).1 (nrmR a b ^ n).toNat), enc (mkRat (gpow a b (2 * n)).2 (nrmR a b ^ n).toNat)⟩
def rA (r : El tRot) : Int := r.1
def powB (b t : Int) : Int := if t < 0 then -b else b
def powR (r : El tRot) (t : Int) : El tG × Int × Unit := if rotC r ≠ 0 then (ofGa Ga.zero, rotC r, ()) else if t < -1024 ∨ 1024 < t then (ofGa Ga.zero, 2, ()) else (ofGa (rpow (rA r) (powB r.2.1 t) t.natAbs), 0, ())
theorem pow_bd (k m : Nat) (h : 11 * k < m) : (2000 : Nat) ^ k < 2 ^ m := by
  have h1 : (2000 : Nat) ^ k ≤ 2048 ^ k := Nat.pow_le_pow_left (by decide) k
  have h2 : (2048 : Nat) ^ k = 2 ^ (11 * k) := by rw [show (2048 : Nat) = 2 ^ 11 from rfl, ← Nat.pow_mul]
  have h3 : (2 : Nat) ^ (11 * k) < 2 ^ m := Nat.pow_lt_pow_right (by decide) h
  omega
theorem pw_two (m : Nat) : pw m = ((2 ^ (32 * m) : Nat) : Int) := by
  unfold pw
  rw [show (4294967296 : Int) = ((2 ^ 32 : Nat) : Int) by decide, ← Int.natCast_pow, ← Nat.pow_mul]
theorem wd_bdm {n k m : Nat} (h : n ≤ 2000 ^ k) (hk : 11 * k < 32 * m) : (wd n).length ≤ m := by
  refine wd_len_le _ _ ?_
  have h1 := pow_bd k (32 * m) hk
  rw [pw_two]
  exact Int.ofNat_lt.2 (Nat.lt_of_le_of_lt h h1)
theorem wd_bd {n k : Nat} (h : n ≤ 2000 ^ k) (hk : k ≤ 2100) : (wd n).length ≤ 725 := wd_bdm h (by omega)
def bd (k : Nat) (z : Int) : Prop := z.natAbs ≤ 2000 ^ k
theorem bd.mul {j k : Nat} {a b : Int} (h : bd j a) (h' : bd k b) : bd (j + k) (a * b) := by
  unfold bd at *
  rw [Int.natAbs_mul, Nat.pow_add]
  exact Nat.mul_le_mul h h'
theorem gpow_bd {a b : Int} (ha : a.natAbs ≤ 1000) (hb : b.natAbs ≤ 1000) : ∀ n, bd n (gpow a b n).1 ∧ bd n (gpow a b n).2
  | 0 => ⟨by show (1 : Int).natAbs ≤ 2000 ^ 0; decide, by show (0 : Int).natAbs ≤ 2000 ^ 0; decide⟩
  | n + 1 => by
    obtain ⟨h1, h2⟩ := gpow_bd ha hb n
    have m : ∀ {z c : Int}, bd n z → c.natAbs ≤ 1000 → (z * c).natAbs ≤ 2000 ^ n * 1000 := fun hz hc => by
      rw [Int.natAbs_mul]
      exact Nat.mul_le_mul hz hc
    have e : 2000 ^ (n + 1) = 2000 ^ n * 1000 + 2000 ^ n * 1000 := by rw [Nat.pow_succ]; omega
    constructor
    · show ((gpow a b n).1 * a - (gpow a b n).2 * b).natAbs ≤ _
      have := m h1 ha
      have := m h2 hb
      omega
    · show ((gpow a b n).1 * b + (gpow a b n).2 * a).natAbs ≤ _
      have := m h1 hb
      have := m h2 ha
      omega
theorem nrmR_bd {a b : Int} (ha : a.natAbs ≤ 1000) (hb : b.natAbs ≤ 1000) : bd 2 (nrmR a b) := by
  unfold bd nrmR
  have h1 : (a * a).natAbs ≤ 1000 * 1000 := by rw [Int.natAbs_mul]; exact Nat.mul_le_mul ha ha
  have h2 : (b * b).natAbs ≤ 1000 * 1000 := by rw [Int.natAbs_mul]; exact Nat.mul_le_mul hb hb
  have : (2000 : Nat) ^ 2 = 4000000 := by decide
  omega
theorem npow_bd {d : Int} (h : bd 2 d) : ∀ n, bd (2 * n) (d ^ n)
  | 0 => by rw [Int.pow_zero]; show (1 : Int).natAbs ≤ 2000 ^ 0; decide
  | n + 1 => by
    rw [Int.pow_succ]
    exact (npow_bd h n).mul h
theorem nrmR_pos {a b : Int} (h : 1 ≤ a) : 0 < nrmR a b := by
  unfold nrmR
  have h1 : 1 * 1 ≤ a * a := Int.mul_le_mul h h (by decide) (by omega)
  have h2 : 0 ≤ b * b := by
    rcases Int.le_total 0 b with k | k
    · exact Int.mul_nonneg k k
    · exact Int.mul_nonneg_of_nonpos_of_nonpos k k
  omega
theorem pw_1 {r : El tRot} {t : Int} (h : rotC r ≠ 0) : ((ofGa Ga.zero, rotC r, ()) : El tG × Int × Unit) = powR r t := by unfold powR; rw [if_pos h]
theorem pw_2 {r : El tRot} {t : Int} (h : rotC r = 0) (k : t < -1024 ∨ 1024 < t) : ((ofGa Ga.zero, 2, ()) : El tG × Int × Unit) = powR r t := by unfold powR; rw [if_neg (fun c => c h), if_pos k]
theorem pw_3 {r : El tRot} {t : Int} (h : rotC r = 0) (k : ¬ (t < -1024 ∨ 1024 < t)) : ((ofGa (rpow (rA r) (powB r.2.1 t) t.natAbs), 0, ()) : El tG × Int × Unit) = powR r t := by unfold powR; rw [if_neg (fun c => c h), if_neg k]
theorem neg_rng {t : Int} (h1 : -1024 ≤ t) (h2 : t ≤ 1024) : -9223372036854775808 ≤ -t ∧ -t ≤ 9223372036854775807 := by omega
theorem abs_neg_ {t : Int} (h : t < 0) : ((t.natAbs : Nat) : Int) = -t := by omega
theorem abs_pos_ {t : Int} (h : 0 ≤ t) : ((t.natAbs : Nat) : Int) = t := by omega
theorem gpow_add (a b : Int) (i : Nat) : ∀ j, gpow a b (i + j) = ((gpow a b i).1 * (gpow a b j).1 - (gpow a b i).2 * (gpow a b j).2, (gpow a b i).1 * (gpow a b j).2 + (gpow a b i).2 * (gpow a b j).1)
  | 0 => by
    show gpow a b i = ((gpow a b i).1 * 1 - (gpow a b i).2 * 0, (gpow a b i).1 * 0 + (gpow a b i).2 * 1)
    simp
  | j + 1 => by
    have ih := gpow_add a b i j
    rw [← Nat.add_assoc]
    show ((gpow a b (i + j)).1 * a - (gpow a b (i + j)).2 * b, (gpow a b (i + j)).1 * b + (gpow a b (i + j)).2 * a) = _
    rw [ih]
    have e1 : (gpow a b (j + 1)).1 = (gpow a b j).1 * a - (gpow a b j).2 * b := rfl
    have e2 : (gpow a b (j + 1)).2 = (gpow a b j).1 * b + (gpow a b j).2 * a := rfl
    rw [e1, e2]
    generalize (gpow a b i).1 = x
    generalize (gpow a b i).2 = y
    generalize (gpow a b j).1 = u
    generalize (gpow a b j).2 = v
    simp only [Int.sub_mul, Int.add_mul, Int.mul_add, Int.mul_sub, Int.mul_assoc]
    congr 1 <;> omega
theorem lngQ {x : Int} {d : Nat} {j k : Nat} (hx : bd j x) (hj : j ≤ 2100) (hd : d ≤ 2000 ^ k) (hk : k ≤ 2100) (h0 : d ≠ 0) : ¬ lng (mkRat x d) = true := by
  have e := enc_mk (decide (x < 0)) x.natAbs d h0
  have es : sg (decide (x < 0)) x.natAbs = x := by
    unfold sg
    by_cases h : x < 0
    · rw [if_pos (by simpa using h)]; omega
    · rw [if_neg (by simpa using h)]; omega
  rw [es] at e
  have e1 : wd (mkRat x d).num.natAbs = wd (x.natAbs / Nat.gcd x.natAbs d) := congrArg Fr.num e
  have e2 : wd (mkRat x d).den = wd (d / Nat.gcd x.natAbs d) := congrArg Fr.den e
  refine lng_of ?_ ?_
  · rw [e1]
    have := wd_len_mono (Nat.div_le_self x.natAbs (Nat.gcd x.natAbs d))
    have := wd_bd hx hj
    omega
  · rw [e2]
    have := wd_len_mono (Nat.div_le_self d (Nat.gcd x.natAbs d))
    have := wd_bd hd hk
    omega
theorem mkRat_add_same (x y : Int) {d : Nat} (h : d ≠ 0) : mkRat x d + mkRat y d = mkRat (x + y) d := by
  rw [Rat.mkRat_add_mkRat x y h h, ← Int.add_mul, Rat.mkRat_mul_right (by omega)]
theorem mkRat_sub_same (x y : Int) {d : Nat} (h : d ≠ 0) : mkRat x d - mkRat y d = mkRat (x - y) d := by
  rw [Rat.sub_eq_add_neg, Rat.neg_mkRat, mkRat_add_same x (-y) h, Int.sub_eq_add_neg]
section
variable {x y : Int} {c d j k : Nat}
theorem wmul_q (hx : bd j x) (hy : bd k y) (hjk : j + k ≤ 2100) (hc : c ≤ 2000 ^ j) (hd : d ≤ 2000 ^ k) (c0 : c ≠ 0) (d0 : d ≠ 0) : wmul 0 (enc (mkRat x c)) (enc (mkRat y d)) = (enc (mkRat (x * y) (c * d)), 0) := by
  unfold wmul
  rw [stp_ok]
  unfold fmul
  rw [both_ok (lngQ hx (by omega) hc (by omega) c0) (lngQ hy (by omega) hd (by omega) d0), Rat.mkRat_mul_mkRat]
  exact tell_ok (lngQ (hx.mul hy) hjk (by rw [Nat.pow_add]; exact Nat.mul_le_mul hc hd) hjk (Nat.mul_ne_zero c0 d0))
theorem wadd_q (hx : bd j x) (hy : bd j y) (hxy : bd j (x + y)) (hj : j ≤ 2100) (hc : c ≤ 2000 ^ j) (c0 : c ≠ 0) : wadd 0 (enc (mkRat x c)) (enc (mkRat y c)) = (enc (mkRat (x + y) c), 0) := by
  unfold wadd
  rw [stp_ok]
  unfold fadd
  rw [both_ok (lngQ hx hj hc hj c0) (lngQ hy hj hc hj c0), mkRat_add_same x y c0]
  exact tell_ok (lngQ hxy hj hc hj c0)
theorem wsub_q (hx : bd j x) (hy : bd j y) (hxy : bd j (x - y)) (hj : j ≤ 2100) (hc : c ≤ 2000 ^ j) (c0 : c ≠ 0) : wsub 0 (enc (mkRat x c)) (enc (mkRat y c)) = (enc (mkRat (x - y) c), 0) := by
  unfold wsub
  rw [stp_ok]
  unfold fsub
  rw [both_ok (lngQ hx hj hc hj c0) (lngQ hy hj hc hj c0), mkRat_sub_same x y c0]
  exact tell_ok (lngQ hxy hj hc hj c0)
end
section
variable {a b : Int}
theorem nrmN {n : Nat} (ha : a.natAbs ≤ 1000) (hb : b.natAbs ≤ 1000) (hp : 1 ≤ a) : (nrmR a b ^ n).toNat ≤ 2000 ^ (2 * n) ∧ (nrmR a b ^ n).toNat ≠ 0 ∧ ((nrmR a b ^ n).toNat : Int) = nrmR a b ^ n := by
  have h1 := npow_bd (nrmR_bd ha hb) n
  have h2 : 0 < nrmR a b ^ n := Int.pow_pos (nrmR_pos hp)
  unfold bd at h1
  omega
theorem nrmN_mul {m n : Nat} (ha : a.natAbs ≤ 1000) (hb : b.natAbs ≤ 1000) (hp : 1 ≤ a) : (nrmR a b ^ m).toNat * (nrmR a b ^ n).toNat = (nrmR a b ^ (m + n)).toNat := by
  have h1 := (nrmN (n := m) ha hb hp).2.2
  have h2 := (nrmN (n := n) ha hb hp).2.2
  have h3 := (nrmN (n := m + n) ha hb hp).2.2
  have : (((nrmR a b ^ m).toNat * (nrmR a b ^ n).toNat : Nat) : Int) = ((nrmR a b ^ (m + n)).toNat : Int) := by
    rw [Int.natCast_mul, h1, h2, h3, Int.pow_add]
  exact Int.ofNat_inj.1 this
theorem fchk_rq {z : Int} {n : Nat} (hz : bd (2 * n) z) (hn : n ≤ 1024) (ha : a.natAbs ≤ 1000) (hb : b.natAbs ≤ 1000) (hp : 1 ≤ a) : fchk (enc (mkRat z (nrmR a b ^ n).toNat)) = 0 :=
  fchk_enc _ (lngQ hz (by omega) (nrmN ha hb hp).1 (by omega) (nrmN ha hb hp).2.1)
theorem gchk_rpow {n : Nat} (hn : n ≤ 1024) (ha : a.natAbs ≤ 1000) (hb : b.natAbs ≤ 1000) (hp : 1 ≤ a) : gchk (rpow a b n) = 0 := by
  obtain ⟨h1, h2⟩ := gpow_bd ha hb (2 * n)
  unfold gchk fchk2 rpow
  dsimp only
  rw [fchk_rq h1 hn ha hb hp, fchk_rq h2 hn ha hb hp]
  rfl
theorem gmul_rpow {m n : Nat} (hmn : m + n ≤ 1024) (ha : a.natAbs ≤ 1000) (hb : b.natAbs ≤ 1000) (hp : 1 ≤ a) : gmul (rpow a b m) (rpow a b n) = (rpow a b (m + n), 0) := by
  obtain ⟨x1, y1⟩ := gpow_bd ha hb (2 * m)
  obtain ⟨x2, y2⟩ := gpow_bd ha hb (2 * n)
  obtain ⟨z1, z2⟩ := gpow_bd ha hb (2 * (m + n))
  have e0 : 2 * (m + n) = 2 * m + 2 * n := by omega
  have g1 : gchk2 (rpow a b m) (rpow a b n) = 0 := by
    unfold gchk2
    rw [gchk_rpow (by omega) ha hb hp, gchk_rpow (by omega) ha hb hp]
    rfl
  have ga := gpow_add a b (2 * m) (2 * n)
  rw [← e0] at ga
  obtain ⟨c1, c2, _⟩ := nrmN (n := m) ha hb hp
  obtain ⟨d1, d2, _⟩ := nrmN (n := n) ha hb hp
  obtain ⟨f1, f2, _⟩ := nrmN (n := m + n) ha hb hp
  have ed := nrmN_mul (m := m) (n := n) ha hb hp
  have k : 2 * m + 2 * n ≤ 2100 := by omega
  have k2 : 2 * (m + n) ≤ 2100 := by omega
  rw [e0] at f1
  rw [ga] at z1 z2
  rw [e0] at z1 z2
  have p : wprod 0 (rpow a b m) (rpow a b n) = ((rpow a b (m + n)).re, (rpow a b (m + n)).im, 0) := by
    unfold wprod rpow
    dsimp only
    rw [wmul_q x1 x2 k c1 d1 c2 d2, ed]
    dsimp only
    rw [wmul_q y1 y2 k c1 d1 c2 d2, ed]
    dsimp only
    rw [wsub_q (x1.mul x2) (y1.mul y2) z1 k f1 f2]
    dsimp only
    rw [wmul_q x1 y2 k c1 d1 c2 d2, ed]
    dsimp only
    rw [wmul_q y1 x2 k c1 d1 c2 d2, ed]
    dsimp only
    rw [wadd_q (x1.mul y2) (y1.mul x2) z2 k f1 f2]
    rw [ga]
  unfold gmul
  rw [g1, p]
  exact gtell_ok
end
end Go.Proofs.YtjoonfegjobgbaaGreatDoor
