/- Texts of this claim, joined: B23 B24. -/
import Derived.Test.YtjoonfegjobgbaaGreatDoorQv
set_option linter.unusedVariables false
set_option linter.unusedSimpArgs false
set_option maxRecDepth 100000
namespace Go.Proofs.YtjoonfegjobgbaaGreatDoor
open Go Go.RowKit
def rB (r : El tRot) : Int := r.2.1
theorem rng_of {z : Int} {m : Nat} (h : z.natAbs ≤ m) (hm : m ≤ 9000000000 := by decide) : -9223372036854775808 ≤ z ∧ z ≤ 9223372036854775807 := by omega
noncomputable def sp_rparts : Spec := { q := .un, ps := [tRot], rs := [.it .i64, .it .i64, .it .i64], fresh := true, pre := fun _ x => some (rotB x.1), post := fun _ x => ((), (rA x.1 * rA x.1 - rB x.1 * rB x.1, (2 * rA x.1 * rB x.1, (rA x.1 * rA x.1 + rB x.1 * rB x.1, ())))) }
noncomputable def iv_rparts (y : El sp_rparts.q) (x : Els sp_rparts.ps) : Nat → Option Inv := fun _ => none
noncomputable abbrev c_rparts : Cfg := cfgS (Tryz.f184).ntmps false []
def F_rparts (y : El sp_rparts.q) (x : Els sp_rparts.ps) : Prop :=
  ((-9223372036854775808 : Int) ≤ IntKind.i64.wrap x.1.1 * IntKind.i64.wrap x.1.1 ∧ IntKind.i64.wrap x.1.1 * IntKind.i64.wrap x.1.1 ≤ (9223372036854775807 : Int)) ∧ ((-9223372036854775808 : Int) ≤ IntKind.i64.wrap x.1.2.1 * IntKind.i64.wrap x.1.2.1 ∧ IntKind.i64.wrap x.1.2.1 * IntKind.i64.wrap x.1.2.1 ≤ (9223372036854775807 : Int)) ∧ ((-9223372036854775808 : Int) ≤ IntKind.i64.wrap x.1.1 * IntKind.i64.wrap x.1.1 - IntKind.i64.wrap x.1.2.1 * IntKind.i64.wrap x.1.2.1 ∧ IntKind.i64.wrap x.1.1 * IntKind.i64.wrap x.1.1 - IntKind.i64.wrap x.1.2.1 * IntKind.i64.wrap x.1.2.1 ≤ (9223372036854775807 : Int)) ∧ ((-9223372036854775808 : Int) ≤ (2 : Int) * IntKind.i64.wrap x.1.1 ∧ (2 : Int) * IntKind.i64.wrap x.1.1 ≤ (9223372036854775807 : Int)) ∧ ((-9223372036854775808 : Int) ≤ (2 : Int) * IntKind.i64.wrap x.1.1 * IntKind.i64.wrap x.1.2.1 ∧ (2 : Int) * IntKind.i64.wrap x.1.1 * IntKind.i64.wrap x.1.2.1 ≤ (9223372036854775807 : Int)) ∧ ((-9223372036854775808 : Int) ≤ IntKind.i64.wrap x.1.1 * IntKind.i64.wrap x.1.1 ∧ IntKind.i64.wrap x.1.1 * IntKind.i64.wrap x.1.1 ≤ (9223372036854775807 : Int)) ∧ ((-9223372036854775808 : Int) ≤ IntKind.i64.wrap x.1.2.1 * IntKind.i64.wrap x.1.2.1 ∧ IntKind.i64.wrap x.1.2.1 * IntKind.i64.wrap x.1.2.1 ≤ (9223372036854775807 : Int)) ∧ ((-9223372036854775808 : Int) ≤ IntKind.i64.wrap x.1.1 * IntKind.i64.wrap x.1.1 + IntKind.i64.wrap x.1.2.1 * IntKind.i64.wrap x.1.2.1 ∧ IntKind.i64.wrap x.1.1 * IntKind.i64.wrap x.1.1 + IntKind.i64.wrap x.1.2.1 * IntKind.i64.wrap x.1.2.1 ≤ (9223372036854775807 : Int)) ∧ (IntKind.i64.wrap x.1.1 * IntKind.i64.wrap x.1.1 - IntKind.i64.wrap x.1.2.1 * IntKind.i64.wrap x.1.2.1, (2 : Int) * IntKind.i64.wrap x.1.1 * IntKind.i64.wrap x.1.2.1, IntKind.i64.wrap x.1.1 * IntKind.i64.wrap x.1.1 + IntKind.i64.wrap x.1.2.1 * IntKind.i64.wrap x.1.2.1, ()) = (rA x.1 * rA x.1 - rB x.1 * rB x.1, (2 : El (Ty.it IntKind.i64)) * rA x.1 * rB x.1, rA x.1 * rA x.1 + rB x.1 * rB x.1, ())
theorem w_rparts (y : El sp_rparts.q) (x : Els sp_rparts.ps) : aW c_rparts (iv_rparts y x) Tryz.f184 sp_rparts y x = F_rparts y x := by kernel_rfl
theorem m_rparts (y : El (.un)) (x : Els [tRot]) (h2 : wfE (.un) y) (h3 : wfEs [tRot] x) (h4 : rotB x.1) : F_rparts y x := by
  unfold F_rparts
  have hb := h4
  unfold rotB rotI at hb
  simp only [wrap64_32 (i32_rng h3.1.1), wrap64_32 (i32_rng h3.1.2.1)]
  have sq : ∀ {u v : Int} {m n : Nat}, u.natAbs ≤ m → v.natAbs ≤ n → (u * v).natAbs ≤ m * n := fun hu hv => by
    rw [Int.natAbs_mul]
    exact Nat.mul_le_mul hu hv
  have a0 : Int.natAbs x.1.1 ≤ 1000 := by omega
  have b0 : Int.natAbs x.1.2.1 ≤ 1000 := by omega
  have c0 : Int.natAbs (Int.mul 2 x.1.1) ≤ 2000 := by
    have := sq (u := 2) (m := 2) (by decide) a0
    exact this
  have s1 := sq a0 a0
  have s2 := sq b0 b0
  have s3 := sq c0 b0
  have s4 : Int.natAbs (2 * Int.add 0 x.1.1) ≤ 2000 := by
    have := sq (u := 2) (m := 2) (by decide) a0
    show Int.natAbs (2 * Int.add 0 x.1.1) ≤ 2000
    rw [show Int.add 0 x.1.1 = x.1.1 from Int.zero_add _]
    exact this
  refine ⟨?_, ?_, ?_, ?_, ?_, ?_, ?_, ?_, rfl⟩
  all_goals first | (constructor <;> omega) | exact rng_of c0 | exact rng_of s3
theorem fo_rparts : FnOk Tryz.prog 184 sp_rparts := fnOk_of (C := c_rparts) iv_rparts Tryz.func184 rfl (by kernel_rfl) tys_ok prims_nil mixed_ (Nat.le_refl _) rfl fun y x h1 h2 h3 h4 =>
  Eq.mpr (w_rparts y x) (m_rparts y x h2 h3 h4)
theorem fsmall_q {z d : Int} {j k : Nat} (hz : bd j z) (hj : j ≤ 2100) (hd : d.toNat ≤ 2000 ^ k) (hk : k ≤ 2100) (h0 : 0 < d) : (fsmall z d).1 = enc (mkRat z d.toNat) := by
  have es : sg (decide (z < 0) != decide (d < 0)) z.natAbs = z := by
    rw [decide_eq_false (show ¬ d < 0 by omega), Bool.bne_false]
    unfold sg
    by_cases h : z < 0
    · rw [if_pos (by simpa using h)]; omega
    · rw [if_neg (by simpa using h)]; omega
  unfold fsmall
  rw [if_neg (by omega), es, show d.natAbs = d.toNat by omega, tell_ok (lngQ hz hj hd hk (by omega))]
theorem rpow_1 {a b : Int} (ha : a.natAbs ≤ 1000) (hb : b.natAbs ≤ 1000) (hp : 1 ≤ a) : (⟨(fsmall (a * a - b * b) (a * a + b * b)).1, (fsmall (2 * a * b) (a * a + b * b)).1⟩ : Ga) = rpow a b 1 := by
  obtain ⟨g1, g2⟩ := gpow_bd ha hb 2
  have e1 : (gpow a b 2).1 = a * a - b * b := by
    show ((1 * a - 0 * b) * a - (1 * b + 0 * a) * b) = _
    simp
  have e2 : (gpow a b 2).2 = 2 * a * b := by
    show ((1 * a - 0 * b) * b + (1 * b + 0 * a) * a) = _
    simp
    rw [Int.mul_comm b a, Int.mul_assoc]
    omega
  rw [e1] at g1
  rw [e2] at g2
  have n1 := nrmR_bd ha hb
  have n2 := nrmR_pos (b := b) hp
  unfold bd at n1
  unfold nrmR at n1 n2
  have hd : (a * a + b * b).toNat ≤ 2000 ^ 2 := by omega
  unfold rpow
  rw [fsmall_q g1 (by decide) hd (by decide) n2, fsmall_q g2 (by decide) hd (by decide) n2, e1, e2, Int.pow_succ, Int.pow_zero, Int.one_mul]
  rfl
theorem rpow_0 (a b : Int) : gint 1 0 = rpow a b 0 := by
  unfold gint rpow
  have hz : bd 0 1 := by show (1 : Int).natAbs ≤ 2000 ^ 0; decide
  have hy : bd 0 0 := by show (0 : Int).natAbs ≤ 2000 ^ 0; decide
  rw [fsmall_q (k := 0) hz (by decide) (by decide) (by decide) (by decide), fsmall_q (k := 0) hy (by decide) (by decide) (by decide) (by decide), Int.pow_zero]
  rfl
noncomputable def sp_rnumber : Spec := { q := .un, ps := [tRot], rs := [tG], fresh := true, pre := fun _ x => some (rotB x.1), post := fun _ x => ((), (ofGa (rpow (rA x.1) (rB x.1) 1), ())) }
noncomputable def iv_rnumber (y : El sp_rnumber.q) (x : Els sp_rnumber.ps) : Nat → Option Inv := fun _ => none
noncomputable abbrev c_rnumber : Cfg := cfgS (Tryz.f147).ntmps false [(184, sp_rparts.prim), (69, sp_rSmall.prim)]
def F_rnumber (y : El sp_rnumber.q) (x : Els sp_rnumber.ps) : Prop :=
  ((1 : Int) ≤ x.1.1 ∧ x.1.1 ≤ (1000 : Int) ∧ (-1000 : Int) ≤ x.1.2.1 ∧ x.1.2.1 ≤ (1000 : Int) ∧ x.1.2.1 ≠ (0 : Int) ∧ x.1.1 ≠ x.1.2.1 ∧ x.1.1 ≠ -x.1.2.1 ∧ Int.gcd x.1.1 x.1.2.1 = (1 : Nat)) ∧ ∀ (r : Ro [Ty.it IntKind.i64, Ty.it IntKind.i64, Ty.it IntKind.i64]), r = ((), rA x.1 * rA x.1 - rB x.1 * rB x.1, (2 : El (Ty.it IntKind.i64)) * rA x.1 * rB x.1, rA x.1 * rA x.1 + rB x.1 * rB x.1, ()) → ∀ (r_1 : Ro [tR, Ty.it IntKind.i64]), r_1 = pR (fsmall r.2.1 r.2.2.2.1) → ∀ (r_2 : Ro [tR, Ty.it IntKind.i64]), r_2 = pR (fsmall r.2.2.1 r.2.2.2.1) → ((r_1.2.1, r_2.2.1, ()), ()) = (ofGa (rpow (rA x.1) (rB x.1) (1 : Nat)), ())
theorem w_rnumber (y : El sp_rnumber.q) (x : Els sp_rnumber.ps) : aW c_rnumber (iv_rnumber y x) Tryz.f147 sp_rnumber y x = F_rnumber y x := by kernel_rfl
theorem m_rnumber (y : El (.un)) (x : Els [tRot]) (h2 : wfE (.un) y) (h3 : wfEs [tRot] x) (h4 : rotB x.1) : F_rnumber y x := by
  unfold F_rnumber
  have hb := h4
  unfold rotB rotI at hb
  refine ⟨h4, ?_⟩
  rintro _ rfl _ rfl _ rfl
  have := rpow_1 (a := rA x.1) (b := rB x.1) (by unfold rA; omega) (by unfold rB; omega) (by unfold rA; omega)
  exact congrArg (fun g => ((ofGa g, ()) : El tG × Unit)) this
theorem fo_rnumber : FnOk Tryz.prog 147 sp_rnumber := fnOk_of (C := c_rnumber) iv_rnumber Tryz.func147 rfl (by kernel_rfl) tys_ok (prims_cons (spec_prim fo_rparts) (prims_cons (spec_prim fo_rSmall) prims_nil)) mixed_ (Nat.le_refl _) rfl fun y x h1 h2 h3 h4 =>
  Eq.mpr (w_rnumber y x) (m_rnumber y x h2 h3 h4)
theorem bit_one (t : Nat) (h : t ≤ 1024) : IntKind.i64.wrap (((BitVec.ofInt IntKind.i64.bits (t : Int) &&& BitVec.ofInt IntKind.i64.bits (1 : Int)).toNat : Nat) : Int) = ((t % 2 : Nat) : Int) := by
  have e : (BitVec.ofInt IntKind.i64.bits (t : Int) &&& BitVec.ofInt IntKind.i64.bits (1 : Int)).toNat = t % 2 := by
    rw [BitVec.toNat_and, BitVec.toNat_ofInt, BitVec.toNat_ofInt]
    have b : IntKind.i64.bits = 64 := rfl
    rw [b]
    have e1 : ((t : Int) % (2 ^ 64 : Nat)).toNat = t := by omega
    have e2 : ((1 : Int) % (2 ^ 64 : Nat)).toNat = 1 := by decide
    rw [e1, e2, Nat.and_one_is_mod]
  rw [e]
  exact wrap_id (by have : IntKind.i64.min = -9223372036854775808 := rfl; omega) (by have : IntKind.i64.max = 9223372036854775807 := rfl; omega)
theorem shr_one (t : Nat) : ((t / 2 : Nat) : Int) = (t : Int).fdiv ((2 : Int) ^ min (Int.toNat (1 : Int)) IntKind.i64.bits) := by
  have e : ((2 : Int) ^ min (Int.toNat (1 : Int)) IntKind.i64.bits) = 2 := by decide
  rw [e, Int.fdiv_eq_ediv_of_nonneg _ (by decide)]
  rfl
theorem st_odd {m k t n : Nat} (h : m + k * t = n) (o : t % 2 = 1) : (m + k) + (k + k) * (t / 2) = n := by
  obtain ⟨q, rfl⟩ : ∃ q, t = 2 * q + 1 := ⟨t / 2, by omega⟩
  have e1 : (2 * q + 1) / 2 = q := by omega
  have e2 : k * (2 * q + 1) = (k + k) * q + k := by rw [Nat.mul_add, Nat.mul_one, ← Nat.mul_assoc, Nat.mul_two]
  rw [e1]
  omega
theorem st_even {m k t n : Nat} (h : m + k * t = n) (o : t % 2 = 0) : m + (k + k) * (t / 2) = n := by
  obtain ⟨q, rfl⟩ : ∃ q, t = 2 * q := ⟨t / 2, by omega⟩
  have e1 : (2 * q) / 2 = q := by omega
  have e2 : k * (2 * q) = (k + k) * q := by rw [← Nat.mul_assoc, Nat.mul_two]
  rw [e1]
  omega
theorem rotI_neg {a b : Int} (h : rotI a b) : rotI a (-b) := by
  unfold rotI at *
  obtain ⟨h1, h2, h3, h4, h5, h6, h7, h8⟩ := h
  exact ⟨h1, h2, by omega, by omega, by omega, by omega, by omega, by rw [Int.gcd_neg]; exact h8⟩
theorem rotB_neg {r : El tRot} (h : rotB r) : rotB (r.1, Int.neg r.2.1, ()) := rotI_neg h
noncomputable def sp_rPow : Spec := { q := .un, ps := [tRot, .it .i64], rs := [tG, .it .i64], fresh := true, pre := fun _ _ => none, post := fun _ x => ((), powR x.1 x.2.1) }
noncomputable def iv_rPow (y : El sp_rPow.q) (x : Els sp_rPow.ps) : Nat → Option Inv := fun k => if k = 0 then some { X := Nat × Nat × Nat, tm := fun i => [(1, .c (.sc (.int .i64 i.1))), (4, .c (.pv 11 0)), (7, .c (.pv 1 0)), (8, .c (.pv 2 0))], ob := fun i => [(1, .var [.sc (.bool (rpow (rA x.1) (powB x.1.2.1 x.2.1) i.2.1).re.neg), .ow 3, .ow 4, .sc (.bool (rpow (rA x.1) (powB x.1.2.1 x.2.1) i.2.1).im.neg), .ow 5, .ow 6]), (3, .ty 46 (.it .u32) (rpow (rA x.1) (powB x.1.2.1 x.2.1) i.2.1).re.num 0), (4, .ty 46 (.it .u32) (rpow (rA x.1) (powB x.1.2.1 x.2.1) i.2.1).re.den 0), (5, .ty 46 (.it .u32) (rpow (rA x.1) (powB x.1.2.1 x.2.1) i.2.1).im.num 0), (6, .ty 46 (.it .u32) (rpow (rA x.1) (powB x.1.2.1 x.2.1) i.2.1).im.den 0), (2, .var [.sc (.bool (rpow (rA x.1) (powB x.1.2.1 x.2.1) i.2.2).re.neg), .ow 7, .ow 8, .sc (.bool (rpow (rA x.1) (powB x.1.2.1 x.2.1) i.2.2).im.neg), .ow 9, .ow 10]), (7, .ty 46 (.it .u32) (rpow (rA x.1) (powB x.1.2.1 x.2.1) i.2.2).re.num 0), (8, .ty 46 (.it .u32) (rpow (rA x.1) (powB x.1.2.1 x.2.1) i.2.2).re.den 0), (9, .ty 46 (.it .u32) (rpow (rA x.1) (powB x.1.2.1 x.2.1) i.2.2).im.num 0), (10, .ty 46 (.it .u32) (rpow (rA x.1) (powB x.1.2.1 x.2.1) i.2.2).im.den 0), (11, .var (cel tG (ofGa Ga.zero)))], n := 12, I := fun i => i.2.1 + i.2.2 * i.1 = (x.2.1 : Int).natAbs ∧ 1 ≤ i.2.2, μ := fun i => i.1 } else none
noncomputable abbrev c_rPow : Cfg := cfgS (Tryz.f100).ntmps false [(36, sp_rCk.prim), (50, sp_gInt.prim), (147, sp_rnumber.prim), (32, sp_gMul.prim)]
def F_rPow (y : El sp_rPow.q) (x : Els sp_rPow.ps) : Prop :=
  (fun A B : Int => ∀ (r : Ro [Ty.it IntKind.i64]), r = ((), rotC x.1, ()) → ((r.2.1 != (0 : Int)) = true → (((false, [], [], ()), (false, [], [], ()), ()), r.2) = powR x.1 x.2.1) ∧ ((r.2.1 != (0 : Int)) = false → (decide (x.2.1 < (-1024 : Int)) = true → (((false, [], [], ()), (false, [], [], ()), ()), (2 : Int), ()) = powR x.1 x.2.1) ∧ (decide (x.2.1 < (-1024 : Int)) = false → (decide (x.2.1 > (1024 : Int)) = true → (((false, [], [], ()), (false, [], [], ()), ()), (2 : Int), ()) = powR x.1 x.2.1) ∧ (decide (x.2.1 > (1024 : Int)) = false → (decide (x.2.1 < (0 : Int)) = true → ((-9223372036854775808 : Int) ≤ -x.2.1 ∧ -x.2.1 ≤ (9223372036854775807 : Int)) ∧ ∀ (r : Ro [tG]), r = ((), ofGa { re := (fsmall (1 : Int) (1 : Int)).1, im := (fsmall (0 : Int) (1 : Int)).1 }, ()) → ((1 : Int) ≤ x.1.1 ∧ x.1.1 ≤ (1000 : Int) ∧ (-1000 : Int) ≤ IntKind.i32.wrap ((0 : Int) - x.1.2.1) ∧ IntKind.i32.wrap ((0 : Int) - x.1.2.1) ≤ (1000 : Int) ∧ IntKind.i32.wrap ((0 : Int) - x.1.2.1) ≠ (0 : Int) ∧ x.1.1 ≠ IntKind.i32.wrap ((0 : Int) - x.1.2.1) ∧ x.1.1 ≠ -IntKind.i32.wrap ((0 : Int) - x.1.2.1) ∧ Int.gcd x.1.1 (IntKind.i32.wrap ((0 : Int) - x.1.2.1)) = (1 : Nat)) ∧ ∀ (r_1 : Ro [tG]), r_1 = ((), ofGa (rpow (rA (x.1.1, IntKind.i32.wrap ((0 : Int) - x.1.2.1), ())) (rB (x.1.1, IntKind.i32.wrap ((0 : Int) - x.1.2.1), ())) (1 : Nat)), ()) → (∃ (x_1 : Nat × Nat × Nat), (↑x_1.1 : Int) = -x.2.1 ∧ (rpow A B x_1.2.1).re.neg = r.2.1.1.1 ∧ (rpow A B x_1.2.1).im.neg = r.2.1.2.1.1 ∧ (rpow A B x_1.2.1).re.num = r.2.1.1.2.1 ∧ (rpow A B x_1.2.1).re.den = r.2.1.1.2.2.1 ∧ (rpow A B x_1.2.1).im.num = r.2.1.2.1.2.1 ∧ (rpow A B x_1.2.1).im.den = r.2.1.2.1.2.2.1 ∧ (rpow A B x_1.2.2).re.neg = r_1.2.1.1.1 ∧ (rpow A B x_1.2.2).im.neg = r_1.2.1.2.1.1 ∧ (rpow A B x_1.2.2).re.num = r_1.2.1.1.2.1 ∧ (rpow A B x_1.2.2).re.den = r_1.2.1.1.2.2.1 ∧ (rpow A B x_1.2.2).im.num = r_1.2.1.2.1.2.1 ∧ (rpow A B x_1.2.2).im.den = r_1.2.1.2.1.2.2.1 ∧ (ofGa Ga.zero).1.1 = false ∧ (ofGa Ga.zero).1.2.1 = [] ∧ (ofGa Ga.zero).1.2.2.1 = [] ∧ (ofGa Ga.zero).2.1.1 = false ∧ (ofGa Ga.zero).2.1.2.1 = [] ∧ (ofGa Ga.zero).2.1.2.2.1 = [] ∧ x_1.2.1 + x_1.2.2 * x_1.1 = Int.natAbs x.2.1 ∧ (1 : Nat) ≤ x_1.2.2) ∧ ∀ (x_1 : Nat × Nat × Nat), x_1.2.1 + x_1.2.2 * x_1.1 = Int.natAbs x.2.1 ∧ (1 : Nat) ≤ x_1.2.2 → (decide ((↑x_1.1 : Int) > (0 : Int)) = true → ((IntKind.i64.wrap (↑(BitVec.ofInt IntKind.i64.bits (↑x_1.1 : Int) &&& BitVec.ofInt IntKind.i64.bits (1 : Int)).toNat : Int) == (1 : Int)) = true → ∀ (r : Ro [tG, Ty.it IntKind.i64]), r = pG (gmul (toGa (((rpow A B x_1.2.1).re.neg, (rpow A B x_1.2.1).re.num, (rpow A B x_1.2.1).re.den, ()), ((rpow A B x_1.2.1).im.neg, (rpow A B x_1.2.1).im.num, (rpow A B x_1.2.1).im.den, ()), ())) (toGa (((rpow A B x_1.2.2).re.neg, (rpow A B x_1.2.2).re.num, (rpow A B x_1.2.2).re.den, ()), ((rpow A B x_1.2.2).im.neg, (rpow A B x_1.2.2).im.num, (rpow A B x_1.2.2).im.den, ()), ()))) → (decide ((↑x_1.1 : Int) > (1 : Int)) = true → ∀ (r_2 : Ro [tG, Ty.it IntKind.i64]), r_2 = pG (gmul (toGa (((rpow A B x_1.2.2).re.neg, (rpow A B x_1.2.2).re.num, (rpow A B x_1.2.2).re.den, ()), ((rpow A B x_1.2.2).im.neg, (rpow A B x_1.2.2).im.num, (rpow A B x_1.2.2).im.den, ()), ())) (toGa (((rpow A B x_1.2.2).re.neg, (rpow A B x_1.2.2).re.num, (rpow A B x_1.2.2).re.den, ()), ((rpow A B x_1.2.2).im.neg, (rpow A B x_1.2.2).im.num, (rpow A B x_1.2.2).im.den, ()), ()))) → (0 : Int) ≤ (1 : Int) ∧ ∃ (x' : Nat × Nat × Nat), (↑x'.1 : Int) = (↑x_1.1 : Int).fdiv ((2 : Int) ^ min (Int.toNat (1 : Int)) IntKind.i64.bits) ∧ (rpow A B x'.2.1).re.neg = r.2.1.1.1 ∧ (rpow A B x'.2.1).im.neg = r.2.1.2.1.1 ∧ (rpow A B x'.2.1).re.num = r.2.1.1.2.1 ∧ (rpow A B x'.2.1).re.den = r.2.1.1.2.2.1 ∧ (rpow A B x'.2.1).im.num = r.2.1.2.1.2.1 ∧ (rpow A B x'.2.1).im.den = r.2.1.2.1.2.2.1 ∧ (rpow A B x'.2.2).re.neg = r_2.2.1.1.1 ∧ (rpow A B x'.2.2).im.neg = r_2.2.1.2.1.1 ∧ (rpow A B x'.2.2).re.num = r_2.2.1.1.2.1 ∧ (rpow A B x'.2.2).re.den = r_2.2.1.1.2.2.1 ∧ (rpow A B x'.2.2).im.num = r_2.2.1.2.1.2.1 ∧ (rpow A B x'.2.2).im.den = r_2.2.1.2.1.2.2.1 ∧ (ofGa Ga.zero).1.1 = (ofGa Ga.zero).1.1 ∧ (ofGa Ga.zero).1.2.1 = (ofGa Ga.zero).1.2.1 ∧ (ofGa Ga.zero).1.2.2.1 = (ofGa Ga.zero).1.2.2.1 ∧ (ofGa Ga.zero).2.1.1 = (ofGa Ga.zero).2.1.1 ∧ (ofGa Ga.zero).2.1.2.1 = (ofGa Ga.zero).2.1.2.1 ∧ (ofGa Ga.zero).2.1.2.2.1 = (ofGa Ga.zero).2.1.2.2.1 ∧ (x'.2.1 + x'.2.2 * x'.1 = Int.natAbs x.2.1 ∧ (1 : Nat) ≤ x'.2.2) ∧ x'.1 < x_1.1) ∧ (decide ((↑x_1.1 : Int) > (1 : Int)) = false → (0 : Int) ≤ (1 : Int) ∧ ∃ (x' : Nat × Nat × Nat), (↑x'.1 : Int) = (↑x_1.1 : Int).fdiv ((2 : Int) ^ min (Int.toNat (1 : Int)) IntKind.i64.bits) ∧ (rpow A B x'.2.1).re.neg = r.2.1.1.1 ∧ (rpow A B x'.2.1).im.neg = r.2.1.2.1.1 ∧ (rpow A B x'.2.1).re.num = r.2.1.1.2.1 ∧ (rpow A B x'.2.1).re.den = r.2.1.1.2.2.1 ∧ (rpow A B x'.2.1).im.num = r.2.1.2.1.2.1 ∧ (rpow A B x'.2.1).im.den = r.2.1.2.1.2.2.1 ∧ (rpow A B x'.2.2).re.neg = (rpow A B x_1.2.2).re.neg ∧ (rpow A B x'.2.2).im.neg = (rpow A B x_1.2.2).im.neg ∧ (rpow A B x'.2.2).re.num = (rpow A B x_1.2.2).re.num ∧ (rpow A B x'.2.2).re.den = (rpow A B x_1.2.2).re.den ∧ (rpow A B x'.2.2).im.num = (rpow A B x_1.2.2).im.num ∧ (rpow A B x'.2.2).im.den = (rpow A B x_1.2.2).im.den ∧ (ofGa Ga.zero).1.1 = (ofGa Ga.zero).1.1 ∧ (ofGa Ga.zero).1.2.1 = (ofGa Ga.zero).1.2.1 ∧ (ofGa Ga.zero).1.2.2.1 = (ofGa Ga.zero).1.2.2.1 ∧ (ofGa Ga.zero).2.1.1 = (ofGa Ga.zero).2.1.1 ∧ (ofGa Ga.zero).2.1.2.1 = (ofGa Ga.zero).2.1.2.1 ∧ (ofGa Ga.zero).2.1.2.2.1 = (ofGa Ga.zero).2.1.2.2.1 ∧ (x'.2.1 + x'.2.2 * x'.1 = Int.natAbs x.2.1 ∧ (1 : Nat) ≤ x'.2.2) ∧ x'.1 < x_1.1)) ∧ ((IntKind.i64.wrap (↑(BitVec.ofInt IntKind.i64.bits (↑x_1.1 : Int) &&& BitVec.ofInt IntKind.i64.bits (1 : Int)).toNat : Int) == (1 : Int)) = false → (decide ((↑x_1.1 : Int) > (1 : Int)) = true → ∀ (r : Ro [tG, Ty.it IntKind.i64]), r = pG (gmul (toGa (((rpow A B x_1.2.2).re.neg, (rpow A B x_1.2.2).re.num, (rpow A B x_1.2.2).re.den, ()), ((rpow A B x_1.2.2).im.neg, (rpow A B x_1.2.2).im.num, (rpow A B x_1.2.2).im.den, ()), ())) (toGa (((rpow A B x_1.2.2).re.neg, (rpow A B x_1.2.2).re.num, (rpow A B x_1.2.2).re.den, ()), ((rpow A B x_1.2.2).im.neg, (rpow A B x_1.2.2).im.num, (rpow A B x_1.2.2).im.den, ()), ()))) → (0 : Int) ≤ (1 : Int) ∧ ∃ (x' : Nat × Nat × Nat), (↑x'.1 : Int) = (↑x_1.1 : Int).fdiv ((2 : Int) ^ min (Int.toNat (1 : Int)) IntKind.i64.bits) ∧ (rpow A B x'.2.1).re.neg = (rpow A B x_1.2.1).re.neg ∧ (rpow A B x'.2.1).im.neg = (rpow A B x_1.2.1).im.neg ∧ (rpow A B x'.2.1).re.num = (rpow A B x_1.2.1).re.num ∧ (rpow A B x'.2.1).re.den = (rpow A B x_1.2.1).re.den ∧ (rpow A B x'.2.1).im.num = (rpow A B x_1.2.1).im.num ∧ (rpow A B x'.2.1).im.den = (rpow A B x_1.2.1).im.den ∧ (rpow A B x'.2.2).re.neg = r.2.1.1.1 ∧ (rpow A B x'.2.2).im.neg = r.2.1.2.1.1 ∧ (rpow A B x'.2.2).re.num = r.2.1.1.2.1 ∧ (rpow A B x'.2.2).re.den = r.2.1.1.2.2.1 ∧ (rpow A B x'.2.2).im.num = r.2.1.2.1.2.1 ∧ (rpow A B x'.2.2).im.den = r.2.1.2.1.2.2.1 ∧ (ofGa Ga.zero).1.1 = (ofGa Ga.zero).1.1 ∧ (ofGa Ga.zero).1.2.1 = (ofGa Ga.zero).1.2.1 ∧ (ofGa Ga.zero).1.2.2.1 = (ofGa Ga.zero).1.2.2.1 ∧ (ofGa Ga.zero).2.1.1 = (ofGa Ga.zero).2.1.1 ∧ (ofGa Ga.zero).2.1.2.1 = (ofGa Ga.zero).2.1.2.1 ∧ (ofGa Ga.zero).2.1.2.2.1 = (ofGa Ga.zero).2.1.2.2.1 ∧ (x'.2.1 + x'.2.2 * x'.1 = Int.natAbs x.2.1 ∧ (1 : Nat) ≤ x'.2.2) ∧ x'.1 < x_1.1) ∧ (decide ((↑x_1.1 : Int) > (1 : Int)) = false → (0 : Int) ≤ (1 : Int) ∧ ∃ (x' : Nat × Nat × Nat), (↑x'.1 : Int) = (↑x_1.1 : Int).fdiv ((2 : Int) ^ min (Int.toNat (1 : Int)) IntKind.i64.bits) ∧ (rpow A B x'.2.1).re.neg = (rpow A B x_1.2.1).re.neg ∧ (rpow A B x'.2.1).im.neg = (rpow A B x_1.2.1).im.neg ∧ (rpow A B x'.2.1).re.num = (rpow A B x_1.2.1).re.num ∧ (rpow A B x'.2.1).re.den = (rpow A B x_1.2.1).re.den ∧ (rpow A B x'.2.1).im.num = (rpow A B x_1.2.1).im.num ∧ (rpow A B x'.2.1).im.den = (rpow A B x_1.2.1).im.den ∧ (rpow A B x'.2.2).re.neg = (rpow A B x_1.2.2).re.neg ∧ (rpow A B x'.2.2).im.neg = (rpow A B x_1.2.2).im.neg ∧ (rpow A B x'.2.2).re.num = (rpow A B x_1.2.2).re.num ∧ (rpow A B x'.2.2).re.den = (rpow A B x_1.2.2).re.den ∧ (rpow A B x'.2.2).im.num = (rpow A B x_1.2.2).im.num ∧ (rpow A B x'.2.2).im.den = (rpow A B x_1.2.2).im.den ∧ (ofGa Ga.zero).1.1 = (ofGa Ga.zero).1.1 ∧ (ofGa Ga.zero).1.2.1 = (ofGa Ga.zero).1.2.1 ∧ (ofGa Ga.zero).1.2.2.1 = (ofGa Ga.zero).1.2.2.1 ∧ (ofGa Ga.zero).2.1.1 = (ofGa Ga.zero).2.1.1 ∧ (ofGa Ga.zero).2.1.2.1 = (ofGa Ga.zero).2.1.2.1 ∧ (ofGa Ga.zero).2.1.2.2.1 = (ofGa Ga.zero).2.1.2.2.1 ∧ (x'.2.1 + x'.2.2 * x'.1 = Int.natAbs x.2.1 ∧ (1 : Nat) ≤ x'.2.2) ∧ x'.1 < x_1.1))) ∧ (decide ((↑x_1.1 : Int) > (0 : Int)) = false → ((((rpow A B x_1.2.1).re.neg, (rpow A B x_1.2.1).re.num, (rpow A B x_1.2.1).re.den, ()), ((rpow A B x_1.2.1).im.neg, (rpow A B x_1.2.1).im.num, (rpow A B x_1.2.1).im.den, ()), ()), (0 : Int), ()) = powR x.1 x.2.1)) ∧ (decide (x.2.1 < (0 : Int)) = false → ∀ (r : Ro [tG]), r = ((), ofGa { re := (fsmall (1 : Int) (1 : Int)).1, im := (fsmall (0 : Int) (1 : Int)).1 }, ()) → ((1 : Int) ≤ x.1.1 ∧ x.1.1 ≤ (1000 : Int) ∧ (-1000 : Int) ≤ x.1.2.1 ∧ x.1.2.1 ≤ (1000 : Int) ∧ x.1.2.1 ≠ (0 : Int) ∧ x.1.1 ≠ x.1.2.1 ∧ x.1.1 ≠ -x.1.2.1 ∧ Int.gcd x.1.1 x.1.2.1 = (1 : Nat)) ∧ ∀ (r_1 : Ro [tG]), r_1 = ((), ofGa (rpow A (rB x.1) (1 : Nat)), ()) → (∃ (x_1 : Nat × Nat × Nat), (↑x_1.1 : Int) = x.2.1 ∧ (rpow A B x_1.2.1).re.neg = r.2.1.1.1 ∧ (rpow A B x_1.2.1).im.neg = r.2.1.2.1.1 ∧ (rpow A B x_1.2.1).re.num = r.2.1.1.2.1 ∧ (rpow A B x_1.2.1).re.den = r.2.1.1.2.2.1 ∧ (rpow A B x_1.2.1).im.num = r.2.1.2.1.2.1 ∧ (rpow A B x_1.2.1).im.den = r.2.1.2.1.2.2.1 ∧ (rpow A B x_1.2.2).re.neg = r_1.2.1.1.1 ∧ (rpow A B x_1.2.2).im.neg = r_1.2.1.2.1.1 ∧ (rpow A B x_1.2.2).re.num = r_1.2.1.1.2.1 ∧ (rpow A B x_1.2.2).re.den = r_1.2.1.1.2.2.1 ∧ (rpow A B x_1.2.2).im.num = r_1.2.1.2.1.2.1 ∧ (rpow A B x_1.2.2).im.den = r_1.2.1.2.1.2.2.1 ∧ (ofGa Ga.zero).1.1 = false ∧ (ofGa Ga.zero).1.2.1 = [] ∧ (ofGa Ga.zero).1.2.2.1 = [] ∧ (ofGa Ga.zero).2.1.1 = false ∧ (ofGa Ga.zero).2.1.2.1 = [] ∧ (ofGa Ga.zero).2.1.2.2.1 = [] ∧ x_1.2.1 + x_1.2.2 * x_1.1 = Int.natAbs x.2.1 ∧ (1 : Nat) ≤ x_1.2.2) ∧ ∀ (x_1 : Nat × Nat × Nat), x_1.2.1 + x_1.2.2 * x_1.1 = Int.natAbs x.2.1 ∧ (1 : Nat) ≤ x_1.2.2 → (decide ((↑x_1.1 : Int) > (0 : Int)) = true → ((IntKind.i64.wrap (↑(BitVec.ofInt IntKind.i64.bits (↑x_1.1 : Int) &&& BitVec.ofInt IntKind.i64.bits (1 : Int)).toNat : Int) == (1 : Int)) = true → ∀ (r : Ro [tG, Ty.it IntKind.i64]), r = pG (gmul (toGa (((rpow A B x_1.2.1).re.neg, (rpow A B x_1.2.1).re.num, (rpow A B x_1.2.1).re.den, ()), ((rpow A B x_1.2.1).im.neg, (rpow A B x_1.2.1).im.num, (rpow A B x_1.2.1).im.den, ()), ())) (toGa (((rpow A B x_1.2.2).re.neg, (rpow A B x_1.2.2).re.num, (rpow A B x_1.2.2).re.den, ()), ((rpow A B x_1.2.2).im.neg, (rpow A B x_1.2.2).im.num, (rpow A B x_1.2.2).im.den, ()), ()))) → (decide ((↑x_1.1 : Int) > (1 : Int)) = true → ∀ (r_2 : Ro [tG, Ty.it IntKind.i64]), r_2 = pG (gmul (toGa (((rpow A B x_1.2.2).re.neg, (rpow A B x_1.2.2).re.num, (rpow A B x_1.2.2).re.den, ()), ((rpow A B x_1.2.2).im.neg, (rpow A B x_1.2.2).im.num, (rpow A B x_1.2.2).im.den, ()), ())) (toGa (((rpow A B x_1.2.2).re.neg, (rpow A B x_1.2.2).re.num, (rpow A B x_1.2.2).re.den, ()), ((rpow A B x_1.2.2).im.neg, (rpow A B x_1.2.2).im.num, (rpow A B x_1.2.2).im.den, ()), ()))) → (0 : Int) ≤ (1 : Int) ∧ ∃ (x' : Nat × Nat × Nat), (↑x'.1 : Int) = (↑x_1.1 : Int).fdiv ((2 : Int) ^ min (Int.toNat (1 : Int)) IntKind.i64.bits) ∧ (rpow A B x'.2.1).re.neg = r.2.1.1.1 ∧ (rpow A B x'.2.1).im.neg = r.2.1.2.1.1 ∧ (rpow A B x'.2.1).re.num = r.2.1.1.2.1 ∧ (rpow A B x'.2.1).re.den = r.2.1.1.2.2.1 ∧ (rpow A B x'.2.1).im.num = r.2.1.2.1.2.1 ∧ (rpow A B x'.2.1).im.den = r.2.1.2.1.2.2.1 ∧ (rpow A B x'.2.2).re.neg = r_2.2.1.1.1 ∧ (rpow A B x'.2.2).im.neg = r_2.2.1.2.1.1 ∧ (rpow A B x'.2.2).re.num = r_2.2.1.1.2.1 ∧ (rpow A B x'.2.2).re.den = r_2.2.1.1.2.2.1 ∧ (rpow A B x'.2.2).im.num = r_2.2.1.2.1.2.1 ∧ (rpow A B x'.2.2).im.den = r_2.2.1.2.1.2.2.1 ∧ (ofGa Ga.zero).1.1 = (ofGa Ga.zero).1.1 ∧ (ofGa Ga.zero).1.2.1 = (ofGa Ga.zero).1.2.1 ∧ (ofGa Ga.zero).1.2.2.1 = (ofGa Ga.zero).1.2.2.1 ∧ (ofGa Ga.zero).2.1.1 = (ofGa Ga.zero).2.1.1 ∧ (ofGa Ga.zero).2.1.2.1 = (ofGa Ga.zero).2.1.2.1 ∧ (ofGa Ga.zero).2.1.2.2.1 = (ofGa Ga.zero).2.1.2.2.1 ∧ (x'.2.1 + x'.2.2 * x'.1 = Int.natAbs x.2.1 ∧ (1 : Nat) ≤ x'.2.2) ∧ x'.1 < x_1.1) ∧ (decide ((↑x_1.1 : Int) > (1 : Int)) = false → (0 : Int) ≤ (1 : Int) ∧ ∃ (x' : Nat × Nat × Nat), (↑x'.1 : Int) = (↑x_1.1 : Int).fdiv ((2 : Int) ^ min (Int.toNat (1 : Int)) IntKind.i64.bits) ∧ (rpow A B x'.2.1).re.neg = r.2.1.1.1 ∧ (rpow A B x'.2.1).im.neg = r.2.1.2.1.1 ∧ (rpow A B x'.2.1).re.num = r.2.1.1.2.1 ∧ (rpow A B x'.2.1).re.den = r.2.1.1.2.2.1 ∧ (rpow A B x'.2.1).im.num = r.2.1.2.1.2.1 ∧ (rpow A B x'.2.1).im.den = r.2.1.2.1.2.2.1 ∧ (rpow A B x'.2.2).re.neg = (rpow A B x_1.2.2).re.neg ∧ (rpow A B x'.2.2).im.neg = (rpow A B x_1.2.2).im.neg ∧ (rpow A B x'.2.2).re.num = (rpow A B x_1.2.2).re.num ∧ (rpow A B x'.2.2).re.den = (rpow A B x_1.2.2).re.den ∧ (rpow A B x'.2.2).im.num = (rpow A B x_1.2.2).im.num ∧ (rpow A B x'.2.2).im.den = (rpow A B x_1.2.2).im.den ∧ (ofGa Ga.zero).1.1 = (ofGa Ga.zero).1.1 ∧ (ofGa Ga.zero).1.2.1 = (ofGa Ga.zero).1.2.1 ∧ (ofGa Ga.zero).1.2.2.1 = (ofGa Ga.zero).1.2.2.1 ∧ (ofGa Ga.zero).2.1.1 = (ofGa Ga.zero).2.1.1 ∧ (ofGa Ga.zero).2.1.2.1 = (ofGa Ga.zero).2.1.2.1 ∧ (ofGa Ga.zero).2.1.2.2.1 = (ofGa Ga.zero).2.1.2.2.1 ∧ (x'.2.1 + x'.2.2 * x'.1 = Int.natAbs x.2.1 ∧ (1 : Nat) ≤ x'.2.2) ∧ x'.1 < x_1.1)) ∧ ((IntKind.i64.wrap (↑(BitVec.ofInt IntKind.i64.bits (↑x_1.1 : Int) &&& BitVec.ofInt IntKind.i64.bits (1 : Int)).toNat : Int) == (1 : Int)) = false → (decide ((↑x_1.1 : Int) > (1 : Int)) = true → ∀ (r : Ro [tG, Ty.it IntKind.i64]), r = pG (gmul (toGa (((rpow A B x_1.2.2).re.neg, (rpow A B x_1.2.2).re.num, (rpow A B x_1.2.2).re.den, ()), ((rpow A B x_1.2.2).im.neg, (rpow A B x_1.2.2).im.num, (rpow A B x_1.2.2).im.den, ()), ())) (toGa (((rpow A B x_1.2.2).re.neg, (rpow A B x_1.2.2).re.num, (rpow A B x_1.2.2).re.den, ()), ((rpow A B x_1.2.2).im.neg, (rpow A B x_1.2.2).im.num, (rpow A B x_1.2.2).im.den, ()), ()))) → (0 : Int) ≤ (1 : Int) ∧ ∃ (x' : Nat × Nat × Nat), (↑x'.1 : Int) = (↑x_1.1 : Int).fdiv ((2 : Int) ^ min (Int.toNat (1 : Int)) IntKind.i64.bits) ∧ (rpow A B x'.2.1).re.neg = (rpow A B x_1.2.1).re.neg ∧ (rpow A B x'.2.1).im.neg = (rpow A B x_1.2.1).im.neg ∧ (rpow A B x'.2.1).re.num = (rpow A B x_1.2.1).re.num ∧ (rpow A B x'.2.1).re.den = (rpow A B x_1.2.1).re.den ∧ (rpow A B x'.2.1).im.num = (rpow A B x_1.2.1).im.num ∧ (rpow A B x'.2.1).im.den = (rpow A B x_1.2.1).im.den ∧ (rpow A B x'.2.2).re.neg = r.2.1.1.1 ∧ (rpow A B x'.2.2).im.neg = r.2.1.2.1.1 ∧ (rpow A B x'.2.2).re.num = r.2.1.1.2.1 ∧ (rpow A B x'.2.2).re.den = r.2.1.1.2.2.1 ∧ (rpow A B x'.2.2).im.num = r.2.1.2.1.2.1 ∧ (rpow A B x'.2.2).im.den = r.2.1.2.1.2.2.1 ∧ (ofGa Ga.zero).1.1 = (ofGa Ga.zero).1.1 ∧ (ofGa Ga.zero).1.2.1 = (ofGa Ga.zero).1.2.1 ∧ (ofGa Ga.zero).1.2.2.1 = (ofGa Ga.zero).1.2.2.1 ∧ (ofGa Ga.zero).2.1.1 = (ofGa Ga.zero).2.1.1 ∧ (ofGa Ga.zero).2.1.2.1 = (ofGa Ga.zero).2.1.2.1 ∧ (ofGa Ga.zero).2.1.2.2.1 = (ofGa Ga.zero).2.1.2.2.1 ∧ (x'.2.1 + x'.2.2 * x'.1 = Int.natAbs x.2.1 ∧ (1 : Nat) ≤ x'.2.2) ∧ x'.1 < x_1.1) ∧ (decide ((↑x_1.1 : Int) > (1 : Int)) = false → (0 : Int) ≤ (1 : Int) ∧ ∃ (x' : Nat × Nat × Nat), (↑x'.1 : Int) = (↑x_1.1 : Int).fdiv ((2 : Int) ^ min (Int.toNat (1 : Int)) IntKind.i64.bits) ∧ (rpow A B x'.2.1).re.neg = (rpow A B x_1.2.1).re.neg ∧ (rpow A B x'.2.1).im.neg = (rpow A B x_1.2.1).im.neg ∧ (rpow A B x'.2.1).re.num = (rpow A B x_1.2.1).re.num ∧ (rpow A B x'.2.1).re.den = (rpow A B x_1.2.1).re.den ∧ (rpow A B x'.2.1).im.num = (rpow A B x_1.2.1).im.num ∧ (rpow A B x'.2.1).im.den = (rpow A B x_1.2.1).im.den ∧ (rpow A B x'.2.2).re.neg = (rpow A B x_1.2.2).re.neg ∧ (rpow A B x'.2.2).im.neg = (rpow A B x_1.2.2).im.neg ∧ (rpow A B x'.2.2).re.num = (rpow A B x_1.2.2).re.num ∧ (rpow A B x'.2.2).re.den = (rpow A B x_1.2.2).re.den ∧ (rpow A B x'.2.2).im.num = (rpow A B x_1.2.2).im.num ∧ (rpow A B x'.2.2).im.den = (rpow A B x_1.2.2).im.den ∧ (ofGa Ga.zero).1.1 = (ofGa Ga.zero).1.1 ∧ (ofGa Ga.zero).1.2.1 = (ofGa Ga.zero).1.2.1 ∧ (ofGa Ga.zero).1.2.2.1 = (ofGa Ga.zero).1.2.2.1 ∧ (ofGa Ga.zero).2.1.1 = (ofGa Ga.zero).2.1.1 ∧ (ofGa Ga.zero).2.1.2.1 = (ofGa Ga.zero).2.1.2.1 ∧ (ofGa Ga.zero).2.1.2.2.1 = (ofGa Ga.zero).2.1.2.2.1 ∧ (x'.2.1 + x'.2.2 * x'.1 = Int.natAbs x.2.1 ∧ (1 : Nat) ≤ x'.2.2) ∧ x'.1 < x_1.1))) ∧ (decide ((↑x_1.1 : Int) > (0 : Int)) = false → ((((rpow A B x_1.2.1).re.neg, (rpow A B x_1.2.1).re.num, (rpow A B x_1.2.1).re.den, ()), ((rpow A B x_1.2.1).im.neg, (rpow A B x_1.2.1).im.num, (rpow A B x_1.2.1).im.den, ()), ()), (0 : Int), ()) = powR x.1 x.2.1)))))) (rA x.1) (powB x.1.2.1 x.2.1)
theorem w_rPow (y : El sp_rPow.q) (x : Els sp_rPow.ps) : aW c_rPow (iv_rPow y x) Tryz.f100 sp_rPow y x = F_rPow y x := by kernel_rfl
theorem m_rPow (y : El (.un)) (x : Els [tRot, .it .i64]) (h2 : wfE (.un) y) (h3 : wfEs [tRot, .it .i64] x) : F_rPow y x := by
  unfold F_rPow
  rintro _ rfl
  refine ⟨fun h => pw_1 (neT h), fun h => ⟨fun h1 => pw_2 (neF h) (.inl (ltT h1)), fun h1 => ⟨fun h2 => pw_2 (neF h) (.inr (gtT h2)), fun h2 => ?_⟩⟩⟩
  have hC := neF h
  have hb := rotC_0 hC
  unfold rotB rotI at hb
  have h1 := ltF h1
  have h2 := gtF h2
  have hB := rotC_0 hC
  have ha : (rA x.1).natAbs ≤ 1000 := by unfold rA; omega
  have hp : 1 ≤ rA x.1 := by unfold rA; omega
  have hbb : (powB x.1.2.1 x.2.1).natAbs ≤ 1000 := by unfold powB; split <;> omega
  have hn : Int.natAbs x.2.1 ≤ 1024 := by omega
  refine ⟨fun s => ?_, fun s => ?_⟩
  · have s := ltT s
    have eb : powB x.1.2.1 x.2.1 = Int.neg x.1.2.1 := if_pos s
    have wn : IntKind.i32.wrap ((0 : Int) - x.1.2.1) = Int.neg x.1.2.1 := wrap32_neg (a := x.1.2.1) (by omega)
    refine ⟨neg_rng h1 h2, ?_⟩
    rintro _ rfl
    rw [wn]
    refine ⟨rotB_neg hB, ?_⟩
    intro r1 hr1
    obtain rfl : r1 = ((), ofGa (rpow (rA x.1) (powB x.1.2.1 x.2.1) 1), ()) := by rw [hr1, eb]; rfl
    refine ⟨⟨(Int.natAbs x.2.1, 0, 1), abs_neg_ s, by rw [← rpow_0]; rfl, by rw [← rpow_0]; rfl, by rw [← rpow_0]; rfl, by rw [← rpow_0]; rfl, by rw [← rpow_0]; rfl, by rw [← rpow_0]; rfl, rfl, rfl, rfl, rfl, rfl, rfl, rfl, rfl, rfl, rfl, rfl, rfl, by show 0 + 1 * Int.natAbs x.2.1 = _; omega, Nat.le_refl _⟩, fun i hi => ⟨fun l => ?_, fun l => ?_⟩⟩
    · obtain ⟨t, m, k⟩ := i
      obtain ⟨hi, k1⟩ : m + k * t = Int.natAbs x.2.1 ∧ 1 ≤ k := hi
      have l : 0 < (t : Int) := gtT l
      have kt : k * 1 ≤ k * t := Nat.mul_le_mul_left k (by omega)
      have tl : t ≤ 1024 := by
        have := Nat.mul_le_mul_right t k1
        omega
      have td : t / 2 < t := by omega
      have bo := bit_one t tl
      have sh := shr_one t
      refine ⟨fun o => ?_, fun o => ?_⟩
      · have o : t % 2 = 1 := by
          have := eqT o
          dsimp only at this
          rw [bo] at this
          omega
        intro r hr
        obtain rfl : r = pG (rpow (rA x.1) (powB x.1.2.1 x.2.1) (m + k), 0) := hr.trans (congrArg pG (gmul_rpow (m := m) (n := k) (by omega) ha hbb hp))
        refine ⟨fun g => ?_, fun g => ?_⟩
        · have g : 1 < (t : Int) := gtT g
          have k2 : k * 2 ≤ k * t := Nat.mul_le_mul_left k (by omega)
          intro r2 hr2
          obtain rfl : r2 = pG (rpow (rA x.1) (powB x.1.2.1 x.2.1) (k + k), 0) := hr2.trans (congrArg pG (gmul_rpow (m := k) (n := k) (by omega) ha hbb hp))
          refine ⟨by decide, (t / 2, m + k, k + k), ?_⟩
          and_intros
          all_goals first | rfl | exact sh | exact st_odd hi o | exact td | (show 1 ≤ k + k; omega)
        · have g : (t : Int) ≤ 1 := gtF g
          refine ⟨by decide, (t / 2, m + k, k), ?_⟩
          have t1 : t = 1 := by omega
          and_intros
          all_goals first | rfl | exact sh | exact td | exact k1 | (show m + k + k * (t / 2) = _; rw [t1] at hi ⊢; omega)
      · have o : t % 2 = 0 := by
          have := eqF o
          dsimp only at this
          rw [bo] at this
          omega
        refine ⟨fun g => ?_, fun g => ?_⟩
        · have g : 1 < (t : Int) := gtT g
          have k2 : k * 2 ≤ k * t := Nat.mul_le_mul_left k (by omega)
          intro r2 hr2
          obtain rfl : r2 = pG (rpow (rA x.1) (powB x.1.2.1 x.2.1) (k + k), 0) := hr2.trans (congrArg pG (gmul_rpow (m := k) (n := k) (by omega) ha hbb hp))
          refine ⟨by decide, (t / 2, m, k + k), ?_⟩
          and_intros
          all_goals first | rfl | exact sh | exact st_even hi o | exact td | (show 1 ≤ k + k; omega)
        · have g : (t : Int) ≤ 1 := gtF g
          omega
    · obtain ⟨t, m, k⟩ := i
      obtain ⟨hi, k1⟩ : m + k * t = Int.natAbs x.2.1 ∧ 1 ≤ k := hi
      have l : (t : Int) ≤ 0 := gtF l
      have t0 : t = 0 := by omega
      rw [← pw_3 hC (by omega)]
      have e : m = Int.natAbs x.2.1 := by rw [t0] at hi; omega
      rw [← e]
  · have s := ltF s
    have eb : powB x.1.2.1 x.2.1 = x.1.2.1 := if_neg (by omega)
    rintro _ rfl
    refine ⟨hB, ?_⟩
    intro r1 hr1
    obtain rfl : r1 = ((), ofGa (rpow (rA x.1) (powB x.1.2.1 x.2.1) 1), ()) := by rw [hr1, eb]; rfl
    refine ⟨⟨(Int.natAbs x.2.1, 0, 1), abs_pos_ s, by rw [← rpow_0]; rfl, by rw [← rpow_0]; rfl, by rw [← rpow_0]; rfl, by rw [← rpow_0]; rfl, by rw [← rpow_0]; rfl, by rw [← rpow_0]; rfl, rfl, rfl, rfl, rfl, rfl, rfl, rfl, rfl, rfl, rfl, rfl, rfl, by show 0 + 1 * Int.natAbs x.2.1 = _; omega, Nat.le_refl _⟩, fun i hi => ⟨fun l => ?_, fun l => ?_⟩⟩
    · obtain ⟨t, m, k⟩ := i
      obtain ⟨hi, k1⟩ : m + k * t = Int.natAbs x.2.1 ∧ 1 ≤ k := hi
      have l : 0 < (t : Int) := gtT l
      have kt : k * 1 ≤ k * t := Nat.mul_le_mul_left k (by omega)
      have tl : t ≤ 1024 := by
        have := Nat.mul_le_mul_right t k1
        omega
      have td : t / 2 < t := by omega
      have bo := bit_one t tl
      have sh := shr_one t
      refine ⟨fun o => ?_, fun o => ?_⟩
      · have o : t % 2 = 1 := by
          have := eqT o
          dsimp only at this
          rw [bo] at this
          omega
        intro r hr
        obtain rfl : r = pG (rpow (rA x.1) (powB x.1.2.1 x.2.1) (m + k), 0) := hr.trans (congrArg pG (gmul_rpow (m := m) (n := k) (by omega) ha hbb hp))
        refine ⟨fun g => ?_, fun g => ?_⟩
        · have g : 1 < (t : Int) := gtT g
          have k2 : k * 2 ≤ k * t := Nat.mul_le_mul_left k (by omega)
          intro r2 hr2
          obtain rfl : r2 = pG (rpow (rA x.1) (powB x.1.2.1 x.2.1) (k + k), 0) := hr2.trans (congrArg pG (gmul_rpow (m := k) (n := k) (by omega) ha hbb hp))
          refine ⟨by decide, (t / 2, m + k, k + k), ?_⟩
          and_intros
          all_goals first | rfl | exact sh | exact st_odd hi o | exact td | (show 1 ≤ k + k; omega)
        · have g : (t : Int) ≤ 1 := gtF g
          refine ⟨by decide, (t / 2, m + k, k), ?_⟩
          have t1 : t = 1 := by omega
          and_intros
          all_goals first | rfl | exact sh | exact td | exact k1 | (show m + k + k * (t / 2) = _; rw [t1] at hi ⊢; omega)
      · have o : t % 2 = 0 := by
          have := eqF o
          dsimp only at this
          rw [bo] at this
          omega
        refine ⟨fun g => ?_, fun g => ?_⟩
        · have g : 1 < (t : Int) := gtT g
          have k2 : k * 2 ≤ k * t := Nat.mul_le_mul_left k (by omega)
          intro r2 hr2
          obtain rfl : r2 = pG (rpow (rA x.1) (powB x.1.2.1 x.2.1) (k + k), 0) := hr2.trans (congrArg pG (gmul_rpow (m := k) (n := k) (by omega) ha hbb hp))
          refine ⟨by decide, (t / 2, m, k + k), ?_⟩
          and_intros
          all_goals first | rfl | exact sh | exact st_even hi o | exact td | (show 1 ≤ k + k; omega)
        · have g : (t : Int) ≤ 1 := gtF g
          omega
    · obtain ⟨t, m, k⟩ := i
      obtain ⟨hi, k1⟩ : m + k * t = Int.natAbs x.2.1 ∧ 1 ≤ k := hi
      have l : (t : Int) ≤ 0 := gtF l
      have t0 : t = 0 := by omega
      rw [← pw_3 hC (by omega)]
      have e : m = Int.natAbs x.2.1 := by rw [t0] at hi; omega
      rw [← e]
theorem fo_rPow : FnOk Tryz.prog 100 sp_rPow := fnOk_of (C := c_rPow) iv_rPow Tryz.func100 rfl (by kernel_rfl) tys_ok (prims_cons (spec_prim fo_rCk) (prims_cons (spec_prim fo_gInt) (prims_cons (spec_prim fo_rnumber) (prims_cons (spec_prim fo_gMul) prims_nil)))) mixed_ (Nat.le_refl _) rfl fun y x h1 h2 h3 h4 =>
  Eq.mpr (w_rPow y x) (m_rPow y x h2 h3)
def nearS (a b c d : Int) : Nat → Ga × Int
  | 0 => (gint 0 0, 0)
  | t + 1 => if (nearS a b c d t).2 ≠ 0 then nearS a b c d t else if (gmul (rpow a (-b) t) (rpow c d t)).2 ≠ 0 then (Ga.zero, (gmul (rpow a (-b) t) (rpow c d t)).2) else gadd (nearS a b c d t).1 (gmul (rpow a (-b) t) (rpow c d t)).1
def nearN (n : Int) (s : Ga × Int) : Fr × Int := if s.2 ≠ 0 then (Fr.zero, s.2) else if (gnorm s.1).2 ≠ 0 then (Fr.zero, (gnorm s.1).2) else fsub (fsmall (n * n) 1).1 (gnorm s.1).1
def nearR (a b : El tRot) (n : Int) : Fr × Int := if rotC a ≠ 0 then (Fr.zero, rotC a) else if rotC b ≠ 0 then (Fr.zero, rotC b) else if n < 0 ∨ 256 < n then (Fr.zero, 2) else nearN n (nearS (rA a) (rB a) (rA b) (rB b) n.toNat)
theorem gpow_neg (a b : Int) : ∀ n, gpow a (-b) n = ((gpow a b n).1, -(gpow a b n).2)
  | 0 => rfl
  | n + 1 => by
    show ((gpow a (-b) n).1 * a - (gpow a (-b) n).2 * -b, (gpow a (-b) n).1 * -b + (gpow a (-b) n).2 * a) = ((gpow a b n).1 * a - (gpow a b n).2 * b, -((gpow a b n).1 * b + (gpow a b n).2 * a))
    rw [gpow_neg a b n]
    simp only [Int.mul_neg, Int.neg_mul, Int.neg_neg, Int.neg_add]
theorem nrmR_neg (a b : Int) : nrmR a (-b) = nrmR a b := by
  unfold nrmR
  rw [Int.neg_mul_neg]
theorem powR_pos {r : El tRot} {t : Nat} (h : rotC r = 0) (ht : t ≤ 1024) : powR r (t : Int) = ((ofGa (rpow (rA r) (rB r) t), 0, ()) : El tG × Int × Unit) := by
  rw [← pw_3 h (by omega)]
  have e : powB r.2.1 (t : Int) = rB r := if_neg (by omega)
  rw [e]
  rfl
theorem powR_neg {r : El tRot} {t : Nat} (h : rotC r = 0) (ht : t ≤ 1024) : powR r (-(t : Int)) = ((ofGa (rpow (rA r) (-(rB r)) t), 0, ()) : El tG × Int × Unit) := by
  rw [← pw_3 h (by omega), Int.natAbs_neg, Int.natAbs_natCast]
  rcases Nat.eq_zero_or_pos t with rfl | p
  · rw [← rpow_0, ← rpow_0]
  · have e : powB r.2.1 (-(t : Int)) = -(rB r) := if_pos (by omega)
    rw [e]
theorem rot_bd {r : El tRot} (h : rotC r = 0) : (rA r).natAbs ≤ 1000 ∧ (rB r).natAbs ≤ 1000 ∧ 1 ≤ rA r := by
  have hb := rotC_0 h
  unfold rotB rotI at hb
  unfold rA rB
  omega
section
variable {a b c d : Int} {i : Nat}
theorem ns_bad (h : (nearS a b c d i).2 = 0) (k : (gmul (rpow a (-b) i) (rpow c d i)).2 ≠ 0) : nearS a b c d (i + 1) = (Ga.zero, (gmul (rpow a (-b) i) (rpow c d i)).2) := by
  show (if (nearS a b c d i).2 ≠ 0 then nearS a b c d i else if (gmul (rpow a (-b) i) (rpow c d i)).2 ≠ 0 then (Ga.zero, (gmul (rpow a (-b) i) (rpow c d i)).2) else gadd (nearS a b c d i).1 (gmul (rpow a (-b) i) (rpow c d i)).1) = _
  rw [if_neg (fun c => c h), if_pos k]
theorem ns_add (h : (nearS a b c d i).2 = 0) (k : (gmul (rpow a (-b) i) (rpow c d i)).2 = 0) : nearS a b c d (i + 1) = gadd (nearS a b c d i).1 (gmul (rpow a (-b) i) (rpow c d i)).1 := by
  show (if (nearS a b c d i).2 ≠ 0 then nearS a b c d i else if (gmul (rpow a (-b) i) (rpow c d i)).2 ≠ 0 then (Ga.zero, (gmul (rpow a (-b) i) (rpow c d i)).2) else gadd (nearS a b c d i).1 (gmul (rpow a (-b) i) (rpow c d i)).1) = _
  rw [if_neg (fun c => c h), if_neg (fun c => c k)]
theorem ns_stay (h : (nearS a b c d i).2 ≠ 0) : ∀ k, nearS a b c d (i + k) = nearS a b c d i
  | 0 => rfl
  | k + 1 => by
    have ih := ns_stay h k
    show (if (nearS a b c d (i + k)).2 ≠ 0 then nearS a b c d (i + k) else _) = _
    rw [ih, if_pos h]
end
section
variable {a b : El tRot} {n : Int}
theorem near_1 (h : rotC a ≠ 0) : ((ofFr Fr.zero, rotC a, ()) : El tR × Int × Unit) = (pR (nearR a b n)).2 := by unfold nearR; rw [if_pos h]; rfl
theorem near_2 (h : rotC a = 0) (k : rotC b ≠ 0) : ((ofFr Fr.zero, rotC b, ()) : El tR × Int × Unit) = (pR (nearR a b n)).2 := by unfold nearR; rw [if_neg (fun c => c h), if_pos k]; rfl
theorem near_3 (h : rotC a = 0) (k : rotC b = 0) (l : n < 0 ∨ 256 < n) : ((ofFr Fr.zero, 2, ()) : El tR × Int × Unit) = (pR (nearR a b n)).2 := by unfold nearR; rw [if_neg (fun c => c h), if_neg (fun c => c k), if_pos l]; rfl
theorem near_4 (h : rotC a = 0) (k : rotC b = 0) (l : ¬ (n < 0 ∨ 256 < n)) : nearR a b n = nearN n (nearS (rA a) (rB a) (rA b) (rB b) n.toNat) := by unfold nearR; rw [if_neg (fun c => c h), if_neg (fun c => c k), if_neg l]
theorem near_err {i : Nat} (h : rotC a = 0) (k : rotC b = 0) (l : ¬ (n < 0 ∨ 256 < n)) (hi : i + 1 ≤ n.toNat) (m : (nearS (rA a) (rB a) (rA b) (rB b) (i + 1)).2 ≠ 0) : ((ofFr Fr.zero, (nearS (rA a) (rB a) (rA b) (rB b) (i + 1)).2, ()) : El tR × Int × Unit) = (pR (nearR a b n)).2 := by
  rw [near_4 h k l]
  have e := ns_stay m (n.toNat - (i + 1))
  rw [show i + 1 + (n.toNat - (i + 1)) = n.toNat by omega] at e
  unfold nearN
  rw [e, if_pos m]
  rfl
theorem near_nrm (h : rotC a = 0) (k : rotC b = 0) (l : ¬ (n < 0 ∨ 256 < n)) (m : (nearS (rA a) (rB a) (rA b) (rB b) n.toNat).2 = 0) (o : (gnorm (nearS (rA a) (rB a) (rA b) (rB b) n.toNat).1).2 ≠ 0) : ((ofFr Fr.zero, (gnorm (nearS (rA a) (rB a) (rA b) (rB b) n.toNat).1).2, ()) : El tR × Int × Unit) = (pR (nearR a b n)).2 := by
  rw [near_4 h k l]
  unfold nearN
  rw [if_neg (fun c => c m), if_pos o]
  rfl
theorem near_ok (h : rotC a = 0) (k : rotC b = 0) (l : ¬ (n < 0 ∨ 256 < n)) (m : (nearS (rA a) (rB a) (rA b) (rB b) n.toNat).2 = 0) (o : (gnorm (nearS (rA a) (rB a) (rA b) (rB b) n.toNat).1).2 = 0) : (pR (fsub (fsmall (n * n) 1).1 (gnorm (nearS (rA a) (rB a) (rA b) (rB b) n.toNat).1).1)).2 = (pR (nearR a b n)).2 := by
  rw [near_4 h k l]
  unfold nearN
  rw [if_neg (fun c => c m), if_neg (fun c => c o)]
end
theorem sq_rng {n : Int} (h : 0 ≤ n) (k : n ≤ 256) : -9223372036854775808 ≤ n * n ∧ n * n ≤ 9223372036854775807 := by
  have h1 := Int.mul_nonneg h h
  have h2 : n * n ≤ 256 * 256 := Int.mul_le_mul k k h (by decide)
  omega
noncomputable def sp_iNear : Spec := { q := .un, ps := [tRot, tRot, .it .i64], rs := [tR, .it .i64], fresh := true, pre := fun _ _ => none, post := fun _ x => pR (nearR x.1 x.2.1 x.2.2.1) }
noncomputable def iv_iNear (y : El sp_iNear.q) (x : Els sp_iNear.ps) : Nat → Option Inv := fun k => if k = 0 then some { X := Nat, tm := fun i => [(2, .c (.sc (.int .i64 x.2.2.1))), (3, .c (.pv 1 0)), (4, .c (.pv 2 0)), (6, .c (.pv 3 0)), (10, .c (.pv 4 0)), (42, .c (.sc (.int .i64 x.2.2.1))), (43, .c (.sc (.int .i64 i)))], ob := fun i => [(1, .var (cel tRot x.1)), (2, .var (cel tRot x.2.1)), (3, .var (cel tR (ofFr Fr.zero))), (4, .var [.sc (.bool (nearS (rA x.1) (rB x.1) (rA x.2.1) (rB x.2.1) i).1.re.neg), .ow 5, .ow 6, .sc (.bool (nearS (rA x.1) (rB x.1) (rA x.2.1) (rB x.2.1) i).1.im.neg), .ow 7, .ow 8]), (5, .ty 46 (.it .u32) (nearS (rA x.1) (rB x.1) (rA x.2.1) (rB x.2.1) i).1.re.num 0), (6, .ty 46 (.it .u32) (nearS (rA x.1) (rB x.1) (rA x.2.1) (rB x.2.1) i).1.re.den 0), (7, .ty 46 (.it .u32) (nearS (rA x.1) (rB x.1) (rA x.2.1) (rB x.2.1) i).1.im.num 0), (8, .ty 46 (.it .u32) (nearS (rA x.1) (rB x.1) (rA x.2.1) (rB x.2.1) i).1.im.den 0)], n := 9, I := fun i => i ≤ (x.2.2.1 : Int).toNat ∧ (nearS (rA x.1) (rB x.1) (rA x.2.1) (rB x.2.1) i).2 = 0, μ := fun i => (x.2.2.1 : Int).toNat - i } else none
noncomputable abbrev c_iNear : Cfg := cfgS (Tryz.f35).ntmps false [(36, sp_rCk.prim), (100, sp_rPow.prim), (50, sp_gInt.prim), (32, sp_gMul.prim), (31, sp_gAdd.prim), (101, sp_gNorm.prim), (69, sp_rSmall.prim), (18, sp_rSub.prim)]
def F_iNear (y : El sp_iNear.q) (x : Els sp_iNear.ps) : Prop :=
  ∀ (r : Ro [Ty.it IntKind.i64]), r = ((), rotC x.1, ()) → ((r.2.1 != (0 : Int)) = true → ((false, [], [], ()), r.2) = (pR (nearR x.1 x.2.1 x.2.2.1)).2) ∧ ((r.2.1 != (0 : Int)) = false → ∀ (r : Ro [Ty.it IntKind.i64]), r = ((), rotC x.2.1, ()) → ((r.2.1 != (0 : Int)) = true → ((false, [], [], ()), r.2) = (pR (nearR x.1 x.2.1 x.2.2.1)).2) ∧ ((r.2.1 != (0 : Int)) = false → (decide (x.2.2.1 < (0 : Int)) = true → ((false, [], [], ()), (2 : Int), ()) = (pR (nearR x.1 x.2.1 x.2.2.1)).2) ∧ (decide (x.2.2.1 < (0 : Int)) = false → (decide (x.2.2.1 > (256 : Int)) = true → ((false, [], [], ()), (2 : Int), ()) = (pR (nearR x.1 x.2.1 x.2.2.1)).2) ∧ (decide (x.2.2.1 > (256 : Int)) = false → ∀ (r : Ro [tG]), r = ((), ofGa { re := (fsmall (0 : Int) (1 : Int)).1, im := (fsmall (0 : Int) (1 : Int)).1 }, ()) → (∃ (x_1 : Nat), x.2.2.1 = x.2.2.1 ∧ x.2.2.1 = x.2.2.1 ∧ (↑x_1 : Int) = (0 : Int) ∧ x.1.1 = x.1.1 ∧ x.1.2.1 = x.1.2.1 ∧ x.2.1.1 = x.2.1.1 ∧ x.2.1.2.1 = x.2.1.2.1 ∧ (ofFr Fr.zero).1 = false ∧ (ofFr Fr.zero).2.1 = [] ∧ (ofFr Fr.zero).2.2.1 = [] ∧ (nearS (rA x.1) (rB x.1) (rA x.2.1) (rB x.2.1) x_1).1.re.neg = r.2.1.1.1 ∧ (nearS (rA x.1) (rB x.1) (rA x.2.1) (rB x.2.1) x_1).1.im.neg = r.2.1.2.1.1 ∧ (nearS (rA x.1) (rB x.1) (rA x.2.1) (rB x.2.1) x_1).1.re.num = r.2.1.1.2.1 ∧ (nearS (rA x.1) (rB x.1) (rA x.2.1) (rB x.2.1) x_1).1.re.den = r.2.1.1.2.2.1 ∧ (nearS (rA x.1) (rB x.1) (rA x.2.1) (rB x.2.1) x_1).1.im.num = r.2.1.2.1.2.1 ∧ (nearS (rA x.1) (rB x.1) (rA x.2.1) (rB x.2.1) x_1).1.im.den = r.2.1.2.1.2.2.1 ∧ x_1 ≤ Int.toNat x.2.2.1 ∧ (nearS (rA x.1) (rB x.1) (rA x.2.1) (rB x.2.1) x_1).2 = (0 : Int)) ∧ ∀ (x_1 : Nat), x_1 ≤ Int.toNat x.2.2.1 ∧ (nearS (rA x.1) (rB x.1) (rA x.2.1) (rB x.2.1) x_1).2 = (0 : Int) → (decide ((↑x_1 : Int) < x.2.2.1) = true → ((-9223372036854775808 : Int) ≤ -(↑x_1 : Int) ∧ -(↑x_1 : Int) ≤ (9223372036854775807 : Int)) ∧ ∀ (r : Ro [tG, Ty.it IntKind.i64]), r = ((), powR x.1 (-(↑x_1 : Int))) → ∀ (r_1 : Ro [tG, Ty.it IntKind.i64]), r_1 = ((), powR x.2.1 (↑x_1 : Int)) → ∀ (r_2 : Ro [tG, Ty.it IntKind.i64]), r_2 = pG (gmul (toGa r.2.1) (toGa r_1.2.1)) → ((r_2.2.2.1 == (0 : Int)) = true → ∀ (r : Ro [tG, Ty.it IntKind.i64]), r = pG (gadd (toGa (((nearS (rA x.1) (rB x.1) (rA x.2.1) (rB x.2.1) x_1).1.re.neg, (nearS (rA x.1) (rB x.1) (rA x.2.1) (rB x.2.1) x_1).1.re.num, (nearS (rA x.1) (rB x.1) (rA x.2.1) (rB x.2.1) x_1).1.re.den, ()), ((nearS (rA x.1) (rB x.1) (rA x.2.1) (rB x.2.1) x_1).1.im.neg, (nearS (rA x.1) (rB x.1) (rA x.2.1) (rB x.2.1) x_1).1.im.num, (nearS (rA x.1) (rB x.1) (rA x.2.1) (rB x.2.1) x_1).1.im.den, ()), ())) (toGa r_2.2.1)) → ((r.2.2.1 != (0 : Int)) = true → ((false, [], [], ()), r.2.2) = (pR (nearR x.1 x.2.1 x.2.2.1)).2) ∧ ((r.2.2.1 != (0 : Int)) = false → ((-9223372036854775808 : Int) ≤ (↑x_1 : Int) + (1 : Int) ∧ (↑x_1 : Int) + (1 : Int) ≤ (9223372036854775807 : Int)) ∧ ∃ (x' : Nat), x.2.2.1 = x.2.2.1 ∧ x.2.2.1 = x.2.2.1 ∧ (↑x' : Int) = (↑x_1 : Int) + (1 : Int) ∧ x.1.1 = x.1.1 ∧ x.1.2.1 = x.1.2.1 ∧ x.2.1.1 = x.2.1.1 ∧ x.2.1.2.1 = x.2.1.2.1 ∧ (ofFr Fr.zero).1 = (ofFr Fr.zero).1 ∧ (ofFr Fr.zero).2.1 = (ofFr Fr.zero).2.1 ∧ (ofFr Fr.zero).2.2.1 = (ofFr Fr.zero).2.2.1 ∧ (nearS (rA x.1) (rB x.1) (rA x.2.1) (rB x.2.1) x').1.re.neg = r.2.1.1.1 ∧ (nearS (rA x.1) (rB x.1) (rA x.2.1) (rB x.2.1) x').1.im.neg = r.2.1.2.1.1 ∧ (nearS (rA x.1) (rB x.1) (rA x.2.1) (rB x.2.1) x').1.re.num = r.2.1.1.2.1 ∧ (nearS (rA x.1) (rB x.1) (rA x.2.1) (rB x.2.1) x').1.re.den = r.2.1.1.2.2.1 ∧ (nearS (rA x.1) (rB x.1) (rA x.2.1) (rB x.2.1) x').1.im.num = r.2.1.2.1.2.1 ∧ (nearS (rA x.1) (rB x.1) (rA x.2.1) (rB x.2.1) x').1.im.den = r.2.1.2.1.2.2.1 ∧ (x' ≤ Int.toNat x.2.2.1 ∧ (nearS (rA x.1) (rB x.1) (rA x.2.1) (rB x.2.1) x').2 = (0 : Int)) ∧ Int.toNat x.2.2.1 - x' < Int.toNat x.2.2.1 - x_1)) ∧ ((r_2.2.2.1 == (0 : Int)) = false → ((r_2.2.2.1 != (0 : Int)) = true → ((false, [], [], ()), r_2.2.2) = (pR (nearR x.1 x.2.1 x.2.2.1)).2) ∧ ((r_2.2.2.1 != (0 : Int)) = false → ((-9223372036854775808 : Int) ≤ (↑x_1 : Int) + (1 : Int) ∧ (↑x_1 : Int) + (1 : Int) ≤ (9223372036854775807 : Int)) ∧ ∃ (x' : Nat), x.2.2.1 = x.2.2.1 ∧ x.2.2.1 = x.2.2.1 ∧ (↑x' : Int) = (↑x_1 : Int) + (1 : Int) ∧ x.1.1 = x.1.1 ∧ x.1.2.1 = x.1.2.1 ∧ x.2.1.1 = x.2.1.1 ∧ x.2.1.2.1 = x.2.1.2.1 ∧ (ofFr Fr.zero).1 = (ofFr Fr.zero).1 ∧ (ofFr Fr.zero).2.1 = (ofFr Fr.zero).2.1 ∧ (ofFr Fr.zero).2.2.1 = (ofFr Fr.zero).2.2.1 ∧ (nearS (rA x.1) (rB x.1) (rA x.2.1) (rB x.2.1) x').1.re.neg = (nearS (rA x.1) (rB x.1) (rA x.2.1) (rB x.2.1) x_1).1.re.neg ∧ (nearS (rA x.1) (rB x.1) (rA x.2.1) (rB x.2.1) x').1.im.neg = (nearS (rA x.1) (rB x.1) (rA x.2.1) (rB x.2.1) x_1).1.im.neg ∧ (nearS (rA x.1) (rB x.1) (rA x.2.1) (rB x.2.1) x').1.re.num = (nearS (rA x.1) (rB x.1) (rA x.2.1) (rB x.2.1) x_1).1.re.num ∧ (nearS (rA x.1) (rB x.1) (rA x.2.1) (rB x.2.1) x').1.re.den = (nearS (rA x.1) (rB x.1) (rA x.2.1) (rB x.2.1) x_1).1.re.den ∧ (nearS (rA x.1) (rB x.1) (rA x.2.1) (rB x.2.1) x').1.im.num = (nearS (rA x.1) (rB x.1) (rA x.2.1) (rB x.2.1) x_1).1.im.num ∧ (nearS (rA x.1) (rB x.1) (rA x.2.1) (rB x.2.1) x').1.im.den = (nearS (rA x.1) (rB x.1) (rA x.2.1) (rB x.2.1) x_1).1.im.den ∧ (x' ≤ Int.toNat x.2.2.1 ∧ (nearS (rA x.1) (rB x.1) (rA x.2.1) (rB x.2.1) x').2 = (0 : Int)) ∧ Int.toNat x.2.2.1 - x' < Int.toNat x.2.2.1 - x_1))) ∧ (decide ((↑x_1 : Int) < x.2.2.1) = false → ∀ (r : Ro [tR, Ty.it IntKind.i64]), r = pR (gnorm (toGa (((nearS (rA x.1) (rB x.1) (rA x.2.1) (rB x.2.1) x_1).1.re.neg, (nearS (rA x.1) (rB x.1) (rA x.2.1) (rB x.2.1) x_1).1.re.num, (nearS (rA x.1) (rB x.1) (rA x.2.1) (rB x.2.1) x_1).1.re.den, ()), ((nearS (rA x.1) (rB x.1) (rA x.2.1) (rB x.2.1) x_1).1.im.neg, (nearS (rA x.1) (rB x.1) (rA x.2.1) (rB x.2.1) x_1).1.im.num, (nearS (rA x.1) (rB x.1) (rA x.2.1) (rB x.2.1) x_1).1.im.den, ()), ()))) → ((r.2.2.1 != (0 : Int)) = true → ((false, [], [], ()), r.2.2) = (pR (nearR x.1 x.2.1 x.2.2.1)).2) ∧ ((r.2.2.1 != (0 : Int)) = false → ((-9223372036854775808 : Int) ≤ x.2.2.1 * x.2.2.1 ∧ x.2.2.1 * x.2.2.1 ≤ (9223372036854775807 : Int)) ∧ ∀ (r_1 : Ro [tR, Ty.it IntKind.i64]), r_1 = pR (fsmall (x.2.2.1 * x.2.2.1) (1 : Int)) → ∀ (r_2 : Ro [tR, Ty.it IntKind.i64]), r_2 = pR (fsub (toFr r_1.2.1) (toFr r.2.1)) → r_2.2 = (pR (nearR x.1 x.2.1 x.2.2.1)).2))))))
theorem w_iNear (y : El sp_iNear.q) (x : Els sp_iNear.ps) : aW c_iNear (iv_iNear y x) Tryz.f35 sp_iNear y x = F_iNear y x := by kernel_rfl
theorem m_iNear (y : El (.un)) (x : Els [tRot, tRot, .it .i64]) (h2 : wfE (.un) y) (h3 : wfEs [tRot, tRot, .it .i64] x) : F_iNear y x := by
  unfold F_iNear
  rintro _ rfl
  refine ⟨fun h => near_1 (neT h), fun h => ?_⟩
  have h := neF h
  rintro _ rfl
  refine ⟨fun k => near_2 h (neT k), fun k => ⟨fun n1 => near_3 h (neF k) (.inl (ltT n1)), fun n1 => ⟨fun n2 => near_3 h (neF k) (.inr (gtT n2)), fun n2 => ?_⟩⟩⟩
  have k := neF k
  have l0 : ¬ ((x.2.2.1 : Int) < 0 ∨ (256 : Int) < x.2.2.1) := by
    intro c
    rcases c with c | c
    · exact absurd (ltF n1) (Int.not_le.2 c)
    · exact absurd (gtF n2) (Int.not_le.2 c)
  have n1 := ltF n1
  have n2 := gtF n2
  obtain ⟨a1, a2, a3⟩ := rot_bd h
  obtain ⟨b1, b2, b3⟩ := rot_bd k
  rintro _ rfl
  refine ⟨⟨0, rfl, rfl, rfl, rfl, rfl, rfl, rfl, rfl, rfl, rfl, rfl, rfl, rfl, rfl, rfl, rfl, Nat.zero_le _, rfl⟩, fun i hi => ⟨fun l => ?_, fun l => ?_⟩⟩
  · obtain ⟨i0, i1⟩ := hi
    have l := ltT l
    have il : i + 1 ≤ Int.toNat x.2.2.1 := by omega
    have it : i ≤ 1024 := by omega
    refine ⟨⟨by omega, by omega⟩, ?_⟩
    intro r1 hr1
    obtain rfl : r1 = ((), ofGa (rpow (rA x.1) (-(rB x.1)) i), 0, ()) := hr1.trans (congrArg (fun z => ((), z)) (powR_neg h it))
    intro r2 hr2
    obtain rfl : r2 = ((), ofGa (rpow (rA x.2.1) (rB x.2.1) i), 0, ()) := hr2.trans (congrArg (fun z => ((), z)) (powR_pos k it))
    rintro _ rfl
    refine ⟨fun p => ?_, fun p => ⟨fun _ => ?_, fun q => absurd (neF q) (eqF p)⟩⟩
    · have e := ns_add i1 (eqT p)
      intro r4 hr4
      obtain rfl : r4 = pG (nearS (rA x.1) (rB x.1) (rA x.2.1) (rB x.2.1) (i + 1)) := hr4.trans (congrArg pG e.symm)
      refine ⟨fun q => near_err h k l0 il (neT q), fun q => ⟨⟨by omega, by omega⟩, i + 1, ?_⟩⟩
      have q := neF q
      and_intros
      all_goals first | rfl | exact il | exact q | omega
    · have e := ns_bad i1 (eqF p)
      have := near_err (i := i) h k l0 il (by rw [e]; exact eqF p)
      rw [e] at this
      exact this
  · obtain ⟨i0, i1⟩ := hi
    have l := ltF l
    have ei : i = Int.toNat x.2.2.1 := by omega
    rw [ei] at i1 ⊢
    rintro _ rfl
    refine ⟨fun o => near_nrm h k l0 i1 (neT o), fun o => ⟨sq_rng n1 n2, ?_⟩⟩
    rintro _ rfl _ rfl
    exact near_ok h k l0 i1 (neF o)
theorem fo_iNear : FnOk Tryz.prog 35 sp_iNear := fnOk_of (C := c_iNear) iv_iNear Tryz.func35 rfl (by kernel_rfl) tys_ok (prims_cons (spec_prim fo_rCk) (prims_cons (spec_prim fo_rPow) (prims_cons (spec_prim fo_gInt) (prims_cons (spec_prim fo_gMul) (prims_cons (spec_prim fo_gAdd) (prims_cons (spec_prim fo_gNorm) (prims_cons (spec_prim fo_rSmall) (prims_cons (spec_prim fo_rSub) prims_nil)))))))) mixed_ (Nat.le_refl _) rfl fun y x h1 h2 h3 h4 =>
  Eq.mpr (w_iNear y x) (m_iNear y x h2 h3)
end Go.Proofs.YtjoonfegjobgbaaGreatDoor
