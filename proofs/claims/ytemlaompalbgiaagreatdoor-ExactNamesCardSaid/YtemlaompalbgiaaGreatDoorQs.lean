/- Texts of this claim, joined: P9 B23 B24 P14 W0 W1 D0 D1. -/
import Derived.Maps.OwnSet
import Derived.DeepKeys4
import Derived.KernelRfl
import Derived.Deep.RegionHeld3
import Derived.Test.YtemlaompalbgiaaGreatDoorQr
set_option linter.unusedVariables false
set_option linter.unusedSimpArgs false
set_option maxRecDepth 100000
namespace Go.Proofs.YtemlaompalbgiaaGreatDoor
open Go Go.RowKit
theorem gpow_add (a b : Int) (i : Nat) : ∀ j, gpow a b (i + j) = ((gpow a b i).1 * (gpow a b j).1 - (gpow a b i).2 * (gpow a b j).2, (gpow a b i).1 * (gpow a b j).2 + (gpow a b i).2 * (gpow a b j).1)
  | 0 => by
    show gpow a b i = ((gpow a b i).1 * 1 - (gpow a b i).2 * 0, (gpow a b i).1 * 0 + (gpow a b i).2 * 1)
    simp
  | j + 1 => by
    have ih := gpow_add a b i j
    rw [← Nat.add_assoc]
    show ((gpow a b (i + j)).1 * a - (gpow a b (i + j)).2 * b, (gpow a b (i + j)).1 * b + (gpow a b (i + j)).2 * a) = _
    rw [ih]
    have e1 : (gpow a b (j + 1)).1 = (gpow a b j).1 * a - (gpow a b j).2 * b := rfl
    have e2 : (gpow a b (j + 1)).2 = (gpow a b j).1 * b + (gpow a b j).2 * a := rfl
    rw [e1, e2]
    generalize (gpow a b i).1 = x
    generalize (gpow a b i).2 = y
    generalize (gpow a b j).1 = u
    generalize (gpow a b j).2 = v
    simp only [Int.sub_mul, Int.add_mul, Int.mul_add, Int.mul_sub, Int.mul_assoc]
    congr 1 <;> omega
theorem lngQ {x : Int} {d : Nat} {j k : Nat} (hx : bd j x) (hj : j ≤ 2100) (hd : d ≤ 2000 ^ k) (hk : k ≤ 2100) (h0 : d ≠ 0) : ¬ lng (mkRat x d) = true := by
  have e := enc_mk (decide (x < 0)) x.natAbs d h0
  have es : sg (decide (x < 0)) x.natAbs = x := by
    unfold sg
    by_cases h : x < 0
    · rw [if_pos (by simpa using h)]; omega
    · rw [if_neg (by simpa using h)]; omega
  rw [es] at e
  have e1 : wd (mkRat x d).num.natAbs = wd (x.natAbs / Nat.gcd x.natAbs d) := congrArg Fr.num e
  have e2 : wd (mkRat x d).den = wd (d / Nat.gcd x.natAbs d) := congrArg Fr.den e
  refine lng_of ?_ ?_
  · rw [e1]
    have := wd_len_mono (Nat.div_le_self x.natAbs (Nat.gcd x.natAbs d))
    have := wd_bd hx hj
    omega
  · rw [e2]
    have := wd_len_mono (Nat.div_le_self d (Nat.gcd x.natAbs d))
    have := wd_bd hd hk
    omega
theorem mkRat_add_same (x y : Int) {d : Nat} (h : d ≠ 0) : mkRat x d + mkRat y d = mkRat (x + y) d := by
  rw [Rat.mkRat_add_mkRat x y h h, ← Int.add_mul, Rat.mkRat_mul_right (by omega)]
theorem mkRat_sub_same (x y : Int) {d : Nat} (h : d ≠ 0) : mkRat x d - mkRat y d = mkRat (x - y) d := by
  rw [Rat.sub_eq_add_neg, Rat.neg_mkRat, mkRat_add_same x (-y) h, Int.sub_eq_add_neg]
section
variable {x y : Int} {c d j k : Nat}
theorem wmul_q (hx : bd j x) (hy : bd k y) (hjk : j + k ≤ 2100) (hc : c ≤ 2000 ^ j) (hd : d ≤ 2000 ^ k) (c0 : c ≠ 0) (d0 : d ≠ 0) : wmul 0 (enc (mkRat x c)) (enc (mkRat y d)) = (enc (mkRat (x * y) (c * d)), 0) := by
  unfold wmul
  rw [stp_ok]
  unfold fmul
  rw [both_ok (lngQ hx (by omega) hc (by omega) c0) (lngQ hy (by omega) hd (by omega) d0), Rat.mkRat_mul_mkRat]
  exact tell_ok (lngQ (hx.mul hy) hjk (by rw [Nat.pow_add]; exact Nat.mul_le_mul hc hd) hjk (Nat.mul_ne_zero c0 d0))
theorem wadd_q (hx : bd j x) (hy : bd j y) (hxy : bd j (x + y)) (hj : j ≤ 2100) (hc : c ≤ 2000 ^ j) (c0 : c ≠ 0) : wadd 0 (enc (mkRat x c)) (enc (mkRat y c)) = (enc (mkRat (x + y) c), 0) := by
  unfold wadd
  rw [stp_ok]
  unfold fadd
  rw [both_ok (lngQ hx hj hc hj c0) (lngQ hy hj hc hj c0), mkRat_add_same x y c0]
  exact tell_ok (lngQ hxy hj hc hj c0)
theorem wsub_q (hx : bd j x) (hy : bd j y) (hxy : bd j (x - y)) (hj : j ≤ 2100) (hc : c ≤ 2000 ^ j) (c0 : c ≠ 0) : wsub 0 (enc (mkRat x c)) (enc (mkRat y c)) = (enc (mkRat (x - y) c), 0) := by
  unfold wsub
  rw [stp_ok]
  unfold fsub
  rw [both_ok (lngQ hx hj hc hj c0) (lngQ hy hj hc hj c0), mkRat_sub_same x y c0]
  exact tell_ok (lngQ hxy hj hc hj c0)
end
section
variable {a b : Int}
theorem nrmN {n : Nat} (ha : a.natAbs ≤ 1000) (hb : b.natAbs ≤ 1000) (hp : 1 ≤ a) : (nrmR a b ^ n).toNat ≤ 2000 ^ (2 * n) ∧ (nrmR a b ^ n).toNat ≠ 0 ∧ ((nrmR a b ^ n).toNat : Int) = nrmR a b ^ n := by
  have h1 := npow_bd (nrmR_bd ha hb) n
  have h2 : 0 < nrmR a b ^ n := Int.pow_pos (nrmR_pos hp)
  unfold bd at h1
  omega
theorem nrmN_mul {m n : Nat} (ha : a.natAbs ≤ 1000) (hb : b.natAbs ≤ 1000) (hp : 1 ≤ a) : (nrmR a b ^ m).toNat * (nrmR a b ^ n).toNat = (nrmR a b ^ (m + n)).toNat := by
  have h1 := (nrmN (n := m) ha hb hp).2.2
  have h2 := (nrmN (n := n) ha hb hp).2.2
  have h3 := (nrmN (n := m + n) ha hb hp).2.2
  have : (((nrmR a b ^ m).toNat * (nrmR a b ^ n).toNat : Nat) : Int) = ((nrmR a b ^ (m + n)).toNat : Int) := by
    rw [Int.natCast_mul, h1, h2, h3, Int.pow_add]
  exact Int.ofNat_inj.1 this
theorem fchk_rq {z : Int} {n : Nat} (hz : bd (2 * n) z) (hn : n ≤ 1024) (ha : a.natAbs ≤ 1000) (hb : b.natAbs ≤ 1000) (hp : 1 ≤ a) : fchk (enc (mkRat z (nrmR a b ^ n).toNat)) = 0 :=
  fchk_enc _ (lngQ hz (by omega) (nrmN ha hb hp).1 (by omega) (nrmN ha hb hp).2.1)
theorem gchk_rpow {n : Nat} (hn : n ≤ 1024) (ha : a.natAbs ≤ 1000) (hb : b.natAbs ≤ 1000) (hp : 1 ≤ a) : gchk (rpow a b n) = 0 := by
  obtain ⟨h1, h2⟩ := gpow_bd ha hb (2 * n)
  unfold gchk fchk2 rpow
  dsimp only
  rw [fchk_rq h1 hn ha hb hp, fchk_rq h2 hn ha hb hp]
  rfl
theorem gmul_rpow {m n : Nat} (hmn : m + n ≤ 1024) (ha : a.natAbs ≤ 1000) (hb : b.natAbs ≤ 1000) (hp : 1 ≤ a) : gmul (rpow a b m) (rpow a b n) = (rpow a b (m + n), 0) := by
  obtain ⟨x1, y1⟩ := gpow_bd ha hb (2 * m)
  obtain ⟨x2, y2⟩ := gpow_bd ha hb (2 * n)
  obtain ⟨z1, z2⟩ := gpow_bd ha hb (2 * (m + n))
  have e0 : 2 * (m + n) = 2 * m + 2 * n := by omega
  have g1 : gchk2 (rpow a b m) (rpow a b n) = 0 := by
    unfold gchk2
    rw [gchk_rpow (by omega) ha hb hp, gchk_rpow (by omega) ha hb hp]
    rfl
  have ga := gpow_add a b (2 * m) (2 * n)
  rw [← e0] at ga
  obtain ⟨c1, c2, _⟩ := nrmN (n := m) ha hb hp
  obtain ⟨d1, d2, _⟩ := nrmN (n := n) ha hb hp
  obtain ⟨f1, f2, _⟩ := nrmN (n := m + n) ha hb hp
  have ed := nrmN_mul (m := m) (n := n) ha hb hp
  have k : 2 * m + 2 * n ≤ 2100 := by omega
  have k2 : 2 * (m + n) ≤ 2100 := by omega
  rw [e0] at f1
  rw [ga] at z1 z2
  rw [e0] at z1 z2
  have p : wprod 0 (rpow a b m) (rpow a b n) = ((rpow a b (m + n)).re, (rpow a b (m + n)).im, 0) := by
    unfold wprod rpow
    dsimp only
    rw [wmul_q x1 x2 k c1 d1 c2 d2, ed]
    dsimp only
    rw [wmul_q y1 y2 k c1 d1 c2 d2, ed]
    dsimp only
    rw [wsub_q (x1.mul x2) (y1.mul y2) z1 k f1 f2]
    dsimp only
    rw [wmul_q x1 y2 k c1 d1 c2 d2, ed]
    dsimp only
    rw [wmul_q y1 x2 k c1 d1 c2 d2, ed]
    dsimp only
    rw [wadd_q (x1.mul y2) (y1.mul x2) z2 k f1 f2]
    rw [ga]
  unfold gmul
  rw [g1, p]
  exact gtell_ok
end
def rB (r : El tRot) : Int := r.2.1
theorem rng_of {z : Int} {m : Nat} (h : z.natAbs ≤ m) (hm : m ≤ 9000000000 := by decide) : -9223372036854775808 ≤ z ∧ z ≤ 9223372036854775807 := by omega
noncomputable def sp_rparts : Spec := { q := .un, ps := [tRot], rs := [.it .i64, .it .i64, .it .i64], fresh := true, pre := fun _ x => some (rotB x.1), post := fun _ x => ((), (rA x.1 * rA x.1 - rB x.1 * rB x.1, (2 * rA x.1 * rB x.1, (rA x.1 * rA x.1 + rB x.1 * rB x.1, ())))) }
noncomputable def iv_rparts (y : El sp_rparts.q) (x : Els sp_rparts.ps) : Nat → Option Inv := fun _ => none
noncomputable abbrev c_rparts : Cfg := cfgS (Tryz.f242).ntmps false []
def F_rparts (y : El sp_rparts.q) (x : Els sp_rparts.ps) : Prop :=
  ((-9223372036854775808 : Int) ≤ IntKind.i64.wrap x.1.1 * IntKind.i64.wrap x.1.1 ∧ IntKind.i64.wrap x.1.1 * IntKind.i64.wrap x.1.1 ≤ (9223372036854775807 : Int)) ∧ ((-9223372036854775808 : Int) ≤ IntKind.i64.wrap x.1.2.1 * IntKind.i64.wrap x.1.2.1 ∧ IntKind.i64.wrap x.1.2.1 * IntKind.i64.wrap x.1.2.1 ≤ (9223372036854775807 : Int)) ∧ ((-9223372036854775808 : Int) ≤ IntKind.i64.wrap x.1.1 * IntKind.i64.wrap x.1.1 - IntKind.i64.wrap x.1.2.1 * IntKind.i64.wrap x.1.2.1 ∧ IntKind.i64.wrap x.1.1 * IntKind.i64.wrap x.1.1 - IntKind.i64.wrap x.1.2.1 * IntKind.i64.wrap x.1.2.1 ≤ (9223372036854775807 : Int)) ∧ ((-9223372036854775808 : Int) ≤ (2 : Int) * IntKind.i64.wrap x.1.1 ∧ (2 : Int) * IntKind.i64.wrap x.1.1 ≤ (9223372036854775807 : Int)) ∧ ((-9223372036854775808 : Int) ≤ (2 : Int) * IntKind.i64.wrap x.1.1 * IntKind.i64.wrap x.1.2.1 ∧ (2 : Int) * IntKind.i64.wrap x.1.1 * IntKind.i64.wrap x.1.2.1 ≤ (9223372036854775807 : Int)) ∧ ((-9223372036854775808 : Int) ≤ IntKind.i64.wrap x.1.1 * IntKind.i64.wrap x.1.1 ∧ IntKind.i64.wrap x.1.1 * IntKind.i64.wrap x.1.1 ≤ (9223372036854775807 : Int)) ∧ ((-9223372036854775808 : Int) ≤ IntKind.i64.wrap x.1.2.1 * IntKind.i64.wrap x.1.2.1 ∧ IntKind.i64.wrap x.1.2.1 * IntKind.i64.wrap x.1.2.1 ≤ (9223372036854775807 : Int)) ∧ ((-9223372036854775808 : Int) ≤ IntKind.i64.wrap x.1.1 * IntKind.i64.wrap x.1.1 + IntKind.i64.wrap x.1.2.1 * IntKind.i64.wrap x.1.2.1 ∧ IntKind.i64.wrap x.1.1 * IntKind.i64.wrap x.1.1 + IntKind.i64.wrap x.1.2.1 * IntKind.i64.wrap x.1.2.1 ≤ (9223372036854775807 : Int)) ∧ (IntKind.i64.wrap x.1.1 * IntKind.i64.wrap x.1.1 - IntKind.i64.wrap x.1.2.1 * IntKind.i64.wrap x.1.2.1, (2 : Int) * IntKind.i64.wrap x.1.1 * IntKind.i64.wrap x.1.2.1, IntKind.i64.wrap x.1.1 * IntKind.i64.wrap x.1.1 + IntKind.i64.wrap x.1.2.1 * IntKind.i64.wrap x.1.2.1, ()) = (rA x.1 * rA x.1 - rB x.1 * rB x.1, (2 : El (Ty.it IntKind.i64)) * rA x.1 * rB x.1, rA x.1 * rA x.1 + rB x.1 * rB x.1, ())
theorem w_rparts (y : El sp_rparts.q) (x : Els sp_rparts.ps) : aW c_rparts (iv_rparts y x) Tryz.f242 sp_rparts y x = F_rparts y x := by kernel_rfl
theorem m_rparts (y : El (.un)) (x : Els [tRot]) (h2 : wfE (.un) y) (h3 : wfEs [tRot] x) (h4 : rotB x.1) : F_rparts y x := by
  unfold F_rparts
  have hb := h4
  unfold rotB rotI at hb
  simp only [wrap64_32 (i32_rng h3.1.1), wrap64_32 (i32_rng h3.1.2.1)]
  have sq : ∀ {u v : Int} {m n : Nat}, u.natAbs ≤ m → v.natAbs ≤ n → (u * v).natAbs ≤ m * n := fun hu hv => by
    rw [Int.natAbs_mul]
    exact Nat.mul_le_mul hu hv
  have a0 : Int.natAbs x.1.1 ≤ 1000 := by omega
  have b0 : Int.natAbs x.1.2.1 ≤ 1000 := by omega
  have c0 : Int.natAbs (Int.mul 2 x.1.1) ≤ 2000 := by
    have := sq (u := 2) (m := 2) (by decide) a0
    exact this
  have s1 := sq a0 a0
  have s2 := sq b0 b0
  have s3 := sq c0 b0
  have s4 : Int.natAbs (2 * Int.add 0 x.1.1) ≤ 2000 := by
    have := sq (u := 2) (m := 2) (by decide) a0
    show Int.natAbs (2 * Int.add 0 x.1.1) ≤ 2000
    rw [show Int.add 0 x.1.1 = x.1.1 from Int.zero_add _]
    exact this
  refine ⟨?_, ?_, ?_, ?_, ?_, ?_, ?_, ?_, rfl⟩
  all_goals first | (constructor <;> omega) | exact rng_of c0 | exact rng_of s3
theorem fo_rparts : FnOk Tryz.prog 242 sp_rparts := fnOk_of (C := c_rparts) iv_rparts Tryz.func242 rfl (by kernel_rfl) tys_ok prims_nil mixed_ (Nat.le_refl _) rfl fun y x h1 h2 h3 h4 =>
  Eq.mpr (w_rparts y x) (m_rparts y x h2 h3 h4)
theorem fsmall_q {z d : Int} {j k : Nat} (hz : bd j z) (hj : j ≤ 2100) (hd : d.toNat ≤ 2000 ^ k) (hk : k ≤ 2100) (h0 : 0 < d) : (fsmall z d).1 = enc (mkRat z d.toNat) := by
  have es : sg (decide (z < 0) != decide (d < 0)) z.natAbs = z := by
    rw [decide_eq_false (show ¬ d < 0 by omega), Bool.bne_false]
    unfold sg
    by_cases h : z < 0
    · rw [if_pos (by simpa using h)]; omega
    · rw [if_neg (by simpa using h)]; omega
  unfold fsmall
  rw [if_neg (by omega), es, show d.natAbs = d.toNat by omega, tell_ok (lngQ hz hj hd hk (by omega))]
theorem rpow_1 {a b : Int} (ha : a.natAbs ≤ 1000) (hb : b.natAbs ≤ 1000) (hp : 1 ≤ a) : (⟨(fsmall (a * a - b * b) (a * a + b * b)).1, (fsmall (2 * a * b) (a * a + b * b)).1⟩ : Ga) = rpow a b 1 := by
  obtain ⟨g1, g2⟩ := gpow_bd ha hb 2
  have e1 : (gpow a b 2).1 = a * a - b * b := by
    show ((1 * a - 0 * b) * a - (1 * b + 0 * a) * b) = _
    simp
  have e2 : (gpow a b 2).2 = 2 * a * b := by
    show ((1 * a - 0 * b) * b + (1 * b + 0 * a) * a) = _
    simp
    rw [Int.mul_comm b a, Int.mul_assoc]
    omega
  rw [e1] at g1
  rw [e2] at g2
  have n1 := nrmR_bd ha hb
  have n2 := nrmR_pos (b := b) hp
  unfold bd at n1
  unfold nrmR at n1 n2
  have hd : (a * a + b * b).toNat ≤ 2000 ^ 2 := by omega
  unfold rpow
  rw [fsmall_q g1 (by decide) hd (by decide) n2, fsmall_q g2 (by decide) hd (by decide) n2, e1, e2, Int.pow_succ, Int.pow_zero, Int.one_mul]
  rfl
theorem rpow_0 (a b : Int) : gint 1 0 = rpow a b 0 := by
  unfold gint rpow
  have hz : bd 0 1 := by show (1 : Int).natAbs ≤ 2000 ^ 0; decide
  have hy : bd 0 0 := by show (0 : Int).natAbs ≤ 2000 ^ 0; decide
  rw [fsmall_q (k := 0) hz (by decide) (by decide) (by decide) (by decide), fsmall_q (k := 0) hy (by decide) (by decide) (by decide) (by decide), Int.pow_zero]
  rfl
noncomputable def sp_rnumber : Spec := { q := .un, ps := [tRot], rs := [tG], fresh := true, pre := fun _ x => some (rotB x.1), post := fun _ x => ((), (ofGa (rpow (rA x.1) (rB x.1) 1), ())) }
noncomputable def iv_rnumber (y : El sp_rnumber.q) (x : Els sp_rnumber.ps) : Nat → Option Inv := fun _ => none
noncomputable abbrev c_rnumber : Cfg := cfgS (Tryz.f183).ntmps false [(242, sp_rparts.prim), (59, sp_rSmall.prim)]
def F_rnumber (y : El sp_rnumber.q) (x : Els sp_rnumber.ps) : Prop :=
  ((1 : Int) ≤ x.1.1 ∧ x.1.1 ≤ (1000 : Int) ∧ (-1000 : Int) ≤ x.1.2.1 ∧ x.1.2.1 ≤ (1000 : Int) ∧ x.1.2.1 ≠ (0 : Int) ∧ x.1.1 ≠ x.1.2.1 ∧ x.1.1 ≠ -x.1.2.1 ∧ Int.gcd x.1.1 x.1.2.1 = (1 : Nat)) ∧ ∀ (r : Ro [Ty.it IntKind.i64, Ty.it IntKind.i64, Ty.it IntKind.i64]), r = ((), rA x.1 * rA x.1 - rB x.1 * rB x.1, (2 : El (Ty.it IntKind.i64)) * rA x.1 * rB x.1, rA x.1 * rA x.1 + rB x.1 * rB x.1, ()) → ∀ (r_1 : Ro [tR, Ty.it IntKind.i64]), r_1 = pR (fsmall r.2.1 r.2.2.2.1) → ∀ (r_2 : Ro [tR, Ty.it IntKind.i64]), r_2 = pR (fsmall r.2.2.1 r.2.2.2.1) → ((r_1.2.1, r_2.2.1, ()), ()) = (ofGa (rpow (rA x.1) (rB x.1) (1 : Nat)), ())
theorem w_rnumber (y : El sp_rnumber.q) (x : Els sp_rnumber.ps) : aW c_rnumber (iv_rnumber y x) Tryz.f183 sp_rnumber y x = F_rnumber y x := by kernel_rfl
theorem m_rnumber (y : El (.un)) (x : Els [tRot]) (h2 : wfE (.un) y) (h3 : wfEs [tRot] x) (h4 : rotB x.1) : F_rnumber y x := by
  unfold F_rnumber
  have hb := h4
  unfold rotB rotI at hb
  refine ⟨h4, ?_⟩
  rintro _ rfl _ rfl _ rfl
  have := rpow_1 (a := rA x.1) (b := rB x.1) (by unfold rA; omega) (by unfold rB; omega) (by unfold rA; omega)
  exact congrArg (fun g => ((ofGa g, ()) : El tG × Unit)) this
theorem fo_rnumber : FnOk Tryz.prog 183 sp_rnumber := fnOk_of (C := c_rnumber) iv_rnumber Tryz.func183 rfl (by kernel_rfl) tys_ok (prims_cons (spec_prim fo_rparts) (prims_cons (spec_prim fo_rSmall) prims_nil)) mixed_ (Nat.le_refl _) rfl fun y x h1 h2 h3 h4 =>
  Eq.mpr (w_rnumber y x) (m_rnumber y x h2 h3 h4)
theorem bit_one (t : Nat) (h : t ≤ 1024) : IntKind.i64.wrap (((BitVec.ofInt IntKind.i64.bits (t : Int) &&& BitVec.ofInt IntKind.i64.bits (1 : Int)).toNat : Nat) : Int) = ((t % 2 : Nat) : Int) := by
  have e : (BitVec.ofInt IntKind.i64.bits (t : Int) &&& BitVec.ofInt IntKind.i64.bits (1 : Int)).toNat = t % 2 := by
    rw [BitVec.toNat_and, BitVec.toNat_ofInt, BitVec.toNat_ofInt]
    have b : IntKind.i64.bits = 64 := rfl
    rw [b]
    have e1 : ((t : Int) % (2 ^ 64 : Nat)).toNat = t := by omega
    have e2 : ((1 : Int) % (2 ^ 64 : Nat)).toNat = 1 := by decide
    rw [e1, e2, Nat.and_one_is_mod]
  rw [e]
  exact wrap_id (by have : IntKind.i64.min = -9223372036854775808 := rfl; omega) (by have : IntKind.i64.max = 9223372036854775807 := rfl; omega)
theorem shr_one (t : Nat) : ((t / 2 : Nat) : Int) = (t : Int).fdiv ((2 : Int) ^ min (Int.toNat (1 : Int)) IntKind.i64.bits) := by
  have e : ((2 : Int) ^ min (Int.toNat (1 : Int)) IntKind.i64.bits) = 2 := by decide
  rw [e, Int.fdiv_eq_ediv_of_nonneg _ (by decide)]
  rfl
theorem st_odd {m k t n : Nat} (h : m + k * t = n) (o : t % 2 = 1) : (m + k) + (k + k) * (t / 2) = n := by
  obtain ⟨q, rfl⟩ : ∃ q, t = 2 * q + 1 := ⟨t / 2, by omega⟩
  have e1 : (2 * q + 1) / 2 = q := by omega
  have e2 : k * (2 * q + 1) = (k + k) * q + k := by rw [Nat.mul_add, Nat.mul_one, ← Nat.mul_assoc, Nat.mul_two]
  rw [e1]
  omega
theorem st_even {m k t n : Nat} (h : m + k * t = n) (o : t % 2 = 0) : m + (k + k) * (t / 2) = n := by
  obtain ⟨q, rfl⟩ : ∃ q, t = 2 * q := ⟨t / 2, by omega⟩
  have e1 : (2 * q) / 2 = q := by omega
  have e2 : k * (2 * q) = (k + k) * q := by rw [← Nat.mul_assoc, Nat.mul_two]
  rw [e1]
  omega
theorem rotI_neg {a b : Int} (h : rotI a b) : rotI a (-b) := by
  unfold rotI at *
  obtain ⟨h1, h2, h3, h4, h5, h6, h7, h8⟩ := h
  exact ⟨h1, h2, by omega, by omega, by omega, by omega, by omega, by rw [Int.gcd_neg]; exact h8⟩
theorem rotB_neg {r : El tRot} (h : rotB r) : rotB (r.1, Int.neg r.2.1, ()) := rotI_neg h
noncomputable def sp_rPow : Spec := { q := .un, ps := [tRot, .it .i64], rs := [tG, .it .i64], fresh := true, pre := fun _ _ => none, post := fun _ x => ((), powR x.1 x.2.1) }
noncomputable def iv_rPow (y : El sp_rPow.q) (x : Els sp_rPow.ps) : Nat → Option Inv := fun k => if k = 0 then some { X := Nat × Nat × Nat, tm := fun i => [(1, .c (.sc (.int .i64 i.1))), (4, .c (.pv 11 0)), (7, .c (.pv 1 0)), (8, .c (.pv 2 0))], ob := fun i => [(1, .var [.sc (.bool (rpow (rA x.1) (powB x.1.2.1 x.2.1) i.2.1).re.neg), .ow 3, .ow 4, .sc (.bool (rpow (rA x.1) (powB x.1.2.1 x.2.1) i.2.1).im.neg), .ow 5, .ow 6]), (3, .ty 91 (.it .u32) (rpow (rA x.1) (powB x.1.2.1 x.2.1) i.2.1).re.num 0), (4, .ty 91 (.it .u32) (rpow (rA x.1) (powB x.1.2.1 x.2.1) i.2.1).re.den 0), (5, .ty 91 (.it .u32) (rpow (rA x.1) (powB x.1.2.1 x.2.1) i.2.1).im.num 0), (6, .ty 91 (.it .u32) (rpow (rA x.1) (powB x.1.2.1 x.2.1) i.2.1).im.den 0), (2, .var [.sc (.bool (rpow (rA x.1) (powB x.1.2.1 x.2.1) i.2.2).re.neg), .ow 7, .ow 8, .sc (.bool (rpow (rA x.1) (powB x.1.2.1 x.2.1) i.2.2).im.neg), .ow 9, .ow 10]), (7, .ty 91 (.it .u32) (rpow (rA x.1) (powB x.1.2.1 x.2.1) i.2.2).re.num 0), (8, .ty 91 (.it .u32) (rpow (rA x.1) (powB x.1.2.1 x.2.1) i.2.2).re.den 0), (9, .ty 91 (.it .u32) (rpow (rA x.1) (powB x.1.2.1 x.2.1) i.2.2).im.num 0), (10, .ty 91 (.it .u32) (rpow (rA x.1) (powB x.1.2.1 x.2.1) i.2.2).im.den 0), (11, .var (cel tG (ofGa Ga.zero)))], n := 12, I := fun i => i.2.1 + i.2.2 * i.1 = (x.2.1 : Int).natAbs ∧ 1 ≤ i.2.2, μ := fun i => i.1 } else none
noncomputable abbrev c_rPow : Cfg := cfgS (Tryz.f107).ntmps false [(106, sp_rCk.prim), (40, sp_gInt.prim), (183, sp_rnumber.prim), (108, sp_gMul.prim)]
def F_rPow (y : El sp_rPow.q) (x : Els sp_rPow.ps) : Prop :=
  (fun A B : Int => ∀ (r : Ro [Ty.it IntKind.i64]), r = ((), rotC x.1, ()) → ((r.2.1 != (0 : Int)) = true → (((false, [], [], ()), (false, [], [], ()), ()), r.2) = powR x.1 x.2.1) ∧ ((r.2.1 != (0 : Int)) = false → (decide (x.2.1 < (-1024 : Int)) = true → (((false, [], [], ()), (false, [], [], ()), ()), (2 : Int), ()) = powR x.1 x.2.1) ∧ (decide (x.2.1 < (-1024 : Int)) = false → (decide (x.2.1 > (1024 : Int)) = true → (((false, [], [], ()), (false, [], [], ()), ()), (2 : Int), ()) = powR x.1 x.2.1) ∧ (decide (x.2.1 > (1024 : Int)) = false → (decide (x.2.1 < (0 : Int)) = true → ((-9223372036854775808 : Int) ≤ -x.2.1 ∧ -x.2.1 ≤ (9223372036854775807 : Int)) ∧ ∀ (r : Ro [tG]), r = ((), ofGa { re := (fsmall (1 : Int) (1 : Int)).1, im := (fsmall (0 : Int) (1 : Int)).1 }, ()) → ((1 : Int) ≤ x.1.1 ∧ x.1.1 ≤ (1000 : Int) ∧ (-1000 : Int) ≤ IntKind.i32.wrap ((0 : Int) - x.1.2.1) ∧ IntKind.i32.wrap ((0 : Int) - x.1.2.1) ≤ (1000 : Int) ∧ IntKind.i32.wrap ((0 : Int) - x.1.2.1) ≠ (0 : Int) ∧ x.1.1 ≠ IntKind.i32.wrap ((0 : Int) - x.1.2.1) ∧ x.1.1 ≠ -IntKind.i32.wrap ((0 : Int) - x.1.2.1) ∧ Int.gcd x.1.1 (IntKind.i32.wrap ((0 : Int) - x.1.2.1)) = (1 : Nat)) ∧ ∀ (r_1 : Ro [tG]), r_1 = ((), ofGa (rpow (rA (x.1.1, IntKind.i32.wrap ((0 : Int) - x.1.2.1), ())) (rB (x.1.1, IntKind.i32.wrap ((0 : Int) - x.1.2.1), ())) (1 : Nat)), ()) → (∃ (x_1 : Nat × Nat × Nat), (↑x_1.1 : Int) = -x.2.1 ∧ (rpow A B x_1.2.1).re.neg = r.2.1.1.1 ∧ (rpow A B x_1.2.1).im.neg = r.2.1.2.1.1 ∧ (rpow A B x_1.2.1).re.num = r.2.1.1.2.1 ∧ (rpow A B x_1.2.1).re.den = r.2.1.1.2.2.1 ∧ (rpow A B x_1.2.1).im.num = r.2.1.2.1.2.1 ∧ (rpow A B x_1.2.1).im.den = r.2.1.2.1.2.2.1 ∧ (rpow A B x_1.2.2).re.neg = r_1.2.1.1.1 ∧ (rpow A B x_1.2.2).im.neg = r_1.2.1.2.1.1 ∧ (rpow A B x_1.2.2).re.num = r_1.2.1.1.2.1 ∧ (rpow A B x_1.2.2).re.den = r_1.2.1.1.2.2.1 ∧ (rpow A B x_1.2.2).im.num = r_1.2.1.2.1.2.1 ∧ (rpow A B x_1.2.2).im.den = r_1.2.1.2.1.2.2.1 ∧ (ofGa Ga.zero).1.1 = false ∧ (ofGa Ga.zero).1.2.1 = [] ∧ (ofGa Ga.zero).1.2.2.1 = [] ∧ (ofGa Ga.zero).2.1.1 = false ∧ (ofGa Ga.zero).2.1.2.1 = [] ∧ (ofGa Ga.zero).2.1.2.2.1 = [] ∧ x_1.2.1 + x_1.2.2 * x_1.1 = Int.natAbs x.2.1 ∧ (1 : Nat) ≤ x_1.2.2) ∧ ∀ (x_1 : Nat × Nat × Nat), x_1.2.1 + x_1.2.2 * x_1.1 = Int.natAbs x.2.1 ∧ (1 : Nat) ≤ x_1.2.2 → (decide ((↑x_1.1 : Int) > (0 : Int)) = true → ((IntKind.i64.wrap (↑(BitVec.ofInt IntKind.i64.bits (↑x_1.1 : Int) &&& BitVec.ofInt IntKind.i64.bits (1 : Int)).toNat : Int) == (1 : Int)) = true → ∀ (r : Ro [tG, Ty.it IntKind.i64]), r = pG (gmul (toGa (((rpow A B x_1.2.1).re.neg, (rpow A B x_1.2.1).re.num, (rpow A B x_1.2.1).re.den, ()), ((rpow A B x_1.2.1).im.neg, (rpow A B x_1.2.1).im.num, (rpow A B x_1.2.1).im.den, ()), ())) (toGa (((rpow A B x_1.2.2).re.neg, (rpow A B x_1.2.2).re.num, (rpow A B x_1.2.2).re.den, ()), ((rpow A B x_1.2.2).im.neg, (rpow A B x_1.2.2).im.num, (rpow A B x_1.2.2).im.den, ()), ()))) → (decide ((↑x_1.1 : Int) > (1 : Int)) = true → ∀ (r_2 : Ro [tG, Ty.it IntKind.i64]), r_2 = pG (gmul (toGa (((rpow A B x_1.2.2).re.neg, (rpow A B x_1.2.2).re.num, (rpow A B x_1.2.2).re.den, ()), ((rpow A B x_1.2.2).im.neg, (rpow A B x_1.2.2).im.num, (rpow A B x_1.2.2).im.den, ()), ())) (toGa (((rpow A B x_1.2.2).re.neg, (rpow A B x_1.2.2).re.num, (rpow A B x_1.2.2).re.den, ()), ((rpow A B x_1.2.2).im.neg, (rpow A B x_1.2.2).im.num, (rpow A B x_1.2.2).im.den, ()), ()))) → (0 : Int) ≤ (1 : Int) ∧ ∃ (x' : Nat × Nat × Nat), (↑x'.1 : Int) = (↑x_1.1 : Int).fdiv ((2 : Int) ^ min (Int.toNat (1 : Int)) IntKind.i64.bits) ∧ (rpow A B x'.2.1).re.neg = r.2.1.1.1 ∧ (rpow A B x'.2.1).im.neg = r.2.1.2.1.1 ∧ (rpow A B x'.2.1).re.num = r.2.1.1.2.1 ∧ (rpow A B x'.2.1).re.den = r.2.1.1.2.2.1 ∧ (rpow A B x'.2.1).im.num = r.2.1.2.1.2.1 ∧ (rpow A B x'.2.1).im.den = r.2.1.2.1.2.2.1 ∧ (rpow A B x'.2.2).re.neg = r_2.2.1.1.1 ∧ (rpow A B x'.2.2).im.neg = r_2.2.1.2.1.1 ∧ (rpow A B x'.2.2).re.num = r_2.2.1.1.2.1 ∧ (rpow A B x'.2.2).re.den = r_2.2.1.1.2.2.1 ∧ (rpow A B x'.2.2).im.num = r_2.2.1.2.1.2.1 ∧ (rpow A B x'.2.2).im.den = r_2.2.1.2.1.2.2.1 ∧ (ofGa Ga.zero).1.1 = (ofGa Ga.zero).1.1 ∧ (ofGa Ga.zero).1.2.1 = (ofGa Ga.zero).1.2.1 ∧ (ofGa Ga.zero).1.2.2.1 = (ofGa Ga.zero).1.2.2.1 ∧ (ofGa Ga.zero).2.1.1 = (ofGa Ga.zero).2.1.1 ∧ (ofGa Ga.zero).2.1.2.1 = (ofGa Ga.zero).2.1.2.1 ∧ (ofGa Ga.zero).2.1.2.2.1 = (ofGa Ga.zero).2.1.2.2.1 ∧ (x'.2.1 + x'.2.2 * x'.1 = Int.natAbs x.2.1 ∧ (1 : Nat) ≤ x'.2.2) ∧ x'.1 < x_1.1) ∧ (decide ((↑x_1.1 : Int) > (1 : Int)) = false → (0 : Int) ≤ (1 : Int) ∧ ∃ (x' : Nat × Nat × Nat), (↑x'.1 : Int) = (↑x_1.1 : Int).fdiv ((2 : Int) ^ min (Int.toNat (1 : Int)) IntKind.i64.bits) ∧ (rpow A B x'.2.1).re.neg = r.2.1.1.1 ∧ (rpow A B x'.2.1).im.neg = r.2.1.2.1.1 ∧ (rpow A B x'.2.1).re.num = r.2.1.1.2.1 ∧ (rpow A B x'.2.1).re.den = r.2.1.1.2.2.1 ∧ (rpow A B x'.2.1).im.num = r.2.1.2.1.2.1 ∧ (rpow A B x'.2.1).im.den = r.2.1.2.1.2.2.1 ∧ (rpow A B x'.2.2).re.neg = (rpow A B x_1.2.2).re.neg ∧ (rpow A B x'.2.2).im.neg = (rpow A B x_1.2.2).im.neg ∧ (rpow A B x'.2.2).re.num = (rpow A B x_1.2.2).re.num ∧ (rpow A B x'.2.2).re.den = (rpow A B x_1.2.2).re.den ∧ (rpow A B x'.2.2).im.num = (rpow A B x_1.2.2).im.num ∧ (rpow A B x'.2.2).im.den = (rpow A B x_1.2.2).im.den ∧ (ofGa Ga.zero).1.1 = (ofGa Ga.zero).1.1 ∧ (ofGa Ga.zero).1.2.1 = (ofGa Ga.zero).1.2.1 ∧ (ofGa Ga.zero).1.2.2.1 = (ofGa Ga.zero).1.2.2.1 ∧ (ofGa Ga.zero).2.1.1 = (ofGa Ga.zero).2.1.1 ∧ (ofGa Ga.zero).2.1.2.1 = (ofGa Ga.zero).2.1.2.1 ∧ (ofGa Ga.zero).2.1.2.2.1 = (ofGa Ga.zero).2.1.2.2.1 ∧ (x'.2.1 + x'.2.2 * x'.1 = Int.natAbs x.2.1 ∧ (1 : Nat) ≤ x'.2.2) ∧ x'.1 < x_1.1)) ∧ ((IntKind.i64.wrap (↑(BitVec.ofInt IntKind.i64.bits (↑x_1.1 : Int) &&& BitVec.ofInt IntKind.i64.bits (1 : Int)).toNat : Int) == (1 : Int)) = false → (decide ((↑x_1.1 : Int) > (1 : Int)) = true → ∀ (r : Ro [tG, Ty.it IntKind.i64]), r = pG (gmul (toGa (((rpow A B x_1.2.2).re.neg, (rpow A B x_1.2.2).re.num, (rpow A B x_1.2.2).re.den, ()), ((rpow A B x_1.2.2).im.neg, (rpow A B x_1.2.2).im.num, (rpow A B x_1.2.2).im.den, ()), ())) (toGa (((rpow A B x_1.2.2).re.neg, (rpow A B x_1.2.2).re.num, (rpow A B x_1.2.2).re.den, ()), ((rpow A B x_1.2.2).im.neg, (rpow A B x_1.2.2).im.num, (rpow A B x_1.2.2).im.den, ()), ()))) → (0 : Int) ≤ (1 : Int) ∧ ∃ (x' : Nat × Nat × Nat), (↑x'.1 : Int) = (↑x_1.1 : Int).fdiv ((2 : Int) ^ min (Int.toNat (1 : Int)) IntKind.i64.bits) ∧ (rpow A B x'.2.1).re.neg = (rpow A B x_1.2.1).re.neg ∧ (rpow A B x'.2.1).im.neg = (rpow A B x_1.2.1).im.neg ∧ (rpow A B x'.2.1).re.num = (rpow A B x_1.2.1).re.num ∧ (rpow A B x'.2.1).re.den = (rpow A B x_1.2.1).re.den ∧ (rpow A B x'.2.1).im.num = (rpow A B x_1.2.1).im.num ∧ (rpow A B x'.2.1).im.den = (rpow A B x_1.2.1).im.den ∧ (rpow A B x'.2.2).re.neg = r.2.1.1.1 ∧ (rpow A B x'.2.2).im.neg = r.2.1.2.1.1 ∧ (rpow A B x'.2.2).re.num = r.2.1.1.2.1 ∧ (rpow A B x'.2.2).re.den = r.2.1.1.2.2.1 ∧ (rpow A B x'.2.2).im.num = r.2.1.2.1.2.1 ∧ (rpow A B x'.2.2).im.den = r.2.1.2.1.2.2.1 ∧ (ofGa Ga.zero).1.1 = (ofGa Ga.zero).1.1 ∧ (ofGa Ga.zero).1.2.1 = (ofGa Ga.zero).1.2.1 ∧ (ofGa Ga.zero).1.2.2.1 = (ofGa Ga.zero).1.2.2.1 ∧ (ofGa Ga.zero).2.1.1 = (ofGa Ga.zero).2.1.1 ∧ (ofGa Ga.zero).2.1.2.1 = (ofGa Ga.zero).2.1.2.1 ∧ (ofGa Ga.zero).2.1.2.2.1 = (ofGa Ga.zero).2.1.2.2.1 ∧ (x'.2.1 + x'.2.2 * x'.1 = Int.natAbs x.2.1 ∧ (1 : Nat) ≤ x'.2.2) ∧ x'.1 < x_1.1) ∧ (decide ((↑x_1.1 : Int) > (1 : Int)) = false → (0 : Int) ≤ (1 : Int) ∧ ∃ (x' : Nat × Nat × Nat), (↑x'.1 : Int) = (↑x_1.1 : Int).fdiv ((2 : Int) ^ min (Int.toNat (1 : Int)) IntKind.i64.bits) ∧ (rpow A B x'.2.1).re.neg = (rpow A B x_1.2.1).re.neg ∧ (rpow A B x'.2.1).im.neg = (rpow A B x_1.2.1).im.neg ∧ (rpow A B x'.2.1).re.num = (rpow A B x_1.2.1).re.num ∧ (rpow A B x'.2.1).re.den = (rpow A B x_1.2.1).re.den ∧ (rpow A B x'.2.1).im.num = (rpow A B x_1.2.1).im.num ∧ (rpow A B x'.2.1).im.den = (rpow A B x_1.2.1).im.den ∧ (rpow A B x'.2.2).re.neg = (rpow A B x_1.2.2).re.neg ∧ (rpow A B x'.2.2).im.neg = (rpow A B x_1.2.2).im.neg ∧ (rpow A B x'.2.2).re.num = (rpow A B x_1.2.2).re.num ∧ (rpow A B x'.2.2).re.den = (rpow A B x_1.2.2).re.den ∧ (rpow A B x'.2.2).im.num = (rpow A B x_1.2.2).im.num ∧ (rpow A B x'.2.2).im.den = (rpow A B x_1.2.2).im.den ∧ (ofGa Ga.zero).1.1 = (ofGa Ga.zero).1.1 ∧ (ofGa Ga.zero).1.2.1 = (ofGa Ga.zero).1.2.1 ∧ (ofGa Ga.zero).1.2.2.1 = (ofGa Ga.zero).1.2.2.1 ∧ (ofGa Ga.zero).2.1.1 = (ofGa Ga.zero).2.1.1 ∧ (ofGa Ga.zero).2.1.2.1 = (ofGa Ga.zero).2.1.2.1 ∧ (ofGa Ga.zero).2.1.2.2.1 = (ofGa Ga.zero).2.1.2.2.1 ∧ (x'.2.1 + x'.2.2 * x'.1 = Int.natAbs x.2.1 ∧ (1 : Nat) ≤ x'.2.2) ∧ x'.1 < x_1.1))) ∧ (decide ((↑x_1.1 : Int) > (0 : Int)) = false → ((((rpow A B x_1.2.1).re.neg, (rpow A B x_1.2.1).re.num, (rpow A B x_1.2.1).re.den, ()), ((rpow A B x_1.2.1).im.neg, (rpow A B x_1.2.1).im.num, (rpow A B x_1.2.1).im.den, ()), ()), (0 : Int), ()) = powR x.1 x.2.1)) ∧ (decide (x.2.1 < (0 : Int)) = false → ∀ (r : Ro [tG]), r = ((), ofGa { re := (fsmall (1 : Int) (1 : Int)).1, im := (fsmall (0 : Int) (1 : Int)).1 }, ()) → ((1 : Int) ≤ x.1.1 ∧ x.1.1 ≤ (1000 : Int) ∧ (-1000 : Int) ≤ x.1.2.1 ∧ x.1.2.1 ≤ (1000 : Int) ∧ x.1.2.1 ≠ (0 : Int) ∧ x.1.1 ≠ x.1.2.1 ∧ x.1.1 ≠ -x.1.2.1 ∧ Int.gcd x.1.1 x.1.2.1 = (1 : Nat)) ∧ ∀ (r_1 : Ro [tG]), r_1 = ((), ofGa (rpow A (rB x.1) (1 : Nat)), ()) → (∃ (x_1 : Nat × Nat × Nat), (↑x_1.1 : Int) = x.2.1 ∧ (rpow A B x_1.2.1).re.neg = r.2.1.1.1 ∧ (rpow A B x_1.2.1).im.neg = r.2.1.2.1.1 ∧ (rpow A B x_1.2.1).re.num = r.2.1.1.2.1 ∧ (rpow A B x_1.2.1).re.den = r.2.1.1.2.2.1 ∧ (rpow A B x_1.2.1).im.num = r.2.1.2.1.2.1 ∧ (rpow A B x_1.2.1).im.den = r.2.1.2.1.2.2.1 ∧ (rpow A B x_1.2.2).re.neg = r_1.2.1.1.1 ∧ (rpow A B x_1.2.2).im.neg = r_1.2.1.2.1.1 ∧ (rpow A B x_1.2.2).re.num = r_1.2.1.1.2.1 ∧ (rpow A B x_1.2.2).re.den = r_1.2.1.1.2.2.1 ∧ (rpow A B x_1.2.2).im.num = r_1.2.1.2.1.2.1 ∧ (rpow A B x_1.2.2).im.den = r_1.2.1.2.1.2.2.1 ∧ (ofGa Ga.zero).1.1 = false ∧ (ofGa Ga.zero).1.2.1 = [] ∧ (ofGa Ga.zero).1.2.2.1 = [] ∧ (ofGa Ga.zero).2.1.1 = false ∧ (ofGa Ga.zero).2.1.2.1 = [] ∧ (ofGa Ga.zero).2.1.2.2.1 = [] ∧ x_1.2.1 + x_1.2.2 * x_1.1 = Int.natAbs x.2.1 ∧ (1 : Nat) ≤ x_1.2.2) ∧ ∀ (x_1 : Nat × Nat × Nat), x_1.2.1 + x_1.2.2 * x_1.1 = Int.natAbs x.2.1 ∧ (1 : Nat) ≤ x_1.2.2 → (decide ((↑x_1.1 : Int) > (0 : Int)) = true → ((IntKind.i64.wrap (↑(BitVec.ofInt IntKind.i64.bits (↑x_1.1 : Int) &&& BitVec.ofInt IntKind.i64.bits (1 : Int)).toNat : Int) == (1 : Int)) = true → ∀ (r : Ro [tG, Ty.it IntKind.i64]), r = pG (gmul (toGa (((rpow A B x_1.2.1).re.neg, (rpow A B x_1.2.1).re.num, (rpow A B x_1.2.1).re.den, ()), ((rpow A B x_1.2.1).im.neg, (rpow A B x_1.2.1).im.num, (rpow A B x_1.2.1).im.den, ()), ())) (toGa (((rpow A B x_1.2.2).re.neg, (rpow A B x_1.2.2).re.num, (rpow A B x_1.2.2).re.den, ()), ((rpow A B x_1.2.2).im.neg, (rpow A B x_1.2.2).im.num, (rpow A B x_1.2.2).im.den, ()), ()))) → (decide ((↑x_1.1 : Int) > (1 : Int)) = true → ∀ (r_2 : Ro [tG, Ty.it IntKind.i64]), r_2 = pG (gmul (toGa (((rpow A B x_1.2.2).re.neg, (rpow A B x_1.2.2).re.num, (rpow A B x_1.2.2).re.den, ()), ((rpow A B x_1.2.2).im.neg, (rpow A B x_1.2.2).im.num, (rpow A B x_1.2.2).im.den, ()), ())) (toGa (((rpow A B x_1.2.2).re.neg, (rpow A B x_1.2.2).re.num, (rpow A B x_1.2.2).re.den, ()), ((rpow A B x_1.2.2).im.neg, (rpow A B x_1.2.2).im.num, (rpow A B x_1.2.2).im.den, ()), ()))) → (0 : Int) ≤ (1 : Int) ∧ ∃ (x' : Nat × Nat × Nat), (↑x'.1 : Int) = (↑x_1.1 : Int).fdiv ((2 : Int) ^ min (Int.toNat (1 : Int)) IntKind.i64.bits) ∧ (rpow A B x'.2.1).re.neg = r.2.1.1.1 ∧ (rpow A B x'.2.1).im.neg = r.2.1.2.1.1 ∧ (rpow A B x'.2.1).re.num = r.2.1.1.2.1 ∧ (rpow A B x'.2.1).re.den = r.2.1.1.2.2.1 ∧ (rpow A B x'.2.1).im.num = r.2.1.2.1.2.1 ∧ (rpow A B x'.2.1).im.den = r.2.1.2.1.2.2.1 ∧ (rpow A B x'.2.2).re.neg = r_2.2.1.1.1 ∧ (rpow A B x'.2.2).im.neg = r_2.2.1.2.1.1 ∧ (rpow A B x'.2.2).re.num = r_2.2.1.1.2.1 ∧ (rpow A B x'.2.2).re.den = r_2.2.1.1.2.2.1 ∧ (rpow A B x'.2.2).im.num = r_2.2.1.2.1.2.1 ∧ (rpow A B x'.2.2).im.den = r_2.2.1.2.1.2.2.1 ∧ (ofGa Ga.zero).1.1 = (ofGa Ga.zero).1.1 ∧ (ofGa Ga.zero).1.2.1 = (ofGa Ga.zero).1.2.1 ∧ (ofGa Ga.zero).1.2.2.1 = (ofGa Ga.zero).1.2.2.1 ∧ (ofGa Ga.zero).2.1.1 = (ofGa Ga.zero).2.1.1 ∧ (ofGa Ga.zero).2.1.2.1 = (ofGa Ga.zero).2.1.2.1 ∧ (ofGa Ga.zero).2.1.2.2.1 = (ofGa Ga.zero).2.1.2.2.1 ∧ (x'.2.1 + x'.2.2 * x'.1 = Int.natAbs x.2.1 ∧ (1 : Nat) ≤ x'.2.2) ∧ x'.1 < x_1.1) ∧ (decide ((↑x_1.1 : Int) > (1 : Int)) = false → (0 : Int) ≤ (1 : Int) ∧ ∃ (x' : Nat × Nat × Nat), (↑x'.1 : Int) = (↑x_1.1 : Int).fdiv ((2 : Int) ^ min (Int.toNat (1 : Int)) IntKind.i64.bits) ∧ (rpow A B x'.2.1).re.neg = r.2.1.1.1 ∧ (rpow A B x'.2.1).im.neg = r.2.1.2.1.1 ∧ (rpow A B x'.2.1).re.num = r.2.1.1.2.1 ∧ (rpow A B x'.2.1).re.den = r.2.1.1.2.2.1 ∧ (rpow A B x'.2.1).im.num = r.2.1.2.1.2.1 ∧ (rpow A B x'.2.1).im.den = r.2.1.2.1.2.2.1 ∧ (rpow A B x'.2.2).re.neg = (rpow A B x_1.2.2).re.neg ∧ (rpow A B x'.2.2).im.neg = (rpow A B x_1.2.2).im.neg ∧ (rpow A B x'.2.2).re.num = (rpow A B x_1.2.2).re.num ∧ (rpow A B x'.2.2).re.den = (rpow A B x_1.2.2).re.den ∧ (rpow A B x'.2.2).im.num = (rpow A B x_1.2.2).im.num ∧ (rpow A B x'.2.2).im.den = (rpow A B x_1.2.2).im.den ∧ (ofGa Ga.zero).1.1 = (ofGa Ga.zero).1.1 ∧ (ofGa Ga.zero).1.2.1 = (ofGa Ga.zero).1.2.1 ∧ (ofGa Ga.zero).1.2.2.1 = (ofGa Ga.zero).1.2.2.1 ∧ (ofGa Ga.zero).2.1.1 = (ofGa Ga.zero).2.1.1 ∧ (ofGa Ga.zero).2.1.2.1 = (ofGa Ga.zero).2.1.2.1 ∧ (ofGa Ga.zero).2.1.2.2.1 = (ofGa Ga.zero).2.1.2.2.1 ∧ (x'.2.1 + x'.2.2 * x'.1 = Int.natAbs x.2.1 ∧ (1 : Nat) ≤ x'.2.2) ∧ x'.1 < x_1.1)) ∧ ((IntKind.i64.wrap (↑(BitVec.ofInt IntKind.i64.bits (↑x_1.1 : Int) &&& BitVec.ofInt IntKind.i64.bits (1 : Int)).toNat : Int) == (1 : Int)) = false → (decide ((↑x_1.1 : Int) > (1 : Int)) = true → ∀ (r : Ro [tG, Ty.it IntKind.i64]), r = pG (gmul (toGa (((rpow A B x_1.2.2).re.neg, (rpow A B x_1.2.2).re.num, (rpow A B x_1.2.2).re.den, ()), ((rpow A B x_1.2.2).im.neg, (rpow A B x_1.2.2).im.num, (rpow A B x_1.2.2).im.den, ()), ())) (toGa (((rpow A B x_1.2.2).re.neg, (rpow A B x_1.2.2).re.num, (rpow A B x_1.2.2).re.den, ()), ((rpow A B x_1.2.2).im.neg, (rpow A B x_1.2.2).im.num, (rpow A B x_1.2.2).im.den, ()), ()))) → (0 : Int) ≤ (1 : Int) ∧ ∃ (x' : Nat × Nat × Nat), (↑x'.1 : Int) = (↑x_1.1 : Int).fdiv ((2 : Int) ^ min (Int.toNat (1 : Int)) IntKind.i64.bits) ∧ (rpow A B x'.2.1).re.neg = (rpow A B x_1.2.1).re.neg ∧ (rpow A B x'.2.1).im.neg = (rpow A B x_1.2.1).im.neg ∧ (rpow A B x'.2.1).re.num = (rpow A B x_1.2.1).re.num ∧ (rpow A B x'.2.1).re.den = (rpow A B x_1.2.1).re.den ∧ (rpow A B x'.2.1).im.num = (rpow A B x_1.2.1).im.num ∧ (rpow A B x'.2.1).im.den = (rpow A B x_1.2.1).im.den ∧ (rpow A B x'.2.2).re.neg = r.2.1.1.1 ∧ (rpow A B x'.2.2).im.neg = r.2.1.2.1.1 ∧ (rpow A B x'.2.2).re.num = r.2.1.1.2.1 ∧ (rpow A B x'.2.2).re.den = r.2.1.1.2.2.1 ∧ (rpow A B x'.2.2).im.num = r.2.1.2.1.2.1 ∧ (rpow A B x'.2.2).im.den = r.2.1.2.1.2.2.1 ∧ (ofGa Ga.zero).1.1 = (ofGa Ga.zero).1.1 ∧ (ofGa Ga.zero).1.2.1 = (ofGa Ga.zero).1.2.1 ∧ (ofGa Ga.zero).1.2.2.1 = (ofGa Ga.zero).1.2.2.1 ∧ (ofGa Ga.zero).2.1.1 = (ofGa Ga.zero).2.1.1 ∧ (ofGa Ga.zero).2.1.2.1 = (ofGa Ga.zero).2.1.2.1 ∧ (ofGa Ga.zero).2.1.2.2.1 = (ofGa Ga.zero).2.1.2.2.1 ∧ (x'.2.1 + x'.2.2 * x'.1 = Int.natAbs x.2.1 ∧ (1 : Nat) ≤ x'.2.2) ∧ x'.1 < x_1.1) ∧ (decide ((↑x_1.1 : Int) > (1 : Int)) = false → (0 : Int) ≤ (1 : Int) ∧ ∃ (x' : Nat × Nat × Nat), (↑x'.1 : Int) = (↑x_1.1 : Int).fdiv ((2 : Int) ^ min (Int.toNat (1 : Int)) IntKind.i64.bits) ∧ (rpow A B x'.2.1).re.neg = (rpow A B x_1.2.1).re.neg ∧ (rpow A B x'.2.1).im.neg = (rpow A B x_1.2.1).im.neg ∧ (rpow A B x'.2.1).re.num = (rpow A B x_1.2.1).re.num ∧ (rpow A B x'.2.1).re.den = (rpow A B x_1.2.1).re.den ∧ (rpow A B x'.2.1).im.num = (rpow A B x_1.2.1).im.num ∧ (rpow A B x'.2.1).im.den = (rpow A B x_1.2.1).im.den ∧ (rpow A B x'.2.2).re.neg = (rpow A B x_1.2.2).re.neg ∧ (rpow A B x'.2.2).im.neg = (rpow A B x_1.2.2).im.neg ∧ (rpow A B x'.2.2).re.num = (rpow A B x_1.2.2).re.num ∧ (rpow A B x'.2.2).re.den = (rpow A B x_1.2.2).re.den ∧ (rpow A B x'.2.2).im.num = (rpow A B x_1.2.2).im.num ∧ (rpow A B x'.2.2).im.den = (rpow A B x_1.2.2).im.den ∧ (ofGa Ga.zero).1.1 = (ofGa Ga.zero).1.1 ∧ (ofGa Ga.zero).1.2.1 = (ofGa Ga.zero).1.2.1 ∧ (ofGa Ga.zero).1.2.2.1 = (ofGa Ga.zero).1.2.2.1 ∧ (ofGa Ga.zero).2.1.1 = (ofGa Ga.zero).2.1.1 ∧ (ofGa Ga.zero).2.1.2.1 = (ofGa Ga.zero).2.1.2.1 ∧ (ofGa Ga.zero).2.1.2.2.1 = (ofGa Ga.zero).2.1.2.2.1 ∧ (x'.2.1 + x'.2.2 * x'.1 = Int.natAbs x.2.1 ∧ (1 : Nat) ≤ x'.2.2) ∧ x'.1 < x_1.1))) ∧ (decide ((↑x_1.1 : Int) > (0 : Int)) = false → ((((rpow A B x_1.2.1).re.neg, (rpow A B x_1.2.1).re.num, (rpow A B x_1.2.1).re.den, ()), ((rpow A B x_1.2.1).im.neg, (rpow A B x_1.2.1).im.num, (rpow A B x_1.2.1).im.den, ()), ()), (0 : Int), ()) = powR x.1 x.2.1)))))) (rA x.1) (powB x.1.2.1 x.2.1)
theorem w_rPow (y : El sp_rPow.q) (x : Els sp_rPow.ps) : aW c_rPow (iv_rPow y x) Tryz.f107 sp_rPow y x = F_rPow y x := by kernel_rfl
theorem m_rPow (y : El (.un)) (x : Els [tRot, .it .i64]) (h2 : wfE (.un) y) (h3 : wfEs [tRot, .it .i64] x) : F_rPow y x := by
  unfold F_rPow
  rintro _ rfl
  refine ⟨fun h => pw_1 (neT h), fun h => ⟨fun h1 => pw_2 (neF h) (.inl (ltT h1)), fun h1 => ⟨fun h2 => pw_2 (neF h) (.inr (gtT h2)), fun h2 => ?_⟩⟩⟩
  have hC := neF h
  have hb := rotC_0 hC
  unfold rotB rotI at hb
  have h1 := ltF h1
  have h2 := gtF h2
  have hB := rotC_0 hC
  have ha : (rA x.1).natAbs ≤ 1000 := by unfold rA; omega
  have hp : 1 ≤ rA x.1 := by unfold rA; omega
  have hbb : (powB x.1.2.1 x.2.1).natAbs ≤ 1000 := by unfold powB; split <;> omega
  have hn : Int.natAbs x.2.1 ≤ 1024 := by omega
  refine ⟨fun s => ?_, fun s => ?_⟩
  · have s := ltT s
    have eb : powB x.1.2.1 x.2.1 = Int.neg x.1.2.1 := if_pos s
    have wn : IntKind.i32.wrap ((0 : Int) - x.1.2.1) = Int.neg x.1.2.1 := wrap32_neg (a := x.1.2.1) (by omega)
    refine ⟨neg_rng h1 h2, ?_⟩
    rintro _ rfl
    rw [wn]
    refine ⟨rotB_neg hB, ?_⟩
    intro r1 hr1
    obtain rfl : r1 = ((), ofGa (rpow (rA x.1) (powB x.1.2.1 x.2.1) 1), ()) := by rw [hr1, eb]; rfl
    refine ⟨⟨(Int.natAbs x.2.1, 0, 1), abs_neg_ s, by rw [← rpow_0]; rfl, by rw [← rpow_0]; rfl, by rw [← rpow_0]; rfl, by rw [← rpow_0]; rfl, by rw [← rpow_0]; rfl, by rw [← rpow_0]; rfl, rfl, rfl, rfl, rfl, rfl, rfl, rfl, rfl, rfl, rfl, rfl, rfl, by show 0 + 1 * Int.natAbs x.2.1 = _; omega, Nat.le_refl _⟩, fun i hi => ⟨fun l => ?_, fun l => ?_⟩⟩
    · obtain ⟨t, m, k⟩ := i
      obtain ⟨hi, k1⟩ : m + k * t = Int.natAbs x.2.1 ∧ 1 ≤ k := hi
      have l : 0 < (t : Int) := gtT l
      have kt : k * 1 ≤ k * t := Nat.mul_le_mul_left k (by omega)
      have tl : t ≤ 1024 := by
        have := Nat.mul_le_mul_right t k1
        omega
      have td : t / 2 < t := by omega
      have bo := bit_one t tl
      have sh := shr_one t
      refine ⟨fun o => ?_, fun o => ?_⟩
      · have o : t % 2 = 1 := by
          have := eqT o
          dsimp only at this
          rw [bo] at this
          omega
        intro r hr
        obtain rfl : r = pG (rpow (rA x.1) (powB x.1.2.1 x.2.1) (m + k), 0) := hr.trans (congrArg pG (gmul_rpow (m := m) (n := k) (by omega) ha hbb hp))
        refine ⟨fun g => ?_, fun g => ?_⟩
        · have g : 1 < (t : Int) := gtT g
          have k2 : k * 2 ≤ k * t := Nat.mul_le_mul_left k (by omega)
          intro r2 hr2
          obtain rfl : r2 = pG (rpow (rA x.1) (powB x.1.2.1 x.2.1) (k + k), 0) := hr2.trans (congrArg pG (gmul_rpow (m := k) (n := k) (by omega) ha hbb hp))
          refine ⟨by decide, (t / 2, m + k, k + k), ?_⟩
          and_intros
          all_goals first | rfl | exact sh | exact st_odd hi o | exact td | (show 1 ≤ k + k; omega)
        · have g : (t : Int) ≤ 1 := gtF g
          refine ⟨by decide, (t / 2, m + k, k), ?_⟩
          have t1 : t = 1 := by omega
          and_intros
          all_goals first | rfl | exact sh | exact td | exact k1 | (show m + k + k * (t / 2) = _; rw [t1] at hi ⊢; omega)
      · have o : t % 2 = 0 := by
          have := eqF o
          dsimp only at this
          rw [bo] at this
          omega
        refine ⟨fun g => ?_, fun g => ?_⟩
        · have g : 1 < (t : Int) := gtT g
          have k2 : k * 2 ≤ k * t := Nat.mul_le_mul_left k (by omega)
          intro r2 hr2
          obtain rfl : r2 = pG (rpow (rA x.1) (powB x.1.2.1 x.2.1) (k + k), 0) := hr2.trans (congrArg pG (gmul_rpow (m := k) (n := k) (by omega) ha hbb hp))
          refine ⟨by decide, (t / 2, m, k + k), ?_⟩
          and_intros
          all_goals first | rfl | exact sh | exact st_even hi o | exact td | (show 1 ≤ k + k; omega)
        · have g : (t : Int) ≤ 1 := gtF g
          omega
    · obtain ⟨t, m, k⟩ := i
      obtain ⟨hi, k1⟩ : m + k * t = Int.natAbs x.2.1 ∧ 1 ≤ k := hi
      have l : (t : Int) ≤ 0 := gtF l
      have t0 : t = 0 := by omega
      rw [← pw_3 hC (by omega)]
      have e : m = Int.natAbs x.2.1 := by rw [t0] at hi; omega
      rw [← e]
  · have s := ltF s
    have eb : powB x.1.2.1 x.2.1 = x.1.2.1 := if_neg (by omega)
    rintro _ rfl
    refine ⟨hB, ?_⟩
    intro r1 hr1
    obtain rfl : r1 = ((), ofGa (rpow (rA x.1) (powB x.1.2.1 x.2.1) 1), ()) := by rw [hr1, eb]; rfl
    refine ⟨⟨(Int.natAbs x.2.1, 0, 1), abs_pos_ s, by rw [← rpow_0]; rfl, by rw [← rpow_0]; rfl, by rw [← rpow_0]; rfl, by rw [← rpow_0]; rfl, by rw [← rpow_0]; rfl, by rw [← rpow_0]; rfl, rfl, rfl, rfl, rfl, rfl, rfl, rfl, rfl, rfl, rfl, rfl, rfl, by show 0 + 1 * Int.natAbs x.2.1 = _; omega, Nat.le_refl _⟩, fun i hi => ⟨fun l => ?_, fun l => ?_⟩⟩
    · obtain ⟨t, m, k⟩ := i
      obtain ⟨hi, k1⟩ : m + k * t = Int.natAbs x.2.1 ∧ 1 ≤ k := hi
      have l : 0 < (t : Int) := gtT l
      have kt : k * 1 ≤ k * t := Nat.mul_le_mul_left k (by omega)
      have tl : t ≤ 1024 := by
        have := Nat.mul_le_mul_right t k1
        omega
      have td : t / 2 < t := by omega
      have bo := bit_one t tl
      have sh := shr_one t
      refine ⟨fun o => ?_, fun o => ?_⟩
      · have o : t % 2 = 1 := by
          have := eqT o
          dsimp only at this
          rw [bo] at this
          omega
        intro r hr
        obtain rfl : r = pG (rpow (rA x.1) (powB x.1.2.1 x.2.1) (m + k), 0) := hr.trans (congrArg pG (gmul_rpow (m := m) (n := k) (by omega) ha hbb hp))
        refine ⟨fun g => ?_, fun g => ?_⟩
        · have g : 1 < (t : Int) := gtT g
          have k2 : k * 2 ≤ k * t := Nat.mul_le_mul_left k (by omega)
          intro r2 hr2
          obtain rfl : r2 = pG (rpow (rA x.1) (powB x.1.2.1 x.2.1) (k + k), 0) := hr2.trans (congrArg pG (gmul_rpow (m := k) (n := k) (by omega) ha hbb hp))
          refine ⟨by decide, (t / 2, m + k, k + k), ?_⟩
          and_intros
          all_goals first | rfl | exact sh | exact st_odd hi o | exact td | (show 1 ≤ k + k; omega)
        · have g : (t : Int) ≤ 1 := gtF g
          refine ⟨by decide, (t / 2, m + k, k), ?_⟩
          have t1 : t = 1 := by omega
          and_intros
          all_goals first | rfl | exact sh | exact td | exact k1 | (show m + k + k * (t / 2) = _; rw [t1] at hi ⊢; omega)
      · have o : t % 2 = 0 := by
          have := eqF o
          dsimp only at this
          rw [bo] at this
          omega
        refine ⟨fun g => ?_, fun g => ?_⟩
        · have g : 1 < (t : Int) := gtT g
          have k2 : k * 2 ≤ k * t := Nat.mul_le_mul_left k (by omega)
          intro r2 hr2
          obtain rfl : r2 = pG (rpow (rA x.1) (powB x.1.2.1 x.2.1) (k + k), 0) := hr2.trans (congrArg pG (gmul_rpow (m := k) (n := k) (by omega) ha hbb hp))
          refine ⟨by decide, (t / 2, m, k + k), ?_⟩
          and_intros
          all_goals first | rfl | exact sh | exact st_even hi o | exact td | (show 1 ≤ k + k; omega)
        · have g : (t : Int) ≤ 1 := gtF g
          omega
    · obtain ⟨t, m, k⟩ := i
      obtain ⟨hi, k1⟩ : m + k * t = Int.natAbs x.2.1 ∧ 1 ≤ k := hi
      have l : (t : Int) ≤ 0 := gtF l
      have t0 : t = 0 := by omega
      rw [← pw_3 hC (by omega)]
      have e : m = Int.natAbs x.2.1 := by rw [t0] at hi; omega
      rw [← e]
theorem fo_rPow : FnOk Tryz.prog 107 sp_rPow := fnOk_of (C := c_rPow) iv_rPow Tryz.func107 rfl (by kernel_rfl) tys_ok (prims_cons (spec_prim fo_rCk) (prims_cons (spec_prim fo_gInt) (prims_cons (spec_prim fo_rnumber) (prims_cons (spec_prim fo_gMul) prims_nil)))) mixed_ (Nat.le_refl _) rfl fun y x h1 h2 h3 h4 =>
  Eq.mpr (w_rPow y x) (m_rPow y x h2 h3)
section
variable {a b c d : Int} {i : Nat}
end
section
variable {a b : El tRot} {n : Int}
end
end Go.Proofs.YtemlaompalbgiaaGreatDoor
namespace Go.Proofs.YtemlaompalbgiaaGreatDoor
section
variable {a b c d p q r s : Rat}
variable (la : ¬ lng a = true) (lb : ¬ lng b = true) (lc : ¬ lng c = true) (ld : ¬ lng d = true)
include la lb lc ld
end
end Go.Proofs.YtemlaompalbgiaaGreatDoor
namespace Go.Proofs.YtemlaompalbgiaaGreatDoor
open Go Go.RowKit
def b_sp : ByteArray := ⟨#[32]⟩
def okG (s : ByteArray) : Bool := decide (s.size ≤ 65536) && (cutB s b_sp).2.2 && okR (cutB s b_sp).1 && okR (cutB s b_sp).2.1
def valG (s : ByteArray) : Ga := ⟨valR (cutB s b_sp).1, valR (cutB s b_sp).2.1⟩
theorem okG_of {s : ByteArray} (h : okG s = true) : s.size ≤ 65536 ∧ (cutB s b_sp).2.2 = true ∧ okR (cutB s b_sp).1 = true ∧ okR (cutB s b_sp).2.1 = true := by
  unfold okG at h
  simp only [Bool.and_eq_true, decide_eq_true_eq] at h
  exact ⟨h.1.1.1, h.1.1.2, h.1.2, h.2⟩
noncomputable def sp_gParse : Spec := { q := .un, ps := [.st], rs := [tG, .it .i64], fresh := true, pre := fun _ x => some (okG x.1 = true), post := fun _ x => pG (valG x.1, 0) }
noncomputable def iv_gParse (y : El sp_gParse.q) (x : Els sp_gParse.ps) : Nat → Option Inv := fun _ => none
noncomputable abbrev c_gParse : Cfg := cfgS (Tryz.f15).ntmps false [(87, sp_sCut.prim), (52, sp_rParse.prim)]
def F_gParse (y : El sp_gParse.q) (x : Els sp_gParse.ps) : Prop :=
  (decide ((↑(ByteArray.size x.1) : Int) > (65536 : Int)) = true → (((false, [], [], ()), (false, [], [], ()), ()), (3 : Int), ()) = (pG (valG x.1, (0 : Int))).2) ∧ (decide ((↑(ByteArray.size x.1) : Int) > (65536 : Int)) = false → (⟨#[(32 : UInt8)]⟩ : ByteArray).size = (1 : Nat) ∧ ∀ (r : Ro [Ty.st, Ty.st, Ty.bo]), r = ((), (cutB x.1 (⟨#[(32 : UInt8)]⟩ : ByteArray)).1, (cutB x.1 (⟨#[(32 : UInt8)]⟩ : ByteArray)).2.1, (cutB x.1 (⟨#[(32 : UInt8)]⟩ : ByteArray)).2.2, ()) → okR r.2.1 = true ∧ ∀ (r_1 : Ro [tR, Ty.it IntKind.i64]), r_1 = pR (valR r.2.1, (0 : Int)) → okR r.2.2.1 = true ∧ ∀ (r_2 : Ro [tR, Ty.it IntKind.i64]), r_2 = pR (valR r.2.2.1, (0 : Int)) → ((!r.2.2.2.1) = true → (((false, [], [], ()), (false, [], [], ()), ()), (140 : Int), ()) = (pG (valG x.1, (0 : Int))).2) ∧ ((!r.2.2.2.1) = false → ((r_1.2.2.1 != (0 : Int)) = true → ((r_1.2.2.1 != (3 : Int)) = true → (((false, [], [], ()), (false, [], [], ()), ()), (140 : Int), ()) = (pG (valG x.1, (0 : Int))).2) ∧ ((r_1.2.2.1 != (3 : Int)) = false → ((r_2.2.2.1 != (0 : Int)) = true → ((r_2.2.2.1 != (3 : Int)) = true → (((false, [], [], ()), (false, [], [], ()), ()), (140 : Int), ()) = (pG (valG x.1, (0 : Int))).2) ∧ ((r_2.2.2.1 != (3 : Int)) = false → ((r_1.2.2.1 != (0 : Int)) = true → (((false, [], [], ()), (false, [], [], ()), ()), (3 : Int), ()) = (pG (valG x.1, (0 : Int))).2) ∧ ((r_1.2.2.1 != (0 : Int)) = false → ((r_2.2.2.1 != (0 : Int)) = true → (((false, [], [], ()), (false, [], [], ()), ()), (3 : Int), ()) = (pG (valG x.1, (0 : Int))).2) ∧ ((r_2.2.2.1 != (0 : Int)) = false → ((r_1.2.1, r_2.2.1, ()), (0 : Int), ()) = (pG (valG x.1, (0 : Int))).2)))) ∧ ((r_2.2.2.1 != (0 : Int)) = false → ((r_1.2.2.1 != (0 : Int)) = true → (((false, [], [], ()), (false, [], [], ()), ()), (3 : Int), ()) = (pG (valG x.1, (0 : Int))).2) ∧ ((r_1.2.2.1 != (0 : Int)) = false → ((r_2.2.2.1 != (0 : Int)) = true → (((false, [], [], ()), (false, [], [], ()), ()), (3 : Int), ()) = (pG (valG x.1, (0 : Int))).2) ∧ ((r_2.2.2.1 != (0 : Int)) = false → ((r_1.2.1, r_2.2.1, ()), (0 : Int), ()) = (pG (valG x.1, (0 : Int))).2))))) ∧ ((r_1.2.2.1 != (0 : Int)) = false → ((r_2.2.2.1 != (0 : Int)) = true → ((r_2.2.2.1 != (3 : Int)) = true → (((false, [], [], ()), (false, [], [], ()), ()), (140 : Int), ()) = (pG (valG x.1, (0 : Int))).2) ∧ ((r_2.2.2.1 != (3 : Int)) = false → ((r_1.2.2.1 != (0 : Int)) = true → (((false, [], [], ()), (false, [], [], ()), ()), (3 : Int), ()) = (pG (valG x.1, (0 : Int))).2) ∧ ((r_1.2.2.1 != (0 : Int)) = false → ((r_2.2.2.1 != (0 : Int)) = true → (((false, [], [], ()), (false, [], [], ()), ()), (3 : Int), ()) = (pG (valG x.1, (0 : Int))).2) ∧ ((r_2.2.2.1 != (0 : Int)) = false → ((r_1.2.1, r_2.2.1, ()), (0 : Int), ()) = (pG (valG x.1, (0 : Int))).2)))) ∧ ((r_2.2.2.1 != (0 : Int)) = false → ((r_1.2.2.1 != (0 : Int)) = true → (((false, [], [], ()), (false, [], [], ()), ()), (3 : Int), ()) = (pG (valG x.1, (0 : Int))).2) ∧ ((r_1.2.2.1 != (0 : Int)) = false → ((r_2.2.2.1 != (0 : Int)) = true → (((false, [], [], ()), (false, [], [], ()), ()), (3 : Int), ()) = (pG (valG x.1, (0 : Int))).2) ∧ ((r_2.2.2.1 != (0 : Int)) = false → ((r_1.2.1, r_2.2.1, ()), (0 : Int), ()) = (pG (valG x.1, (0 : Int))).2))))))
theorem w_gParse (y : El sp_gParse.q) (x : Els sp_gParse.ps) : aW c_gParse (iv_gParse y x) Tryz.f15 sp_gParse y x = F_gParse y x := by kernel_rfl
theorem m_gParse (y : El (.un)) (x : Els [.st]) (h2 : wfE (.un) y) (h3 : wfEs [.st] x) (h4 : okG x.1 = true) : F_gParse y x := by
  unfold F_gParse
  obtain ⟨q1, q2, q3, q4⟩ := okG_of h4
  refine ⟨fun h => absurd (Int.ofNat_lt.1 (gtT h)) (Nat.not_lt.2 q1), fun _ => ⟨rfl, ?_⟩⟩
  rintro _ rfl
  refine ⟨q3, ?_⟩
  rintro _ rfl
  refine ⟨q4, ?_⟩
  rintro _ rfl
  refine ⟨fun h => ?_, fun _ => ⟨fun h => Bool.noConfusion (show false = true from h), fun _ => ⟨fun h => Bool.noConfusion (show false = true from h), fun _ => ⟨fun h => Bool.noConfusion (show false = true from h), fun _ => ⟨fun h => Bool.noConfusion (show false = true from h), fun _ => rfl⟩⟩⟩⟩⟩
  have h : (cutB x.1 b_sp).2.2 = false := ntt h
  rw [q2] at h
  cases h
theorem fo_gParse : FnOk Tryz.prog 15 sp_gParse := fnOk_of (C := c_gParse) iv_gParse Tryz.func15 rfl (by kernel_rfl) tys_ok (prims_cons (spec_prim fo_sCut) (prims_cons (spec_prim fo_rParse) prims_nil)) mixed_ (Nat.le_refl _) rfl fun y x h1 h2 h3 h4 =>
  Eq.mpr (w_gParse y x) (m_gParse y x h2 h3 h4)
end Go.Proofs.YtemlaompalbgiaaGreatDoor
namespace Go.Proofs.YtemlaompalbgiaaGreatDoor
open Go Go.RowKit Go.Maps
theorem lo_ : laidOutB Tryz.prog = true := by kernel_rfl
theorem rot_law : Keyed Tryz.prog 35 := Keyed.of_law (deep_law_laid (m := 100) lo_ (by decide) (of_decide_eq_true (by kernel_rfl)) (by kernel_rfl) (by kernel_rfl))
theorem str_law : Keyed Tryz.prog 9 := string_keyed Tryz.underlying9
theorem rot_kt : Tryz.prog.keyType 35 = true := by kernel_rfl
theorem rot_lits (d : Nat) (a b : Int) : Tryz.prog.keyLits (d + 2) 35 [.int .i32 a, .int .i32 b] = if (Lit.int .i32 a).wf = true then (if (Lit.int .i32 b).wf = true then some [.int .i32 a, .int .i32 b] else none) else none := by
  unfold Program.keyLits
  rw [Tryz.underlying35]
  simp only [show Tryz.prog.cellsOf 35 = 2 by kernel_rfl]
  unfold Program.keyLits
  simp [show Tryz.prog.cellsOf 21 = 1 by kernel_rfl, Tryz.underlying21]
  split <;> split <;> simp_all
theorem rot_key {a b : Int} (ha : (Lit.int .i32 a).wf = true) (hb : (Lit.int .i32 b).wf = true) : ∃ l, keyOf Tryz.prog 35 (.agg #[.int .i32 a, .int .i32 b]) = some l := by
  have h : (Value.agg #[.int .i32 a, .int .i32 b]).formed Tryz.prog 35 = true := by
    unfold Value.formed
    rw [Tryz.underlying35, show Tryz.prog.cellsOf 35 = 2 by kernel_rfl]
    rfl
  unfold keyOf
  rw [Tryz.underlying35]
  dsimp only
  rw [rot_kt, h]
  have hs : ∃ d, Tryz.prog.types.size + 1 = d + 2 := ⟨Tryz.prog.types.size - 1, by have : 1 ≤ Tryz.prog.types.size := of_decide_eq_true (by kernel_rfl); omega⟩
  obtain ⟨d, hd⟩ := hs
  rw [hd]
  have := rot_lits d a b
  rw [if_pos ha, if_pos hb] at this
  rw [show (Value.agg #[Value.int .i32 a, .int .i32 b]).cells.toList = [.int .i32 a, .int .i32 b] from rfl, this]
  exact ⟨_, rfl⟩
theorem own_at {P : Program} {k : TypeId} {R : Value → Option (DataW Unit × List MemPlace)} {w w' : World} {b n : Nat} {D : DataW Unit} (h : w.ownsMap P k R b n D) (e : w'.heap[b]? = w.heap[b]?) : w'.ownsMap P k R b n D := by
  obtain ⟨es, clock, hb, r⟩ := h
  exact ⟨es, clock, e.trans hb, r⟩
theorem own_lt {P : Program} {k : TypeId} {R : Value → Option (DataW Unit × List MemPlace)} {w : World} {b n : Nat} {D : DataW Unit} (h : w.ownsMap P k R b n D) : b < w.heap.size := by
  obtain ⟨es, clock, hb, r⟩ := h
  exact (Array.getElem?_eq_some_iff.1 hb).1
theorem ext_blk {w w' : World} (e : Ext w w') {b : Nat} (hb : b < w.heap.size) : w'.heap[b]? = w.heap[b]? := (Below.block e (k := b) hb)
structure TwoM (w : World) (b1 b2 k : Nat) (D1 D2 : DataW Unit) : Prop where
  s : w.ownsMap Tryz.prog 9 unitElem b1 k D1
  r : w.ownsMap Tryz.prog 35 unitElem b2 k D2
  ne : b1 ≠ b2
theorem TwoM.ext {w w' : World} {b1 b2 k : Nat} {D1 D2 : DataW Unit} (h : TwoM w b1 b2 k D1 D2) (e : Ext w w') : TwoM w' b1 b2 k D1 D2 :=
  ⟨own_at h.s (ext_blk e (own_lt h.s)), own_at h.r (ext_blk e (own_lt h.r)), h.ne⟩
structure C3 (w : World) (g : Nat) (s : ByteArray) (a b : Int) : Prop where
  c0 : w.cell? ⟨g, 0, none⟩ = some (.string s)
  c1 : w.cell? ⟨g, 1, none⟩ = some (.int .i32 a)
  c2 : w.cell? ⟨g, 2, none⟩ = some (.int .i32 b)
theorem C3.grown {w w' : World} {g : Nat} {s : ByteArray} {a b : Int} {k : Nat} (h : C3 w g s a b) (hg : w.grownBy w' (some k)) (hn : g ≠ k) : C3 w' g s a b :=
  ⟨hg.cell h.c0 (fun e => hn (Option.some.inj e)), hg.cell h.c1 (fun e => hn (Option.some.inj e)), hg.cell h.c2 (fun e => hn (Option.some.inj e))⟩
theorem C3.all {w : World} {g : Nat} {s : ByteArray} {a b : Int} (h : C3 w g s a b) : w.cell? ⟨g, 0, none⟩ = some (.string s) ∧ w.cell? ⟨g, 1, none⟩ = some (.int .i32 a) ∧ w.cell? ⟨g, 2, none⟩ = some (.int .i32 b) := ⟨h.c0, h.c1, h.c2⟩
theorem pat_any (e i : Int) (w : World) : Calls Tryz.prog 152 #[.int .i64 e, .int .i64 i] w fun r w' => r = .returned (.agg #[.int .i64 e, .int .i64 i]) ∧ Ext w w' := by
  go_enter Tryz.func152, Tryz.ntmps152
  go_wp2_with fail
  exact bodyPost_ret (v := .agg #[.int .i64 e, .int .i64 i]) (by simp [results, Tryz.results152, go_sem]) rfl ⟨rfl, by repeat (first | (with_reducible exact Ext.refl _) | refine Ext.setCell ?_ (by simp; try omega) _ | refine Ext.alloc ?_ _)⟩
def pcF (eT : Nat → Int) (dup : Nat → Bool) : Nat → Nat → Int × Int
  | _, 0 => (0, 0)
  | i, d + 1 => if eT i ≠ 0 then (eT i, i) else if dup i = true then (5, i) else pcF eT dup (i + 1) d
def pcS (okN : Bool) (eM : Int) (n : Nat) (eT : Nat → Int) (dup : Nat → Bool) : Int × Int :=
  if okN = false then (4, -1) else if eM ≠ 0 then (eM, -1) else if 24 < n then (3, -1) else pcF eT dup 0 n
section
variable {eT : Nat → Int} {dup : Nat → Bool} {i d : Nat}
theorem pcF_bad (h : eT i ≠ 0) : pcF eT dup i (d + 1) = (eT i, (i : Int)) := if_pos h
theorem pcF_dup (h : eT i = 0) (k : dup i = true) : pcF eT dup i (d + 1) = (5, (i : Int)) := (if_neg (fun c => c h)).trans (if_pos k)
theorem pcF_next (h : eT i = 0) (k : dup i = false) : pcF eT dup i (d + 1) = pcF eT dup (i + 1) d := (if_neg (fun c => c h)).trans (if_neg (by rw [k]; decide))
end
def inN (nms : Nat → ByteArray) (i : Nat) : Bool := (List.range i).any fun j => decide (nms j = nms i)
def inR (fa ne : Nat → Int) (i : Nat) : Bool := (List.range i).any fun j => decide (fa j = fa i ∧ ne j = ne i)
def nmL (nms : Nat → ByteArray) (i : Nat) : List Lit := (List.range i).map fun j => .string (nms j).data.toList
def klL (kl : Nat → Lit) (i : Nat) : List Lit := (List.range i).map kl
abbrev unitD : DataW Unit := .agg []
theorem nm_has (nms : Nat → ByteArray) (i : Nat) : Maps.has (Maps.setOf unitD (nmL nms i)) (.string (nms i).data.toList) = inN nms i := by
  rw [Maps.has_setOf unitD _ _ (fun x hx => by
    obtain ⟨j, _, rfl⟩ := List.mem_map.1 hx
    trivial)]
  unfold nmL inN
  rw [List.any_map]
  congr 1
  funext j
  show (Lit.string (nms j).data.toList).sameKey (.string (nms i).data.toList) = _
  rw [Bool.eq_iff_iff, decide_eq_true_eq]
  constructor
  · intro h
    have := WideAt.sameKey_eq h
    injection this with h
    exact ByteArray.ext (Array.ext' h)
  · intro h
    rw [h]
    exact WideAt.sameKey_self (by trivial)
theorem kl_has {P : Program} {k : TypeId} (K : Keyed P k) (fa ne : Nat → Int) (kl : Nat → Lit) (n i : Nat) (h : ∀ j, j < n → keyOf P k (.agg #[.int .i32 (fa j), .int .i32 (ne j)]) = some (kl j)) (hi : i < n) : Maps.has (Maps.setOf unitD (klL kl i)) (kl i) = inR fa ne i := by
  have h2 := h i hi
  rw [Maps.has_setOf unitD _ _ (fun x hx => by
    obtain ⟨j, hj, rfl⟩ := List.mem_map.1 hx
    exact K.key (h j (by have := List.mem_range.1 hj; omega)))]
  unfold klL inR
  rw [List.any_map, Bool.eq_iff_iff, List.any_eq_true, List.any_eq_true]
  constructor
  · rintro ⟨j, hj, e⟩
    refine ⟨j, hj, ?_⟩
    have e := WideAt.sameKey_eq e
    have h1 := h j (by have := List.mem_range.1 hj; omega)
    rw [e] at h1
    have := K.inj h1 h2
    injection this with this
    have := congrArg Array.toList this
    simp at this
    simpa using this
  · rintro ⟨j, hj, e⟩
    refine ⟨j, hj, ?_⟩
    have e : fa j = fa i ∧ ne j = ne i := by simpa using e
    have h1 := h j (by have := List.mem_range.1 hj; omega)
    rw [e.1, e.2, h2] at h1
    injection h1 with h1
    show (kl j).sameKey (kl i) = true
    rw [h1]
    exact WideAt.sameKey_self (by rw [← h1]; exact K.key h2)
theorem nmL_succ (nms : Nat → ByteArray) (i : Nat) : (Maps.setOf unitD (nmL nms i)).put (.string (nms i).data.toList) unitD = Maps.setOf unitD (nmL nms (i + 1)) := by
  unfold nmL
  rw [List.range_succ, List.map_append, List.map_cons, List.map_nil, Maps.setOf_snoc]
theorem klL_succ (kl : Nat → Lit) (i : Nat) : (Maps.setOf unitD (klL kl i)).put (kl i) unitD = Maps.setOf unitD (klL kl (i + 1)) := by
  unfold klL
  rw [List.range_succ, List.map_append, List.map_cons, List.map_nil, Maps.setOf_snoc]
end Go.Proofs.YtemlaompalbgiaaGreatDoor
