/- Texts of this claim, joined: B24 P14 W0 W1 W2 O1 O3. -/
import Derived.ProofKit
import Derived.OpenShut
import Derived.ChangeOld
import Derived.Below
import Derived.Lib.SmallJoins
import Derived.Deep.Slices
import Derived.Deep.Fields
import Derived.ChangeSame
import Derived.ChangeMaps5
import Derived.Test.YtagipdcmjphbiaaGreatDoorQt
set_option linter.unusedVariables false
set_option linter.unusedSimpArgs false
set_option maxRecDepth 100000
namespace Go.Proofs.YtagipdcmjphbiaaGreatDoor
open Go Go.RowKit
def nearS (a b c d : Int) : Nat → Ga × Int
  | 0 => (gint 0 0, 0)
  | t + 1 => if (nearS a b c d t).2 ≠ 0 then nearS a b c d t else if (gmul (rpow a (-b) t) (rpow c d t)).2 ≠ 0 then (Ga.zero, (gmul (rpow a (-b) t) (rpow c d t)).2) else gadd (nearS a b c d t).1 (gmul (rpow a (-b) t) (rpow c d t)).1
def nearN (n : Int) (s : Ga × Int) : Fr × Int := if s.2 ≠ 0 then (Fr.zero, s.2) else if (gnorm s.1).2 ≠ 0 then (Fr.zero, (gnorm s.1).2) else fsub (fsmall (n * n) 1).1 (gnorm s.1).1
def nearR (a b : El tRot) (n : Int) : Fr × Int := if rotC a ≠ 0 then (Fr.zero, rotC a) else if rotC b ≠ 0 then (Fr.zero, rotC b) else if n < 0 ∨ 256 < n then (Fr.zero, 2) else nearN n (nearS (rA a) (rB a) (rA b) (rB b) n.toNat)
theorem gpow_neg (a b : Int) : ∀ n, gpow a (-b) n = ((gpow a b n).1, -(gpow a b n).2)
  | 0 => rfl
  | n + 1 => by
    show ((gpow a (-b) n).1 * a - (gpow a (-b) n).2 * -b, (gpow a (-b) n).1 * -b + (gpow a (-b) n).2 * a) = ((gpow a b n).1 * a - (gpow a b n).2 * b, -((gpow a b n).1 * b + (gpow a b n).2 * a))
    rw [gpow_neg a b n]
    simp only [Int.mul_neg, Int.neg_mul, Int.neg_neg, Int.neg_add]
theorem powR_pos {r : El tRot} {t : Nat} (h : rotC r = 0) (ht : t ≤ 1024) : powR r (t : Int) = ((ofGa (rpow (rA r) (rB r) t), 0, ()) : El tG × Int × Unit) := by
  rw [← pw_3 h (by omega)]
  have e : powB r.2.1 (t : Int) = rB r := if_neg (by omega)
  rw [e]
  rfl
theorem powR_neg {r : El tRot} {t : Nat} (h : rotC r = 0) (ht : t ≤ 1024) : powR r (-(t : Int)) = ((ofGa (rpow (rA r) (-(rB r)) t), 0, ()) : El tG × Int × Unit) := by
  rw [← pw_3 h (by omega), Int.natAbs_neg, Int.natAbs_natCast]
  rcases Nat.eq_zero_or_pos t with rfl | p
  · rw [← rpow_0, ← rpow_0]
  · have e : powB r.2.1 (-(t : Int)) = -(rB r) := if_pos (by omega)
    rw [e]
theorem rot_bd {r : El tRot} (h : rotC r = 0) : (rA r).natAbs ≤ 1000 ∧ (rB r).natAbs ≤ 1000 ∧ 1 ≤ rA r := by
  have hb := rotC_0 h
  unfold rotB rotI at hb
  unfold rA rB
  omega
section
variable {a b c d : Int} {i : Nat}
theorem ns_bad (h : (nearS a b c d i).2 = 0) (k : (gmul (rpow a (-b) i) (rpow c d i)).2 ≠ 0) : nearS a b c d (i + 1) = (Ga.zero, (gmul (rpow a (-b) i) (rpow c d i)).2) := by
  show (if (nearS a b c d i).2 ≠ 0 then nearS a b c d i else if (gmul (rpow a (-b) i) (rpow c d i)).2 ≠ 0 then (Ga.zero, (gmul (rpow a (-b) i) (rpow c d i)).2) else gadd (nearS a b c d i).1 (gmul (rpow a (-b) i) (rpow c d i)).1) = _
  rw [if_neg (fun c => c h), if_pos k]
theorem ns_add (h : (nearS a b c d i).2 = 0) (k : (gmul (rpow a (-b) i) (rpow c d i)).2 = 0) : nearS a b c d (i + 1) = gadd (nearS a b c d i).1 (gmul (rpow a (-b) i) (rpow c d i)).1 := by
  show (if (nearS a b c d i).2 ≠ 0 then nearS a b c d i else if (gmul (rpow a (-b) i) (rpow c d i)).2 ≠ 0 then (Ga.zero, (gmul (rpow a (-b) i) (rpow c d i)).2) else gadd (nearS a b c d i).1 (gmul (rpow a (-b) i) (rpow c d i)).1) = _
  rw [if_neg (fun c => c h), if_neg (fun c => c k)]
theorem ns_stay (h : (nearS a b c d i).2 ≠ 0) : ∀ k, nearS a b c d (i + k) = nearS a b c d i
  | 0 => rfl
  | k + 1 => by
    have ih := ns_stay h k
    show (if (nearS a b c d (i + k)).2 ≠ 0 then nearS a b c d (i + k) else _) = _
    rw [ih, if_pos h]
end
section
variable {a b : El tRot} {n : Int}
theorem near_1 (h : rotC a ≠ 0) : ((ofFr Fr.zero, rotC a, ()) : El tR × Int × Unit) = (pR (nearR a b n)).2 := by unfold nearR; rw [if_pos h]; rfl
theorem near_2 (h : rotC a = 0) (k : rotC b ≠ 0) : ((ofFr Fr.zero, rotC b, ()) : El tR × Int × Unit) = (pR (nearR a b n)).2 := by unfold nearR; rw [if_neg (fun c => c h), if_pos k]; rfl
theorem near_3 (h : rotC a = 0) (k : rotC b = 0) (l : n < 0 ∨ 256 < n) : ((ofFr Fr.zero, 2, ()) : El tR × Int × Unit) = (pR (nearR a b n)).2 := by unfold nearR; rw [if_neg (fun c => c h), if_neg (fun c => c k), if_pos l]; rfl
theorem near_4 (h : rotC a = 0) (k : rotC b = 0) (l : ¬ (n < 0 ∨ 256 < n)) : nearR a b n = nearN n (nearS (rA a) (rB a) (rA b) (rB b) n.toNat) := by unfold nearR; rw [if_neg (fun c => c h), if_neg (fun c => c k), if_neg l]
theorem near_err {i : Nat} (h : rotC a = 0) (k : rotC b = 0) (l : ¬ (n < 0 ∨ 256 < n)) (hi : i + 1 ≤ n.toNat) (m : (nearS (rA a) (rB a) (rA b) (rB b) (i + 1)).2 ≠ 0) : ((ofFr Fr.zero, (nearS (rA a) (rB a) (rA b) (rB b) (i + 1)).2, ()) : El tR × Int × Unit) = (pR (nearR a b n)).2 := by
  rw [near_4 h k l]
  have e := ns_stay m (n.toNat - (i + 1))
  rw [show i + 1 + (n.toNat - (i + 1)) = n.toNat by omega] at e
  unfold nearN
  rw [e, if_pos m]
  rfl
theorem near_nrm (h : rotC a = 0) (k : rotC b = 0) (l : ¬ (n < 0 ∨ 256 < n)) (m : (nearS (rA a) (rB a) (rA b) (rB b) n.toNat).2 = 0) (o : (gnorm (nearS (rA a) (rB a) (rA b) (rB b) n.toNat).1).2 ≠ 0) : ((ofFr Fr.zero, (gnorm (nearS (rA a) (rB a) (rA b) (rB b) n.toNat).1).2, ()) : El tR × Int × Unit) = (pR (nearR a b n)).2 := by
  rw [near_4 h k l]
  unfold nearN
  rw [if_neg (fun c => c m), if_pos o]
  rfl
theorem near_ok (h : rotC a = 0) (k : rotC b = 0) (l : ¬ (n < 0 ∨ 256 < n)) (m : (nearS (rA a) (rB a) (rA b) (rB b) n.toNat).2 = 0) (o : (gnorm (nearS (rA a) (rB a) (rA b) (rB b) n.toNat).1).2 = 0) : (pR (fsub (fsmall (n * n) 1).1 (gnorm (nearS (rA a) (rB a) (rA b) (rB b) n.toNat).1).1)).2 = (pR (nearR a b n)).2 := by
  rw [near_4 h k l]
  unfold nearN
  rw [if_neg (fun c => c m), if_neg (fun c => c o)]
end
theorem sq_rng {n : Int} (h : 0 ≤ n) (k : n ≤ 256) : -9223372036854775808 ≤ n * n ∧ n * n ≤ 9223372036854775807 := by
  have h1 := Int.mul_nonneg h h
  have h2 : n * n ≤ 256 * 256 := Int.mul_le_mul k k h (by decide)
  omega
noncomputable def sp_iNear : Spec := { q := .un, ps := [tRot, tRot, .it .i64], rs := [tR, .it .i64], fresh := true, pre := fun _ _ => none, post := fun _ x => pR (nearR x.1 x.2.1 x.2.2.1) }
noncomputable def iv_iNear (y : El sp_iNear.q) (x : Els sp_iNear.ps) : Nat → Option Inv := fun k => if k = 0 then some { X := Nat, tm := fun i => [(2, .c (.sc (.int .i64 x.2.2.1))), (3, .c (.pv 1 0)), (4, .c (.pv 2 0)), (6, .c (.pv 3 0)), (10, .c (.pv 4 0)), (42, .c (.sc (.int .i64 x.2.2.1))), (43, .c (.sc (.int .i64 i)))], ob := fun i => [(1, .var (cel tRot x.1)), (2, .var (cel tRot x.2.1)), (3, .var (cel tR (ofFr Fr.zero))), (4, .var [.sc (.bool (nearS (rA x.1) (rB x.1) (rA x.2.1) (rB x.2.1) i).1.re.neg), .ow 5, .ow 6, .sc (.bool (nearS (rA x.1) (rB x.1) (rA x.2.1) (rB x.2.1) i).1.im.neg), .ow 7, .ow 8]), (5, .ty 61 (.it .u32) (nearS (rA x.1) (rB x.1) (rA x.2.1) (rB x.2.1) i).1.re.num 0), (6, .ty 61 (.it .u32) (nearS (rA x.1) (rB x.1) (rA x.2.1) (rB x.2.1) i).1.re.den 0), (7, .ty 61 (.it .u32) (nearS (rA x.1) (rB x.1) (rA x.2.1) (rB x.2.1) i).1.im.num 0), (8, .ty 61 (.it .u32) (nearS (rA x.1) (rB x.1) (rA x.2.1) (rB x.2.1) i).1.im.den 0)], n := 9, I := fun i => i ≤ (x.2.2.1 : Int).toNat ∧ (nearS (rA x.1) (rB x.1) (rA x.2.1) (rB x.2.1) i).2 = 0, μ := fun i => (x.2.2.1 : Int).toNat - i } else none
noncomputable abbrev c_iNear : Cfg := cfgS (Tryz.f7).ntmps false [(8, sp_rCk.prim), (22, sp_rPow.prim), (19, sp_gInt.prim), (15, sp_gMul.prim), (14, sp_gAdd.prim), (23, sp_gNorm.prim), (24, sp_rSmall.prim), (25, sp_rSub.prim)]
def F_iNear (y : El sp_iNear.q) (x : Els sp_iNear.ps) : Prop :=
  ∀ (r : Ro [Ty.it IntKind.i64]), r = ((), rotC x.1, ()) → ((r.2.1 != (0 : Int)) = true → ((false, [], [], ()), r.2) = (pR (nearR x.1 x.2.1 x.2.2.1)).2) ∧ ((r.2.1 != (0 : Int)) = false → ∀ (r : Ro [Ty.it IntKind.i64]), r = ((), rotC x.2.1, ()) → ((r.2.1 != (0 : Int)) = true → ((false, [], [], ()), r.2) = (pR (nearR x.1 x.2.1 x.2.2.1)).2) ∧ ((r.2.1 != (0 : Int)) = false → (decide (x.2.2.1 < (0 : Int)) = true → ((false, [], [], ()), (2 : Int), ()) = (pR (nearR x.1 x.2.1 x.2.2.1)).2) ∧ (decide (x.2.2.1 < (0 : Int)) = false → (decide (x.2.2.1 > (256 : Int)) = true → ((false, [], [], ()), (2 : Int), ()) = (pR (nearR x.1 x.2.1 x.2.2.1)).2) ∧ (decide (x.2.2.1 > (256 : Int)) = false → ∀ (r : Ro [tG]), r = ((), ofGa { re := (fsmall (0 : Int) (1 : Int)).1, im := (fsmall (0 : Int) (1 : Int)).1 }, ()) → (∃ (x_1 : Nat), x.2.2.1 = x.2.2.1 ∧ x.2.2.1 = x.2.2.1 ∧ (↑x_1 : Int) = (0 : Int) ∧ x.1.1 = x.1.1 ∧ x.1.2.1 = x.1.2.1 ∧ x.2.1.1 = x.2.1.1 ∧ x.2.1.2.1 = x.2.1.2.1 ∧ (ofFr Fr.zero).1 = false ∧ (ofFr Fr.zero).2.1 = [] ∧ (ofFr Fr.zero).2.2.1 = [] ∧ (nearS (rA x.1) (rB x.1) (rA x.2.1) (rB x.2.1) x_1).1.re.neg = r.2.1.1.1 ∧ (nearS (rA x.1) (rB x.1) (rA x.2.1) (rB x.2.1) x_1).1.im.neg = r.2.1.2.1.1 ∧ (nearS (rA x.1) (rB x.1) (rA x.2.1) (rB x.2.1) x_1).1.re.num = r.2.1.1.2.1 ∧ (nearS (rA x.1) (rB x.1) (rA x.2.1) (rB x.2.1) x_1).1.re.den = r.2.1.1.2.2.1 ∧ (nearS (rA x.1) (rB x.1) (rA x.2.1) (rB x.2.1) x_1).1.im.num = r.2.1.2.1.2.1 ∧ (nearS (rA x.1) (rB x.1) (rA x.2.1) (rB x.2.1) x_1).1.im.den = r.2.1.2.1.2.2.1 ∧ x_1 ≤ Int.toNat x.2.2.1 ∧ (nearS (rA x.1) (rB x.1) (rA x.2.1) (rB x.2.1) x_1).2 = (0 : Int)) ∧ ∀ (x_1 : Nat), x_1 ≤ Int.toNat x.2.2.1 ∧ (nearS (rA x.1) (rB x.1) (rA x.2.1) (rB x.2.1) x_1).2 = (0 : Int) → (decide ((↑x_1 : Int) < x.2.2.1) = true → ((-9223372036854775808 : Int) ≤ -(↑x_1 : Int) ∧ -(↑x_1 : Int) ≤ (9223372036854775807 : Int)) ∧ ∀ (r : Ro [tG, Ty.it IntKind.i64]), r = ((), powR x.1 (-(↑x_1 : Int))) → ∀ (r_1 : Ro [tG, Ty.it IntKind.i64]), r_1 = ((), powR x.2.1 (↑x_1 : Int)) → ∀ (r_2 : Ro [tG, Ty.it IntKind.i64]), r_2 = pG (gmul (toGa r.2.1) (toGa r_1.2.1)) → ((r_2.2.2.1 == (0 : Int)) = true → ∀ (r : Ro [tG, Ty.it IntKind.i64]), r = pG (gadd (toGa (((nearS (rA x.1) (rB x.1) (rA x.2.1) (rB x.2.1) x_1).1.re.neg, (nearS (rA x.1) (rB x.1) (rA x.2.1) (rB x.2.1) x_1).1.re.num, (nearS (rA x.1) (rB x.1) (rA x.2.1) (rB x.2.1) x_1).1.re.den, ()), ((nearS (rA x.1) (rB x.1) (rA x.2.1) (rB x.2.1) x_1).1.im.neg, (nearS (rA x.1) (rB x.1) (rA x.2.1) (rB x.2.1) x_1).1.im.num, (nearS (rA x.1) (rB x.1) (rA x.2.1) (rB x.2.1) x_1).1.im.den, ()), ())) (toGa r_2.2.1)) → ((r.2.2.1 != (0 : Int)) = true → ((false, [], [], ()), r.2.2) = (pR (nearR x.1 x.2.1 x.2.2.1)).2) ∧ ((r.2.2.1 != (0 : Int)) = false → ((-9223372036854775808 : Int) ≤ (↑x_1 : Int) + (1 : Int) ∧ (↑x_1 : Int) + (1 : Int) ≤ (9223372036854775807 : Int)) ∧ ∃ (x' : Nat), x.2.2.1 = x.2.2.1 ∧ x.2.2.1 = x.2.2.1 ∧ (↑x' : Int) = (↑x_1 : Int) + (1 : Int) ∧ x.1.1 = x.1.1 ∧ x.1.2.1 = x.1.2.1 ∧ x.2.1.1 = x.2.1.1 ∧ x.2.1.2.1 = x.2.1.2.1 ∧ (ofFr Fr.zero).1 = (ofFr Fr.zero).1 ∧ (ofFr Fr.zero).2.1 = (ofFr Fr.zero).2.1 ∧ (ofFr Fr.zero).2.2.1 = (ofFr Fr.zero).2.2.1 ∧ (nearS (rA x.1) (rB x.1) (rA x.2.1) (rB x.2.1) x').1.re.neg = r.2.1.1.1 ∧ (nearS (rA x.1) (rB x.1) (rA x.2.1) (rB x.2.1) x').1.im.neg = r.2.1.2.1.1 ∧ (nearS (rA x.1) (rB x.1) (rA x.2.1) (rB x.2.1) x').1.re.num = r.2.1.1.2.1 ∧ (nearS (rA x.1) (rB x.1) (rA x.2.1) (rB x.2.1) x').1.re.den = r.2.1.1.2.2.1 ∧ (nearS (rA x.1) (rB x.1) (rA x.2.1) (rB x.2.1) x').1.im.num = r.2.1.2.1.2.1 ∧ (nearS (rA x.1) (rB x.1) (rA x.2.1) (rB x.2.1) x').1.im.den = r.2.1.2.1.2.2.1 ∧ (x' ≤ Int.toNat x.2.2.1 ∧ (nearS (rA x.1) (rB x.1) (rA x.2.1) (rB x.2.1) x').2 = (0 : Int)) ∧ Int.toNat x.2.2.1 - x' < Int.toNat x.2.2.1 - x_1)) ∧ ((r_2.2.2.1 == (0 : Int)) = false → ((r_2.2.2.1 != (0 : Int)) = true → ((false, [], [], ()), r_2.2.2) = (pR (nearR x.1 x.2.1 x.2.2.1)).2) ∧ ((r_2.2.2.1 != (0 : Int)) = false → ((-9223372036854775808 : Int) ≤ (↑x_1 : Int) + (1 : Int) ∧ (↑x_1 : Int) + (1 : Int) ≤ (9223372036854775807 : Int)) ∧ ∃ (x' : Nat), x.2.2.1 = x.2.2.1 ∧ x.2.2.1 = x.2.2.1 ∧ (↑x' : Int) = (↑x_1 : Int) + (1 : Int) ∧ x.1.1 = x.1.1 ∧ x.1.2.1 = x.1.2.1 ∧ x.2.1.1 = x.2.1.1 ∧ x.2.1.2.1 = x.2.1.2.1 ∧ (ofFr Fr.zero).1 = (ofFr Fr.zero).1 ∧ (ofFr Fr.zero).2.1 = (ofFr Fr.zero).2.1 ∧ (ofFr Fr.zero).2.2.1 = (ofFr Fr.zero).2.2.1 ∧ (nearS (rA x.1) (rB x.1) (rA x.2.1) (rB x.2.1) x').1.re.neg = (nearS (rA x.1) (rB x.1) (rA x.2.1) (rB x.2.1) x_1).1.re.neg ∧ (nearS (rA x.1) (rB x.1) (rA x.2.1) (rB x.2.1) x').1.im.neg = (nearS (rA x.1) (rB x.1) (rA x.2.1) (rB x.2.1) x_1).1.im.neg ∧ (nearS (rA x.1) (rB x.1) (rA x.2.1) (rB x.2.1) x').1.re.num = (nearS (rA x.1) (rB x.1) (rA x.2.1) (rB x.2.1) x_1).1.re.num ∧ (nearS (rA x.1) (rB x.1) (rA x.2.1) (rB x.2.1) x').1.re.den = (nearS (rA x.1) (rB x.1) (rA x.2.1) (rB x.2.1) x_1).1.re.den ∧ (nearS (rA x.1) (rB x.1) (rA x.2.1) (rB x.2.1) x').1.im.num = (nearS (rA x.1) (rB x.1) (rA x.2.1) (rB x.2.1) x_1).1.im.num ∧ (nearS (rA x.1) (rB x.1) (rA x.2.1) (rB x.2.1) x').1.im.den = (nearS (rA x.1) (rB x.1) (rA x.2.1) (rB x.2.1) x_1).1.im.den ∧ (x' ≤ Int.toNat x.2.2.1 ∧ (nearS (rA x.1) (rB x.1) (rA x.2.1) (rB x.2.1) x').2 = (0 : Int)) ∧ Int.toNat x.2.2.1 - x' < Int.toNat x.2.2.1 - x_1))) ∧ (decide ((↑x_1 : Int) < x.2.2.1) = false → ∀ (r : Ro [tR, Ty.it IntKind.i64]), r = pR (gnorm (toGa (((nearS (rA x.1) (rB x.1) (rA x.2.1) (rB x.2.1) x_1).1.re.neg, (nearS (rA x.1) (rB x.1) (rA x.2.1) (rB x.2.1) x_1).1.re.num, (nearS (rA x.1) (rB x.1) (rA x.2.1) (rB x.2.1) x_1).1.re.den, ()), ((nearS (rA x.1) (rB x.1) (rA x.2.1) (rB x.2.1) x_1).1.im.neg, (nearS (rA x.1) (rB x.1) (rA x.2.1) (rB x.2.1) x_1).1.im.num, (nearS (rA x.1) (rB x.1) (rA x.2.1) (rB x.2.1) x_1).1.im.den, ()), ()))) → ((r.2.2.1 != (0 : Int)) = true → ((false, [], [], ()), r.2.2) = (pR (nearR x.1 x.2.1 x.2.2.1)).2) ∧ ((r.2.2.1 != (0 : Int)) = false → ((-9223372036854775808 : Int) ≤ x.2.2.1 * x.2.2.1 ∧ x.2.2.1 * x.2.2.1 ≤ (9223372036854775807 : Int)) ∧ ∀ (r_1 : Ro [tR, Ty.it IntKind.i64]), r_1 = pR (fsmall (x.2.2.1 * x.2.2.1) (1 : Int)) → ∀ (r_2 : Ro [tR, Ty.it IntKind.i64]), r_2 = pR (fsub (toFr r_1.2.1) (toFr r.2.1)) → r_2.2 = (pR (nearR x.1 x.2.1 x.2.2.1)).2))))))
theorem w_iNear (y : El sp_iNear.q) (x : Els sp_iNear.ps) : aW c_iNear (iv_iNear y x) Tryz.f7 sp_iNear y x = F_iNear y x := by kernel_rfl
theorem m_iNear (y : El (.un)) (x : Els [tRot, tRot, .it .i64]) (h2 : wfE (.un) y) (h3 : wfEs [tRot, tRot, .it .i64] x) : F_iNear y x := by
  unfold F_iNear
  rintro _ rfl
  refine ⟨fun h => near_1 (neT h), fun h => ?_⟩
  have h := neF h
  rintro _ rfl
  refine ⟨fun k => near_2 h (neT k), fun k => ⟨fun n1 => near_3 h (neF k) (.inl (ltT n1)), fun n1 => ⟨fun n2 => near_3 h (neF k) (.inr (gtT n2)), fun n2 => ?_⟩⟩⟩
  have k := neF k
  have l0 : ¬ ((x.2.2.1 : Int) < 0 ∨ (256 : Int) < x.2.2.1) := by
    intro c
    rcases c with c | c
    · exact absurd (ltF n1) (Int.not_le.2 c)
    · exact absurd (gtF n2) (Int.not_le.2 c)
  have n1 := ltF n1
  have n2 := gtF n2
  obtain ⟨a1, a2, a3⟩ := rot_bd h
  obtain ⟨b1, b2, b3⟩ := rot_bd k
  rintro _ rfl
  refine ⟨⟨0, rfl, rfl, rfl, rfl, rfl, rfl, rfl, rfl, rfl, rfl, rfl, rfl, rfl, rfl, rfl, rfl, Nat.zero_le _, rfl⟩, fun i hi => ⟨fun l => ?_, fun l => ?_⟩⟩
  · obtain ⟨i0, i1⟩ := hi
    have l := ltT l
    have il : i + 1 ≤ Int.toNat x.2.2.1 := by omega
    have it : i ≤ 1024 := by omega
    refine ⟨⟨by omega, by omega⟩, ?_⟩
    intro r1 hr1
    obtain rfl : r1 = ((), ofGa (rpow (rA x.1) (-(rB x.1)) i), 0, ()) := hr1.trans (congrArg (fun z => ((), z)) (powR_neg h it))
    intro r2 hr2
    obtain rfl : r2 = ((), ofGa (rpow (rA x.2.1) (rB x.2.1) i), 0, ()) := hr2.trans (congrArg (fun z => ((), z)) (powR_pos k it))
    rintro _ rfl
    refine ⟨fun p => ?_, fun p => ⟨fun _ => ?_, fun q => absurd (neF q) (eqF p)⟩⟩
    · have e := ns_add i1 (eqT p)
      intro r4 hr4
      obtain rfl : r4 = pG (nearS (rA x.1) (rB x.1) (rA x.2.1) (rB x.2.1) (i + 1)) := hr4.trans (congrArg pG e.symm)
      refine ⟨fun q => near_err h k l0 il (neT q), fun q => ⟨⟨by omega, by omega⟩, i + 1, ?_⟩⟩
      have q := neF q
      and_intros
      all_goals first | rfl | exact il | exact q | omega
    · have e := ns_bad i1 (eqF p)
      have := near_err (i := i) h k l0 il (by rw [e]; exact eqF p)
      rw [e] at this
      exact this
  · obtain ⟨i0, i1⟩ := hi
    have l := ltF l
    have ei : i = Int.toNat x.2.2.1 := by omega
    rw [ei] at i1 ⊢
    rintro _ rfl
    refine ⟨fun o => near_nrm h k l0 i1 (neT o), fun o => ⟨sq_rng n1 n2, ?_⟩⟩
    rintro _ rfl _ rfl
    exact near_ok h k l0 i1 (neF o)
theorem fo_iNear : FnOk Tryz.prog 7 sp_iNear := fnOk_of (C := c_iNear) iv_iNear Tryz.func7 rfl (by kernel_rfl) tys_ok (prims_cons (spec_prim fo_rCk) (prims_cons (spec_prim fo_rPow) (prims_cons (spec_prim fo_gInt) (prims_cons (spec_prim fo_gMul) (prims_cons (spec_prim fo_gAdd) (prims_cons (spec_prim fo_gNorm) (prims_cons (spec_prim fo_rSmall) (prims_cons (spec_prim fo_rSub) prims_nil)))))))) mixed_ (Nat.le_refl _) rfl fun y x h1 h2 h3 h4 =>
  Eq.mpr (w_iNear y x) (m_iNear y x h2 h3)
end Go.Proofs.YtagipdcmjphbiaaGreatDoor
namespace Go.Proofs.YtagipdcmjphbiaaGreatDoor
section
variable {a b c d p q r s : Rat}
theorem fadd_e (lp : ¬ lng p = true) (lq : ¬ lng q = true) (h : (fadd (enc p) (enc q)).2 = 0) : fadd (enc p) (enc q) = (enc (p + q), 0) ∧ ¬ lng (p + q) = true := by
  rw [fadd_enc lp lq] at h ⊢
  exact ⟨(tell_in h).2, (tell_in h).1⟩
theorem fsub_e (lp : ¬ lng p = true) (lq : ¬ lng q = true) (h : (fsub (enc p) (enc q)).2 = 0) : fsub (enc p) (enc q) = (enc (p - q), 0) ∧ ¬ lng (p - q) = true := by
  rw [fsub_enc lp lq] at h ⊢
  exact ⟨(tell_in h).2, (tell_in h).1⟩
theorem fmul_e (lp : ¬ lng p = true) (lq : ¬ lng q = true) (h : (fmul (enc p) (enc q)).2 = 0) : fmul (enc p) (enc q) = (enc (p * q), 0) ∧ ¬ lng (p * q) = true := by
  rw [fmul_enc lp lq] at h ⊢
  exact ⟨(tell_in h).2, (tell_in h).1⟩
theorem fquo_e (lp : ¬ lng p = true) (lq : ¬ lng q = true) (n : q ≠ 0) (h : (fquo (enc p) (enc q)).2 = 0) : fquo (enc p) (enc q) = (enc (p / q), 0) ∧ ¬ lng (p / q) = true := by
  rw [fquo_enc lp lq n] at h ⊢
  exact ⟨(tell_in h).2, (tell_in h).1⟩
theorem wpair_e {l : Bool} (lp : ¬ lng p = true) (lq : ¬ lng q = true) (lr : ¬ lng r = true) (ls : ¬ lng s = true) (h : (wpair 0 (enc p) (enc q) (enc r) (enc s) l).2 = 0) :
    wpair 0 (enc p) (enc q) (enc r) (enc s) l = (enc (if l = true then p * q - r * s else p * q + r * s), 0) ∧ ¬ lng (if l = true then p * q - r * s else p * q + r * s) = true := by
  by_cases h1 : (fmul (enc p) (enc q)).2 = 0
  · by_cases h2 : (fmul (enc r) (enc s)).2 = 0
    · obtain ⟨e1, l1⟩ := fmul_e lp lq h1
      obtain ⟨e2, l2⟩ := fmul_e lr ls h2
      cases l with
      | true =>
        rw [wpair_3 h1 h2, e1, e2] at h ⊢
        rw [if_pos rfl]
        exact fsub_e l1 l2 h
      | false =>
        rw [wpair_4 h1 h2, e1, e2] at h ⊢
        rw [if_neg (by decide)]
        exact fadd_e l1 l2 h
    · rw [wpair_2 h1 h2] at h
      exact absurd h h2
  · rw [wpair_1 h1] at h
    exact absurd h h1
variable (la : ¬ lng a = true) (lb : ¬ lng b = true) (lc : ¬ lng c = true) (ld : ¬ lng d = true)
include la lb lc ld
theorem ge_chk2e : gchk2 (ge a b) (ge c d) = 0 := gchk2_mk (gchk_enc la lb) (gchk_enc lc ld)
theorem gadd_e (h : (gadd (ge a b) (ge c d)).2 = 0) : gadd (ge a b) (ge c d) = (ge (a + c) (b + d), 0) ∧ ¬ lng (a + c) = true ∧ ¬ lng (b + d) = true := by
  have g := ge_chk2e la lb lc ld
  by_cases h1 : (fadd (ge a b).re (ge c d).re).2 = 0
  · by_cases h2 : (fadd (ge a b).im (ge c d).im).2 = 0
    · obtain ⟨e1, l1⟩ := fadd_e la lc h1
      obtain ⟨e2, l2⟩ := fadd_e lb ld h2
      refine ⟨?_, l1, l2⟩
      rw [gadd_4 g h1 h2]
      show ((⟨(fadd (enc a) (enc c)).1, (fadd (enc b) (enc d)).1⟩ : Ga), (0 : Int)) = _
      rw [e1, e2]
      rfl
    · rw [gadd_3 g h1 h2] at h
      exact absurd h h2
  · rw [gadd_2 g h1] at h
    exact absurd h h1
theorem gmul_e (h : (gmul (ge a b) (ge c d)).2 = 0) : gmul (ge a b) (ge c d) = (ge (a * c - b * d) (a * d + b * c), 0) ∧ ¬ lng (a * c - b * d) = true ∧ ¬ lng (a * d + b * c) = true := by
  have g := ge_chk2e la lb lc ld
  by_cases h1 : (wpair 0 (ge a b).re (ge c d).re (ge a b).im (ge c d).im true).2 = 0
  · by_cases h2 : (wpair 0 (ge a b).re (ge c d).im (ge a b).im (ge c d).re false).2 = 0
    · obtain ⟨e1, l1⟩ := wpair_e la lc lb ld h1
      obtain ⟨e2, l2⟩ := wpair_e la ld lb lc h2
      rw [if_pos rfl] at e1 l1
      rw [if_neg (by decide)] at e2 l2
      refine ⟨?_, l1, l2⟩
      rw [gmul_4 g h1 h2]
      show ((⟨(wpair 0 (enc a) (enc c) (enc b) (enc d) true).1, (wpair 0 (enc a) (enc d) (enc b) (enc c) false).1⟩ : Ga), (0 : Int)) = _
      rw [e1, e2]
      rfl
    · rw [gmul_3 g h1 h2] at h
      exact absurd h h2
  · rw [gmul_2 g h1] at h
    exact absurd h h1
theorem gquo_e (h : (gquo (ge a b) (ge c d)).2 = 0) : ¬ (c = 0 ∧ d = 0) ∧ gquo (ge a b) (ge c d) = (ge ((a * c + b * d) / (c * c + d * d)) ((b * c - a * d) / (c * c + d * d)), 0) ∧ ¬ lng ((a * c + b * d) / (c * c + d * d)) = true ∧ ¬ lng ((b * c - a * d) / (c * c + d * d)) = true := by
  have g := ge_chk2e la lb lc ld
  have wb : (ge c d).Wf := ⟨enc_wf _, enc_wf _⟩
  have cj : gconj (ge c d) = (ge c (-d), 0) := gconj_enc lc ld
  have lnd : ¬ lng (-d) = true := by rw [lng_negQ]; exact ld
  cases z : gzero (ge c d) with
  | true =>
    rw [gquo_2 g z] at h
    cases h
  | false =>
    have hz : ¬ (c = 0 ∧ d = 0) := fun e => by
      obtain ⟨rfl, rfl⟩ := e
      have : gzero (ge 0 0) = true := by decide +kernel
      rw [this] at z
      cases z
    by_cases n : (gnorm (ge c d)).2 = 0
    · have n' : (wpair 0 (enc c) (enc c) (enc d) (enc d) false).2 = 0 := by
        have e : gnorm (ge c d) = wpair 0 (enc c) (enc c) (enc d) (enc d) false := gnorm_2 (a := ge c d) (gchk_enc lc ld)
        rw [e] at n
        exact n
      obtain ⟨en, ln⟩ := wpair_e lc lc ld ld n'
      rw [if_neg (by decide)] at en ln
      have no : gnorm (ge c d) = (enc (c * c + d * d), 0) := (gnorm_2 (a := ge c d) (gchk_enc lc ld)).trans en
      have n0 : c * c + d * d ≠ 0 := fun e => hz (norm_zero e)
      by_cases m : (gmul (ge a b) (gconj (ge c d)).1).2 = 0
      · have m' := m
        rw [cj] at m'
        obtain ⟨em, l1, l2⟩ := gmul_e la lb lc lnd m'
        have em' : gmul (ge a b) (gconj (ge c d)).1 = (ge (a * c - b * -d) (a * -d + b * c), 0) := by rw [cj]; exact em
        by_cases x : (fquo (gmul (ge a b) (gconj (ge c d)).1).1.re (gnorm (ge c d)).1).2 = 0
        · have x' := x
          rw [em', no] at x'
          obtain ⟨e1, k1⟩ := fquo_e l1 ln n0 x'
          have ht := gquo_7 g z n wb m x
          rw [em', no] at ht
          rw [ht] at h
          by_cases y : (fquo (enc (a * -d + b * c)) (enc (c * c + d * d))).2 = 0
          · obtain ⟨e2, k2⟩ := fquo_e l2 ln n0 y
            have e1' : fquo (ge (a * c - b * -d) (a * -d + b * c)).re (enc (c * c + d * d)) = _ := e1
            have e2' : fquo (ge (a * c - b * -d) (a * -d + b * c)).im (enc (c * c + d * d)) = _ := e2
            rw [show a * c - b * -d = a * c + b * d by grind] at k1
            rw [show a * -d + b * c = b * c - a * d by grind] at k2
            refine ⟨hz, ?_, k1, k2⟩
            rw [ht, e1', e2']
            rw [show a * c - b * -d = a * c + b * d by grind, show a * -d + b * c = b * c - a * d by grind]
            rfl
          · have y' : (fquo (ge (a * c - b * -d) (a * -d + b * c)).im (enc (c * c + d * d))).2 ≠ 0 := y
            rw [gtell_bad y'] at h
            exact absurd h y'
        · rw [gquo_6 g z n wb m x] at h
          exact absurd h x
      · rw [gquo_4 g z n wb m] at h
        exact absurd h m
    · rw [gquo_3 g z n] at h
      exact absurd h n
end
theorem split_sum {t1 t2 z1 z2 : Rat} (hz : ¬ (z1 = 0 ∧ z2 = 0)) :
    (t1 * z1 + t2 * z2) / (z1 * z1 + z2 * z2) + ((z1 - 1) * ((t1 * z1 + t2 * z2) / (z1 * z1 + z2 * z2)) - z2 * ((t2 * z1 - t1 * z2) / (z1 * z1 + z2 * z2))) = t1 ∧
    (t2 * z1 - t1 * z2) / (z1 * z1 + z2 * z2) + ((z1 - 1) * ((t2 * z1 - t1 * z2) / (z1 * z1 + z2 * z2)) + z2 * ((t1 * z1 + t2 * z2) / (z1 * z1 + z2 * z2))) = t2 := by
  have n : z1 * z1 + z2 * z2 ≠ 0 := fun e => hz (norm_zero e)
  have i : (z1 * z1 + z2 * z2) * (z1 * z1 + z2 * z2)⁻¹ = 1 := Rat.mul_inv_cancel _ n
  rw [Rat.div_def, Rat.div_def]
  generalize (z1 * z1 + z2 * z2)⁻¹ = w at i
  constructor <;> grind
end Go.Proofs.YtagipdcmjphbiaaGreatDoor
namespace Go.Proofs.YtagipdcmjphbiaaGreatDoor
open Go Go.RowKit
theorem gint_10 : gint 1 0 = ge 1 0 := by
  unfold gint
  rw [show fsmall 1 1 = (enc 1, 0) from fsmall_s (by decide) (by decide +kernel) (by decide +kernel), show fsmall 0 1 = (enc 0, 0) from fsmall_s (by decide) (by decide +kernel) (by decide +kernel)]
  rfl
theorem gsplit_ok {t r : Ga} (wt : t.Wf) (wr : r.Wf) : (∃ e, e ≠ 0 ∧ gsplit t r = gZ3 e) ∨ ∃ A B : Ga, gsplit t r = (ofGa A, ofGa B, 0, ()) ∧ gmul r A = (B, 0) ∧ gsame B B = true ∧ ((gadd A B).2 = 0 → gsame (gadd A B).1 t = true) := by
  unfold gsplit
  by_cases h1 : gchk t = 0
  case neg => exact .inl ⟨_, h1, by rw [if_pos h1]⟩
  rw [if_neg (fun c => c h1)]
  by_cases h2 : gchk r = 0
  case neg => exact .inl ⟨_, h2, by rw [if_pos h2]⟩
  rw [if_neg (fun c => c h2)]
  by_cases h3 : r = gint (-1) 0
  · exact .inl ⟨7, by decide, by rw [if_pos h3]⟩
  rw [if_neg h3]
  by_cases h4 : (gadd (gint 1 0) r).2 = 0
  case neg => exact .inl ⟨_, h4, by rw [if_pos h4]⟩
  rw [if_neg (fun c => c h4)]
  by_cases h5 : (gquo t (gadd (gint 1 0) r).1).2 = 0
  case neg => exact .inl ⟨_, h5, by rw [if_pos h5]⟩
  rw [if_neg (fun c => c h5)]
  by_cases h6 : (gmul r (gquo t (gadd (gint 1 0) r).1).1).2 = 0
  case neg => exact .inl ⟨_, h6, by rw [if_pos h6]⟩
  rw [if_neg (fun c => c h6)]
  refine .inr ⟨_, _, rfl, Prod.ext rfl h6, ?_⟩
  obtain ⟨t1, t2, rfl, lt1, lt2⟩ := gchk_ok wt h1
  obtain ⟨r1, r2, rfl, lr1, lr2⟩ := gchk_ok wr h2
  have l1 : ¬ lng (1 : Rat) = true := sm_lng (by decide +kernel)
  have l0 : ¬ lng (0 : Rat) = true := sm_lng (by decide +kernel)
  rw [gint_10] at h4 h5 h6 ⊢
  have h4' : (gadd (ge 1 0) (ge r1 r2)).2 = 0 := h4
  obtain ⟨e4, lz1, lz2⟩ := gadd_e l1 l0 lr1 lr2 h4'
  have e4' : gadd (ge 1 0) ⟨enc r1, enc r2⟩ = (ge (1 + r1) (0 + r2), 0) := e4
  rw [e4'] at h5 h6 ⊢
  have e0 : (0 : Rat) + r2 = r2 := by grind
  rw [e0] at h5 h6 lz2 ⊢
  have h5' : (gquo (ge t1 t2) (ge (1 + r1) r2)).2 = 0 := h5
  obtain ⟨hz, e5, lx, ly⟩ := gquo_e lt1 lt2 lz1 lz2 h5'
  have e5' : gquo ⟨enc t1, enc t2⟩ (ge (1 + r1) r2) = _ := e5
  have ss := split_sum (t1 := t1) (t2 := t2) hz
  rw [show (1 + r1 - 1 : Rat) = r1 by grind] at ss
  generalize (t1 * (1 + r1) + t2 * r2) / ((1 + r1) * (1 + r1) + r2 * r2) = X at *
  generalize (t2 * (1 + r1) - t1 * r2) / ((1 + r1) * (1 + r1) + r2 * r2) = Y at *
  dsimp only at h6 ⊢
  rw [e5'] at h6 ⊢
  have h6' : (gmul (ge r1 r2) (ge X Y)).2 = 0 := h6
  obtain ⟨e6, lu, lv⟩ := gmul_e lr1 lr2 lx ly h6'
  have e6' : gmul ⟨enc r1, enc r2⟩ (ge X Y) = _ := e6
  dsimp only
  rw [e6']
  dsimp only
  refine ⟨?_, fun h7 => ?_⟩
  · unfold gsame
    exact decide_eq_true ⟨ge_chk2e lu lv lu lv, rfl⟩
  · obtain ⟨e7, _, _⟩ := gadd_e lx ly lu lv h7
    rw [e7]
    dsimp only
    rw [show r1 * Y + r2 * X = r1 * Y + r2 * X from rfl, ss.1, ss.2]
    unfold gsame
    exact decide_eq_true ⟨ge_chk2e lt1 lt2 lt1 lt2, rfl⟩
def b_sp : ByteArray := ⟨#[32]⟩
def okG (s : ByteArray) : Bool := decide (s.size ≤ 65536) && (cutB s b_sp).2.2 && okR (cutB s b_sp).1 && okR (cutB s b_sp).2.1
def valG (s : ByteArray) : Ga := ⟨valR (cutB s b_sp).1, valR (cutB s b_sp).2.1⟩
theorem okG_of {s : ByteArray} (h : okG s = true) : s.size ≤ 65536 ∧ (cutB s b_sp).2.2 = true ∧ okR (cutB s b_sp).1 = true ∧ okR (cutB s b_sp).2.1 = true := by
  unfold okG at h
  simp only [Bool.and_eq_true, decide_eq_true_eq] at h
  exact ⟨h.1.1.1, h.1.1.2, h.1.2, h.2⟩
noncomputable def sp_gParse : Spec := { q := .un, ps := [.st], rs := [tG, .it .i64], fresh := true, pre := fun _ x => some (okG x.1 = true), post := fun _ x => pG (valG x.1, 0) }
noncomputable def iv_gParse (y : El sp_gParse.q) (x : Els sp_gParse.ps) : Nat → Option Inv := fun _ => none
noncomputable abbrev c_gParse : Cfg := cfgS (Tryz.f40).ntmps false [(63, sp_sCut.prim), (64, sp_rParse.prim)]
def F_gParse (y : El sp_gParse.q) (x : Els sp_gParse.ps) : Prop :=
  (decide ((↑(ByteArray.size x.1) : Int) > (65536 : Int)) = true → (((false, [], [], ()), (false, [], [], ()), ()), (3 : Int), ()) = (pG (valG x.1, (0 : Int))).2) ∧ (decide ((↑(ByteArray.size x.1) : Int) > (65536 : Int)) = false → (⟨#[(32 : UInt8)]⟩ : ByteArray).size = (1 : Nat) ∧ ∀ (r : Ro [Ty.st, Ty.st, Ty.bo]), r = ((), (cutB x.1 (⟨#[(32 : UInt8)]⟩ : ByteArray)).1, (cutB x.1 (⟨#[(32 : UInt8)]⟩ : ByteArray)).2.1, (cutB x.1 (⟨#[(32 : UInt8)]⟩ : ByteArray)).2.2, ()) → okR r.2.1 = true ∧ ∀ (r_1 : Ro [tR, Ty.it IntKind.i64]), r_1 = pR (valR r.2.1, (0 : Int)) → okR r.2.2.1 = true ∧ ∀ (r_2 : Ro [tR, Ty.it IntKind.i64]), r_2 = pR (valR r.2.2.1, (0 : Int)) → ((!r.2.2.2.1) = true → (((false, [], [], ()), (false, [], [], ()), ()), (140 : Int), ()) = (pG (valG x.1, (0 : Int))).2) ∧ ((!r.2.2.2.1) = false → ((r_1.2.2.1 != (0 : Int)) = true → ((r_1.2.2.1 != (3 : Int)) = true → (((false, [], [], ()), (false, [], [], ()), ()), (140 : Int), ()) = (pG (valG x.1, (0 : Int))).2) ∧ ((r_1.2.2.1 != (3 : Int)) = false → ((r_2.2.2.1 != (0 : Int)) = true → ((r_2.2.2.1 != (3 : Int)) = true → (((false, [], [], ()), (false, [], [], ()), ()), (140 : Int), ()) = (pG (valG x.1, (0 : Int))).2) ∧ ((r_2.2.2.1 != (3 : Int)) = false → ((r_1.2.2.1 != (0 : Int)) = true → (((false, [], [], ()), (false, [], [], ()), ()), (3 : Int), ()) = (pG (valG x.1, (0 : Int))).2) ∧ ((r_1.2.2.1 != (0 : Int)) = false → ((r_2.2.2.1 != (0 : Int)) = true → (((false, [], [], ()), (false, [], [], ()), ()), (3 : Int), ()) = (pG (valG x.1, (0 : Int))).2) ∧ ((r_2.2.2.1 != (0 : Int)) = false → ((r_1.2.1, r_2.2.1, ()), (0 : Int), ()) = (pG (valG x.1, (0 : Int))).2)))) ∧ ((r_2.2.2.1 != (0 : Int)) = false → ((r_1.2.2.1 != (0 : Int)) = true → (((false, [], [], ()), (false, [], [], ()), ()), (3 : Int), ()) = (pG (valG x.1, (0 : Int))).2) ∧ ((r_1.2.2.1 != (0 : Int)) = false → ((r_2.2.2.1 != (0 : Int)) = true → (((false, [], [], ()), (false, [], [], ()), ()), (3 : Int), ()) = (pG (valG x.1, (0 : Int))).2) ∧ ((r_2.2.2.1 != (0 : Int)) = false → ((r_1.2.1, r_2.2.1, ()), (0 : Int), ()) = (pG (valG x.1, (0 : Int))).2))))) ∧ ((r_1.2.2.1 != (0 : Int)) = false → ((r_2.2.2.1 != (0 : Int)) = true → ((r_2.2.2.1 != (3 : Int)) = true → (((false, [], [], ()), (false, [], [], ()), ()), (140 : Int), ()) = (pG (valG x.1, (0 : Int))).2) ∧ ((r_2.2.2.1 != (3 : Int)) = false → ((r_1.2.2.1 != (0 : Int)) = true → (((false, [], [], ()), (false, [], [], ()), ()), (3 : Int), ()) = (pG (valG x.1, (0 : Int))).2) ∧ ((r_1.2.2.1 != (0 : Int)) = false → ((r_2.2.2.1 != (0 : Int)) = true → (((false, [], [], ()), (false, [], [], ()), ()), (3 : Int), ()) = (pG (valG x.1, (0 : Int))).2) ∧ ((r_2.2.2.1 != (0 : Int)) = false → ((r_1.2.1, r_2.2.1, ()), (0 : Int), ()) = (pG (valG x.1, (0 : Int))).2)))) ∧ ((r_2.2.2.1 != (0 : Int)) = false → ((r_1.2.2.1 != (0 : Int)) = true → (((false, [], [], ()), (false, [], [], ()), ()), (3 : Int), ()) = (pG (valG x.1, (0 : Int))).2) ∧ ((r_1.2.2.1 != (0 : Int)) = false → ((r_2.2.2.1 != (0 : Int)) = true → (((false, [], [], ()), (false, [], [], ()), ()), (3 : Int), ()) = (pG (valG x.1, (0 : Int))).2) ∧ ((r_2.2.2.1 != (0 : Int)) = false → ((r_1.2.1, r_2.2.1, ()), (0 : Int), ()) = (pG (valG x.1, (0 : Int))).2))))))
theorem w_gParse (y : El sp_gParse.q) (x : Els sp_gParse.ps) : aW c_gParse (iv_gParse y x) Tryz.f40 sp_gParse y x = F_gParse y x := by kernel_rfl
theorem m_gParse (y : El (.un)) (x : Els [.st]) (h2 : wfE (.un) y) (h3 : wfEs [.st] x) (h4 : okG x.1 = true) : F_gParse y x := by
  unfold F_gParse
  obtain ⟨q1, q2, q3, q4⟩ := okG_of h4
  refine ⟨fun h => absurd (Int.ofNat_lt.1 (gtT h)) (Nat.not_lt.2 q1), fun _ => ⟨rfl, ?_⟩⟩
  rintro _ rfl
  refine ⟨q3, ?_⟩
  rintro _ rfl
  refine ⟨q4, ?_⟩
  rintro _ rfl
  refine ⟨fun h => ?_, fun _ => ⟨fun h => Bool.noConfusion (show false = true from h), fun _ => ⟨fun h => Bool.noConfusion (show false = true from h), fun _ => ⟨fun h => Bool.noConfusion (show false = true from h), fun _ => ⟨fun h => Bool.noConfusion (show false = true from h), fun _ => rfl⟩⟩⟩⟩⟩
  have h : (cutB x.1 b_sp).2.2 = false := ntt h
  rw [q2] at h
  cases h
theorem fo_gParse : FnOk Tryz.prog 40 sp_gParse := fnOk_of (C := c_gParse) iv_gParse Tryz.func40 rfl (by kernel_rfl) tys_ok (prims_cons (spec_prim fo_sCut) (prims_cons (spec_prim fo_rParse) prims_nil)) mixed_ (Nat.le_refl _) rfl fun y x h1 h2 h3 h4 =>
  Eq.mpr (w_gParse y x) (m_gParse y x h2 h3 h4)
noncomputable def sp_w4small : Spec := { q := .un, ps := [.it .i64, .it .i64], rs := [tR], fresh := true, pre := fun _ _ => none, post := fun _ x => ((), (ofFr (fsmall x.1 x.2.1).1, ())) }
noncomputable def iv_w4small (y : El sp_w4small.q) (x : Els sp_w4small.ps) : Nat → Option Inv := fun _ => none
noncomputable abbrev c_w4small : Cfg := cfgS (Tryz.f21).ntmps false [(24, sp_rSmall.prim)]
def F_w4small (y : El sp_w4small.q) (x : Els sp_w4small.ps) : Prop :=
  ∀ (r : Ro [tR, Ty.it IntKind.i64]), r = pR (fsmall x.1 x.2.1) → (r.2.1, ()) = (ofFr (fsmall x.1 x.2.1).1, ())
theorem w_w4small (y : El sp_w4small.q) (x : Els sp_w4small.ps) : aW c_w4small (iv_w4small y x) Tryz.f21 sp_w4small y x = F_w4small y x := by kernel_rfl
theorem m_w4small (y : El (.un)) (x : Els [.it .i64, .it .i64]) (h2 : wfE (.un) y) (h3 : wfEs [.it .i64, .it .i64] x) : F_w4small y x := by
  unfold F_w4small
  rintro _ rfl
  rfl
theorem fo_w4small : FnOk Tryz.prog 21 sp_w4small := fnOk_of (C := c_w4small) iv_w4small Tryz.func21 rfl (by kernel_rfl) tys_ok (prims_cons (spec_prim fo_rSmall) prims_nil) mixed_ (Nat.le_refl _) rfl fun y x h1 h2 h3 h4 =>
  Eq.mpr (w_w4small y x) (m_w4small y x h2 h3)
noncomputable def sp_w4u : Spec := { q := .un, ps := [], rs := [tRot], fresh := true, pre := fun _ _ => none, post := fun _ x => ((), ((2, 1, ()), ())) }
noncomputable def iv_w4u (y : El sp_w4u.q) (x : Els sp_w4u.ps) : Nat → Option Inv := fun _ => none
noncomputable abbrev c_w4u : Cfg := cfgS (Tryz.f17).ntmps false []
def F_w4u (y : El sp_w4u.q) (x : Els sp_w4u.ps) : Prop :=
  (((2 : Int), (1 : Int), ()), ()) = (((2 : El (Ty.it IntKind.i32)), (1 : El (Ty.it IntKind.i32)), ()), ())
theorem w_w4u (y : El sp_w4u.q) (x : Els sp_w4u.ps) : aW c_w4u (iv_w4u y x) Tryz.f17 sp_w4u y x = F_w4u y x := by kernel_rfl
theorem m_w4u (y : El (.un)) (x : Els []) (h2 : wfE (.un) y) (h3 : wfEs [] x) : F_w4u y x := by
  unfold F_w4u
  rfl
theorem fo_w4u : FnOk Tryz.prog 17 sp_w4u := fnOk_of (C := c_w4u) iv_w4u Tryz.func17 rfl (by kernel_rfl) tys_ok prims_nil mixed_ (Nat.le_refl _) rfl fun y x h1 h2 h3 h4 =>
  Eq.mpr (w_w4u y x) (m_w4u y x h2 h3)
noncomputable def sp_w4v : Spec := { q := .un, ps := [], rs := [tRot], fresh := true, pre := fun _ _ => none, post := fun _ x => ((), ((2, -1, ()), ())) }
noncomputable def iv_w4v (y : El sp_w4v.q) (x : Els sp_w4v.ps) : Nat → Option Inv := fun _ => none
noncomputable abbrev c_w4v : Cfg := cfgS (Tryz.f18).ntmps false []
def F_w4v (y : El sp_w4v.q) (x : Els sp_w4v.ps) : Prop :=
  (((2 : Int), (-1 : Int), ()), ()) = (((2 : El (Ty.it IntKind.i32)), (-1 : El (Ty.it IntKind.i32)), ()), ())
theorem w_w4v (y : El sp_w4v.q) (x : Els sp_w4v.ps) : aW c_w4v (iv_w4v y x) Tryz.f18 sp_w4v y x = F_w4v y x := by kernel_rfl
theorem m_w4v (y : El (.un)) (x : Els []) (h2 : wfE (.un) y) (h3 : wfEs [] x) : F_w4v y x := by
  unfold F_w4v
  rfl
theorem fo_w4v : FnOk Tryz.prog 18 sp_w4v := fnOk_of (C := c_w4v) iv_w4v Tryz.func18 rfl (by kernel_rfl) tys_ok prims_nil mixed_ (Nat.le_refl _) rfl fun y x h1 h2 h3 h4 =>
  Eq.mpr (w_w4v y x) (m_w4v y x h2 h3)
theorem wh_ok : okG ⟨#[49, 47, 50, 32, 48]⟩ = true := by decide +kernel
theorem wh_val : valG ⟨#[49, 47, 50, 32, 48]⟩ = ge (1/2) 0 := by decide +kernel
noncomputable def sp_w4half : Spec := { q := .un, ps := [], rs := [tG], fresh := true, pre := fun _ _ => none, post := fun _ x => ((), (ofGa (ge (1/2) 0), ())) }
noncomputable def iv_w4half (y : El sp_w4half.q) (x : Els sp_w4half.ps) : Nat → Option Inv := fun _ => none
noncomputable abbrev c_w4half : Cfg := cfgS (Tryz.f20).ntmps false [(40, sp_gParse.prim)]
def F_w4half (y : El sp_w4half.q) (x : Els sp_w4half.ps) : Prop :=
  okG (⟨#[(49 : UInt8), (47 : UInt8), (50 : UInt8), (32 : UInt8), (48 : UInt8)]⟩ : ByteArray) = true ∧ ∀ (r : Ro [tG, Ty.it IntKind.i64]), r = pG (valG (⟨#[(49 : UInt8), (47 : UInt8), (50 : UInt8), (32 : UInt8), (48 : UInt8)]⟩ : ByteArray), (0 : Int)) → (r.2.1, ()) = (ofGa (ge (1 / 2 : Rat) (0 : Rat)), ())
theorem w_w4half (y : El sp_w4half.q) (x : Els sp_w4half.ps) : aW c_w4half (iv_w4half y x) Tryz.f20 sp_w4half y x = F_w4half y x := by kernel_rfl
theorem m_w4half (y : El (.un)) (x : Els []) (h2 : wfE (.un) y) (h3 : wfEs [] x) : F_w4half y x := by
  unfold F_w4half
  refine ⟨wh_ok, ?_⟩
  intro r hr
  obtain rfl := hr.trans (congrArg (fun g => pG (g, 0)) wh_val)
  rfl
theorem fo_w4half : FnOk Tryz.prog 20 sp_w4half := fnOk_of (C := c_w4half) iv_w4half Tryz.func20 rfl (by kernel_rfl) tys_ok (prims_cons (spec_prim fo_gParse) prims_nil) mixed_ (Nat.le_refl _) rfl fun y x h1 h2 h3 h4 =>
  Eq.mpr (w_w4half y x) (m_w4half y x h2 h3)
theorem wn_1 : nearR (2, 1, ()) (2, -1, ()) 2 = (enc (64/25), 0) := by decide +kernel
theorem wn_2 : nearR (2, 1, ()) (2, 1, ()) 7 = (enc 0, 0) := by decide +kernel
theorem wi_30 : (⟨(fsmall 3 1).1, (fsmall 0 1).1⟩ : Ga) = ge 3 0 := by decide +kernel
theorem wi_20 : (⟨(fsmall 2 1).1, (fsmall 0 1).1⟩ : Ga) = ge 2 0 := by decide +kernel
theorem wi_10 : (⟨(fsmall 1 1).1, (fsmall 0 1).1⟩ : Ga) = ge 1 0 := by decide +kernel
theorem ws_1 : fsmall 64 25 = (enc (64/25), 0) := by decide +kernel
theorem ws_2 : gadd (ge 1 0) (ge (1/2) 0) = (ge (3/2) 0, 0) := by decide +kernel
theorem ws_3 : gquo (ge 3 0) (ge (3/2) 0) = (ge 2 0, 0) := by decide +kernel
theorem ws_4 : gmul (ge (1/2) 0) (ge 2 0) = (ge 1 0, 0) := by decide +kernel
theorem ws_5 : gsplit (ge 3 0) (ge (1/2) 0) = (ofGa (ge 2 0), ofGa (ge 1 0), 0, ()) := by
  unfold gsplit
  rw [if_neg (show ¬ gchk (ge 3 0) ≠ 0 by decide +kernel), if_neg (show ¬ gchk (ge (1/2) 0) ≠ 0 by decide +kernel), if_neg (show ¬ ge (1/2) 0 = gint (-1) 0 by decide +kernel), gint_10, ws_2, if_neg (by decide)]
  dsimp only
  rw [ws_3, if_neg (by decide)]
  dsimp only
  rw [ws_4, if_neg (by decide)]
theorem gs_20 : gsame (ge 2 0) (ge 2 0) = true := by decide +kernel
theorem gs_10 : gsame (ge 1 0) (ge 1 0) = true := by decide +kernel
noncomputable def sp_w4awake : Spec := { q := .un, ps := [], rs := [.bo], fresh := true, pre := fun _ _ => none, post := fun _ x => ((), (true, ())) }
noncomputable def iv_w4awake (y : El sp_w4awake.q) (x : Els sp_w4awake.ps) : Nat → Option Inv := fun _ => none
noncomputable abbrev c_w4awake : Cfg := cfgS (Tryz.f5).ntmps false [(17, sp_w4u.prim), (18, sp_w4v.prim), (7, sp_iNear.prim), (13, sp_iSplit.prim), (19, sp_gInt.prim), (20, sp_w4half.prim), (10, p_sure (sp_rSame.prim)), (21, sp_w4small.prim), (9, sp_rSgn.prim), (16, p_sure (sp_gSame.prim))]
def F_w4awake (y : El sp_w4awake.q) (x : Els sp_w4awake.ps) : Prop :=
  ∀ (r : Ro [tRot]), r = ((), ((2 : El (Ty.it IntKind.i32)), (1 : El (Ty.it IntKind.i32)), ()), ()) → ∀ (r_1 : Ro [tRot]), r_1 = ((), ((2 : El (Ty.it IntKind.i32)), (-1 : El (Ty.it IntKind.i32)), ()), ()) → ∀ (r_2 : Ro [tR, Ty.it IntKind.i64]), r_2 = pR (nearR r.2.1 r_1.2.1 (2 : Int)) → ∀ (r : Ro [tRot]), r = ((), ((2 : El (Ty.it IntKind.i32)), (1 : El (Ty.it IntKind.i32)), ()), ()) → ∀ (r_3 : Ro [tRot]), r_3 = ((), ((2 : El (Ty.it IntKind.i32)), (1 : El (Ty.it IntKind.i32)), ()), ()) → ∀ (r_4 : Ro [tR, Ty.it IntKind.i64]), r_4 = pR (nearR r.2.1 r_3.2.1 (7 : Int)) → ∀ (r : Ro [tG]), r = ((), ofGa { re := (fsmall (3 : Int) (1 : Int)).1, im := (fsmall (0 : Int) (1 : Int)).1 }, ()) → ∀ (r_5 : Ro [tG]), r_5 = ((), ofGa (ge (1 / 2 : Rat) (0 : Rat)), ()) → ∀ (r_6 : Ro [tG, tG, Ty.it IntKind.i64]), r_6 = ((), gsplit (toGa r.2.1) (toGa r_5.2.1)) → ((r_2.2.2.1 == (0 : Int)) = true → ∀ (r : Ro [tR]), r = ((), ofFr (fsmall (64 : Int) (25 : Int)).1, ()) → decide (toFr r_2.2.1 = toFr r.2.1) = true ∧ ((r_4.2.2.1 == (0 : Int)) = true → ∀ (r : Ro [Ty.it IntKind.i64]), r = ((), fsign (toFr r_4.2.1), ()) → ((r.2.1 == (0 : Int)) = true → ((r_6.2.2.2.1 == (0 : Int)) = true → ∀ (r : Ro [tG]), r = ((), ofGa { re := (fsmall (2 : Int) (1 : Int)).1, im := (fsmall (0 : Int) (1 : Int)).1 }, ()) → gsame (toGa r_6.2.1) (toGa r.2.1) = true ∧ ∀ (r : Ro [tG]), r = ((), ofGa { re := (fsmall (1 : Int) (1 : Int)).1, im := (fsmall (0 : Int) (1 : Int)).1 }, ()) → gsame (toGa r_6.2.2.1) (toGa r.2.1) = true ∧ (true, ()) = (true, ())) ∧ ((r_6.2.2.2.1 == (0 : Int)) = false → (false, ()) = (true, ()))) ∧ ((r.2.1 == (0 : Int)) = false → (false, ()) = (true, ()))) ∧ ((r_4.2.2.1 == (0 : Int)) = false → (false, ()) = (true, ()))) ∧ ((r_2.2.2.1 == (0 : Int)) = false → (false, ()) = (true, ()))
theorem w_w4awake (y : El sp_w4awake.q) (x : Els sp_w4awake.ps) : aW c_w4awake (iv_w4awake y x) Tryz.f5 sp_w4awake y x = F_w4awake y x := by kernel_rfl
theorem m_w4awake (y : El (.un)) (x : Els []) (h2 : wfE (.un) y) (h3 : wfEs [] x) : F_w4awake y x := by
  unfold F_w4awake
  rw [wi_30, wi_20, wi_10, ws_1]
  rintro _ rfl _ rfl _ hr
  obtain rfl := hr.trans (congrArg pR wn_1)
  rintro _ rfl _ rfl _ hr
  obtain rfl := hr.trans (congrArg pR wn_2)
  rintro _ rfl _ rfl _ hr
  obtain rfl := hr.trans (congrArg (fun t => (((), t) : El .un × Els [tG, tG, .it .i64])) ws_5)
  refine ⟨fun _ => ?_, fun h => Bool.noConfusion (show true = false from h)⟩
  rintro _ rfl
  refine ⟨decide_eq_true rfl, fun _ => ?_, fun h => Bool.noConfusion (show true = false from h)⟩
  rintro _ rfl
  have z : (fsign (enc 0) == (0 : Int)) = true := by decide +kernel
  refine ⟨fun _ => ⟨fun _ => ?_, fun h => Bool.noConfusion (show true = false from h)⟩, fun h => Bool.noConfusion (z.symm.trans h)⟩
  rintro _ rfl
  refine ⟨gs_20, ?_⟩
  rintro _ rfl
  exact ⟨gs_10, rfl⟩
theorem fo_w4awake : FnOk Tryz.prog 5 sp_w4awake := fnOk_of (C := c_w4awake) iv_w4awake Tryz.func5 rfl (by kernel_rfl) tys_ok (prims_cons (spec_prim fo_w4u) (prims_cons (spec_prim fo_w4v) (prims_cons (spec_prim fo_iNear) (prims_cons (spec_prim fo_iSplit) (prims_cons (spec_prim fo_gInt) (prims_cons (spec_prim fo_w4half) (prims_cons (pr_sure (spec_prim fo_rSame)) (prims_cons (spec_prim fo_w4small) (prims_cons (spec_prim fo_rSgn) (prims_cons (pr_sure (spec_prim fo_gSame)) prims_nil)))))))))) mixed_ (Nat.le_refl _) rfl fun y x h1 h2 h3 h4 =>
  Eq.mpr (w_w4awake y x) (m_w4awake y x h2 h3)
noncomputable def sp_lawInferWhole : Spec := { q := .un, ps := [tG, tG], rs := [.bo], fresh := true, pre := fun _ _ => none, post := fun _ _ => ((), (true, ())) }
noncomputable def iv_lawInferWhole (y : El sp_lawInferWhole.q) (x : Els sp_lawInferWhole.ps) : Nat → Option Inv := fun _ => none
noncomputable abbrev c_lawInferWhole : Cfg := cfgS (Tryz.f4).ntmps false [(5, p_sure (sp_w4awake.prim)), (12, sp_kLongG.prim), (13, sp_iSplit.prim), (14, sp_gAdd.prim), (15, sp_gMul.prim), (16, p_sure (sp_gSame.prim))]
def F_lawInferWhole (y : El sp_lawInferWhole.q) (x : Els sp_lawInferWhole.ps) : Prop :=
  true = true ∧ ∀ (r : Ro [Ty.bo]), r = ((), longGs [x.1, x.2.1], ()) → (r.2.1 = true → (true, ()) = (true, ())) ∧ (r.2.1 = false → ∀ (r : Ro [tG, tG, Ty.it IntKind.i64]), r = ((), gsplit (toGa x.1) (toGa x.2.1)) → ((r.2.2.2.1 != (0 : Int)) = true → ((-9223372036854775808 : Int) ≤ lenM (0 : Nat) (Ty.it IntKind.u32) r.2.1.1.2.2.1 + lenM (0 : Nat) (Ty.it IntKind.u32) r.2.2.1.1.2.2.1 ∧ lenM (0 : Nat) (Ty.it IntKind.u32) r.2.1.1.2.2.1 + lenM (0 : Nat) (Ty.it IntKind.u32) r.2.2.1.1.2.2.1 ≤ (9223372036854775807 : Int)) ∧ ((-9223372036854775808 : Int) ≤ lenM (0 : Nat) (Ty.it IntKind.u32) r.2.1.1.2.2.1 + lenM (0 : Nat) (Ty.it IntKind.u32) r.2.2.1.1.2.2.1 + lenM (0 : Nat) (Ty.it IntKind.u32) r.2.1.2.1.2.2.1 ∧ lenM (0 : Nat) (Ty.it IntKind.u32) r.2.1.1.2.2.1 + lenM (0 : Nat) (Ty.it IntKind.u32) r.2.2.1.1.2.2.1 + lenM (0 : Nat) (Ty.it IntKind.u32) r.2.1.2.1.2.2.1 ≤ (9223372036854775807 : Int)) ∧ ((-9223372036854775808 : Int) ≤ lenM (0 : Nat) (Ty.it IntKind.u32) r.2.1.1.2.2.1 + lenM (0 : Nat) (Ty.it IntKind.u32) r.2.2.1.1.2.2.1 + lenM (0 : Nat) (Ty.it IntKind.u32) r.2.1.2.1.2.2.1 + lenM (0 : Nat) (Ty.it IntKind.u32) r.2.2.1.2.1.2.2.1 ∧ lenM (0 : Nat) (Ty.it IntKind.u32) r.2.1.1.2.2.1 + lenM (0 : Nat) (Ty.it IntKind.u32) r.2.2.1.1.2.2.1 + lenM (0 : Nat) (Ty.it IntKind.u32) r.2.1.2.1.2.2.1 + lenM (0 : Nat) (Ty.it IntKind.u32) r.2.2.1.2.1.2.2.1 ≤ (9223372036854775807 : Int)) ∧ (lenM (0 : Nat) (Ty.it IntKind.u32) r.2.1.1.2.2.1 + lenM (0 : Nat) (Ty.it IntKind.u32) r.2.2.1.1.2.2.1 + lenM (0 : Nat) (Ty.it IntKind.u32) r.2.1.2.1.2.2.1 + lenM (0 : Nat) (Ty.it IntKind.u32) r.2.2.1.2.1.2.2.1 == (0 : Int), ()) = (true, ())) ∧ ((r.2.2.2.1 != (0 : Int)) = false → ∀ (r_1 : Ro [tG, Ty.it IntKind.i64]), r_1 = pG (gadd (toGa r.2.1) (toGa r.2.2.1)) → ∀ (r_2 : Ro [tG, Ty.it IntKind.i64]), r_2 = pG (gmul (toGa x.2.1) (toGa r.2.1)) → ((r_1.2.2.1 != (0 : Int)) = true → ((r_2.2.2.1 == (0 : Int)) = true → gsame (toGa r_2.2.1) (toGa r.2.2.1) = true ∧ (true, ()) = (true, ())) ∧ ((r_2.2.2.1 == (0 : Int)) = false → (false, ()) = (true, ()))) ∧ ((r_1.2.2.1 != (0 : Int)) = false → gsame (toGa r_1.2.1) (toGa x.1) = true ∧ ((r_2.2.2.1 == (0 : Int)) = true → gsame (toGa r_2.2.1) (toGa r.2.2.1) = true ∧ (true, ()) = (true, ())) ∧ ((r_2.2.2.1 == (0 : Int)) = false → (false, ()) = (true, ())))))
theorem w_lawInferWhole (y : El sp_lawInferWhole.q) (x : Els sp_lawInferWhole.ps) : aW c_lawInferWhole (iv_lawInferWhole y x) Tryz.f4 sp_lawInferWhole y x = F_lawInferWhole y x := by kernel_rfl
theorem m_lawInferWhole (y : El (.un)) (x : Els [tG, tG]) (h2 : wfE (.un) y) (h3 : wfEs [tG, tG] x) : F_lawInferWhole y x := by
  unfold F_lawInferWhole
  refine ⟨rfl, ?_⟩
  rintro _ rfl
  refine ⟨fun _ => rfl, fun _ => ?_⟩
  rcases gsplit_ok (wf_ga h3.1) (wf_ga h3.2.1) with ⟨e, he, hs⟩ | ⟨A, B, hs, hm, hB, hA⟩
  · intro r hr
    obtain rfl := hr.trans (congrArg (fun t => (((), t) : El .un × Els [tG, tG, .it .i64])) hs)
    refine ⟨fun _ => ⟨?_, ?_, ?_, rfl⟩, fun h => absurd (neF h) he⟩
    · exact (show (-9223372036854775808 : Int) ≤ 0 ∧ (0 : Int) ≤ 9223372036854775807 by decide)
    · exact (show (-9223372036854775808 : Int) ≤ 0 ∧ (0 : Int) ≤ 9223372036854775807 by decide)
    · exact (show (-9223372036854775808 : Int) ≤ 0 ∧ (0 : Int) ≤ 9223372036854775807 by decide)
  · intro r hr
    obtain rfl := hr.trans (congrArg (fun t => (((), t) : El .un × Els [tG, tG, .it .i64])) hs)
    refine ⟨fun h => Bool.noConfusion (show false = true from h), fun _ => ?_⟩
    rintro _ rfl
    intro r hr
    obtain rfl := hr.trans (congrArg pG hm)
    exact ⟨fun _ => ⟨fun _ => ⟨hB, rfl⟩, fun h => Bool.noConfusion (show true = false from h)⟩, fun h => ⟨hA (neF h), fun _ => ⟨hB, rfl⟩, fun h => Bool.noConfusion (show true = false from h)⟩⟩
theorem fo_lawInferWhole : FnOk Tryz.prog 4 sp_lawInferWhole := fnOk_of (C := c_lawInferWhole) iv_lawInferWhole Tryz.func4 rfl (by kernel_rfl) tys_ok (prims_cons (pr_sure (spec_prim fo_w4awake)) (prims_cons (spec_prim fo_kLongG) (prims_cons (spec_prim fo_iSplit) (prims_cons (spec_prim fo_gAdd) (prims_cons (spec_prim fo_gMul) (prims_cons (pr_sure (spec_prim fo_gSame)) prims_nil)))))) mixed_ (Nat.le_refl _) rfl fun y x h1 h2 h3 h4 =>
  Eq.mpr (w_lawInferWhole y x) (m_lawInferWhole y x h2 h3)
end Go.Proofs.YtagipdcmjphbiaaGreatDoor
namespace Go.Proofs.YtagipdcmjphbiaaGreatDoor
open Go.ChangeShapes Go.WideShapes Go.ChangeAt Go.RowKit Go.Joins Go.Deep
set_option linter.unusedVariables false
section
variable {H : Type} {enc : TypeId × Value → H} {P : Program} {w : World} {base : Nat} {spare : Nat → Bool} {held : Bool}
end
theorem mk_own : ownKnob Tryz.prog.godebug = none := by kernel_rfl
theorem mk_laidOut : laidOutB Tryz.prog = true := by kernel_rfl
end Go.Proofs.YtagipdcmjphbiaaGreatDoor
namespace Go.Proofs.YtagipdcmjphbiaaGreatDoor
open Go Go.RowKit Go.ChangeShapes Go.WideShapes Go.ChangeAt Go.Joins Go.Deep
def Ty.inn : Ty → Bool
  | .bo => true
  | .it _ => true
  | .st => true
  | .sl t => t.inn && !Nat.beq t.size 0
  | .pr a b => a.inn && b.inn
  | .un => true
  | _ => false
abbrev Zw (W : World) : Nat → Prop := fun g => g < W.heap.size
theorem lit_wf {k : IntKind} {n : Int} (h : (Lit.int k n).wf = true) : k.min ≤ n ∧ n ≤ k.max := by simpa [Lit.wf] using h
theorem inn_struct {P : Program} {tb : Tbl} {t e : Nat} {a b : Ty} (h : TyOk P tb t (.pr a b) e) : ∃ fs, P.underlying t = some (.struct fs) ∧ fsB tb (.pr a b) 0 fs.toList = true := by
  obtain ⟨d, h1, h2⟩ := h.und
  unfold dscB at h2
  split at h2 <;> first
    | (cases h2; done)
    | (rename_i e2; cases e2; done)
    | skip
  all_goals
    rename_i e2
    cases e2
    exact ⟨_, h1, h2⟩
theorem inn_slice {P : Program} {tb : Tbl} {t e : Nat} {u : Ty} (h : TyOk P tb t (.sl u) e) : P.underlying t = some (.slice e) ∧ ∃ e', look tb e = some (u, e') := by
  obtain ⟨d, h1, h2⟩ := h.und
  unfold dscB at h2
  split at h2 <;> first
    | (cases h2; done)
    | (rename_i e2; cases e2; done)
    | skip
  all_goals
    rename_i e2
    cases e2
    simp only [Bool.and_eq_true] at h2
    rw [Nat.eq_of_beq_eq_true h2.1] at h1
    exact ⟨h1, isT_look h2.2⟩
theorem size_of_ {P : Program} {tb : Tbl} {t e : Nat} {y : Ty} (h : TyOk P tb t y e) : P.cellsOf t = y.size := by
  obtain ⟨i, z, h1, h2, _⟩ := h.info
  simp [Program.cellsOf, h1, h2]
theorem rt_in {H : Type} {enc : TypeId × Value → H} {P : Program} {W : World} {tb : Tbl} (hT : tyB P tb tb = true) : ∀ (y : Ty), y.inn = true →
    (∀ {t e fuel : Nat} {cs : List Value} {x : DataW H × List MemPlace}, look tb t = some (y, e) → DataW.trod enc P W 0 (fun _ => true) true fuel t cs = some x → ∃ v : El y, RT (Zw W) W y v cs) ∧
    (∀ {o : Nat} {fs : List Field} {cs : List Value}, fsB tb y o fs = true → (∀ (i : Nat) (f : Field), fs[i]? = some f → ∃ (n : Nat) (x : DataW H × List MemPlace), DataW.trod enc P W 0 (fun _ => true) true n f.type ((cs.drop f.offset).take (P.cellsOf f.type)) = some x) → cs.length = o + y.size → ∃ v : El y, RT (Zw W) W y v (cs.drop o))
  | .bo, _ => by
    refine ⟨fun {t e fuel cs x} hl h => ?_, fun {o fs cs} h _ _ => by simp [fsB] at h⟩
    obtain ⟨d, h1, h2⟩ := (tyB_sound hT hl).und
    have : d = .bool := by cases d <;> simp [dscB] at h2; rfl
    subst this
    obtain ⟨b, rfl, _⟩ := DataW.trod_bool h1 h
    exact ⟨b, by rw [RT]⟩
  | .it k, _ => by
    refine ⟨fun {t e fuel cs x} hl h => ?_, fun {o fs cs} h _ _ => by simp [fsB] at h⟩
    obtain ⟨d, h1, h2⟩ := (tyB_sound hT hl).und
    have : d = .int k := by cases d <;> simp [dscB] at h2; rw [h2]
    subst this
    obtain ⟨n, rfl, _, hw⟩ := DataW.trod_int h1 h
    exact ⟨n, by rw [RT]; exact ⟨rfl, lit_wf hw⟩⟩
  | .st, _ => by
    refine ⟨fun {t e fuel cs x} hl h => ?_, fun {o fs cs} h _ _ => by simp [fsB] at h⟩
    obtain ⟨d, h1, h2⟩ := (tyB_sound hT hl).und
    have : d = .string := by cases d <;> simp [dscB] at h2; rfl
    subst this
    obtain ⟨s, rfl, _, hs⟩ := DataW.trod_string h1 h
    exact ⟨s, by rw [RT]; exact ⟨rfl, by simp only [maxLen] at hs; omega⟩⟩
  | .un, _ => by
    refine ⟨fun {t e fuel cs x} hl h => ?_, fun {o fs cs} _ _ hl => ⟨(), by rw [RT]; exact List.drop_of_length_le (by rw [hl]; exact Nat.le_refl _)⟩⟩
    obtain ⟨d, h1, h2⟩ := (tyB_sound hT hl).und
    cases d with
    | struct fs =>
      obtain ⟨xs, n, _, _, hl', _⟩ := DataW.trod_struct h1 h
      rw [size_of_ (tyB_sound hT hl)] at hl'
      exact ⟨(), by rw [RT]; exact List.eq_nil_of_length_eq_zero hl'⟩
    | _ => simp [dscB] at h2
  | .sl u, hy => by
    refine ⟨fun {t e fuel cs x} hl h => ?_, fun {o fs cs} h _ _ => by simp [fsB] at h⟩
    simp only [Ty.inn, Bool.and_eq_true, Bool.not_eq_true'] at hy
    have hu : u.size ≠ 0 := fun e0 => by rw [e0] at hy; exact absurd hy.2 (by decide)
    obtain ⟨h1, e', h2⟩ := inn_slice (tyB_sound hT hl)
    have hs := size_of_ (tyB_sound hT h2)
    rcases open_slice h1 h with ⟨rfl, _⟩ | ⟨a, len, cap, m, n, D, Pl, rfl, _, hl2, hm, rfl, _, hi⟩
    · exact ⟨[], RT.sl_nil _ _ _⟩
    · have hi : ∀ i, i < m → ∃ cs', W.cells? 0 (a.add (i * P.cellsOf e)) (P.cellsOf e) = some cs' ∧ DataW.trod enc P W 0 (fun _ => true) true n e cs' = some (D i, Pl i) := fun i hic => hi i hic
      simp only [maxLen] at hm
      have each : ∀ j, j < len → ∃ v : El u, ∃ us, RT (Zw W) W u v us ∧ us.length = u.size ∧ ∀ (i : Nat) (z : Value), us[i]? = some z → W.cell? ((a.add (j * u.size)).add i) = some z := fun j hj => by
        obtain ⟨us, k1, k2⟩ := hi j (by omega)
        obtain ⟨_, k3, k4⟩ := World.cells?_some k1
        obtain ⟨v, hv⟩ := (rt_in hT u hy.1).1 h2 k2
        rw [hs] at k3 k4
        refine ⟨v, us, hv, k3, fun i z hz => ?_⟩
        rw [k4 i (by rw [← k3]; exact (List.getElem?_eq_some_iff.1 hz).1)]
        exact hz
      haveI : Inhabited (El u) := ⟨dfl u⟩
      obtain ⟨f, hf⟩ := choose_lt each
      have hlen : ((List.range len).map f).length = len := by simp
      refine ⟨(List.range len).map f, ?_⟩
      rw [RT]
      refine ⟨some a, m, by rw [hlen], by rw [hlen]; exact hl2, by omega, (fun e => by cases e), fun j hj => ?_⟩
      rw [hlen] at hj
      obtain ⟨us, k1, k2, k3⟩ := hf j hj
      have e1 : ((List.range len).map f)[j]'(by rw [hlen]; exact hj) = f j := by simp
      rw [e1]
      have hpos : 0 < us.length := by omega
      obtain ⟨us0, _, l2, l3⟩ := hf 0 (by omega)
      have d0 := l3 0 _ (List.getElem?_eq_getElem (show 0 < us0.length by omega))
      have c0 := k3 0 _ (List.getElem?_eq_getElem hpos)
      obtain ⟨g, o, s⟩ := a
      cases s with
      | some s =>
        exfalso
        have e3 : ((⟨g, o, some s⟩ : Addr).add (0 * u.size)).add 0 = ⟨g, o, some s⟩ := by rw [Nat.zero_mul]; rfl
        rw [e3] at d0
        unfold World.cell? at d0
        split at d0 <;> simp at d0
      | none =>
        have e2 : ∀ i, ((⟨g, o, none⟩ : Addr).add (j * u.size)).add i = ⟨g, o + (j * u.size + i), none⟩ := fun i => by rw [add_plain, add_plain, Nat.add_assoc]
        refine ⟨g, o, us, rfl, ?_, k1, fun i z hz => ?_⟩
        · rw [e2] at c0
          exact World.block_lt_of_cell? W _ c0
        · have := k3 i z hz
          rw [e2] at this
          exact this
  | .pr a b, hy => by
    simp only [Ty.inn, Bool.and_eq_true] at hy
    have key : ∀ {o : Nat} {fs : List Field} {cs : List Value}, fsB tb (.pr a b) o fs = true → (∀ (i : Nat) (f : Field), fs[i]? = some f → ∃ (n : Nat) (x : DataW H × List MemPlace), DataW.trod enc P W 0 (fun _ => true) true n f.type ((cs.drop f.offset).take (P.cellsOf f.type)) = some x) → cs.length = o + (Ty.pr a b).size → ∃ v : El (.pr a b), RT (Zw W) W (.pr a b) v (cs.drop o) := fun {o fs cs} h hf hl => by
      cases fs with
      | nil => simp [fsB] at h
      | cons f fs =>
        simp only [fsB, Bool.and_eq_true] at h
        obtain ⟨⟨h1, h2⟩, h3⟩ := h
        obtain ⟨e, h2⟩ := isT_look h2
        obtain ⟨n, x, h4⟩ := hf 0 f rfl
        obtain ⟨v, hv⟩ := (rt_in hT a hy.1).1 h2 h4
        have hl' : cs.length = o + a.size + b.size := by rw [hl]; show o + (a.size + b.size) = _; omega
        obtain ⟨v', hv'⟩ := (rt_in hT b hy.2).2 h3 (fun i f' h => hf (i + 1) f' (by simpa using h)) hl'
        rw [Nat.eq_of_beq_eq_true h1, size_of_ (tyB_sound hT h2)] at hv
        refine ⟨(v, v'), ?_⟩
        rw [RT]
        refine ⟨_, _, ?_, hv, hv'⟩
        rw [← List.drop_drop, List.take_append_drop]
    refine ⟨fun {t e fuel cs x} hl h => ?_, key⟩
    obtain ⟨fs, h1, h2⟩ := inn_struct (tyB_sound hT hl)
    obtain ⟨xs, n, _, _, h3, h4, h5⟩ := DataW.trod_struct h1 h
    rw [size_of_ (tyB_sound hT hl)] at h3
    have := key (cs := cs) h2 (fun i f hf => by
      have hi := (List.getElem?_eq_some_iff.1 hf).1
      have h6 := h5 i f (by simpa using hf)
      have h7 : i < xs.length := by rw [h4]; simpa using hi
      exact ⟨n, xs[i], h6.trans (List.getElem?_eq_getElem h7)⟩) (by omega)
    simpa using this
  | .pt _, h => by cases h
  | .fn, h => by cases h
  | .lt _, h => by cases h
  | .lf _, h => by cases h
  | .oq, h => by cases h
theorem rv_in {H : Type} {enc : TypeId × Value → H} {P : Program} {W : World} {tb : Tbl} (hT : tyB P tb tb = true) {b0 t e : Nat} (y : Ty) (hy : y.inn = true) (hl : look tb t = some (y, e)) {v : Value} {d : DataW H} {p : List MemPlace} (hv : Value.okWide P W .any b0 t v) (h : DataW.Trod enc P W 0 (fun _ => true) true t v d p) : ∃ x : El y, RV (Zw W) W y x v := by
  obtain ⟨fuel, h⟩ := h
  have hty := tyB_sound hT hl
  obtain ⟨x, hx⟩ := (rt_in hT y hy).1 hl h
  refine ⟨x, ?_⟩
  unfold RV
  have one : v.cells.toList = [v] → y.agg = false → (if y.agg = true then ∃ us, v = .agg us ∧ RT (Zw W) W y x us.toList else RT (Zw W) W y x [v]) := fun h1 h2 => by
    rw [if_neg (by simp [h2]), ← h1]; exact hx
  obtain ⟨dsc, u1, u2⟩ := hty.und
  cases y with
  | bo =>
    have : dsc = .bool := by cases dsc <;> simp [dscB] at u2; rfl
    subst this
    obtain ⟨b, rfl⟩ := okWide_bool u1 hv
    exact one rfl rfl
  | it k =>
    have : dsc = .int k := by cases dsc <;> simp [dscB] at u2; rw [u2]
    subst this
    obtain ⟨n, rfl⟩ := okWide_int u1 hv
    exact one rfl rfl
  | st =>
    have : dsc = .string := by cases dsc <;> simp [dscB] at u2; rfl
    subst this
    obtain ⟨n, rfl⟩ := okWide_string u1 hv
    exact one rfl rfl
  | sl u =>
    obtain ⟨h1, _⟩ := inn_slice hty
    obtain ⟨A, l, c, rfl⟩ := okWide_slice h1 hv
    exact one rfl rfl
  | un =>
    cases dsc with
    | struct fs =>
      obtain ⟨cs, rfl, _⟩ := okWide_struct u1 hv
      rw [if_pos (show Ty.un.agg = true from rfl)]
      exact ⟨cs, rfl, hx⟩
    | _ => simp [dscB] at u2
  | pr a b =>
    obtain ⟨fs, h1, _⟩ := inn_struct hty
    obtain ⟨cs, rfl, _⟩ := okWide_struct h1 hv
    rw [if_pos (show (Ty.pr a b).agg = true from rfl)]
    exact ⟨cs, rfl, hx⟩
  | pt _ => cases hy
  | fn => cases hy
  | lt _ => cases hy
  | lf _ => cases hy
  | oq => cases hy
theorem law_calls {P : Program} {f : Nat} {ps : List Ty} (h : FnOk P f { q := .un, ps := ps, rs := [.bo], fresh := true, pre := fun _ _ => none, post := fun _ _ => ((), (true, ())) }) {W : World} {x : Els ps} {vs : List Value} (hv : RVs (Zw W) W ps x vs) : Calls P f vs.toArray W fun e W' => e = .returned (.bool true) ∧ Below W.heap.size W W' := by
  refine (h.2 (Zw W) W 0 vs () x (fun g hg => hg) hv trivial (fun e => by cases e) (fun _ => rfl)).mono ?_
  rintro e w' ⟨v, us, bs, Z', rfl, t1, t2, _, _, _, _, _, t8, _⟩
  have t8 : W.grownBy w' none := t8
  refine ⟨?_, t8.os, t8.tape, t8.output, t8.size, fun k hk => t8.block k hk (by simp)⟩
  match us, t2 with
  | [u], ⟨b, b', _, h1, h2⟩ =>
    have h1 : RT _ w' .bo true [u] ∧ b = [] := h1
    rw [RT] at h1
    have e1 : u = .bool true := by simpa using h1.1
    rcases t1 with ⟨u', e2, rfl⟩ | ⟨h3, _⟩
    · cases e2; rw [e1]
    · simp at h3
end Go.Proofs.YtagipdcmjphbiaaGreatDoor
