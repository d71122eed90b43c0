/- Texts of this claim, joined: B24. -/
import Derived.Test.YtifonmdcicegdaaGreatQx
set_option linter.unusedVariables false
set_option linter.unusedSimpArgs false
namespace Go.Proofs.YtifonmdcicegdaaGreat
open Go Go.RowKit

def nearS (a b c d : Int) : Nat → Ga × Int
  | 0 => (gint 0 0, 0)
  | t + 1 => if (nearS a b c d t).2 ≠ 0 then nearS a b c d t else if (gmul (rpow a (-b) t) (rpow c d t)).2 ≠ 0 then (Ga.zero, (gmul (rpow a (-b) t) (rpow c d t)).2) else gadd (nearS a b c d t).1 (gmul (rpow a (-b) t) (rpow c d t)).1
def nearN (n : Int) (s : Ga × Int) : Fr × Int := if s.2 ≠ 0 then (Fr.zero, s.2) else if (gnorm s.1).2 ≠ 0 then (Fr.zero, (gnorm s.1).2) else fsub (fsmall (n * n) 1).1 (gnorm s.1).1
def nearR (a b : El tRot) (n : Int) : Fr × Int := if rotC a ≠ 0 then (Fr.zero, rotC a) else if rotC b ≠ 0 then (Fr.zero, rotC b) else if n < 0 ∨ 256 < n then (Fr.zero, 2) else nearN n (nearS (rA a) (rB a) (rA b) (rB b) n.toNat)
theorem gpow_neg (a b : Int) : ∀ n, gpow a (-b) n = ((gpow a b n).1, -(gpow a b n).2)
  | 0 => rfl
  | n + 1 => by
    show ((gpow a (-b) n).1 * a - (gpow a (-b) n).2 * -b, (gpow a (-b) n).1 * -b + (gpow a (-b) n).2 * a) = ((gpow a b n).1 * a - (gpow a b n).2 * b, -((gpow a b n).1 * b + (gpow a b n).2 * a))
    rw [gpow_neg a b n]
    simp only [Int.mul_neg, Int.neg_mul, Int.neg_neg, Int.neg_add]
theorem nrmR_neg (a b : Int) : nrmR a (-b) = nrmR a b := by
  unfold nrmR
  rw [Int.neg_mul_neg]
theorem gconj_rpow {a b : Int} {n : Nat} (hn : n ≤ 1024) (ha : a.natAbs ≤ 1000) (hb : b.natAbs ≤ 1000) (hp : 1 ≤ a) : gconj (rpow a b n) = (rpow a (-b) n, 0) := by
  obtain ⟨_, h2⟩ := gpow_bd ha hb (2 * n)
  have lq := lngQ h2 (by omega) (nrmN (n := n) ha hb hp).1 (by omega) (nrmN (n := n) ha hb hp).2.1
  unfold gconj
  rw [if_neg (fun c => c (gchk_rpow hn ha hb hp))]
  show ((⟨enc (mkRat (gpow a b (2 * n)).1 (nrmR a b ^ n).toNat), (fneg (enc (mkRat (gpow a b (2 * n)).2 (nrmR a b ^ n).toNat))).1⟩ : Ga), (0 : Int)) = _
  rw [fneg_enc lq, Rat.neg_mkRat]
  unfold rpow
  rw [gpow_neg, nrmR_neg]
theorem powR_pos {r : El tRot} {t : Nat} (h : rotC r = 0) (ht : t ≤ 1024) : powR r (t : Int) = ((ofGa (rpow (rA r) (rB r) t), 0, ()) : El tG × Int × Unit) := by
  rw [← pw_3 h (by omega)]
  have e : powB r.2.1 (t : Int) = rB r := if_neg (by omega)
  rw [e]
  rfl
theorem powR_neg {r : El tRot} {t : Nat} (h : rotC r = 0) (ht : t ≤ 1024) : powR r (-(t : Int)) = ((ofGa (rpow (rA r) (-(rB r)) t), 0, ()) : El tG × Int × Unit) := by
  rw [← pw_3 h (by omega), Int.natAbs_neg, Int.natAbs_natCast]
  rcases Nat.eq_zero_or_pos t with rfl | p
  · rw [← rpow_0, ← rpow_0]
  · have e : powB r.2.1 (-(t : Int)) = -(rB r) := if_pos (by omega)
    rw [e]
theorem rot_bd {r : El tRot} (h : rotC r = 0) : (rA r).natAbs ≤ 1000 ∧ (rB r).natAbs ≤ 1000 ∧ 1 ≤ rA r := by
  have hb := rotC_0 h
  unfold rotB rotI at hb
  unfold rA rB
  omega
section
variable {a b c d : Int} {i : Nat}
theorem ns_bad (h : (nearS a b c d i).2 = 0) (k : (gmul (rpow a (-b) i) (rpow c d i)).2 ≠ 0) : nearS a b c d (i + 1) = (Ga.zero, (gmul (rpow a (-b) i) (rpow c d i)).2) := by
  show (if (nearS a b c d i).2 ≠ 0 then nearS a b c d i else if (gmul (rpow a (-b) i) (rpow c d i)).2 ≠ 0 then (Ga.zero, (gmul (rpow a (-b) i) (rpow c d i)).2) else gadd (nearS a b c d i).1 (gmul (rpow a (-b) i) (rpow c d i)).1) = _
  rw [if_neg (fun c => c h), if_pos k]
theorem ns_add (h : (nearS a b c d i).2 = 0) (k : (gmul (rpow a (-b) i) (rpow c d i)).2 = 0) : nearS a b c d (i + 1) = gadd (nearS a b c d i).1 (gmul (rpow a (-b) i) (rpow c d i)).1 := by
  show (if (nearS a b c d i).2 ≠ 0 then nearS a b c d i else if (gmul (rpow a (-b) i) (rpow c d i)).2 ≠ 0 then (Ga.zero, (gmul (rpow a (-b) i) (rpow c d i)).2) else gadd (nearS a b c d i).1 (gmul (rpow a (-b) i) (rpow c d i)).1) = _
  rw [if_neg (fun c => c h), if_neg (fun c => c k)]
theorem ns_stay (h : (nearS a b c d i).2 ≠ 0) : ∀ k, nearS a b c d (i + k) = nearS a b c d i
  | 0 => rfl
  | k + 1 => by
    have ih := ns_stay h k
    show (if (nearS a b c d (i + k)).2 ≠ 0 then nearS a b c d (i + k) else _) = _
    rw [ih, if_pos h]
end
section
variable {a b : El tRot} {n : Int}
theorem near_1 (h : rotC a ≠ 0) : ((ofFr Fr.zero, rotC a, ()) : El tR × Int × Unit) = (pR (nearR a b n)).2 := by unfold nearR; rw [if_pos h]; rfl
theorem near_2 (h : rotC a = 0) (k : rotC b ≠ 0) : ((ofFr Fr.zero, rotC b, ()) : El tR × Int × Unit) = (pR (nearR a b n)).2 := by unfold nearR; rw [if_neg (fun c => c h), if_pos k]; rfl
theorem near_3 (h : rotC a = 0) (k : rotC b = 0) (l : n < 0 ∨ 256 < n) : ((ofFr Fr.zero, 2, ()) : El tR × Int × Unit) = (pR (nearR a b n)).2 := by unfold nearR; rw [if_neg (fun c => c h), if_neg (fun c => c k), if_pos l]; rfl
theorem near_4 (h : rotC a = 0) (k : rotC b = 0) (l : ¬ (n < 0 ∨ 256 < n)) : nearR a b n = nearN n (nearS (rA a) (rB a) (rA b) (rB b) n.toNat) := by unfold nearR; rw [if_neg (fun c => c h), if_neg (fun c => c k), if_neg l]
theorem near_err {i : Nat} (h : rotC a = 0) (k : rotC b = 0) (l : ¬ (n < 0 ∨ 256 < n)) (hi : i + 1 ≤ n.toNat) (m : (nearS (rA a) (rB a) (rA b) (rB b) (i + 1)).2 ≠ 0) : ((ofFr Fr.zero, (nearS (rA a) (rB a) (rA b) (rB b) (i + 1)).2, ()) : El tR × Int × Unit) = (pR (nearR a b n)).2 := by
  rw [near_4 h k l]
  have e := ns_stay m (n.toNat - (i + 1))
  rw [show i + 1 + (n.toNat - (i + 1)) = n.toNat by omega] at e
  unfold nearN
  rw [e, if_pos m]
  rfl
theorem near_nrm (h : rotC a = 0) (k : rotC b = 0) (l : ¬ (n < 0 ∨ 256 < n)) (m : (nearS (rA a) (rB a) (rA b) (rB b) n.toNat).2 = 0) (o : (gnorm (nearS (rA a) (rB a) (rA b) (rB b) n.toNat).1).2 ≠ 0) : ((ofFr Fr.zero, (gnorm (nearS (rA a) (rB a) (rA b) (rB b) n.toNat).1).2, ()) : El tR × Int × Unit) = (pR (nearR a b n)).2 := by
  rw [near_4 h k l]
  unfold nearN
  rw [if_neg (fun c => c m), if_pos o]
  rfl
theorem near_ok (h : rotC a = 0) (k : rotC b = 0) (l : ¬ (n < 0 ∨ 256 < n)) (m : (nearS (rA a) (rB a) (rA b) (rB b) n.toNat).2 = 0) (o : (gnorm (nearS (rA a) (rB a) (rA b) (rB b) n.toNat).1).2 = 0) : (pR (fsub (fsmall (n * n) 1).1 (gnorm (nearS (rA a) (rB a) (rA b) (rB b) n.toNat).1).1)).2 = (pR (nearR a b n)).2 := by
  rw [near_4 h k l]
  unfold nearN
  rw [if_neg (fun c => c m), if_neg (fun c => c o)]
end
theorem sq_rng {n : Int} (h : 0 ≤ n) (k : n ≤ 256) : -9223372036854775808 ≤ n * n ∧ n * n ≤ 9223372036854775807 := by
  have h1 := Int.mul_nonneg h h
  have h2 : n * n ≤ 256 * 256 := Int.mul_le_mul k k h (by decide)
  omega
noncomputable def sp_iNear : Spec := { q := .un, ps := [tRot, tRot, .it .i64], rs := [tR, .it .i64], fresh := true, pre := fun _ _ => none, post := fun _ x => pR (nearR x.1 x.2.1 x.2.2.1) }
noncomputable def iv_iNear (y : El sp_iNear.q) (x : Els sp_iNear.ps) : Nat → Option Inv := fun k => if k = 0 then some { X := Nat, tm := fun i => [(2, .c (.sc (.int .i64 x.2.2.1))), (3, .c (.pv 1 0)), (4, .c (.pv 2 0)), (6, .c (.pv 3 0)), (10, .c (.pv 4 0)), (42, .c (.sc (.int .i64 x.2.2.1))), (43, .c (.sc (.int .i64 i)))], ob := fun i => [(1, .var (cel tRot x.1)), (2, .var (cel tRot x.2.1)), (3, .var (cel tR (ofFr Fr.zero))), (4, .var [.sc (.bool (nearS (rA x.1) (rB x.1) (rA x.2.1) (rB x.2.1) i).1.re.neg), .ow 5, .ow 6, .sc (.bool (nearS (rA x.1) (rB x.1) (rA x.2.1) (rB x.2.1) i).1.im.neg), .ow 7, .ow 8]), (5, .ty 144 (.it .u32) (nearS (rA x.1) (rB x.1) (rA x.2.1) (rB x.2.1) i).1.re.num 0), (6, .ty 144 (.it .u32) (nearS (rA x.1) (rB x.1) (rA x.2.1) (rB x.2.1) i).1.re.den 0), (7, .ty 144 (.it .u32) (nearS (rA x.1) (rB x.1) (rA x.2.1) (rB x.2.1) i).1.im.num 0), (8, .ty 144 (.it .u32) (nearS (rA x.1) (rB x.1) (rA x.2.1) (rB x.2.1) i).1.im.den 0)], n := 9, I := fun i => i ≤ (x.2.2.1 : Int).toNat ∧ (nearS (rA x.1) (rB x.1) (rA x.2.1) (rB x.2.1) i).2 = 0, μ := fun i => (x.2.2.1 : Int).toNat - i } else none
noncomputable abbrev c_iNear : Cfg := cfgS (Tryz.f93).ntmps false [(182, sp_rCk.prim), (189, sp_rPow.prim), (52, sp_gInt.prim), (63, sp_gMul.prim), (59, sp_gAdd.prim), (50, sp_gNorm.prim), (165, sp_rSmall.prim), (17, sp_rSub.prim)]
def F_iNear (y : El sp_iNear.q) (x : Els sp_iNear.ps) : Prop :=
  ∀ (r : El Ty.un × Els [Ty.it IntKind.i64]), r = ((), rotC x.fst, ()) → ((r.snd.fst != (0 : Int)) = true → ((false, [], [], ()), r.snd) = (pR (nearR x.fst x.snd.fst x.snd.snd.fst)).snd) ∧ ((r.snd.fst != (0 : Int)) = false → ∀ (r : El Ty.un × Els [Ty.it IntKind.i64]), r = ((), rotC x.snd.fst, ()) → ((r.snd.fst != (0 : Int)) = true → ((false, [], [], ()), r.snd) = (pR (nearR x.fst x.snd.fst x.snd.snd.fst)).snd) ∧ ((r.snd.fst != (0 : Int)) = false → (decide (x.snd.snd.fst < (0 : Int)) = true → ((false, [], [], ()), (2 : Int), ()) = (pR (nearR x.fst x.snd.fst x.snd.snd.fst)).snd) ∧ (decide (x.snd.snd.fst < (0 : Int)) = false → (decide (x.snd.snd.fst > (256 : Int)) = true → ((false, [], [], ()), (2 : Int), ()) = (pR (nearR x.fst x.snd.fst x.snd.snd.fst)).snd) ∧ (decide (x.snd.snd.fst > (256 : Int)) = false → ∀ (r : El Ty.un × Els [tG]), r = ((), ofGa { re := (fsmall (0 : Int) (1 : Int)).fst, im := (fsmall (0 : Int) (1 : Int)).fst }, ()) → (∃ (x_1 : Nat), x.snd.snd.fst = x.snd.snd.fst ∧ x.snd.snd.fst = x.snd.snd.fst ∧ (↑x_1 : Int) = (0 : Int) ∧ x.fst.fst = x.fst.fst ∧ x.fst.snd.fst = x.fst.snd.fst ∧ x.snd.fst.fst = x.snd.fst.fst ∧ x.snd.fst.snd.fst = x.snd.fst.snd.fst ∧ (ofFr Fr.zero).fst = false ∧ (ofFr Fr.zero).snd.fst = [] ∧ (ofFr Fr.zero).snd.snd.fst = [] ∧ (nearS (rA x.fst) (rB x.fst) (rA x.snd.fst) (rB x.snd.fst) x_1).fst.re.neg = r.snd.fst.fst.fst ∧ (nearS (rA x.fst) (rB x.fst) (rA x.snd.fst) (rB x.snd.fst) x_1).fst.im.neg = r.snd.fst.snd.fst.fst ∧ (nearS (rA x.fst) (rB x.fst) (rA x.snd.fst) (rB x.snd.fst) x_1).fst.re.num = r.snd.fst.fst.snd.fst ∧ (nearS (rA x.fst) (rB x.fst) (rA x.snd.fst) (rB x.snd.fst) x_1).fst.re.den = r.snd.fst.fst.snd.snd.fst ∧ (nearS (rA x.fst) (rB x.fst) (rA x.snd.fst) (rB x.snd.fst) x_1).fst.im.num = r.snd.fst.snd.fst.snd.fst ∧ (nearS (rA x.fst) (rB x.fst) (rA x.snd.fst) (rB x.snd.fst) x_1).fst.im.den = r.snd.fst.snd.fst.snd.snd.fst ∧ x_1 ≤ Int.toNat x.snd.snd.fst ∧ (nearS (rA x.fst) (rB x.fst) (rA x.snd.fst) (rB x.snd.fst) x_1).snd = (0 : Int)) ∧ ∀ (x_1 : Nat), x_1 ≤ Int.toNat x.snd.snd.fst ∧ (nearS (rA x.fst) (rB x.fst) (rA x.snd.fst) (rB x.snd.fst) x_1).snd = (0 : Int) → (decide ((↑x_1 : Int) < x.snd.snd.fst) = true → ((-9223372036854775808 : Int) ≤ -(↑x_1 : Int) ∧ -(↑x_1 : Int) ≤ (9223372036854775807 : Int)) ∧ ∀ (r : El Ty.un × Els [tG, Ty.it IntKind.i64]), r = ((), powR x.fst (-(↑x_1 : Int))) → ∀ (r_1 : El Ty.un × Els [tG, Ty.it IntKind.i64]), r_1 = ((), powR x.snd.fst (↑x_1 : Int)) → ∀ (r_2 : El Ty.un × Els [tG, Ty.it IntKind.i64]), r_2 = pG (gmul (toGa r.snd.fst) (toGa r_1.snd.fst)) → ((r_2.snd.snd.fst == (0 : Int)) = true → ∀ (r : El Ty.un × Els [tG, Ty.it IntKind.i64]), r = pG (gadd (toGa (((nearS (rA x.fst) (rB x.fst) (rA x.snd.fst) (rB x.snd.fst) x_1).fst.re.neg, (nearS (rA x.fst) (rB x.fst) (rA x.snd.fst) (rB x.snd.fst) x_1).fst.re.num, (nearS (rA x.fst) (rB x.fst) (rA x.snd.fst) (rB x.snd.fst) x_1).fst.re.den, ()), ((nearS (rA x.fst) (rB x.fst) (rA x.snd.fst) (rB x.snd.fst) x_1).fst.im.neg, (nearS (rA x.fst) (rB x.fst) (rA x.snd.fst) (rB x.snd.fst) x_1).fst.im.num, (nearS (rA x.fst) (rB x.fst) (rA x.snd.fst) (rB x.snd.fst) x_1).fst.im.den, ()), ())) (toGa r_2.snd.fst)) → ((r.snd.snd.fst != (0 : Int)) = true → ((false, [], [], ()), r.snd.snd) = (pR (nearR x.fst x.snd.fst x.snd.snd.fst)).snd) ∧ ((r.snd.snd.fst != (0 : Int)) = false → ((-9223372036854775808 : Int) ≤ (↑x_1 : Int) + (1 : Int) ∧ (↑x_1 : Int) + (1 : Int) ≤ (9223372036854775807 : Int)) ∧ ∃ (x' : Nat), x.snd.snd.fst = x.snd.snd.fst ∧ x.snd.snd.fst = x.snd.snd.fst ∧ (↑x' : Int) = (↑x_1 : Int) + (1 : Int) ∧ x.fst.fst = x.fst.fst ∧ x.fst.snd.fst = x.fst.snd.fst ∧ x.snd.fst.fst = x.snd.fst.fst ∧ x.snd.fst.snd.fst = x.snd.fst.snd.fst ∧ (ofFr Fr.zero).fst = (ofFr Fr.zero).fst ∧ (ofFr Fr.zero).snd.fst = (ofFr Fr.zero).snd.fst ∧ (ofFr Fr.zero).snd.snd.fst = (ofFr Fr.zero).snd.snd.fst ∧ (nearS (rA x.fst) (rB x.fst) (rA x.snd.fst) (rB x.snd.fst) x').fst.re.neg = r.snd.fst.fst.fst ∧ (nearS (rA x.fst) (rB x.fst) (rA x.snd.fst) (rB x.snd.fst) x').fst.im.neg = r.snd.fst.snd.fst.fst ∧ (nearS (rA x.fst) (rB x.fst) (rA x.snd.fst) (rB x.snd.fst) x').fst.re.num = r.snd.fst.fst.snd.fst ∧ (nearS (rA x.fst) (rB x.fst) (rA x.snd.fst) (rB x.snd.fst) x').fst.re.den = r.snd.fst.fst.snd.snd.fst ∧ (nearS (rA x.fst) (rB x.fst) (rA x.snd.fst) (rB x.snd.fst) x').fst.im.num = r.snd.fst.snd.fst.snd.fst ∧ (nearS (rA x.fst) (rB x.fst) (rA x.snd.fst) (rB x.snd.fst) x').fst.im.den = r.snd.fst.snd.fst.snd.snd.fst ∧ (x' ≤ Int.toNat x.snd.snd.fst ∧ (nearS (rA x.fst) (rB x.fst) (rA x.snd.fst) (rB x.snd.fst) x').snd = (0 : Int)) ∧ Int.toNat x.snd.snd.fst - x' < Int.toNat x.snd.snd.fst - x_1)) ∧ ((r_2.snd.snd.fst == (0 : Int)) = false → ((r_2.snd.snd.fst != (0 : Int)) = true → ((false, [], [], ()), r_2.snd.snd) = (pR (nearR x.fst x.snd.fst x.snd.snd.fst)).snd) ∧ ((r_2.snd.snd.fst != (0 : Int)) = false → ((-9223372036854775808 : Int) ≤ (↑x_1 : Int) + (1 : Int) ∧ (↑x_1 : Int) + (1 : Int) ≤ (9223372036854775807 : Int)) ∧ ∃ (x' : Nat), x.snd.snd.fst = x.snd.snd.fst ∧ x.snd.snd.fst = x.snd.snd.fst ∧ (↑x' : Int) = (↑x_1 : Int) + (1 : Int) ∧ x.fst.fst = x.fst.fst ∧ x.fst.snd.fst = x.fst.snd.fst ∧ x.snd.fst.fst = x.snd.fst.fst ∧ x.snd.fst.snd.fst = x.snd.fst.snd.fst ∧ (ofFr Fr.zero).fst = (ofFr Fr.zero).fst ∧ (ofFr Fr.zero).snd.fst = (ofFr Fr.zero).snd.fst ∧ (ofFr Fr.zero).snd.snd.fst = (ofFr Fr.zero).snd.snd.fst ∧ (nearS (rA x.fst) (rB x.fst) (rA x.snd.fst) (rB x.snd.fst) x').fst.re.neg = (nearS (rA x.fst) (rB x.fst) (rA x.snd.fst) (rB x.snd.fst) x_1).fst.re.neg ∧ (nearS (rA x.fst) (rB x.fst) (rA x.snd.fst) (rB x.snd.fst) x').fst.im.neg = (nearS (rA x.fst) (rB x.fst) (rA x.snd.fst) (rB x.snd.fst) x_1).fst.im.neg ∧ (nearS (rA x.fst) (rB x.fst) (rA x.snd.fst) (rB x.snd.fst) x').fst.re.num = (nearS (rA x.fst) (rB x.fst) (rA x.snd.fst) (rB x.snd.fst) x_1).fst.re.num ∧ (nearS (rA x.fst) (rB x.fst) (rA x.snd.fst) (rB x.snd.fst) x').fst.re.den = (nearS (rA x.fst) (rB x.fst) (rA x.snd.fst) (rB x.snd.fst) x_1).fst.re.den ∧ (nearS (rA x.fst) (rB x.fst) (rA x.snd.fst) (rB x.snd.fst) x').fst.im.num = (nearS (rA x.fst) (rB x.fst) (rA x.snd.fst) (rB x.snd.fst) x_1).fst.im.num ∧ (nearS (rA x.fst) (rB x.fst) (rA x.snd.fst) (rB x.snd.fst) x').fst.im.den = (nearS (rA x.fst) (rB x.fst) (rA x.snd.fst) (rB x.snd.fst) x_1).fst.im.den ∧ (x' ≤ Int.toNat x.snd.snd.fst ∧ (nearS (rA x.fst) (rB x.fst) (rA x.snd.fst) (rB x.snd.fst) x').snd = (0 : Int)) ∧ Int.toNat x.snd.snd.fst - x' < Int.toNat x.snd.snd.fst - x_1))) ∧ (decide ((↑x_1 : Int) < x.snd.snd.fst) = false → ∀ (r : El Ty.un × Els [tR, Ty.it IntKind.i64]), r = pR (gnorm (toGa (((nearS (rA x.fst) (rB x.fst) (rA x.snd.fst) (rB x.snd.fst) x_1).fst.re.neg, (nearS (rA x.fst) (rB x.fst) (rA x.snd.fst) (rB x.snd.fst) x_1).fst.re.num, (nearS (rA x.fst) (rB x.fst) (rA x.snd.fst) (rB x.snd.fst) x_1).fst.re.den, ()), ((nearS (rA x.fst) (rB x.fst) (rA x.snd.fst) (rB x.snd.fst) x_1).fst.im.neg, (nearS (rA x.fst) (rB x.fst) (rA x.snd.fst) (rB x.snd.fst) x_1).fst.im.num, (nearS (rA x.fst) (rB x.fst) (rA x.snd.fst) (rB x.snd.fst) x_1).fst.im.den, ()), ()))) → ((r.snd.snd.fst != (0 : Int)) = true → ((false, [], [], ()), r.snd.snd) = (pR (nearR x.fst x.snd.fst x.snd.snd.fst)).snd) ∧ ((r.snd.snd.fst != (0 : Int)) = false → ((-9223372036854775808 : Int) ≤ x.snd.snd.fst * x.snd.snd.fst ∧ x.snd.snd.fst * x.snd.snd.fst ≤ (9223372036854775807 : Int)) ∧ ∀ (r_1 : El Ty.un × Els [tR, Ty.it IntKind.i64]), r_1 = pR (fsmall (x.snd.snd.fst * x.snd.snd.fst) (1 : Int)) → ∀ (r_2 : El Ty.un × Els [tR, Ty.it IntKind.i64]), r_2 = pR (fsub (toFr r_1.snd.fst) (toFr r.snd.fst)) → r_2.snd = (pR (nearR x.fst x.snd.fst x.snd.snd.fst)).snd))))))
set_option maxRecDepth 100000 in
theorem w_iNear (y : El sp_iNear.q) (x : Els sp_iNear.ps) : aw c_iNear (iv_iNear y x) (codeOf Tryz.f93) 0 (retQ c_iNear sp_iNear (Tryz.f93).results.toList y x) (startT sp_iNear x) (startO sp_iNear y) 1 = F_iNear y x := by kernel_rfl
theorem m_iNear (y : El (.un)) (x : Els [tRot, tRot, .it .i64]) (h2 : wfE (.un) y) (h3 : wfEs [tRot, tRot, .it .i64] x) : F_iNear y x := by
  unfold F_iNear
  rintro _ rfl
  refine ⟨fun h => near_1 (neT h), fun h => ?_⟩
  have h := neF h
  rintro _ rfl
  refine ⟨fun k => near_2 h (neT k), fun k => ⟨fun n1 => near_3 h (neF k) (.inl (ltT n1)), fun n1 => ⟨fun n2 => near_3 h (neF k) (.inr (gtT n2)), fun n2 => ?_⟩⟩⟩
  have k := neF k
  have l0 : ¬ ((x.2.2.1 : Int) < 0 ∨ (256 : Int) < x.2.2.1) := by
    intro c
    rcases c with c | c
    · exact absurd (ltF n1) (Int.not_le.2 c)
    · exact absurd (gtF n2) (Int.not_le.2 c)
  have n1 := ltF n1
  have n2 := gtF n2
  obtain ⟨a1, a2, a3⟩ := rot_bd h
  obtain ⟨b1, b2, b3⟩ := rot_bd k
  rintro _ rfl
  refine ⟨⟨0, rfl, rfl, rfl, rfl, rfl, rfl, rfl, rfl, rfl, rfl, rfl, rfl, rfl, rfl, rfl, rfl, Nat.zero_le _, rfl⟩, fun i hi => ⟨fun l => ?_, fun l => ?_⟩⟩
  · obtain ⟨i0, i1⟩ := hi
    have l := ltT l
    have il : i + 1 ≤ Int.toNat x.2.2.1 := by omega
    have it : i ≤ 1024 := by omega
    refine ⟨⟨by omega, by omega⟩, ?_⟩
    intro r1 hr1
    obtain rfl : r1 = ((), ofGa (rpow (rA x.1) (-(rB x.1)) i), 0, ()) := hr1.trans (congrArg (fun z => ((), z)) (powR_neg h it))
    intro r2 hr2
    obtain rfl : r2 = ((), ofGa (rpow (rA x.2.1) (rB x.2.1) i), 0, ()) := hr2.trans (congrArg (fun z => ((), z)) (powR_pos k it))
    rintro _ rfl
    refine ⟨fun p => ?_, fun p => ⟨fun _ => ?_, fun q => absurd (neF q) (eqF p)⟩⟩
    · have e := ns_add i1 (eqT p)
      intro r4 hr4
      obtain rfl : r4 = pG (nearS (rA x.1) (rB x.1) (rA x.2.1) (rB x.2.1) (i + 1)) := hr4.trans (congrArg pG e.symm)
      refine ⟨fun q => near_err h k l0 il (neT q), fun q => ⟨⟨by omega, by omega⟩, i + 1, ?_⟩⟩
      have q := neF q
      and_intros
      all_goals first | rfl | exact il | exact q | omega
    · have e := ns_bad i1 (eqF p)
      have := near_err (i := i) h k l0 il (by rw [e]; exact eqF p)
      rw [e] at this
      exact this
  · obtain ⟨i0, i1⟩ := hi
    have l := ltF l
    have ei : i = Int.toNat x.2.2.1 := by omega
    rw [ei] at i1 ⊢
    rintro _ rfl
    refine ⟨fun o => near_nrm h k l0 i1 (neT o), fun o => ⟨sq_rng n1 n2, ?_⟩⟩
    rintro _ rfl _ rfl
    exact near_ok h k l0 i1 (neF o)
set_option maxRecDepth 100000 in
theorem fo_iNear : FnOk Tryz.prog 93 sp_iNear := fnOk_of (C := c_iNear) iv_iNear Tryz.func93 rfl (by kernel_rfl) tys_ok (prims_cons (spec_prim fo_rCk) (prims_cons (spec_prim fo_rPow) (prims_cons (spec_prim fo_gInt) (prims_cons (spec_prim fo_gMul) (prims_cons (spec_prim fo_gAdd) (prims_cons (spec_prim fo_gNorm) (prims_cons (spec_prim fo_rSmall) (prims_cons (spec_prim fo_rSub) prims_nil)))))))) mixed_ (Nat.le_refl _) rfl fun y x h1 h2 h3 h4 =>
  Eq.mpr (w_iNear y x) (m_iNear y x h2 h3)
noncomputable def sp_nNear : Spec := { q := .un, ps := [tRot, tRot, .it .i64], rs := [tR, .it .i64], fresh := false, pre := fun _ _ => none, post := fun _ x => pR (nearR x.1 x.2.1 x.2.2.1) }
noncomputable def iv_nNear (y : El sp_nNear.q) (x : Els sp_nNear.ps) : Nat → Option Inv := fun k => if k = 0 then some { X := Nat, tm := fun i => [(2, .c (.sc (.int .i64 x.2.2.1))), (3, .c (.pv 1 0)), (4, .c (.pv 2 0)), (6, .c (.pv 3 0)), (9, .c (.pv 4 0)), (10, .c (.sc (.int .i64 i)))], ob := fun i => [(1, .var (cel tRot x.1)), (2, .var (cel tRot x.2.1)), (3, .var (cel tR (ofFr Fr.zero))), (4, .var (cel tG (ofGa (nearS (rA x.1) (rB x.1) (rA x.2.1) (rB x.2.1) i).1)))], n := 5, I := fun i => i ≤ (x.2.2.1 : Int).toNat ∧ (nearS (rA x.1) (rB x.1) (rA x.2.1) (rB x.2.1) i).2 = 0, μ := fun i => (x.2.2.1 : Int).toNat - i } else none
noncomputable abbrev c_nNear : Cfg := cfgS (Tryz.f94).ntmps false [(183, sp_nRCk.prim), (191, sp_n05Pow.prim), (190, sp_n15Zero.prim), (47, sp_hConj.prim), (64, sp_hMul.prim), (60, sp_hAdd.prim), (51, sp_hNorm.prim), (171, sp_nSmall.prim), (18, sp_nSub.prim)]
def F_nNear (y : El sp_nNear.q) (x : Els sp_nNear.ps) : Prop :=
  ∀ (r : El Ty.un × Els [Ty.it IntKind.i64]), r = ((), rotC x.fst, ()) → ((r.snd.fst == (0 : Int)) = true → ∀ (r : El Ty.un × Els [Ty.it IntKind.i64]), r = ((), rotC x.snd.fst, ()) → ((r.snd.fst != (0 : Int)) = true → ((false, [], [], ()), r.snd) = (pR (nearR x.fst x.snd.fst x.snd.snd.fst)).snd) ∧ ((r.snd.fst != (0 : Int)) = false → (decide (x.snd.snd.fst < (0 : Int)) = true → ((false, [], [], ()), (2 : Int), ()) = (pR (nearR x.fst x.snd.fst x.snd.snd.fst)).snd) ∧ (decide (x.snd.snd.fst < (0 : Int)) = false → (decide (x.snd.snd.fst > (256 : Int)) = true → ((false, [], [], ()), (2 : Int), ()) = (pR (nearR x.fst x.snd.fst x.snd.snd.fst)).snd) ∧ (decide (x.snd.snd.fst > (256 : Int)) = false → ∀ (r : El Ty.un × Els [tG]), r = ((), ofGa (gint (0 : Int) (0 : Int)), ()) → (∃ (x_1 : Nat), x.snd.snd.fst = x.snd.snd.fst ∧ (↑x_1 : Int) = (0 : Int) ∧ x.fst.fst = x.fst.fst ∧ x.fst.snd.fst = x.fst.snd.fst ∧ x.snd.fst.fst = x.snd.fst.fst ∧ x.snd.fst.snd.fst = x.snd.fst.snd.fst ∧ (ofFr Fr.zero).fst = false ∧ (ofFr Fr.zero).snd.fst = [] ∧ (ofFr Fr.zero).snd.snd.fst = [] ∧ (ofGa (nearS (rA x.fst) (rB x.fst) (rA x.snd.fst) (rB x.snd.fst) x_1).fst).fst.fst = r.snd.fst.fst.fst ∧ (ofGa (nearS (rA x.fst) (rB x.fst) (rA x.snd.fst) (rB x.snd.fst) x_1).fst).fst.snd.fst = r.snd.fst.fst.snd.fst ∧ (ofGa (nearS (rA x.fst) (rB x.fst) (rA x.snd.fst) (rB x.snd.fst) x_1).fst).fst.snd.snd.fst = r.snd.fst.fst.snd.snd.fst ∧ (ofGa (nearS (rA x.fst) (rB x.fst) (rA x.snd.fst) (rB x.snd.fst) x_1).fst).snd.fst.fst = r.snd.fst.snd.fst.fst ∧ (ofGa (nearS (rA x.fst) (rB x.fst) (rA x.snd.fst) (rB x.snd.fst) x_1).fst).snd.fst.snd.fst = r.snd.fst.snd.fst.snd.fst ∧ (ofGa (nearS (rA x.fst) (rB x.fst) (rA x.snd.fst) (rB x.snd.fst) x_1).fst).snd.fst.snd.snd.fst = r.snd.fst.snd.fst.snd.snd.fst ∧ x_1 ≤ Int.toNat x.snd.snd.fst ∧ (nearS (rA x.fst) (rB x.fst) (rA x.snd.fst) (rB x.snd.fst) x_1).snd = (0 : Int)) ∧ ∀ (x_1 : Nat), x_1 ≤ Int.toNat x.snd.snd.fst ∧ (nearS (rA x.fst) (rB x.fst) (rA x.snd.fst) (rB x.snd.fst) x_1).snd = (0 : Int) → (decide ((↑x_1 : Int) < x.snd.snd.fst) = true → ∀ (r : El Ty.un × Els [tG, Ty.it IntKind.i64]), r = ((), powR x.fst (↑x_1 : Int)) → ∀ (r_1 : El Ty.un × Els [tG, Ty.it IntKind.i64]), r_1 = ((), powR x.snd.fst (↑x_1 : Int)) → ∀ (r_2 : El Ty.un × Els [tG, Ty.it IntKind.i64]), r_2 = pG (gconj (toGa r.snd.fst)) → ∀ (r : El Ty.un × Els [tG, Ty.it IntKind.i64]), r = pG (gmul (toGa r_2.snd.fst) (toGa r_1.snd.fst)) → ((r.snd.snd.fst == (0 : Int)) = true → ∀ (r_3 : El Ty.un × Els [tG, Ty.it IntKind.i64]), r_3 = pG (gadd (toGa (ofGa (nearS (rA x.fst) (rB x.fst) (rA x.snd.fst) (rB x.snd.fst) x_1).fst)) (toGa r.snd.fst)) → ((r_3.snd.snd.fst != (0 : Int)) = true → ((false, [], [], ()), r_3.snd.snd) = (pR (nearR x.fst x.snd.fst x.snd.snd.fst)).snd) ∧ ((r_3.snd.snd.fst != (0 : Int)) = false → ((-9223372036854775808 : Int) ≤ (↑x_1 : Int) + (1 : Int) ∧ (↑x_1 : Int) + (1 : Int) ≤ (9223372036854775807 : Int)) ∧ ∃ (x' : Nat), x.snd.snd.fst = x.snd.snd.fst ∧ (↑x' : Int) = (↑x_1 : Int) + (1 : Int) ∧ x.fst.fst = x.fst.fst ∧ x.fst.snd.fst = x.fst.snd.fst ∧ x.snd.fst.fst = x.snd.fst.fst ∧ x.snd.fst.snd.fst = x.snd.fst.snd.fst ∧ (ofFr Fr.zero).fst = (ofFr Fr.zero).fst ∧ (ofFr Fr.zero).snd.fst = (ofFr Fr.zero).snd.fst ∧ (ofFr Fr.zero).snd.snd.fst = (ofFr Fr.zero).snd.snd.fst ∧ (ofGa (nearS (rA x.fst) (rB x.fst) (rA x.snd.fst) (rB x.snd.fst) x').fst).fst.fst = r_3.snd.fst.fst.fst ∧ (ofGa (nearS (rA x.fst) (rB x.fst) (rA x.snd.fst) (rB x.snd.fst) x').fst).fst.snd.fst = r_3.snd.fst.fst.snd.fst ∧ (ofGa (nearS (rA x.fst) (rB x.fst) (rA x.snd.fst) (rB x.snd.fst) x').fst).fst.snd.snd.fst = r_3.snd.fst.fst.snd.snd.fst ∧ (ofGa (nearS (rA x.fst) (rB x.fst) (rA x.snd.fst) (rB x.snd.fst) x').fst).snd.fst.fst = r_3.snd.fst.snd.fst.fst ∧ (ofGa (nearS (rA x.fst) (rB x.fst) (rA x.snd.fst) (rB x.snd.fst) x').fst).snd.fst.snd.fst = r_3.snd.fst.snd.fst.snd.fst ∧ (ofGa (nearS (rA x.fst) (rB x.fst) (rA x.snd.fst) (rB x.snd.fst) x').fst).snd.fst.snd.snd.fst = r_3.snd.fst.snd.fst.snd.snd.fst ∧ (x' ≤ Int.toNat x.snd.snd.fst ∧ (nearS (rA x.fst) (rB x.fst) (rA x.snd.fst) (rB x.snd.fst) x').snd = (0 : Int)) ∧ Int.toNat x.snd.snd.fst - x' < Int.toNat x.snd.snd.fst - x_1)) ∧ ((r.snd.snd.fst == (0 : Int)) = false → ((r.snd.snd.fst != (0 : Int)) = true → ((false, [], [], ()), r.snd.snd) = (pR (nearR x.fst x.snd.fst x.snd.snd.fst)).snd) ∧ ((r.snd.snd.fst != (0 : Int)) = false → ((-9223372036854775808 : Int) ≤ (↑x_1 : Int) + (1 : Int) ∧ (↑x_1 : Int) + (1 : Int) ≤ (9223372036854775807 : Int)) ∧ ∃ (x' : Nat), x.snd.snd.fst = x.snd.snd.fst ∧ (↑x' : Int) = (↑x_1 : Int) + (1 : Int) ∧ x.fst.fst = x.fst.fst ∧ x.fst.snd.fst = x.fst.snd.fst ∧ x.snd.fst.fst = x.snd.fst.fst ∧ x.snd.fst.snd.fst = x.snd.fst.snd.fst ∧ (ofFr Fr.zero).fst = (ofFr Fr.zero).fst ∧ (ofFr Fr.zero).snd.fst = (ofFr Fr.zero).snd.fst ∧ (ofFr Fr.zero).snd.snd.fst = (ofFr Fr.zero).snd.snd.fst ∧ (ofGa (nearS (rA x.fst) (rB x.fst) (rA x.snd.fst) (rB x.snd.fst) x').fst).fst.fst = r.snd.fst.fst.fst ∧ (ofGa (nearS (rA x.fst) (rB x.fst) (rA x.snd.fst) (rB x.snd.fst) x').fst).fst.snd.fst = r.snd.fst.fst.snd.fst ∧ (ofGa (nearS (rA x.fst) (rB x.fst) (rA x.snd.fst) (rB x.snd.fst) x').fst).fst.snd.snd.fst = r.snd.fst.fst.snd.snd.fst ∧ (ofGa (nearS (rA x.fst) (rB x.fst) (rA x.snd.fst) (rB x.snd.fst) x').fst).snd.fst.fst = r.snd.fst.snd.fst.fst ∧ (ofGa (nearS (rA x.fst) (rB x.fst) (rA x.snd.fst) (rB x.snd.fst) x').fst).snd.fst.snd.fst = r.snd.fst.snd.fst.snd.fst ∧ (ofGa (nearS (rA x.fst) (rB x.fst) (rA x.snd.fst) (rB x.snd.fst) x').fst).snd.fst.snd.snd.fst = r.snd.fst.snd.fst.snd.snd.fst ∧ (x' ≤ Int.toNat x.snd.snd.fst ∧ (nearS (rA x.fst) (rB x.fst) (rA x.snd.fst) (rB x.snd.fst) x').snd = (0 : Int)) ∧ Int.toNat x.snd.snd.fst - x' < Int.toNat x.snd.snd.fst - x_1))) ∧ (decide ((↑x_1 : Int) < x.snd.snd.fst) = false → ∀ (r : El Ty.un × Els [tR, Ty.it IntKind.i64]), r = pR (gnorm (toGa (ofGa (nearS (rA x.fst) (rB x.fst) (rA x.snd.fst) (rB x.snd.fst) x_1).fst))) → ((r.snd.snd.fst != (0 : Int)) = true → ((false, [], [], ()), r.snd.snd) = (pR (nearR x.fst x.snd.fst x.snd.snd.fst)).snd) ∧ ((r.snd.snd.fst != (0 : Int)) = false → ((-9223372036854775808 : Int) ≤ x.snd.snd.fst * x.snd.snd.fst ∧ x.snd.snd.fst * x.snd.snd.fst ≤ (9223372036854775807 : Int)) ∧ ∀ (r_1 : El Ty.un × Els [tR, Ty.it IntKind.i64]), r_1 = pR (fsmall (x.snd.snd.fst * x.snd.snd.fst) (1 : Int)) → ∀ (r_2 : El Ty.un × Els [tR, Ty.it IntKind.i64]), r_2 = pR (fsub (toFr r_1.snd.fst) (toFr r.snd.fst)) → r_2.snd = (pR (nearR x.fst x.snd.fst x.snd.snd.fst)).snd)))))) ∧ ((r.snd.fst == (0 : Int)) = false → ((r.snd.fst != (0 : Int)) = true → ((false, [], [], ()), r.snd) = (pR (nearR x.fst x.snd.fst x.snd.snd.fst)).snd) ∧ ((r.snd.fst != (0 : Int)) = false → (decide (x.snd.snd.fst < (0 : Int)) = true → ((false, [], [], ()), (2 : Int), ()) = (pR (nearR x.fst x.snd.fst x.snd.snd.fst)).snd) ∧ (decide (x.snd.snd.fst < (0 : Int)) = false → (decide (x.snd.snd.fst > (256 : Int)) = true → ((false, [], [], ()), (2 : Int), ()) = (pR (nearR x.fst x.snd.fst x.snd.snd.fst)).snd) ∧ (decide (x.snd.snd.fst > (256 : Int)) = false → ∀ (r : El Ty.un × Els [tG]), r = ((), ofGa (gint (0 : Int) (0 : Int)), ()) → (∃ (x_1 : Nat), x.snd.snd.fst = x.snd.snd.fst ∧ (↑x_1 : Int) = (0 : Int) ∧ x.fst.fst = x.fst.fst ∧ x.fst.snd.fst = x.fst.snd.fst ∧ x.snd.fst.fst = x.snd.fst.fst ∧ x.snd.fst.snd.fst = x.snd.fst.snd.fst ∧ (ofFr Fr.zero).fst = false ∧ (ofFr Fr.zero).snd.fst = [] ∧ (ofFr Fr.zero).snd.snd.fst = [] ∧ (ofGa (nearS (rA x.fst) (rB x.fst) (rA x.snd.fst) (rB x.snd.fst) x_1).fst).fst.fst = r.snd.fst.fst.fst ∧ (ofGa (nearS (rA x.fst) (rB x.fst) (rA x.snd.fst) (rB x.snd.fst) x_1).fst).fst.snd.fst = r.snd.fst.fst.snd.fst ∧ (ofGa (nearS (rA x.fst) (rB x.fst) (rA x.snd.fst) (rB x.snd.fst) x_1).fst).fst.snd.snd.fst = r.snd.fst.fst.snd.snd.fst ∧ (ofGa (nearS (rA x.fst) (rB x.fst) (rA x.snd.fst) (rB x.snd.fst) x_1).fst).snd.fst.fst = r.snd.fst.snd.fst.fst ∧ (ofGa (nearS (rA x.fst) (rB x.fst) (rA x.snd.fst) (rB x.snd.fst) x_1).fst).snd.fst.snd.fst = r.snd.fst.snd.fst.snd.fst ∧ (ofGa (nearS (rA x.fst) (rB x.fst) (rA x.snd.fst) (rB x.snd.fst) x_1).fst).snd.fst.snd.snd.fst = r.snd.fst.snd.fst.snd.snd.fst ∧ x_1 ≤ Int.toNat x.snd.snd.fst ∧ (nearS (rA x.fst) (rB x.fst) (rA x.snd.fst) (rB x.snd.fst) x_1).snd = (0 : Int)) ∧ ∀ (x_1 : Nat), x_1 ≤ Int.toNat x.snd.snd.fst ∧ (nearS (rA x.fst) (rB x.fst) (rA x.snd.fst) (rB x.snd.fst) x_1).snd = (0 : Int) → (decide ((↑x_1 : Int) < x.snd.snd.fst) = true → ∀ (r : El Ty.un × Els [tG, Ty.it IntKind.i64]), r = ((), powR x.fst (↑x_1 : Int)) → ∀ (r_1 : El Ty.un × Els [tG, Ty.it IntKind.i64]), r_1 = ((), powR x.snd.fst (↑x_1 : Int)) → ∀ (r_2 : El Ty.un × Els [tG, Ty.it IntKind.i64]), r_2 = pG (gconj (toGa r.snd.fst)) → ∀ (r : El Ty.un × Els [tG, Ty.it IntKind.i64]), r = pG (gmul (toGa r_2.snd.fst) (toGa r_1.snd.fst)) → ((r.snd.snd.fst == (0 : Int)) = true → ∀ (r_3 : El Ty.un × Els [tG, Ty.it IntKind.i64]), r_3 = pG (gadd (toGa (ofGa (nearS (rA x.fst) (rB x.fst) (rA x.snd.fst) (rB x.snd.fst) x_1).fst)) (toGa r.snd.fst)) → ((r_3.snd.snd.fst != (0 : Int)) = true → ((false, [], [], ()), r_3.snd.snd) = (pR (nearR x.fst x.snd.fst x.snd.snd.fst)).snd) ∧ ((r_3.snd.snd.fst != (0 : Int)) = false → ((-9223372036854775808 : Int) ≤ (↑x_1 : Int) + (1 : Int) ∧ (↑x_1 : Int) + (1 : Int) ≤ (9223372036854775807 : Int)) ∧ ∃ (x' : Nat), x.snd.snd.fst = x.snd.snd.fst ∧ (↑x' : Int) = (↑x_1 : Int) + (1 : Int) ∧ x.fst.fst = x.fst.fst ∧ x.fst.snd.fst = x.fst.snd.fst ∧ x.snd.fst.fst = x.snd.fst.fst ∧ x.snd.fst.snd.fst = x.snd.fst.snd.fst ∧ (ofFr Fr.zero).fst = (ofFr Fr.zero).fst ∧ (ofFr Fr.zero).snd.fst = (ofFr Fr.zero).snd.fst ∧ (ofFr Fr.zero).snd.snd.fst = (ofFr Fr.zero).snd.snd.fst ∧ (ofGa (nearS (rA x.fst) (rB x.fst) (rA x.snd.fst) (rB x.snd.fst) x').fst).fst.fst = r_3.snd.fst.fst.fst ∧ (ofGa (nearS (rA x.fst) (rB x.fst) (rA x.snd.fst) (rB x.snd.fst) x').fst).fst.snd.fst = r_3.snd.fst.fst.snd.fst ∧ (ofGa (nearS (rA x.fst) (rB x.fst) (rA x.snd.fst) (rB x.snd.fst) x').fst).fst.snd.snd.fst = r_3.snd.fst.fst.snd.snd.fst ∧ (ofGa (nearS (rA x.fst) (rB x.fst) (rA x.snd.fst) (rB x.snd.fst) x').fst).snd.fst.fst = r_3.snd.fst.snd.fst.fst ∧ (ofGa (nearS (rA x.fst) (rB x.fst) (rA x.snd.fst) (rB x.snd.fst) x').fst).snd.fst.snd.fst = r_3.snd.fst.snd.fst.snd.fst ∧ (ofGa (nearS (rA x.fst) (rB x.fst) (rA x.snd.fst) (rB x.snd.fst) x').fst).snd.fst.snd.snd.fst = r_3.snd.fst.snd.fst.snd.snd.fst ∧ (x' ≤ Int.toNat x.snd.snd.fst ∧ (nearS (rA x.fst) (rB x.fst) (rA x.snd.fst) (rB x.snd.fst) x').snd = (0 : Int)) ∧ Int.toNat x.snd.snd.fst - x' < Int.toNat x.snd.snd.fst - x_1)) ∧ ((r.snd.snd.fst == (0 : Int)) = false → ((r.snd.snd.fst != (0 : Int)) = true → ((false, [], [], ()), r.snd.snd) = (pR (nearR x.fst x.snd.fst x.snd.snd.fst)).snd) ∧ ((r.snd.snd.fst != (0 : Int)) = false → ((-9223372036854775808 : Int) ≤ (↑x_1 : Int) + (1 : Int) ∧ (↑x_1 : Int) + (1 : Int) ≤ (9223372036854775807 : Int)) ∧ ∃ (x' : Nat), x.snd.snd.fst = x.snd.snd.fst ∧ (↑x' : Int) = (↑x_1 : Int) + (1 : Int) ∧ x.fst.fst = x.fst.fst ∧ x.fst.snd.fst = x.fst.snd.fst ∧ x.snd.fst.fst = x.snd.fst.fst ∧ x.snd.fst.snd.fst = x.snd.fst.snd.fst ∧ (ofFr Fr.zero).fst = (ofFr Fr.zero).fst ∧ (ofFr Fr.zero).snd.fst = (ofFr Fr.zero).snd.fst ∧ (ofFr Fr.zero).snd.snd.fst = (ofFr Fr.zero).snd.snd.fst ∧ (ofGa (nearS (rA x.fst) (rB x.fst) (rA x.snd.fst) (rB x.snd.fst) x').fst).fst.fst = r.snd.fst.fst.fst ∧ (ofGa (nearS (rA x.fst) (rB x.fst) (rA x.snd.fst) (rB x.snd.fst) x').fst).fst.snd.fst = r.snd.fst.fst.snd.fst ∧ (ofGa (nearS (rA x.fst) (rB x.fst) (rA x.snd.fst) (rB x.snd.fst) x').fst).fst.snd.snd.fst = r.snd.fst.fst.snd.snd.fst ∧ (ofGa (nearS (rA x.fst) (rB x.fst) (rA x.snd.fst) (rB x.snd.fst) x').fst).snd.fst.fst = r.snd.fst.snd.fst.fst ∧ (ofGa (nearS (rA x.fst) (rB x.fst) (rA x.snd.fst) (rB x.snd.fst) x').fst).snd.fst.snd.fst = r.snd.fst.snd.fst.snd.fst ∧ (ofGa (nearS (rA x.fst) (rB x.fst) (rA x.snd.fst) (rB x.snd.fst) x').fst).snd.fst.snd.snd.fst = r.snd.fst.snd.fst.snd.snd.fst ∧ (x' ≤ Int.toNat x.snd.snd.fst ∧ (nearS (rA x.fst) (rB x.fst) (rA x.snd.fst) (rB x.snd.fst) x').snd = (0 : Int)) ∧ Int.toNat x.snd.snd.fst - x' < Int.toNat x.snd.snd.fst - x_1))) ∧ (decide ((↑x_1 : Int) < x.snd.snd.fst) = false → ∀ (r : El Ty.un × Els [tR, Ty.it IntKind.i64]), r = pR (gnorm (toGa (ofGa (nearS (rA x.fst) (rB x.fst) (rA x.snd.fst) (rB x.snd.fst) x_1).fst))) → ((r.snd.snd.fst != (0 : Int)) = true → ((false, [], [], ()), r.snd.snd) = (pR (nearR x.fst x.snd.fst x.snd.snd.fst)).snd) ∧ ((r.snd.snd.fst != (0 : Int)) = false → ((-9223372036854775808 : Int) ≤ x.snd.snd.fst * x.snd.snd.fst ∧ x.snd.snd.fst * x.snd.snd.fst ≤ (9223372036854775807 : Int)) ∧ ∀ (r_1 : El Ty.un × Els [tR, Ty.it IntKind.i64]), r_1 = pR (fsmall (x.snd.snd.fst * x.snd.snd.fst) (1 : Int)) → ∀ (r_2 : El Ty.un × Els [tR, Ty.it IntKind.i64]), r_2 = pR (fsub (toFr r_1.snd.fst) (toFr r.snd.fst)) → r_2.snd = (pR (nearR x.fst x.snd.fst x.snd.snd.fst)).snd))))))
set_option maxRecDepth 100000 in
theorem w_nNear (y : El sp_nNear.q) (x : Els sp_nNear.ps) : aw c_nNear (iv_nNear y x) (codeOf Tryz.f94) 0 (retQ c_nNear sp_nNear (Tryz.f94).results.toList y x) (startT sp_nNear x) (startO sp_nNear y) 1 = F_nNear y x := by kernel_rfl
theorem m_nNear (y : El (.un)) (x : Els [tRot, tRot, .it .i64]) (h2 : wfE (.un) y) (h3 : wfEs [tRot, tRot, .it .i64] x) : F_nNear y x := by
  unfold F_nNear
  rintro _ rfl
  refine ⟨fun h => ?_, fun h => ⟨fun _ => near_1 (eqF h), fun k => absurd (neF k) (eqF h)⟩⟩
  have h := eqT h
  rintro _ rfl
  refine ⟨fun k => near_2 h (neT k), fun k => ⟨fun n1 => near_3 h (neF k) (.inl (ltT n1)), fun n1 => ⟨fun n2 => near_3 h (neF k) (.inr (gtT n2)), fun n2 => ?_⟩⟩⟩
  have k := neF k
  have l0 : ¬ ((x.2.2.1 : Int) < 0 ∨ (256 : Int) < x.2.2.1) := by
    intro c
    rcases c with c | c
    · exact absurd (ltF n1) (Int.not_le.2 c)
    · exact absurd (gtF n2) (Int.not_le.2 c)
  have n1 := ltF n1
  have n2 := gtF n2
  obtain ⟨a1, a2, a3⟩ := rot_bd h
  obtain ⟨b1, b2, b3⟩ := rot_bd k
  rintro _ rfl
  refine ⟨⟨0, rfl, rfl, rfl, rfl, rfl, rfl, rfl, rfl, rfl, rfl, rfl, rfl, rfl, rfl, rfl, Nat.zero_le _, rfl⟩, fun i hi => ⟨fun l => ?_, fun l => ?_⟩⟩
  · obtain ⟨i0, i1⟩ := hi
    have l := ltT l
    have il : i + 1 ≤ Int.toNat x.2.2.1 := by omega
    have it : i ≤ 1024 := by omega
    intro r1 hr1
    obtain rfl : r1 = ((), ofGa (rpow (rA x.1) (rB x.1) i), 0, ()) := hr1.trans (congrArg (fun z => ((), z)) (powR_pos h it))
    intro r2 hr2
    obtain rfl : r2 = ((), ofGa (rpow (rA x.2.1) (rB x.2.1) i), 0, ()) := hr2.trans (congrArg (fun z => ((), z)) (powR_pos k it))
    intro r3 hr3
    obtain rfl : r3 = pG (rpow (rA x.1) (-(rB x.1)) i, 0) := hr3.trans (congrArg pG (gconj_rpow it a1 a2 a3))
    rintro _ rfl
    refine ⟨fun p => ?_, fun p => ⟨fun _ => ?_, fun q => absurd (neF q) (eqF p)⟩⟩
    · have e := ns_add i1 (eqT p)
      intro r4 hr4
      obtain rfl : r4 = pG (nearS (rA x.1) (rB x.1) (rA x.2.1) (rB x.2.1) (i + 1)) := hr4.trans (congrArg pG e.symm)
      refine ⟨fun q => near_err h k l0 il (neT q), fun q => ⟨⟨by omega, by omega⟩, i + 1, ?_⟩⟩
      have q := neF q
      and_intros
      all_goals first | rfl | exact il | exact q | omega
    · have e := ns_bad i1 (eqF p)
      have := near_err (i := i) h k l0 il (by rw [e]; exact eqF p)
      rw [e] at this
      exact this
  · obtain ⟨i0, i1⟩ := hi
    have l := ltF l
    have ei : i = Int.toNat x.2.2.1 := by omega
    rw [ei] at i1 ⊢
    rintro _ rfl
    refine ⟨fun o => near_nrm h k l0 i1 (neT o), fun o => ⟨sq_rng n1 n2, ?_⟩⟩
    rintro _ rfl _ rfl
    exact near_ok h k l0 i1 (neF o)
set_option maxRecDepth 100000 in
theorem fo_nNear : FnOk Tryz.prog 94 sp_nNear := fnOk_of (C := c_nNear) iv_nNear Tryz.func94 rfl (by kernel_rfl) tys_ok (prims_cons (spec_prim fo_nRCk) (prims_cons (spec_prim fo_n05Pow) (prims_cons (spec_prim fo_n15Zero) (prims_cons (spec_prim fo_hConj) (prims_cons (spec_prim fo_hMul) (prims_cons (spec_prim fo_hAdd) (prims_cons (spec_prim fo_hNorm) (prims_cons (spec_prim fo_nSmall) (prims_cons (spec_prim fo_nSub) prims_nil))))))))) mixed_ (Nat.le_refl _) rfl fun y x h1 h2 h3 h4 =>
  Eq.mpr (w_nNear y x) (m_nNear y x h2 h3)
end Go.Proofs.YtifonmdcicegdaaGreat

