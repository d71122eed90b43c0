/- Texts of this claim, joined: B22 P9. -/
import Derived.Test.YtakaehdolpmelaaGreatQx
set_option linter.unusedVariables false
set_option linter.unusedSimpArgs false
set_option maxRecDepth 100000
namespace Go.Proofs.YtakaehdolpmelaaGreat
open Go Go.RowKit
def gpow (a b : Int) : Nat → Int × Int
  | 0 => (1, 0)
  | n + 1 => ((gpow a b n).1 * a - (gpow a b n).2 * b, (gpow a b n).1 * b + (gpow a b n).2 * a)
def nrmR (a b : Int) : Int := a * a + b * b
def rpow (a b : Int) (n : Nat) : Ga := ⟨enc (mkRat (gpow a b (2 * n)).1 (nrmR a b ^ n).toNat), enc (mkRat (gpow a b (2 * n)).2 (nrmR a b ^ n).toNat)⟩
def rA (r : El tRot) : Int := r.1
def powB (b t : Int) : Int := if t < 0 then -b else b
def powR (r : El tRot) (t : Int) : El tG × Int × Unit := if rotC r ≠ 0 then (ofGa Ga.zero, rotC r, ()) else if t < -1024 ∨ 1024 < t then (ofGa Ga.zero, 2, ()) else (ofGa (rpow (rA r) (powB r.2.1 t) t.natAbs), 0, ())
theorem pow_bd (k m : Nat) (h : 11 * k < m) : (2000 : Nat) ^ k < 2 ^ m := by
  have h1 : (2000 : Nat) ^ k ≤ 2048 ^ k := Nat.pow_le_pow_left (by decide) k
  have h2 : (2048 : Nat) ^ k = 2 ^ (11 * k) := by rw [show (2048 : Nat) = 2 ^ 11 from rfl, ← Nat.pow_mul]
  have h3 : (2 : Nat) ^ (11 * k) < 2 ^ m := Nat.pow_lt_pow_right (by decide) h
  omega
theorem pw_two (m : Nat) : pw m = ((2 ^ (32 * m) : Nat) : Int) := by
  unfold pw
  rw [show (4294967296 : Int) = ((2 ^ 32 : Nat) : Int) by decide, ← Int.natCast_pow, ← Nat.pow_mul]
theorem wd_bdm {n k m : Nat} (h : n ≤ 2000 ^ k) (hk : 11 * k < 32 * m) : (wd n).length ≤ m := by
  refine wd_len_le _ _ ?_
  have h1 := pow_bd k (32 * m) hk
  rw [pw_two]
  exact Int.ofNat_lt.2 (Nat.lt_of_le_of_lt h h1)
theorem wd_bd {n k : Nat} (h : n ≤ 2000 ^ k) (hk : k ≤ 2100) : (wd n).length ≤ 725 := wd_bdm h (by omega)
def bd (k : Nat) (z : Int) : Prop := z.natAbs ≤ 2000 ^ k
theorem bd.len {k : Nat} {z : Int} (h : bd k z) (hk : k ≤ 2100) : (wd z.natAbs).length ≤ 4096 := Nat.le_trans (wd_bd h hk) (by decide)
theorem bd.mul {j k : Nat} {a b : Int} (h : bd j a) (h' : bd k b) : bd (j + k) (a * b) := by
  unfold bd at *
  rw [Int.natAbs_mul, Nat.pow_add]
  exact Nat.mul_le_mul h h'
theorem gpow_bd {a b : Int} (ha : a.natAbs ≤ 1000) (hb : b.natAbs ≤ 1000) : ∀ n, bd n (gpow a b n).1 ∧ bd n (gpow a b n).2
  | 0 => ⟨by show (1 : Int).natAbs ≤ 2000 ^ 0; decide, by show (0 : Int).natAbs ≤ 2000 ^ 0; decide⟩
  | n + 1 => by
    obtain ⟨h1, h2⟩ := gpow_bd ha hb n
    have m : ∀ {z c : Int}, bd n z → c.natAbs ≤ 1000 → (z * c).natAbs ≤ 2000 ^ n * 1000 := fun hz hc => by
      rw [Int.natAbs_mul]
      exact Nat.mul_le_mul hz hc
    have e : 2000 ^ (n + 1) = 2000 ^ n * 1000 + 2000 ^ n * 1000 := by rw [Nat.pow_succ]; omega
    constructor
    · show ((gpow a b n).1 * a - (gpow a b n).2 * b).natAbs ≤ _
      have := m h1 ha
      have := m h2 hb
      omega
    · show ((gpow a b n).1 * b + (gpow a b n).2 * a).natAbs ≤ _
      have := m h1 hb
      have := m h2 ha
      omega
theorem nrmR_bd {a b : Int} (ha : a.natAbs ≤ 1000) (hb : b.natAbs ≤ 1000) : bd 2 (nrmR a b) := by
  unfold bd nrmR
  have h1 : (a * a).natAbs ≤ 1000 * 1000 := by rw [Int.natAbs_mul]; exact Nat.mul_le_mul ha ha
  have h2 : (b * b).natAbs ≤ 1000 * 1000 := by rw [Int.natAbs_mul]; exact Nat.mul_le_mul hb hb
  have : (2000 : Nat) ^ 2 = 4000000 := by decide
  omega
theorem npow_bd {d : Int} (h : bd 2 d) : ∀ n, bd (2 * n) (d ^ n)
  | 0 => by rw [Int.pow_zero]; show (1 : Int).natAbs ≤ 2000 ^ 0; decide
  | n + 1 => by
    rw [Int.pow_succ]
    exact (npow_bd h n).mul h
theorem nrmR_pos {a b : Int} (h : 1 ≤ a) : 0 < nrmR a b := by
  unfold nrmR
  have h1 : 1 * 1 ≤ a * a := Int.mul_le_mul h h (by decide) (by omega)
  have h2 : 0 ≤ b * b := by
    rcases Int.le_total 0 b with k | k
    · exact Int.mul_nonneg k k
    · exact Int.mul_nonneg_of_nonpos_of_nonpos k k
  omega
theorem pw_1 {r : El tRot} {t : Int} (h : rotC r ≠ 0) : ((ofGa Ga.zero, rotC r, ()) : El tG × Int × Unit) = powR r t := by unfold powR; rw [if_pos h]
theorem pw_2 {r : El tRot} {t : Int} (h : rotC r = 0) (k : t < -1024 ∨ 1024 < t) : ((ofGa Ga.zero, 2, ()) : El tG × Int × Unit) = powR r t := by unfold powR; rw [if_neg (fun c => c h), if_pos k]
theorem pw_3 {r : El tRot} {t : Int} (h : rotC r = 0) (k : ¬ (t < -1024 ∨ 1024 < t)) : ((ofGa (rpow (rA r) (powB r.2.1 t) t.natAbs), 0, ()) : El tG × Int × Unit) = powR r t := by unfold powR; rw [if_neg (fun c => c h), if_neg k]
theorem tz (z : Int) : toZ ((decide (z < 0), wd z.natAbs, ()) : El tWhole) = z := toZ_of z
theorem half_even {i : Nat} (h : (i : Int).tmod 2 = 0) : (i + 1 + 1) / 2 = (i + 1) / 2 + 1 := by
  have : (i : Int).tmod 2 = ((i % 2 : Nat) : Int) := by
    rw [Int.tmod_eq_emod_of_nonneg (by omega)]
    rfl
  omega
theorem half_odd {i : Nat} (h : (i : Int).tmod 2 ≠ 0) : (i + 1 + 1) / 2 = (i + 1) / 2 := by
  have : (i : Int).tmod 2 = ((i % 2 : Nat) : Int) := by
    rw [Int.tmod_eq_emod_of_nonneg (by omega)]
    rfl
  omega
theorem neg_rng {t : Int} (h1 : -1024 ≤ t) (h2 : t ≤ 1024) : -9223372036854775808 ≤ -t ∧ -t ≤ 9223372036854775807 := by omega
theorem abs_neg_ {t : Int} (h : t < 0) : ((t.natAbs : Nat) : Int) = -t := by omega
theorem abs_pos_ {t : Int} (h : 0 ≤ t) : ((t.natAbs : Nat) : Int) = t := by omega
theorem pow_0 (d : Int) : d ^ ((0 + 1) / 2) = 1 := Int.pow_zero d
noncomputable def sp_n05Pow : Spec := { q := .un, ps := [tRot, .it .i64], rs := [tG, .it .i64], fresh := false, pre := fun _ _ => none, post := fun _ x => ((), powR x.1 x.2.1) }
noncomputable def iv_n05Pow (y : El sp_n05Pow.q) (x : Els sp_n05Pow.ps) : Nat → Option Inv := fun k => if k = 0 then some { X := Nat, tm := fun i => [(1, .c (.sc (.int .i64 (x.2.1 : Int).natAbs))), (4, .c (.pv 13 0)), (7, .c (.pv 1 0)), (8, .c (.pv 2 0)), (9, .c (.pv 3 0)), (10, .c (.pv 4 0)), (11, .c (.pv 5 0)), (12, .c (.pv 6 0)), (13, .c (.sc (.int .i64 i)))], ob := fun i => [(1, .var [.sc (.bool (decide ((rA x.1) < 0))), .ow 7]), (7, .ty 114 (.it .u32) (wd ((rA x.1)).natAbs) 0), (2, .var [.sc (.bool (decide ((powB x.1.2.1 x.2.1) < 0))), .ow 8]), (8, .ty 114 (.it .u32) (wd ((powB x.1.2.1 x.2.1)).natAbs) 0), (3, .var [.sc (.bool (decide ((nrmR (rA x.1) (powB x.1.2.1 x.2.1)) < 0))), .ow 9]), (9, .ty 114 (.it .u32) (wd ((nrmR (rA x.1) (powB x.1.2.1 x.2.1))).natAbs) 0), (4, .var [.sc (.bool (decide ((gpow (rA x.1) (powB x.1.2.1 x.2.1) i).1 < 0))), .ow 10]), (10, .ty 114 (.it .u32) (wd ((gpow (rA x.1) (powB x.1.2.1 x.2.1) i).1).natAbs) 0), (5, .var [.sc (.bool (decide ((gpow (rA x.1) (powB x.1.2.1 x.2.1) i).2 < 0))), .ow 11]), (11, .ty 114 (.it .u32) (wd ((gpow (rA x.1) (powB x.1.2.1 x.2.1) i).2).natAbs) 0), (6, .var [.sc (.bool (decide ((nrmR (rA x.1) (powB x.1.2.1 x.2.1) ^ ((i + 1) / 2)) < 0))), .ow 12]), (12, .ty 114 (.it .u32) (wd ((nrmR (rA x.1) (powB x.1.2.1 x.2.1) ^ ((i + 1) / 2))).natAbs) 0), (13, .var (cel tG (ofGa Ga.zero)))], n := 14, I := fun i => i ≤ 2 * (x.2.1 : Int).natAbs, μ := fun i => 2 * (x.2.1 : Int).natAbs - i } else none
noncomputable abbrev c_n05Pow : Cfg := cfgS (Tryz.f106).ntmps false [(80, sp_nRCk.prim), (146, sp_zOf.prim), (147, sp_zOpp.prim), (149, sp_zProd.prim), (148, sp_zPlus.prim), (150, sp_zLess.prim), (151, sp_n05part.prim)]
def F_n05Pow (y : El sp_n05Pow.q) (x : Els sp_n05Pow.ps) : Prop :=
  (fun A B : Int => ∀ (r : Ro [Ty.it IntKind.i64]), r = ((), rotC x.1, ()) → ((r.2.1 != (0 : Int)) = true → (((false, [], [], ()), (false, [], [], ()), ()), r.2) = powR x.1 x.2.1) ∧ ((r.2.1 != (0 : Int)) = false → (decide (x.2.1 < (-1024 : Int)) = true → (((false, [], [], ()), (false, [], [], ()), ()), (2 : Int), ()) = powR x.1 x.2.1) ∧ (decide (x.2.1 < (-1024 : Int)) = false → (decide (x.2.1 > (1024 : Int)) = true → (((false, [], [], ()), (false, [], [], ()), ()), (2 : Int), ()) = powR x.1 x.2.1) ∧ (decide (x.2.1 > (1024 : Int)) = false → ∀ (r : Ro [tWhole]), r = ((), ofZ (IntKind.i64.wrap x.1.1), ()) → ∀ (r_1 : Ro [tWhole]), r_1 = ((), ofZ (IntKind.i64.wrap x.1.2.1), ()) → (decide (x.2.1 < (0 : Int)) = true → ((-9223372036854775808 : Int) ≤ -x.2.1 ∧ -x.2.1 ≤ (9223372036854775807 : Int)) ∧ (r_1.2.1 = ofZ (toZ r_1.2.1) ∧ List.length r_1.2.1.2.1 ≤ (4096 : Nat)) ∧ ∀ (r_2 : Ro [tWhole]), r_2 = ((), ofZ (-toZ r_1.2.1), ()) → (r.2.1 = ofZ (toZ r.2.1) ∧ r.2.1 = ofZ (toZ r.2.1) ∧ List.length r.2.1.2.1 ≤ (4096 : Nat) ∧ List.length r.2.1.2.1 ≤ (4096 : Nat)) ∧ ∀ (r_3 : Ro [tWhole]), r_3 = ((), ofZ (toZ r.2.1 * toZ r.2.1), ()) → (r_2.2.1 = ofZ (toZ r_2.2.1) ∧ r_2.2.1 = ofZ (toZ r_2.2.1) ∧ List.length r_2.2.1.2.1 ≤ (4096 : Nat) ∧ List.length r_2.2.1.2.1 ≤ (4096 : Nat)) ∧ ∀ (r_4 : Ro [tWhole]), r_4 = ((), ofZ (toZ r_2.2.1 * toZ r_2.2.1), ()) → (r_3.2.1 = ofZ (toZ r_3.2.1) ∧ r_4.2.1 = ofZ (toZ r_4.2.1) ∧ List.length r_3.2.1.2.1 ≤ (4096 : Nat) ∧ List.length r_4.2.1.2.1 ≤ (4096 : Nat)) ∧ ∀ (r_5 : Ro [tWhole]), r_5 = ((), ofZ (toZ r_3.2.1 + toZ r_4.2.1), ()) → ∀ (r_6 : Ro [tWhole]), r_6 = ((), ofZ (1 : Int), ()) → ∀ (r_7 : Ro [tWhole]), r_7 = ((), ofZ (0 : Int), ()) → ∀ (r_8 : Ro [tWhole]), r_8 = ((), ofZ (1 : Int), ()) → (∃ (x_1 : Nat), (↑(Int.natAbs x.2.1) : Int) = -x.2.1 ∧ (↑x_1 : Int) = (0 : Int) ∧ decide (rA x.1 < (0 : Int)) = r.2.1.1 ∧ wd A.natAbs = r.2.1.2.1 ∧ decide (powB x.1.2.1 x.2.1 < (0 : Int)) = r_2.2.1.1 ∧ wd B.natAbs = r_2.2.1.2.1 ∧ decide (nrmR A B < (0 : Int)) = r_5.2.1.1 ∧ wd (nrmR A B).natAbs = r_5.2.1.2.1 ∧ decide ((gpow A B x_1).1 < (0 : Int)) = r_6.2.1.1 ∧ wd (gpow A B x_1).1.natAbs = r_6.2.1.2.1 ∧ decide ((gpow A B x_1).2 < (0 : Int)) = r_7.2.1.1 ∧ wd (gpow A B x_1).2.natAbs = r_7.2.1.2.1 ∧ decide (nrmR A B ^ ((x_1 + (1 : Nat)) / (2 : Nat)) < (0 : Int)) = r_8.2.1.1 ∧ wd (nrmR A B ^ ((x_1 + (1 : Nat)) / (2 : Nat))).natAbs = r_8.2.1.2.1 ∧ (ofGa Ga.zero).1.1 = false ∧ (ofGa Ga.zero).1.2.1 = [] ∧ (ofGa Ga.zero).1.2.2.1 = [] ∧ (ofGa Ga.zero).2.1.1 = false ∧ (ofGa Ga.zero).2.1.2.1 = [] ∧ (ofGa Ga.zero).2.1.2.2.1 = [] ∧ x_1.le ((2 : Nat) * Int.natAbs x.2.1)) ∧ ∀ (x_1 : Nat), x_1.le ((2 : Nat) * Int.natAbs x.2.1) → ((-9223372036854775808 : Int) ≤ (2 : Int) * (↑(Int.natAbs x.2.1) : Int) ∧ (2 : Int) * (↑(Int.natAbs x.2.1) : Int) ≤ (9223372036854775807 : Int)) ∧ (decide ((↑x_1 : Int) < (2 : Int) * (↑(Int.natAbs x.2.1) : Int)) = true → ((decide ((gpow A B x_1).1 < (0 : Int)), wd (gpow A B x_1).1.natAbs, ()) = ofZ (toZ (decide ((gpow A B x_1).1 < (0 : Int)), wd (gpow A B x_1).1.natAbs, ())) ∧ (decide (rA x.1 < (0 : Int)), wd A.natAbs, ()) = ofZ (toZ (decide (rA x.1 < (0 : Int)), wd A.natAbs, ())) ∧ (wd (gpow A B x_1).1.natAbs).length ≤ (4096 : Nat) ∧ (wd A.natAbs).length ≤ (4096 : Nat)) ∧ ∀ (r : Ro [tWhole]), r = ((), ofZ (toZ (decide ((gpow A B x_1).1 < (0 : Int)), wd (gpow A B x_1).1.natAbs, ()) * toZ (decide (rA x.1 < (0 : Int)), wd A.natAbs, ())), ()) → ((decide ((gpow A B x_1).2 < (0 : Int)), wd (gpow A B x_1).2.natAbs, ()) = ofZ (toZ (decide ((gpow A B x_1).2 < (0 : Int)), wd (gpow A B x_1).2.natAbs, ())) ∧ (decide (powB x.1.2.1 x.2.1 < (0 : Int)), wd B.natAbs, ()) = ofZ (toZ (decide (powB x.1.2.1 x.2.1 < (0 : Int)), wd B.natAbs, ())) ∧ (wd (gpow A B x_1).2.natAbs).length ≤ (4096 : Nat) ∧ (wd B.natAbs).length ≤ (4096 : Nat)) ∧ ∀ (r_9 : Ro [tWhole]), r_9 = ((), ofZ (toZ (decide ((gpow A B x_1).2 < (0 : Int)), wd (gpow A B x_1).2.natAbs, ()) * toZ (decide (powB x.1.2.1 x.2.1 < (0 : Int)), wd B.natAbs, ())), ()) → (r.2.1 = ofZ (toZ r.2.1) ∧ r_9.2.1 = ofZ (toZ r_9.2.1) ∧ List.length r.2.1.2.1 ≤ (4096 : Nat) ∧ List.length r_9.2.1.2.1 ≤ (4096 : Nat)) ∧ ∀ (r_10 : Ro [tWhole]), r_10 = ((), ofZ (toZ r.2.1 - toZ r_9.2.1), ()) → ((decide ((gpow A B x_1).1 < (0 : Int)), wd (gpow A B x_1).1.natAbs, ()) = ofZ (toZ (decide ((gpow A B x_1).1 < (0 : Int)), wd (gpow A B x_1).1.natAbs, ())) ∧ (decide (powB x.1.2.1 x.2.1 < (0 : Int)), wd B.natAbs, ()) = ofZ (toZ (decide (powB x.1.2.1 x.2.1 < (0 : Int)), wd B.natAbs, ())) ∧ (wd (gpow A B x_1).1.natAbs).length ≤ (4096 : Nat) ∧ (wd B.natAbs).length ≤ (4096 : Nat)) ∧ ∀ (r : Ro [tWhole]), r = ((), ofZ (toZ (decide ((gpow A B x_1).1 < (0 : Int)), wd (gpow A B x_1).1.natAbs, ()) * toZ (decide (powB x.1.2.1 x.2.1 < (0 : Int)), wd B.natAbs, ())), ()) → ((decide ((gpow A B x_1).2 < (0 : Int)), wd (gpow A B x_1).2.natAbs, ()) = ofZ (toZ (decide ((gpow A B x_1).2 < (0 : Int)), wd (gpow A B x_1).2.natAbs, ())) ∧ (decide (rA x.1 < (0 : Int)), wd A.natAbs, ()) = ofZ (toZ (decide (rA x.1 < (0 : Int)), wd A.natAbs, ())) ∧ (wd (gpow A B x_1).2.natAbs).length ≤ (4096 : Nat) ∧ (wd A.natAbs).length ≤ (4096 : Nat)) ∧ ∀ (r_11 : Ro [tWhole]), r_11 = ((), ofZ (toZ (decide ((gpow A B x_1).2 < (0 : Int)), wd (gpow A B x_1).2.natAbs, ()) * toZ (decide (rA x.1 < (0 : Int)), wd A.natAbs, ())), ()) → (r.2.1 = ofZ (toZ r.2.1) ∧ r_11.2.1 = ofZ (toZ r_11.2.1) ∧ List.length r.2.1.2.1 ≤ (4096 : Nat) ∧ List.length r_11.2.1.2.1 ≤ (4096 : Nat)) ∧ ∀ (r_12 : Ro [tWhole]), r_12 = ((), ofZ (toZ r.2.1 + toZ r_11.2.1), ()) → (2 : Int) ≠ (0 : Int) ∧ (((↑x_1 : Int).tmod (2 : Int) == (0 : Int)) = true → ((decide (nrmR A B ^ ((x_1 + (1 : Nat)) / (2 : Nat)) < (0 : Int)), wd (nrmR A B ^ ((x_1 + (1 : Nat)) / (2 : Nat))).natAbs, ()) = ofZ (toZ (decide (nrmR A B ^ ((x_1 + (1 : Nat)) / (2 : Nat)) < (0 : Int)), wd (nrmR A B ^ ((x_1 + (1 : Nat)) / (2 : Nat))).natAbs, ())) ∧ (decide (nrmR A B < (0 : Int)), wd (nrmR A B).natAbs, ()) = ofZ (toZ (decide (nrmR A B < (0 : Int)), wd (nrmR A B).natAbs, ())) ∧ (wd (nrmR A B ^ ((x_1 + (1 : Nat)) / (2 : Nat))).natAbs).length ≤ (4096 : Nat) ∧ (wd (nrmR A B).natAbs).length ≤ (4096 : Nat)) ∧ ∀ (r : Ro [tWhole]), r = ((), ofZ (toZ (decide (nrmR A B ^ ((x_1 + (1 : Nat)) / (2 : Nat)) < (0 : Int)), wd (nrmR A B ^ ((x_1 + (1 : Nat)) / (2 : Nat))).natAbs, ()) * toZ (decide (nrmR A B < (0 : Int)), wd (nrmR A B).natAbs, ())), ()) → ((-9223372036854775808 : Int) ≤ (↑x_1 : Int) + (1 : Int) ∧ (↑x_1 : Int) + (1 : Int) ≤ (9223372036854775807 : Int)) ∧ ∃ (x' : Nat), (↑(Int.natAbs x.2.1) : Int) = (↑(Int.natAbs x.2.1) : Int) ∧ (↑x' : Int) = (↑x_1 : Int) + (1 : Int) ∧ decide (rA x.1 < (0 : Int)) = decide (rA x.1 < (0 : Int)) ∧ wd A.natAbs = wd A.natAbs ∧ decide (powB x.1.2.1 x.2.1 < (0 : Int)) = decide (powB x.1.2.1 x.2.1 < (0 : Int)) ∧ wd B.natAbs = wd B.natAbs ∧ decide (nrmR A B < (0 : Int)) = decide (nrmR A B < (0 : Int)) ∧ wd (nrmR A B).natAbs = wd (nrmR A B).natAbs ∧ decide ((gpow A B x').1 < (0 : Int)) = r_10.2.1.1 ∧ wd (gpow A B x').1.natAbs = r_10.2.1.2.1 ∧ decide ((gpow A B x').2 < (0 : Int)) = r_12.2.1.1 ∧ wd (gpow A B x').2.natAbs = r_12.2.1.2.1 ∧ decide (nrmR A B ^ ((x' + (1 : Nat)) / (2 : Nat)) < (0 : Int)) = r.2.1.1 ∧ wd (nrmR A B ^ ((x' + (1 : Nat)) / (2 : Nat))).natAbs = r.2.1.2.1 ∧ (ofGa Ga.zero).1.1 = (ofGa Ga.zero).1.1 ∧ (ofGa Ga.zero).1.2.1 = (ofGa Ga.zero).1.2.1 ∧ (ofGa Ga.zero).1.2.2.1 = (ofGa Ga.zero).1.2.2.1 ∧ (ofGa Ga.zero).2.1.1 = (ofGa Ga.zero).2.1.1 ∧ (ofGa Ga.zero).2.1.2.1 = (ofGa Ga.zero).2.1.2.1 ∧ (ofGa Ga.zero).2.1.2.2.1 = (ofGa Ga.zero).2.1.2.2.1 ∧ x'.le ((2 : Nat) * Int.natAbs x.2.1) ∧ (2 : Nat) * Int.natAbs x.2.1 - x' < (2 : Nat) * Int.natAbs x.2.1 - x_1) ∧ (((↑x_1 : Int).tmod (2 : Int) == (0 : Int)) = false → ((-9223372036854775808 : Int) ≤ (↑x_1 : Int) + (1 : Int) ∧ (↑x_1 : Int) + (1 : Int) ≤ (9223372036854775807 : Int)) ∧ ∃ (x' : Nat), (↑(Int.natAbs x.2.1) : Int) = (↑(Int.natAbs x.2.1) : Int) ∧ (↑x' : Int) = (↑x_1 : Int) + (1 : Int) ∧ decide (rA x.1 < (0 : Int)) = decide (rA x.1 < (0 : Int)) ∧ wd A.natAbs = wd A.natAbs ∧ decide (powB x.1.2.1 x.2.1 < (0 : Int)) = decide (powB x.1.2.1 x.2.1 < (0 : Int)) ∧ wd B.natAbs = wd B.natAbs ∧ decide (nrmR A B < (0 : Int)) = decide (nrmR A B < (0 : Int)) ∧ wd (nrmR A B).natAbs = wd (nrmR A B).natAbs ∧ decide ((gpow A B x').1 < (0 : Int)) = r_10.2.1.1 ∧ wd (gpow A B x').1.natAbs = r_10.2.1.2.1 ∧ decide ((gpow A B x').2 < (0 : Int)) = r_12.2.1.1 ∧ wd (gpow A B x').2.natAbs = r_12.2.1.2.1 ∧ decide (nrmR A B ^ ((x' + (1 : Nat)) / (2 : Nat)) < (0 : Int)) = decide (nrmR A B ^ ((x_1 + (1 : Nat)) / (2 : Nat)) < (0 : Int)) ∧ wd (nrmR A B ^ ((x' + (1 : Nat)) / (2 : Nat))).natAbs = wd (nrmR A B ^ ((x_1 + (1 : Nat)) / (2 : Nat))).natAbs ∧ (ofGa Ga.zero).1.1 = (ofGa Ga.zero).1.1 ∧ (ofGa Ga.zero).1.2.1 = (ofGa Ga.zero).1.2.1 ∧ (ofGa Ga.zero).1.2.2.1 = (ofGa Ga.zero).1.2.2.1 ∧ (ofGa Ga.zero).2.1.1 = (ofGa Ga.zero).2.1.1 ∧ (ofGa Ga.zero).2.1.2.1 = (ofGa Ga.zero).2.1.2.1 ∧ (ofGa Ga.zero).2.1.2.2.1 = (ofGa Ga.zero).2.1.2.2.1 ∧ x'.le ((2 : Nat) * Int.natAbs x.2.1) ∧ (2 : Nat) * Int.natAbs x.2.1 - x' < (2 : Nat) * Int.natAbs x.2.1 - x_1)) ∧ (decide ((↑x_1 : Int) < (2 : Int) * (↑(Int.natAbs x.2.1) : Int)) = false → ((decide ((gpow A B x_1).1 < (0 : Int)), wd (gpow A B x_1).1.natAbs, ()) = ofZ (toZ (decide ((gpow A B x_1).1 < (0 : Int)), wd (gpow A B x_1).1.natAbs, ())) ∧ (decide (nrmR A B ^ ((x_1 + (1 : Nat)) / (2 : Nat)) < (0 : Int)), wd (nrmR A B ^ ((x_1 + (1 : Nat)) / (2 : Nat))).natAbs, ()) = ofZ (toZ (decide (nrmR A B ^ ((x_1 + (1 : Nat)) / (2 : Nat)) < (0 : Int)), wd (nrmR A B ^ ((x_1 + (1 : Nat)) / (2 : Nat))).natAbs, ())) ∧ (wd (gpow A B x_1).1.natAbs).length ≤ (4096 : Nat) ∧ (wd (nrmR A B ^ ((x_1 + (1 : Nat)) / (2 : Nat))).natAbs).length ≤ (4096 : Nat) ∧ (0 : Int) < toZ (decide (nrmR A B ^ ((x_1 + (1 : Nat)) / (2 : Nat)) < (0 : Int)), wd (nrmR A B ^ ((x_1 + (1 : Nat)) / (2 : Nat))).natAbs, ())) ∧ ∀ (r : Ro [tR]), r = ((), ofFr (enc (mkRat (toZ (decide ((gpow A B x_1).1 < (0 : Int)), wd (gpow A B x_1).1.natAbs, ())) (toZ (decide (nrmR A B ^ ((x_1 + (1 : Nat)) / (2 : Nat)) < (0 : Int)), wd (nrmR A B ^ ((x_1 + (1 : Nat)) / (2 : Nat))).natAbs, ())).toNat)), ()) → ((decide ((gpow A B x_1).2 < (0 : Int)), wd (gpow A B x_1).2.natAbs, ()) = ofZ (toZ (decide ((gpow A B x_1).2 < (0 : Int)), wd (gpow A B x_1).2.natAbs, ())) ∧ (decide (nrmR A B ^ ((x_1 + (1 : Nat)) / (2 : Nat)) < (0 : Int)), wd (nrmR A B ^ ((x_1 + (1 : Nat)) / (2 : Nat))).natAbs, ()) = ofZ (toZ (decide (nrmR A B ^ ((x_1 + (1 : Nat)) / (2 : Nat)) < (0 : Int)), wd (nrmR A B ^ ((x_1 + (1 : Nat)) / (2 : Nat))).natAbs, ())) ∧ (wd (gpow A B x_1).2.natAbs).length ≤ (4096 : Nat) ∧ (wd (nrmR A B ^ ((x_1 + (1 : Nat)) / (2 : Nat))).natAbs).length ≤ (4096 : Nat) ∧ (0 : Int) < toZ (decide (nrmR A B ^ ((x_1 + (1 : Nat)) / (2 : Nat)) < (0 : Int)), wd (nrmR A B ^ ((x_1 + (1 : Nat)) / (2 : Nat))).natAbs, ())) ∧ ∀ (r_9 : Ro [tR]), r_9 = ((), ofFr (enc (mkRat (toZ (decide ((gpow A B x_1).2 < (0 : Int)), wd (gpow A B x_1).2.natAbs, ())) (toZ (decide (nrmR A B ^ ((x_1 + (1 : Nat)) / (2 : Nat)) < (0 : Int)), wd (nrmR A B ^ ((x_1 + (1 : Nat)) / (2 : Nat))).natAbs, ())).toNat)), ()) → ((r.2.1, r_9.2), (0 : Int), ()) = powR x.1 x.2.1)) ∧ (decide (x.2.1 < (0 : Int)) = false → (r.2.1 = ofZ (toZ r.2.1) ∧ r.2.1 = ofZ (toZ r.2.1) ∧ List.length r.2.1.2.1 ≤ (4096 : Nat) ∧ List.length r.2.1.2.1 ≤ (4096 : Nat)) ∧ ∀ (r_2 : Ro [tWhole]), r_2 = ((), ofZ (toZ r.2.1 * toZ r.2.1), ()) → (r_1.2.1 = ofZ (toZ r_1.2.1) ∧ r_1.2.1 = ofZ (toZ r_1.2.1) ∧ List.length r_1.2.1.2.1 ≤ (4096 : Nat) ∧ List.length r_1.2.1.2.1 ≤ (4096 : Nat)) ∧ ∀ (r_3 : Ro [tWhole]), r_3 = ((), ofZ (toZ r_1.2.1 * toZ r_1.2.1), ()) → (r_2.2.1 = ofZ (toZ r_2.2.1) ∧ r_3.2.1 = ofZ (toZ r_3.2.1) ∧ List.length r_2.2.1.2.1 ≤ (4096 : Nat) ∧ List.length r_3.2.1.2.1 ≤ (4096 : Nat)) ∧ ∀ (r_4 : Ro [tWhole]), r_4 = ((), ofZ (toZ r_2.2.1 + toZ r_3.2.1), ()) → ∀ (r_5 : Ro [tWhole]), r_5 = ((), ofZ (1 : Int), ()) → ∀ (r_6 : Ro [tWhole]), r_6 = ((), ofZ (0 : Int), ()) → ∀ (r_7 : Ro [tWhole]), r_7 = ((), ofZ (1 : Int), ()) → (∃ (x_1 : Nat), (↑(Int.natAbs x.2.1) : Int) = x.2.1 ∧ (↑x_1 : Int) = (0 : Int) ∧ decide (rA x.1 < (0 : Int)) = r.2.1.1 ∧ wd A.natAbs = r.2.1.2.1 ∧ decide (powB x.1.2.1 x.2.1 < (0 : Int)) = r_1.2.1.1 ∧ wd B.natAbs = r_1.2.1.2.1 ∧ decide (nrmR A B < (0 : Int)) = r_4.2.1.1 ∧ wd (nrmR A B).natAbs = r_4.2.1.2.1 ∧ decide ((gpow A B x_1).1 < (0 : Int)) = r_5.2.1.1 ∧ wd (gpow A B x_1).1.natAbs = r_5.2.1.2.1 ∧ decide ((gpow A B x_1).2 < (0 : Int)) = r_6.2.1.1 ∧ wd (gpow A B x_1).2.natAbs = r_6.2.1.2.1 ∧ decide (nrmR A B ^ ((x_1 + (1 : Nat)) / (2 : Nat)) < (0 : Int)) = r_7.2.1.1 ∧ wd (nrmR A B ^ ((x_1 + (1 : Nat)) / (2 : Nat))).natAbs = r_7.2.1.2.1 ∧ (ofGa Ga.zero).1.1 = false ∧ (ofGa Ga.zero).1.2.1 = [] ∧ (ofGa Ga.zero).1.2.2.1 = [] ∧ (ofGa Ga.zero).2.1.1 = false ∧ (ofGa Ga.zero).2.1.2.1 = [] ∧ (ofGa Ga.zero).2.1.2.2.1 = [] ∧ x_1.le ((2 : Nat) * Int.natAbs x.2.1)) ∧ ∀ (x_1 : Nat), x_1.le ((2 : Nat) * Int.natAbs x.2.1) → ((-9223372036854775808 : Int) ≤ (2 : Int) * (↑(Int.natAbs x.2.1) : Int) ∧ (2 : Int) * (↑(Int.natAbs x.2.1) : Int) ≤ (9223372036854775807 : Int)) ∧ (decide ((↑x_1 : Int) < (2 : Int) * (↑(Int.natAbs x.2.1) : Int)) = true → ((decide ((gpow A B x_1).1 < (0 : Int)), wd (gpow A B x_1).1.natAbs, ()) = ofZ (toZ (decide ((gpow A B x_1).1 < (0 : Int)), wd (gpow A B x_1).1.natAbs, ())) ∧ (decide (rA x.1 < (0 : Int)), wd A.natAbs, ()) = ofZ (toZ (decide (rA x.1 < (0 : Int)), wd A.natAbs, ())) ∧ (wd (gpow A B x_1).1.natAbs).length ≤ (4096 : Nat) ∧ (wd A.natAbs).length ≤ (4096 : Nat)) ∧ ∀ (r : Ro [tWhole]), r = ((), ofZ (toZ (decide ((gpow A B x_1).1 < (0 : Int)), wd (gpow A B x_1).1.natAbs, ()) * toZ (decide (rA x.1 < (0 : Int)), wd A.natAbs, ())), ()) → ((decide ((gpow A B x_1).2 < (0 : Int)), wd (gpow A B x_1).2.natAbs, ()) = ofZ (toZ (decide ((gpow A B x_1).2 < (0 : Int)), wd (gpow A B x_1).2.natAbs, ())) ∧ (decide (powB x.1.2.1 x.2.1 < (0 : Int)), wd B.natAbs, ()) = ofZ (toZ (decide (powB x.1.2.1 x.2.1 < (0 : Int)), wd B.natAbs, ())) ∧ (wd (gpow A B x_1).2.natAbs).length ≤ (4096 : Nat) ∧ (wd B.natAbs).length ≤ (4096 : Nat)) ∧ ∀ (r_8 : Ro [tWhole]), r_8 = ((), ofZ (toZ (decide ((gpow A B x_1).2 < (0 : Int)), wd (gpow A B x_1).2.natAbs, ()) * toZ (decide (powB x.1.2.1 x.2.1 < (0 : Int)), wd B.natAbs, ())), ()) → (r.2.1 = ofZ (toZ r.2.1) ∧ r_8.2.1 = ofZ (toZ r_8.2.1) ∧ List.length r.2.1.2.1 ≤ (4096 : Nat) ∧ List.length r_8.2.1.2.1 ≤ (4096 : Nat)) ∧ ∀ (r_9 : Ro [tWhole]), r_9 = ((), ofZ (toZ r.2.1 - toZ r_8.2.1), ()) → ((decide ((gpow A B x_1).1 < (0 : Int)), wd (gpow A B x_1).1.natAbs, ()) = ofZ (toZ (decide ((gpow A B x_1).1 < (0 : Int)), wd (gpow A B x_1).1.natAbs, ())) ∧ (decide (powB x.1.2.1 x.2.1 < (0 : Int)), wd B.natAbs, ()) = ofZ (toZ (decide (powB x.1.2.1 x.2.1 < (0 : Int)), wd B.natAbs, ())) ∧ (wd (gpow A B x_1).1.natAbs).length ≤ (4096 : Nat) ∧ (wd B.natAbs).length ≤ (4096 : Nat)) ∧ ∀ (r : Ro [tWhole]), r = ((), ofZ (toZ (decide ((gpow A B x_1).1 < (0 : Int)), wd (gpow A B x_1).1.natAbs, ()) * toZ (decide (powB x.1.2.1 x.2.1 < (0 : Int)), wd B.natAbs, ())), ()) → ((decide ((gpow A B x_1).2 < (0 : Int)), wd (gpow A B x_1).2.natAbs, ()) = ofZ (toZ (decide ((gpow A B x_1).2 < (0 : Int)), wd (gpow A B x_1).2.natAbs, ())) ∧ (decide (rA x.1 < (0 : Int)), wd A.natAbs, ()) = ofZ (toZ (decide (rA x.1 < (0 : Int)), wd A.natAbs, ())) ∧ (wd (gpow A B x_1).2.natAbs).length ≤ (4096 : Nat) ∧ (wd A.natAbs).length ≤ (4096 : Nat)) ∧ ∀ (r_10 : Ro [tWhole]), r_10 = ((), ofZ (toZ (decide ((gpow A B x_1).2 < (0 : Int)), wd (gpow A B x_1).2.natAbs, ()) * toZ (decide (rA x.1 < (0 : Int)), wd A.natAbs, ())), ()) → (r.2.1 = ofZ (toZ r.2.1) ∧ r_10.2.1 = ofZ (toZ r_10.2.1) ∧ List.length r.2.1.2.1 ≤ (4096 : Nat) ∧ List.length r_10.2.1.2.1 ≤ (4096 : Nat)) ∧ ∀ (r_11 : Ro [tWhole]), r_11 = ((), ofZ (toZ r.2.1 + toZ r_10.2.1), ()) → (2 : Int) ≠ (0 : Int) ∧ (((↑x_1 : Int).tmod (2 : Int) == (0 : Int)) = true → ((decide (nrmR A B ^ ((x_1 + (1 : Nat)) / (2 : Nat)) < (0 : Int)), wd (nrmR A B ^ ((x_1 + (1 : Nat)) / (2 : Nat))).natAbs, ()) = ofZ (toZ (decide (nrmR A B ^ ((x_1 + (1 : Nat)) / (2 : Nat)) < (0 : Int)), wd (nrmR A B ^ ((x_1 + (1 : Nat)) / (2 : Nat))).natAbs, ())) ∧ (decide (nrmR A B < (0 : Int)), wd (nrmR A B).natAbs, ()) = ofZ (toZ (decide (nrmR A B < (0 : Int)), wd (nrmR A B).natAbs, ())) ∧ (wd (nrmR A B ^ ((x_1 + (1 : Nat)) / (2 : Nat))).natAbs).length ≤ (4096 : Nat) ∧ (wd (nrmR A B).natAbs).length ≤ (4096 : Nat)) ∧ ∀ (r : Ro [tWhole]), r = ((), ofZ (toZ (decide (nrmR A B ^ ((x_1 + (1 : Nat)) / (2 : Nat)) < (0 : Int)), wd (nrmR A B ^ ((x_1 + (1 : Nat)) / (2 : Nat))).natAbs, ()) * toZ (decide (nrmR A B < (0 : Int)), wd (nrmR A B).natAbs, ())), ()) → ((-9223372036854775808 : Int) ≤ (↑x_1 : Int) + (1 : Int) ∧ (↑x_1 : Int) + (1 : Int) ≤ (9223372036854775807 : Int)) ∧ ∃ (x' : Nat), (↑(Int.natAbs x.2.1) : Int) = (↑(Int.natAbs x.2.1) : Int) ∧ (↑x' : Int) = (↑x_1 : Int) + (1 : Int) ∧ decide (rA x.1 < (0 : Int)) = decide (rA x.1 < (0 : Int)) ∧ wd A.natAbs = wd A.natAbs ∧ decide (powB x.1.2.1 x.2.1 < (0 : Int)) = decide (powB x.1.2.1 x.2.1 < (0 : Int)) ∧ wd B.natAbs = wd B.natAbs ∧ decide (nrmR A B < (0 : Int)) = decide (nrmR A B < (0 : Int)) ∧ wd (nrmR A B).natAbs = wd (nrmR A B).natAbs ∧ decide ((gpow A B x').1 < (0 : Int)) = r_9.2.1.1 ∧ wd (gpow A B x').1.natAbs = r_9.2.1.2.1 ∧ decide ((gpow A B x').2 < (0 : Int)) = r_11.2.1.1 ∧ wd (gpow A B x').2.natAbs = r_11.2.1.2.1 ∧ decide (nrmR A B ^ ((x' + (1 : Nat)) / (2 : Nat)) < (0 : Int)) = r.2.1.1 ∧ wd (nrmR A B ^ ((x' + (1 : Nat)) / (2 : Nat))).natAbs = r.2.1.2.1 ∧ (ofGa Ga.zero).1.1 = (ofGa Ga.zero).1.1 ∧ (ofGa Ga.zero).1.2.1 = (ofGa Ga.zero).1.2.1 ∧ (ofGa Ga.zero).1.2.2.1 = (ofGa Ga.zero).1.2.2.1 ∧ (ofGa Ga.zero).2.1.1 = (ofGa Ga.zero).2.1.1 ∧ (ofGa Ga.zero).2.1.2.1 = (ofGa Ga.zero).2.1.2.1 ∧ (ofGa Ga.zero).2.1.2.2.1 = (ofGa Ga.zero).2.1.2.2.1 ∧ x'.le ((2 : Nat) * Int.natAbs x.2.1) ∧ (2 : Nat) * Int.natAbs x.2.1 - x' < (2 : Nat) * Int.natAbs x.2.1 - x_1) ∧ (((↑x_1 : Int).tmod (2 : Int) == (0 : Int)) = false → ((-9223372036854775808 : Int) ≤ (↑x_1 : Int) + (1 : Int) ∧ (↑x_1 : Int) + (1 : Int) ≤ (9223372036854775807 : Int)) ∧ ∃ (x' : Nat), (↑(Int.natAbs x.2.1) : Int) = (↑(Int.natAbs x.2.1) : Int) ∧ (↑x' : Int) = (↑x_1 : Int) + (1 : Int) ∧ decide (rA x.1 < (0 : Int)) = decide (rA x.1 < (0 : Int)) ∧ wd A.natAbs = wd A.natAbs ∧ decide (powB x.1.2.1 x.2.1 < (0 : Int)) = decide (powB x.1.2.1 x.2.1 < (0 : Int)) ∧ wd B.natAbs = wd B.natAbs ∧ decide (nrmR A B < (0 : Int)) = decide (nrmR A B < (0 : Int)) ∧ wd (nrmR A B).natAbs = wd (nrmR A B).natAbs ∧ decide ((gpow A B x').1 < (0 : Int)) = r_9.2.1.1 ∧ wd (gpow A B x').1.natAbs = r_9.2.1.2.1 ∧ decide ((gpow A B x').2 < (0 : Int)) = r_11.2.1.1 ∧ wd (gpow A B x').2.natAbs = r_11.2.1.2.1 ∧ decide (nrmR A B ^ ((x' + (1 : Nat)) / (2 : Nat)) < (0 : Int)) = decide (nrmR A B ^ ((x_1 + (1 : Nat)) / (2 : Nat)) < (0 : Int)) ∧ wd (nrmR A B ^ ((x' + (1 : Nat)) / (2 : Nat))).natAbs = wd (nrmR A B ^ ((x_1 + (1 : Nat)) / (2 : Nat))).natAbs ∧ (ofGa Ga.zero).1.1 = (ofGa Ga.zero).1.1 ∧ (ofGa Ga.zero).1.2.1 = (ofGa Ga.zero).1.2.1 ∧ (ofGa Ga.zero).1.2.2.1 = (ofGa Ga.zero).1.2.2.1 ∧ (ofGa Ga.zero).2.1.1 = (ofGa Ga.zero).2.1.1 ∧ (ofGa Ga.zero).2.1.2.1 = (ofGa Ga.zero).2.1.2.1 ∧ (ofGa Ga.zero).2.1.2.2.1 = (ofGa Ga.zero).2.1.2.2.1 ∧ x'.le ((2 : Nat) * Int.natAbs x.2.1) ∧ (2 : Nat) * Int.natAbs x.2.1 - x' < (2 : Nat) * Int.natAbs x.2.1 - x_1)) ∧ (decide ((↑x_1 : Int) < (2 : Int) * (↑(Int.natAbs x.2.1) : Int)) = false → ((decide ((gpow A B x_1).1 < (0 : Int)), wd (gpow A B x_1).1.natAbs, ()) = ofZ (toZ (decide ((gpow A B x_1).1 < (0 : Int)), wd (gpow A B x_1).1.natAbs, ())) ∧ (decide (nrmR A B ^ ((x_1 + (1 : Nat)) / (2 : Nat)) < (0 : Int)), wd (nrmR A B ^ ((x_1 + (1 : Nat)) / (2 : Nat))).natAbs, ()) = ofZ (toZ (decide (nrmR A B ^ ((x_1 + (1 : Nat)) / (2 : Nat)) < (0 : Int)), wd (nrmR A B ^ ((x_1 + (1 : Nat)) / (2 : Nat))).natAbs, ())) ∧ (wd (gpow A B x_1).1.natAbs).length ≤ (4096 : Nat) ∧ (wd (nrmR A B ^ ((x_1 + (1 : Nat)) / (2 : Nat))).natAbs).length ≤ (4096 : Nat) ∧ (0 : Int) < toZ (decide (nrmR A B ^ ((x_1 + (1 : Nat)) / (2 : Nat)) < (0 : Int)), wd (nrmR A B ^ ((x_1 + (1 : Nat)) / (2 : Nat))).natAbs, ())) ∧ ∀ (r : Ro [tR]), r = ((), ofFr (enc (mkRat (toZ (decide ((gpow A B x_1).1 < (0 : Int)), wd (gpow A B x_1).1.natAbs, ())) (toZ (decide (nrmR A B ^ ((x_1 + (1 : Nat)) / (2 : Nat)) < (0 : Int)), wd (nrmR A B ^ ((x_1 + (1 : Nat)) / (2 : Nat))).natAbs, ())).toNat)), ()) → ((decide ((gpow A B x_1).2 < (0 : Int)), wd (gpow A B x_1).2.natAbs, ()) = ofZ (toZ (decide ((gpow A B x_1).2 < (0 : Int)), wd (gpow A B x_1).2.natAbs, ())) ∧ (decide (nrmR A B ^ ((x_1 + (1 : Nat)) / (2 : Nat)) < (0 : Int)), wd (nrmR A B ^ ((x_1 + (1 : Nat)) / (2 : Nat))).natAbs, ()) = ofZ (toZ (decide (nrmR A B ^ ((x_1 + (1 : Nat)) / (2 : Nat)) < (0 : Int)), wd (nrmR A B ^ ((x_1 + (1 : Nat)) / (2 : Nat))).natAbs, ())) ∧ (wd (gpow A B x_1).2.natAbs).length ≤ (4096 : Nat) ∧ (wd (nrmR A B ^ ((x_1 + (1 : Nat)) / (2 : Nat))).natAbs).length ≤ (4096 : Nat) ∧ (0 : Int) < toZ (decide (nrmR A B ^ ((x_1 + (1 : Nat)) / (2 : Nat)) < (0 : Int)), wd (nrmR A B ^ ((x_1 + (1 : Nat)) / (2 : Nat))).natAbs, ())) ∧ ∀ (r_8 : Ro [tR]), r_8 = ((), ofFr (enc (mkRat (toZ (decide ((gpow A B x_1).2 < (0 : Int)), wd (gpow A B x_1).2.natAbs, ())) (toZ (decide (nrmR A B ^ ((x_1 + (1 : Nat)) / (2 : Nat)) < (0 : Int)), wd (nrmR A B ^ ((x_1 + (1 : Nat)) / (2 : Nat))).natAbs, ())).toNat)), ()) → ((r.2.1, r_8.2), (0 : Int), ()) = powR x.1 x.2.1)))))) (rA x.1) (powB x.1.2.1 x.2.1)
theorem w_n05Pow (y : El sp_n05Pow.q) (x : Els sp_n05Pow.ps) : aW c_n05Pow (iv_n05Pow y x) Tryz.f106 sp_n05Pow y x = F_n05Pow y x := by kernel_rfl
theorem m_n05Pow (y : El (.un)) (x : Els [tRot, .it .i64]) (h2 : wfE (.un) y) (h3 : wfEs [tRot, .it .i64] x) : F_n05Pow y x := by
  unfold F_n05Pow
  rintro _ rfl
  refine ⟨fun h => pw_1 (neT h), fun h => ⟨fun h1 => pw_2 (neF h) (.inl (ltT h1)), fun h1 => ⟨fun h2 => pw_2 (neF h) (.inr (gtT h2)), fun h2 => ?_⟩⟩⟩
  have hC := neF h
  have hb := rotC_0 hC
  unfold rotB rotI at hb
  have h1 := ltF h1
  have h2 := gtF h2
  simp only [wrap64_32 (i32_rng h3.1.1), wrap64_32 (i32_rng h3.1.2.1)]
  have ha : (rA x.1).natAbs ≤ 1000 := by unfold rA; omega
  have hp : 1 ≤ rA x.1 := by unfold rA; omega
  have hbb : (powB x.1.2.1 x.2.1).natAbs ≤ 1000 := by unfold powB; split <;> omega
  have hn : Int.natAbs x.2.1 ≤ 1024 := by omega
  have b0 : ∀ {c : Int}, c.natAbs ≤ 1000 → bd 1 c := fun hc => Nat.le_trans hc (by decide)
  have bl : ∀ {c : Int}, c.natAbs ≤ 1000 → (wd c.natAbs).length ≤ 4096 := fun hc => (b0 hc).len (by decide)
  have bm : ∀ {c d : Int}, c.natAbs ≤ 1000 → d.natAbs ≤ 1000 → (wd (c * d).natAbs).length ≤ 4096 := fun hc hd => ((b0 hc).mul (b0 hd)).len (by decide)
  have nd := nrmR_bd ha hbb
  have np := nrmR_pos (b := powB x.1.2.1 x.2.1) hp
  have ll : 2 * Int.natAbs x.2.1 ≤ 2048 := by omega
  rintro _ rfl _ rfl
  refine ⟨fun s => ?_, fun s => ?_⟩
  · have s := ltT s
    have eb : powB x.1.2.1 x.2.1 = Int.neg x.1.2.1 := if_pos s
    have hb0 : Int.natAbs x.1.2.1 ≤ 1000 := by omega
    have hbn : Int.natAbs (Int.neg x.1.2.1) ≤ 1000 := by rw [eb] at hbb; exact hbb
    refine ⟨neg_rng h1 h2, ⟨nZ_of _, bl hb0⟩, ?_⟩
    rintro _ rfl
    dsimp only
    simp only [toZ_of]
    refine ⟨⟨(by first | exact trivial | rfl | exact nZ_of _), (by first | exact trivial | rfl | exact nZ_of _), bl ha, bl ha⟩, ?_⟩
    rintro _ rfl
    refine ⟨⟨(by first | exact trivial | rfl | exact nZ_of _), (by first | exact trivial | rfl | exact nZ_of _), bl hbn, bl hbn⟩, ?_⟩
    rintro _ rfl
    dsimp only
    simp only [toZ_of]
    refine ⟨⟨(by first | exact trivial | rfl | exact nZ_of _), (by first | exact trivial | rfl | exact nZ_of _), bm ha ha, bm hbn hbn⟩, ?_⟩
    rintro _ rfl _ rfl _ rfl _ rfl
    refine ⟨⟨0, abs_neg_ s, rfl, rfl, rfl, by rw [eb]; rfl, by rw [eb]; rfl, by unfold nrmR; rw [eb]; rfl, by unfold nrmR; rw [eb]; rfl, rfl, rfl, rfl, rfl, by rw [pow_0]; rfl, by rw [pow_0]; rfl, rfl, rfl, rfl, rfl, rfl, rfl, Nat.zero_le _⟩, fun i hi => ⟨⟨by omega, by omega⟩, fun l => ?_, fun l => ?_⟩⟩
    · have l := ltT l
      have hi : i ≤ 2 * Int.natAbs x.2.1 := hi
      have il : i < 2 * Int.natAbs x.2.1 := by omega
      obtain ⟨g1, g2⟩ := gpow_bd ha hbb i
      have ik : i ≤ 2100 := by omega
      have tz0 : toZ (decide ((gpow (rA x.1) (powB x.1.2.1 x.2.1) i).1 < 0), wd (gpow (rA x.1) (powB x.1.2.1 x.2.1) i).1.natAbs, ()) = (gpow (rA x.1) (powB x.1.2.1 x.2.1) i).1 := tz _
      have tz1 : toZ (decide ((gpow (rA x.1) (powB x.1.2.1 x.2.1) i).2 < 0), wd (gpow (rA x.1) (powB x.1.2.1 x.2.1) i).2.natAbs, ()) = (gpow (rA x.1) (powB x.1.2.1 x.2.1) i).2 := tz _
      have tz2 : toZ (decide ((rA x.1) < 0), wd (rA x.1).natAbs, ()) = (rA x.1) := tz _
      have tz3 : toZ (decide ((powB x.1.2.1 x.2.1) < 0), wd (powB x.1.2.1 x.2.1).natAbs, ()) = (powB x.1.2.1 x.2.1) := tz _
      have tz4 : toZ (decide ((nrmR (rA x.1) (powB x.1.2.1 x.2.1)) < 0), wd (nrmR (rA x.1) (powB x.1.2.1 x.2.1)).natAbs, ()) = (nrmR (rA x.1) (powB x.1.2.1 x.2.1)) := tz _
      have tz5 : toZ (decide ((nrmR (rA x.1) (powB x.1.2.1 x.2.1) ^ ((i + 1) / 2)) < 0), wd (nrmR (rA x.1) (powB x.1.2.1 x.2.1) ^ ((i + 1) / 2)).natAbs, ()) = (nrmR (rA x.1) (powB x.1.2.1 x.2.1) ^ ((i + 1) / 2)) := tz _
      simp only [tz0, tz1, tz2, tz3, tz4, tz5]
      refine ⟨⟨(by first | exact trivial | rfl | exact nZ_of _), (by first | exact trivial | rfl | exact nZ_of _), g1.len ik, bl ha⟩, ?_⟩
      rintro _ rfl
      refine ⟨⟨(by first | exact trivial | rfl | exact nZ_of _), (by first | exact trivial | rfl | exact nZ_of _), g2.len ik, bl hbb⟩, ?_⟩
      rintro _ rfl
      dsimp only
      simp only [toZ_of]
      refine ⟨⟨(by first | exact trivial | rfl | exact nZ_of _), (by first | exact trivial | rfl | exact nZ_of _), (g1.mul (b0 ha)).len (by omega), (g2.mul (b0 hbb)).len (by omega)⟩, ?_⟩
      rintro _ rfl
      refine ⟨⟨(by first | exact trivial | rfl | exact nZ_of _), (by first | exact trivial | rfl | exact nZ_of _), g1.len ik, bl hbb⟩, ?_⟩
      rintro _ rfl
      refine ⟨⟨(by first | exact trivial | rfl | exact nZ_of _), (by first | exact trivial | rfl | exact nZ_of _), g2.len ik, bl ha⟩, ?_⟩
      rintro _ rfl
      dsimp only
      simp only [toZ_of]
      refine ⟨⟨(by first | exact trivial | rfl | exact nZ_of _), (by first | exact trivial | rfl | exact nZ_of _), (g1.mul (b0 hbb)).len (by omega), (g2.mul (b0 ha)).len (by omega)⟩, ?_⟩
      rintro _ rfl
      refine ⟨by first | exact trivial | decide, fun e => ?_, fun e => ?_⟩
      · have e := eqT e
        refine ⟨⟨(by first | exact trivial | rfl | exact nZ_of _), (by first | exact trivial | rfl | exact nZ_of _), (npow_bd nd _).len (by omega), nd.len (by decide)⟩, ?_⟩
        rintro _ rfl
        refine ⟨⟨by omega, by omega⟩, i + 1, ?_⟩
        have he := half_even e
        and_intros
        all_goals first | exact trivial | exact il | rfl | (rw [he, Int.pow_succ]; rfl) | omega | skip
      · have e := eqF e
        refine ⟨⟨by omega, by omega⟩, i + 1, ?_⟩
        have he := half_odd e
        and_intros
        all_goals first | exact trivial | exact il | rfl | (rw [he]; rfl) | (rw [he]; done) | omega | skip
    · have l := ltF l
      have hi : i ≤ 2 * Int.natAbs x.2.1 := hi
      have ei : i = 2 * Int.natAbs x.2.1 := by omega
      obtain ⟨g1, g2⟩ := gpow_bd ha hbb i
      have ik : i ≤ 2100 := by omega
      have tz0 : toZ (decide ((gpow (rA x.1) (powB x.1.2.1 x.2.1) i).1 < 0), wd (gpow (rA x.1) (powB x.1.2.1 x.2.1) i).1.natAbs, ()) = (gpow (rA x.1) (powB x.1.2.1 x.2.1) i).1 := tz _
      have tz1 : toZ (decide ((gpow (rA x.1) (powB x.1.2.1 x.2.1) i).2 < 0), wd (gpow (rA x.1) (powB x.1.2.1 x.2.1) i).2.natAbs, ()) = (gpow (rA x.1) (powB x.1.2.1 x.2.1) i).2 := tz _
      have tz5 : toZ (decide ((nrmR (rA x.1) (powB x.1.2.1 x.2.1) ^ ((i + 1) / 2)) < 0), wd (nrmR (rA x.1) (powB x.1.2.1 x.2.1) ^ ((i + 1) / 2)).natAbs, ()) = (nrmR (rA x.1) (powB x.1.2.1 x.2.1) ^ ((i + 1) / 2)) := tz _
      simp only [tz0, tz1, tz5]
      have pp : 0 < nrmR (rA x.1) (powB x.1.2.1 x.2.1) ^ ((i + 1) / 2) := Int.pow_pos np
      refine ⟨⟨(by first | exact trivial | rfl | exact nZ_of _), (by first | exact trivial | rfl | exact nZ_of _), g1.len ik, (npow_bd nd _).len (by omega), pp⟩, ?_⟩
      rintro _ rfl
      refine ⟨⟨(by first | exact trivial | rfl | exact nZ_of _), (by first | exact trivial | rfl | exact nZ_of _), g2.len ik, (npow_bd nd _).len (by omega), pp⟩, ?_⟩
      rintro _ rfl
      rw [← pw_3 hC (by omega)]
      have e2 : (i + 1) / 2 = Int.natAbs x.2.1 := by omega
      rw [e2, ei]
      rfl
  · have s := ltF s
    have eb : powB x.1.2.1 x.2.1 = x.1.2.1 := if_neg (by omega)
    have hbn : Int.natAbs x.1.2.1 ≤ 1000 := by rw [eb] at hbb; exact hbb
    simp only [toZ_of]
    refine ⟨⟨(by first | exact trivial | rfl | exact nZ_of _), (by first | exact trivial | rfl | exact nZ_of _), bl ha, bl ha⟩, ?_⟩
    rintro _ rfl
    refine ⟨⟨(by first | exact trivial | rfl | exact nZ_of _), (by first | exact trivial | rfl | exact nZ_of _), bl hbn, bl hbn⟩, ?_⟩
    rintro _ rfl
    dsimp only
    simp only [toZ_of]
    refine ⟨⟨(by first | exact trivial | rfl | exact nZ_of _), (by first | exact trivial | rfl | exact nZ_of _), bm ha ha, bm hbn hbn⟩, ?_⟩
    rintro _ rfl _ rfl _ rfl _ rfl
    refine ⟨⟨0, abs_pos_ s, rfl, rfl, rfl, by rw [eb]; rfl, by rw [eb]; rfl, by unfold nrmR; rw [eb]; rfl, by unfold nrmR; rw [eb]; rfl, rfl, rfl, rfl, rfl, by rw [pow_0]; rfl, by rw [pow_0]; rfl, rfl, rfl, rfl, rfl, rfl, rfl, Nat.zero_le _⟩, fun i hi => ⟨⟨by omega, by omega⟩, fun l => ?_, fun l => ?_⟩⟩
    · have l := ltT l
      have hi : i ≤ 2 * Int.natAbs x.2.1 := hi
      have il : i < 2 * Int.natAbs x.2.1 := by omega
      obtain ⟨g1, g2⟩ := gpow_bd ha hbb i
      have ik : i ≤ 2100 := by omega
      have tz0 : toZ (decide ((gpow (rA x.1) (powB x.1.2.1 x.2.1) i).1 < 0), wd (gpow (rA x.1) (powB x.1.2.1 x.2.1) i).1.natAbs, ()) = (gpow (rA x.1) (powB x.1.2.1 x.2.1) i).1 := tz _
      have tz1 : toZ (decide ((gpow (rA x.1) (powB x.1.2.1 x.2.1) i).2 < 0), wd (gpow (rA x.1) (powB x.1.2.1 x.2.1) i).2.natAbs, ()) = (gpow (rA x.1) (powB x.1.2.1 x.2.1) i).2 := tz _
      have tz2 : toZ (decide ((rA x.1) < 0), wd (rA x.1).natAbs, ()) = (rA x.1) := tz _
      have tz3 : toZ (decide ((powB x.1.2.1 x.2.1) < 0), wd (powB x.1.2.1 x.2.1).natAbs, ()) = (powB x.1.2.1 x.2.1) := tz _
      have tz4 : toZ (decide ((nrmR (rA x.1) (powB x.1.2.1 x.2.1)) < 0), wd (nrmR (rA x.1) (powB x.1.2.1 x.2.1)).natAbs, ()) = (nrmR (rA x.1) (powB x.1.2.1 x.2.1)) := tz _
      have tz5 : toZ (decide ((nrmR (rA x.1) (powB x.1.2.1 x.2.1) ^ ((i + 1) / 2)) < 0), wd (nrmR (rA x.1) (powB x.1.2.1 x.2.1) ^ ((i + 1) / 2)).natAbs, ()) = (nrmR (rA x.1) (powB x.1.2.1 x.2.1) ^ ((i + 1) / 2)) := tz _
      simp only [tz0, tz1, tz2, tz3, tz4, tz5]
      refine ⟨⟨(by first | exact trivial | rfl | exact nZ_of _), (by first | exact trivial | rfl | exact nZ_of _), g1.len ik, bl ha⟩, ?_⟩
      rintro _ rfl
      refine ⟨⟨(by first | exact trivial | rfl | exact nZ_of _), (by first | exact trivial | rfl | exact nZ_of _), g2.len ik, bl hbb⟩, ?_⟩
      rintro _ rfl
      dsimp only
      simp only [toZ_of]
      refine ⟨⟨(by first | exact trivial | rfl | exact nZ_of _), (by first | exact trivial | rfl | exact nZ_of _), (g1.mul (b0 ha)).len (by omega), (g2.mul (b0 hbb)).len (by omega)⟩, ?_⟩
      rintro _ rfl
      refine ⟨⟨(by first | exact trivial | rfl | exact nZ_of _), (by first | exact trivial | rfl | exact nZ_of _), g1.len ik, bl hbb⟩, ?_⟩
      rintro _ rfl
      refine ⟨⟨(by first | exact trivial | rfl | exact nZ_of _), (by first | exact trivial | rfl | exact nZ_of _), g2.len ik, bl ha⟩, ?_⟩
      rintro _ rfl
      dsimp only
      simp only [toZ_of]
      refine ⟨⟨(by first | exact trivial | rfl | exact nZ_of _), (by first | exact trivial | rfl | exact nZ_of _), (g1.mul (b0 hbb)).len (by omega), (g2.mul (b0 ha)).len (by omega)⟩, ?_⟩
      rintro _ rfl
      refine ⟨by first | exact trivial | decide, fun e => ?_, fun e => ?_⟩
      · have e := eqT e
        refine ⟨⟨(by first | exact trivial | rfl | exact nZ_of _), (by first | exact trivial | rfl | exact nZ_of _), (npow_bd nd _).len (by omega), nd.len (by decide)⟩, ?_⟩
        rintro _ rfl
        refine ⟨⟨by omega, by omega⟩, i + 1, ?_⟩
        have he := half_even e
        and_intros
        all_goals first | exact trivial | exact il | rfl | (rw [he, Int.pow_succ]; rfl) | omega | skip
      · have e := eqF e
        refine ⟨⟨by omega, by omega⟩, i + 1, ?_⟩
        have he := half_odd e
        and_intros
        all_goals first | exact trivial | exact il | rfl | (rw [he]; rfl) | (rw [he]; done) | omega | skip
    · have l := ltF l
      have hi : i ≤ 2 * Int.natAbs x.2.1 := hi
      have ei : i = 2 * Int.natAbs x.2.1 := by omega
      obtain ⟨g1, g2⟩ := gpow_bd ha hbb i
      have ik : i ≤ 2100 := by omega
      have tz0 : toZ (decide ((gpow (rA x.1) (powB x.1.2.1 x.2.1) i).1 < 0), wd (gpow (rA x.1) (powB x.1.2.1 x.2.1) i).1.natAbs, ()) = (gpow (rA x.1) (powB x.1.2.1 x.2.1) i).1 := tz _
      have tz1 : toZ (decide ((gpow (rA x.1) (powB x.1.2.1 x.2.1) i).2 < 0), wd (gpow (rA x.1) (powB x.1.2.1 x.2.1) i).2.natAbs, ()) = (gpow (rA x.1) (powB x.1.2.1 x.2.1) i).2 := tz _
      have tz5 : toZ (decide ((nrmR (rA x.1) (powB x.1.2.1 x.2.1) ^ ((i + 1) / 2)) < 0), wd (nrmR (rA x.1) (powB x.1.2.1 x.2.1) ^ ((i + 1) / 2)).natAbs, ()) = (nrmR (rA x.1) (powB x.1.2.1 x.2.1) ^ ((i + 1) / 2)) := tz _
      simp only [tz0, tz1, tz5]
      have pp : 0 < nrmR (rA x.1) (powB x.1.2.1 x.2.1) ^ ((i + 1) / 2) := Int.pow_pos np
      refine ⟨⟨(by first | exact trivial | rfl | exact nZ_of _), (by first | exact trivial | rfl | exact nZ_of _), g1.len ik, (npow_bd nd _).len (by omega), pp⟩, ?_⟩
      rintro _ rfl
      refine ⟨⟨(by first | exact trivial | rfl | exact nZ_of _), (by first | exact trivial | rfl | exact nZ_of _), g2.len ik, (npow_bd nd _).len (by omega), pp⟩, ?_⟩
      rintro _ rfl
      rw [← pw_3 hC (by omega)]
      have e2 : (i + 1) / 2 = Int.natAbs x.2.1 := by omega
      rw [e2, ei]
      rfl
theorem fo_n05Pow : FnOk Tryz.prog 106 sp_n05Pow := fnOk_of (C := c_n05Pow) iv_n05Pow Tryz.func106 rfl (by kernel_rfl) tys_ok (prims_cons (spec_prim fo_nRCk) (prims_cons (spec_prim fo_zOf) (prims_cons (spec_prim fo_zOpp) (prims_cons (spec_prim fo_zProd) (prims_cons (spec_prim fo_zPlus) (prims_cons (spec_prim fo_zLess) (prims_cons (spec_prim fo_n05part) prims_nil))))))) mixed_ (Nat.le_refl _) rfl fun y x h1 h2 h3 h4 =>
  Eq.mpr (w_n05Pow y x) (m_n05Pow y x h2 h3)
theorem gpow_add (a b : Int) (i : Nat) : ∀ j, gpow a b (i + j) = ((gpow a b i).1 * (gpow a b j).1 - (gpow a b i).2 * (gpow a b j).2, (gpow a b i).1 * (gpow a b j).2 + (gpow a b i).2 * (gpow a b j).1)
  | 0 => by
    show gpow a b i = ((gpow a b i).1 * 1 - (gpow a b i).2 * 0, (gpow a b i).1 * 0 + (gpow a b i).2 * 1)
    simp
  | j + 1 => by
    have ih := gpow_add a b i j
    rw [← Nat.add_assoc]
    show ((gpow a b (i + j)).1 * a - (gpow a b (i + j)).2 * b, (gpow a b (i + j)).1 * b + (gpow a b (i + j)).2 * a) = _
    rw [ih]
    have e1 : (gpow a b (j + 1)).1 = (gpow a b j).1 * a - (gpow a b j).2 * b := rfl
    have e2 : (gpow a b (j + 1)).2 = (gpow a b j).1 * b + (gpow a b j).2 * a := rfl
    rw [e1, e2]
    generalize (gpow a b i).1 = x
    generalize (gpow a b i).2 = y
    generalize (gpow a b j).1 = u
    generalize (gpow a b j).2 = v
    simp only [Int.sub_mul, Int.add_mul, Int.mul_add, Int.mul_sub, Int.mul_assoc]
    congr 1 <;> omega
theorem lngQ {x : Int} {d : Nat} {j k : Nat} (hx : bd j x) (hj : j ≤ 2100) (hd : d ≤ 2000 ^ k) (hk : k ≤ 2100) (h0 : d ≠ 0) : ¬ lng (mkRat x d) = true := by
  have e := enc_mk (decide (x < 0)) x.natAbs d h0
  have es : sg (decide (x < 0)) x.natAbs = x := by
    unfold sg
    by_cases h : x < 0
    · rw [if_pos (by simpa using h)]; omega
    · rw [if_neg (by simpa using h)]; omega
  rw [es] at e
  have e1 : wd (mkRat x d).num.natAbs = wd (x.natAbs / Nat.gcd x.natAbs d) := congrArg Fr.num e
  have e2 : wd (mkRat x d).den = wd (d / Nat.gcd x.natAbs d) := congrArg Fr.den e
  refine lng_of ?_ ?_
  · rw [e1]
    have := wd_len_mono (Nat.div_le_self x.natAbs (Nat.gcd x.natAbs d))
    have := wd_bd hx hj
    omega
  · rw [e2]
    have := wd_len_mono (Nat.div_le_self d (Nat.gcd x.natAbs d))
    have := wd_bd hd hk
    omega
theorem mkRat_add_same (x y : Int) {d : Nat} (h : d ≠ 0) : mkRat x d + mkRat y d = mkRat (x + y) d := by
  rw [Rat.mkRat_add_mkRat x y h h, ← Int.add_mul, Rat.mkRat_mul_right (by omega)]
theorem mkRat_sub_same (x y : Int) {d : Nat} (h : d ≠ 0) : mkRat x d - mkRat y d = mkRat (x - y) d := by
  rw [Rat.sub_eq_add_neg, Rat.neg_mkRat, mkRat_add_same x (-y) h, Int.sub_eq_add_neg]
section
variable {x y : Int} {c d j k : Nat}
theorem wmul_q (hx : bd j x) (hy : bd k y) (hjk : j + k ≤ 2100) (hc : c ≤ 2000 ^ j) (hd : d ≤ 2000 ^ k) (c0 : c ≠ 0) (d0 : d ≠ 0) : wmul 0 (enc (mkRat x c)) (enc (mkRat y d)) = (enc (mkRat (x * y) (c * d)), 0) := by
  unfold wmul
  rw [stp_ok]
  unfold fmul
  rw [both_ok (lngQ hx (by omega) hc (by omega) c0) (lngQ hy (by omega) hd (by omega) d0), Rat.mkRat_mul_mkRat]
  exact tell_ok (lngQ (hx.mul hy) hjk (by rw [Nat.pow_add]; exact Nat.mul_le_mul hc hd) hjk (Nat.mul_ne_zero c0 d0))
theorem wadd_q (hx : bd j x) (hy : bd j y) (hxy : bd j (x + y)) (hj : j ≤ 2100) (hc : c ≤ 2000 ^ j) (c0 : c ≠ 0) : wadd 0 (enc (mkRat x c)) (enc (mkRat y c)) = (enc (mkRat (x + y) c), 0) := by
  unfold wadd
  rw [stp_ok]
  unfold fadd
  rw [both_ok (lngQ hx hj hc hj c0) (lngQ hy hj hc hj c0), mkRat_add_same x y c0]
  exact tell_ok (lngQ hxy hj hc hj c0)
theorem wsub_q (hx : bd j x) (hy : bd j y) (hxy : bd j (x - y)) (hj : j ≤ 2100) (hc : c ≤ 2000 ^ j) (c0 : c ≠ 0) : wsub 0 (enc (mkRat x c)) (enc (mkRat y c)) = (enc (mkRat (x - y) c), 0) := by
  unfold wsub
  rw [stp_ok]
  unfold fsub
  rw [both_ok (lngQ hx hj hc hj c0) (lngQ hy hj hc hj c0), mkRat_sub_same x y c0]
  exact tell_ok (lngQ hxy hj hc hj c0)
end
section
variable {a b : Int}
theorem nrmN {n : Nat} (ha : a.natAbs ≤ 1000) (hb : b.natAbs ≤ 1000) (hp : 1 ≤ a) : (nrmR a b ^ n).toNat ≤ 2000 ^ (2 * n) ∧ (nrmR a b ^ n).toNat ≠ 0 ∧ ((nrmR a b ^ n).toNat : Int) = nrmR a b ^ n := by
  have h1 := npow_bd (nrmR_bd ha hb) n
  have h2 : 0 < nrmR a b ^ n := Int.pow_pos (nrmR_pos hp)
  unfold bd at h1
  omega
theorem nrmN_mul {m n : Nat} (ha : a.natAbs ≤ 1000) (hb : b.natAbs ≤ 1000) (hp : 1 ≤ a) : (nrmR a b ^ m).toNat * (nrmR a b ^ n).toNat = (nrmR a b ^ (m + n)).toNat := by
  have h1 := (nrmN (n := m) ha hb hp).2.2
  have h2 := (nrmN (n := n) ha hb hp).2.2
  have h3 := (nrmN (n := m + n) ha hb hp).2.2
  have : (((nrmR a b ^ m).toNat * (nrmR a b ^ n).toNat : Nat) : Int) = ((nrmR a b ^ (m + n)).toNat : Int) := by
    rw [Int.natCast_mul, h1, h2, h3, Int.pow_add]
  exact Int.ofNat_inj.1 this
theorem fchk_rq {z : Int} {n : Nat} (hz : bd (2 * n) z) (hn : n ≤ 1024) (ha : a.natAbs ≤ 1000) (hb : b.natAbs ≤ 1000) (hp : 1 ≤ a) : fchk (enc (mkRat z (nrmR a b ^ n).toNat)) = 0 :=
  fchk_enc _ (lngQ hz (by omega) (nrmN ha hb hp).1 (by omega) (nrmN ha hb hp).2.1)
theorem gchk_rpow {n : Nat} (hn : n ≤ 1024) (ha : a.natAbs ≤ 1000) (hb : b.natAbs ≤ 1000) (hp : 1 ≤ a) : gchk (rpow a b n) = 0 := by
  obtain ⟨h1, h2⟩ := gpow_bd ha hb (2 * n)
  unfold gchk fchk2 rpow
  dsimp only
  rw [fchk_rq h1 hn ha hb hp, fchk_rq h2 hn ha hb hp]
  rfl
theorem gmul_rpow {m n : Nat} (hmn : m + n ≤ 1024) (ha : a.natAbs ≤ 1000) (hb : b.natAbs ≤ 1000) (hp : 1 ≤ a) : gmul (rpow a b m) (rpow a b n) = (rpow a b (m + n), 0) := by
  obtain ⟨x1, y1⟩ := gpow_bd ha hb (2 * m)
  obtain ⟨x2, y2⟩ := gpow_bd ha hb (2 * n)
  obtain ⟨z1, z2⟩ := gpow_bd ha hb (2 * (m + n))
  have e0 : 2 * (m + n) = 2 * m + 2 * n := by omega
  have g1 : gchk2 (rpow a b m) (rpow a b n) = 0 := by
    unfold gchk2
    rw [gchk_rpow (by omega) ha hb hp, gchk_rpow (by omega) ha hb hp]
    rfl
  have ga := gpow_add a b (2 * m) (2 * n)
  rw [← e0] at ga
  obtain ⟨c1, c2, _⟩ := nrmN (n := m) ha hb hp
  obtain ⟨d1, d2, _⟩ := nrmN (n := n) ha hb hp
  obtain ⟨f1, f2, _⟩ := nrmN (n := m + n) ha hb hp
  have ed := nrmN_mul (m := m) (n := n) ha hb hp
  have k : 2 * m + 2 * n ≤ 2100 := by omega
  have k2 : 2 * (m + n) ≤ 2100 := by omega
  rw [e0] at f1
  rw [ga] at z1 z2
  rw [e0] at z1 z2
  have p : wprod 0 (rpow a b m) (rpow a b n) = ((rpow a b (m + n)).re, (rpow a b (m + n)).im, 0) := by
    unfold wprod rpow
    dsimp only
    rw [wmul_q x1 x2 k c1 d1 c2 d2, ed]
    dsimp only
    rw [wmul_q y1 y2 k c1 d1 c2 d2, ed]
    dsimp only
    rw [wsub_q (x1.mul x2) (y1.mul y2) z1 k f1 f2]
    dsimp only
    rw [wmul_q x1 y2 k c1 d1 c2 d2, ed]
    dsimp only
    rw [wmul_q y1 x2 k c1 d1 c2 d2, ed]
    dsimp only
    rw [wadd_q (x1.mul y2) (y1.mul x2) z2 k f1 f2]
    rw [ga]
  unfold gmul
  rw [g1, p]
  exact gtell_ok
end
end Go.Proofs.YtakaehdolpmelaaGreat
