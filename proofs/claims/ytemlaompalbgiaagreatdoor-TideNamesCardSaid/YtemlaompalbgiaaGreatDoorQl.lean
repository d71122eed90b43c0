/- Texts of this claim, joined: N9 P2 N10 P3 N11 N12. -/
import Derived.Deep.RegionHeld3
import Derived.Test.YtemlaompalbgiaaGreatDoorQk
set_option linter.unusedVariables false
set_option linter.unusedSimpArgs false
set_option maxRecDepth 100000
namespace Go.Proofs.YtemlaompalbgiaaGreatDoor
open Go Go.RowKit
theorem two_pow_split (n : Nat) (hn : n ≤ 32) : (2 : Int) ^ n * 2 ^ (32 - n) = 4294967296 := by
  rw [← Int.pow_add, show n + (32 - n) = 32 by omega]; rfl
theorem two_pow_le (n : Nat) (hn : n ≤ 31) : (1 : Int) ≤ 2 ^ n ∧ (2 : Int) ^ n ≤ 2147483648 := by
  have h := two_pow_split n (by omega)
  have h1 : (0 : Int) < 2 ^ n := Int.pow_pos (by omega)
  have h2 : (2 : Int) * 2 ^ (31 - n) = 2 ^ (32 - n) := by
    rw [show 32 - n = 31 - n + 1 by omega, Int.pow_succ, Int.mul_comm]
  have h3 : (0 : Int) < 2 ^ (31 - n) := Int.pow_pos (by omega)
  refine ⟨h1, ?_⟩
  have h4 : (2 : Int) ^ n * 2 ≤ 2 ^ n * 2 ^ (32 - n) := Int.mul_le_mul_of_nonneg_left (by omega) (by omega)
  omega
theorem up_low (x : Int) (n : Nat) (hn : n ≤ 31) : x * 2 ^ n % 4294967296 = 2 ^ n * (x % 2 ^ (32 - n)) := by
  rw [← two_pow_split n (by omega), Int.mul_comm x, Int.mul_emod_mul_of_pos _ _ (Int.pow_pos (by omega))]
theorem up_word (x z : Int) (n : Nat) (hn : n ≤ 31) (hx : 0 ≤ x ∧ x < 4294967296) (hz0 : 0 ≤ z) (hz : z < 2 ^ n) :
    bits .or .u32 z (IntKind.u64.wrap (x * 2 ^ n) % 4294967296) = z + x * 2 ^ n % 4294967296 ∧ IntKind.u64.wrap (x * 2 ^ n) / 4294967296 % 4294967296 = x * 2 ^ n / 4294967296 ∧
    0 ≤ x * 2 ^ n / 4294967296 ∧ x * 2 ^ n / 4294967296 < 2 ^ n ∧ z + x * 2 ^ n % 4294967296 < 4294967296 := by
  have hp := two_pow_le n hn
  have h0 : 0 ≤ x * 2 ^ n := Int.mul_nonneg hx.1 (by omega)
  have h1 : x * 2 ^ n < 4294967296 * 2 ^ n := Int.mul_lt_mul_of_pos_right hx.2 (by omega)
  have hw : IntKind.u64.wrap (x * 2 ^ n) = x * 2 ^ n := IntWalk.u64_in _ ⟨h0, by omega⟩
  have hq : x * 2 ^ n / 4294967296 < 2 ^ n := Int.ediv_lt_of_lt_mul (by omega) (by omega)
  have hlo := up_low x n hn
  have hq0 : (0 : Int) < 2 ^ (32 - n) := Int.pow_pos (by omega)
  have hr0 := Int.emod_nonneg x (show (2 : Int) ^ (32 - n) ≠ 0 by omega)
  have hr1 := Int.emod_lt_of_pos x hq0
  have hs := two_pow_split n (by omega)
  have hlo2 : x * 2 ^ n % 4294967296 ≤ 4294967296 - 2 ^ n := by
    rw [hlo]
    have : (2 : Int) ^ n * (x % 2 ^ (32 - n)) ≤ 2 ^ n * (2 ^ (32 - n) - 1) := Int.mul_le_mul_of_nonneg_left (by omega) (by omega)
    rw [Int.mul_sub, hs, Int.mul_one] at this
    exact this
  rw [hw]
  refine ⟨?_, by omega, by omega, hq, by omega⟩
  exact bits_join_low .u32 32 (by decide) (fun n h0 h1 => wraps_u32 n h0 h1) n z _ hz0 hz (by omega) (by omega) (by rw [hlo]; exact Int.mul_emod_right _ _) (by omega)
theorem up_round (us xs : List Int) (n k : Nat) (hk : k + 1 < us.length) (hv : V us (k + 1) = V xs k * 2 ^ n) :
    V ((us.set k (nth us k + nth xs k * 2 ^ n % 4294967296)).set (k + 1) (nth xs k * 2 ^ n / 4294967296)) (k + 1 + 1) = V xs (k + 1) * 2 ^ n := by
  rw [V_succ, nth_set_self _ _ _ (by rw [List.length_set]; exact hk), V_set_ge _ _ _ _ (Nat.le_refl _), V_set _ _ _ (by omega) _ (by omega), hv, V_succ, pw_succ, Int.add_mul]
  have e : nth xs k * 2 ^ n = nth xs k * 2 ^ n % 4294967296 + 4294967296 * (nth xs k * 2 ^ n / 4294967296) := by omega
  have e2 : nth xs k * pw k * 2 ^ n = (nth xs k * 2 ^ n) * pw k := by rw [Int.mul_assoc, Int.mul_comm (pw k), ← Int.mul_assoc]
  rw [e2]
  generalize nth xs k * 2 ^ n = t at *
  rw [show nth us k + t % 4294967296 - nth us k = t % 4294967296 by omega]
  have e3 : t * pw k = t % 4294967296 * pw k + t / 4294967296 * (4294967296 * pw k) := by
    rw [← Int.mul_assoc, ← Int.add_mul]; congr 1; omega
  omega
set_option maxHeartbeats 1000000 in
theorem up_any (A : Option Addr) (xs : List Int) (n : Nat) (c : Nat) (w : World) (ha : Rd w A c xs) (hw : Wf xs) (hn : n ≤ 31) (lm : xs.length ≤ 8193) :
    Calls Tryz.prog 265 #[.slice A xs.length c, .int .u64 n] w fun e w' => ∃ g us, e = .returned (.slice (some ⟨g, 0, none⟩) (xs.length + 1) (xs.length + 1)) ∧ us.length = xs.length + 1 ∧ Wf us ∧ val us = val xs * 2 ^ n ∧ Own w' w.heap.size (some ⟨g, 0, none⟩) (xs.length + 1) us ∧ Ext w w' := by
  have HA := Lib.hid ha
  have HW := Lib.hid hw
  have hn0 : (0 : Int) ≤ n := by omega
  clear ha hw
  go_enter Tryz.func265, Tryz.ntmps265
  go_wp2_with (at_make; refine wpList_mk rfl _ _ rfl (xs.length + 1) _ _ rfl rfl (by omega) (by omega) (by omega) ?_; intro w1 hO hG)
  have HO := Lib.hid hO
  have HG := Lib.hid hG
  clear hO hG
  go_loopw [15] (fun i wr => ∃ (k : Nat) (us : List Int), k ≤ xs.length ∧ Hid (us.length = xs.length + 1) ∧ Hid (Wf us) ∧ Hid (V us (k + 1) = V xs k * 2 ^ n) ∧ Hid (nth us k < 2 ^ n) ∧ Hid (∀ j, k + 1 ≤ j → nth us j = 0) ∧ i = .int .i64 k ∧ Hid (Own wr w.heap.size (some ⟨w.heap.size, 0, none⟩) (xs.length + 1) us) ∧ Hid (Ext w wr)) (fun i _ => xs.length - (intOf i).toNat)
  case atStart => exact ⟨0, _, by omega, List.length_replicate, wf_zeros _, by show _ = _; rw [V_zeros, V_zero, Int.zero_mul], by show _ < _; rw [nth_zeros]; exact Int.pow_pos (by omega), fun j _ => nth_zeros _ _, rfl, HO, HG⟩
  case round =>
    clear HO HG
    obtain ⟨k, us, hk, HUL, HU, HV, HT, HZ, rfl, HO, HX⟩ := hrel
    by_cases hkm : k < xs.length
    · obtain ⟨a, rfl, hca⟩ := (HA.out.ext HX.out).at_ k hkm
      have hco := HO.out.cell k (by have := HUL.out; omega)
      have hfo := HO.out.free k
      have hco1 := HO.out.cell (k + 1) (by have := HUL.out; omega)
      rw [HZ.out _ (Nat.le_refl _)] at hco1
      have hfo1 := HO.out.free (k + 1)
      have bx := nth_wf HW.out k
      have bz := nth_wf HU.out k
      obtain ⟨x, hx⟩ : ∃ x, x = nth xs k := ⟨_, rfl⟩
      obtain ⟨z, hz⟩ : ∃ z, z = nth us k := ⟨_, rfl⟩
      rw [← hx] at hca bx
      rw [← hz] at hco bz
      have Hx := Lib.hid hx
      have Hz := Lib.hid hz
      obtain ⟨hq1, hq2, hp1, hp2, hp3⟩ := up_word x z n hn bx bz.1 (by rw [hz]; exact HT.out)
      have HP1 := Lib.hid hq1
      have HP2 := Lib.hid hq2
      have HR := Lib.hid (up_round us xs n k (by have := HUL.out; omega) HV.out)
      rw [← hx, ← hz] at HR
      clear hx hz hq1 hq2
      go_wp2_with fail
      go_roundw
      case rel =>
        rw [HP1.out, HP2.out]
        refine ⟨k + 1, (us.set k (z + x * 2 ^ n % 4294967296)).set (k + 1) (x * 2 ^ n / 4294967296), by omega, by unfold Hid; rw [List.length_set, List.length_set]; exact HUL.out, wf_set (wf_set HU.out _ _ ?_ hp3) _ _ hp1 ?_, HR.out, ?_, fun j hj => ?_, by go_num, ((HO.out.set k _).1.set (k + 1) _).1, (HX.out.setCell (Nat.le_refl _) _).setCell (Nat.le_refl _) _⟩
        · have := Int.emod_nonneg (x * 2 ^ n) (show (4294967296 : Int) ≠ 0 by omega); omega
        · have := two_pow_le n hn; omega
        · unfold Hid; rw [nth_set_self _ _ _ (by rw [List.length_set]; have := HUL.out; omega)]; exact hp2
        · rw [nth_set_ne _ _ _ _ (by omega), nth_set_ne _ _ _ _ (by omega)]; exact HZ.out j (by omega)
      case measure => simp [intOf]; omega
    · have hkl : k = xs.length := by omega
      subst hkl
      have HE := Lib.hid (show val us = val xs * 2 ^ n by unfold val; rw [HUL.out]; exact HV.out)
      go_wp2_with fail
      go_ret
      exact ⟨_, us, rfl, HUL.out, HU.out, HE.out, HO.out, HX.out⟩
theorem or_high (x y : Int) (hx : 0 ≤ x ∧ x < 4294967296) (hy : 0 ≤ y ∧ y < 4294967296) : bits .or .u64 x (y * 4294967296) = x + y * 4294967296 :=
  bits_join_low .u64 64 (by decide) (fun n h0 h1 => wraps_u64 n h0 h1) 32 _ _ (by omega) (by omega) (by omega) (by omega) (by omega) (by omega)
def dwn (x y : Int) (n : Nat) : Int := (x + y * 4294967296) / 2 ^ n % 4294967296
theorem dwn_eq (x y : Int) (n : Nat) (hn : n ≤ 31) (hx : 0 ≤ x ∧ x < 4294967296) : dwn x y n * 2 ^ n = x - x % 2 ^ n + y % 2 ^ n * 4294967296 := by
  unfold dwn
  have hs := two_pow_split n (by omega)
  have hp := two_pow_le n hn
  generalize (2 : Int) ^ n = p at *
  generalize (2 : Int) ^ (32 - n) = q at *
  have e1 : (x + y * 4294967296) / p = x / p + y * q := by
    rw [← hs, show y * (p * q) = (y * q) * p by rw [Int.mul_comm p q, Int.mul_assoc], Int.add_mul_ediv_right _ _ (by omega)]
  have hx2 := Int.mul_ediv_add_emod x p
  have hy2 := Int.mul_ediv_add_emod y p
  have hs0 := Int.emod_nonneg y (show p ≠ 0 by omega)
  have hs1 := Int.emod_lt_of_pos y (show 0 < p by omega)
  have hxs0 := Int.emod_nonneg x (show p ≠ 0 by omega)
  have hq : 0 < q := by
    apply Int.pos_of_mul_pos_right (a := p) <;> omega
  have ha0 : 0 ≤ x / p := Int.ediv_nonneg hx.1 (by omega)
  have ha1 : x / p < q := Int.ediv_lt_of_lt_mul (by omega) (by rw [Int.mul_comm]; omega)
  have e2 : x / p + y * q = x / p + y % p * q + y / p * 4294967296 := by
    rw [← hs, show y / p * (p * q) = p * (y / p) * q by rw [← Int.mul_assoc, Int.mul_comm (y / p) p], Int.add_assoc, ← Int.add_mul]
    congr 2
    omega
  have h3 : y % p * q ≤ (p - 1) * q := Int.mul_le_mul_of_nonneg_right (by omega) (by omega)
  rw [Int.sub_mul, hs, Int.one_mul] at h3
  have h4 : 0 ≤ y % p * q := Int.mul_nonneg hs0 (by omega)
  rw [e1, e2, Int.add_mul_emod_self_right, Int.emod_eq_of_lt (by omega) (by omega), Int.add_mul, Int.mul_assoc, Int.mul_comm q p, hs, Int.mul_comm (x / p) p]
  omega
theorem dwn_bd (x y : Int) (n : Nat) : 0 ≤ dwn x y n ∧ dwn x y n < 4294967296 := by unfold dwn; omega
theorem dwn_round (us xs : List Int) (n k : Nat) (S : Int) (hn : n ≤ 31) (hw : Wf xs) (hk : k < us.length) (hv : V us k * 2 ^ n = V xs k + nth xs k % 2 ^ n * pw k - S) :
    V (us.set k (dwn (nth xs k) (nth xs (k + 1)) n)) (k + 1) * 2 ^ n = V xs (k + 1) + nth xs (k + 1) % 2 ^ n * pw (k + 1) - S := by
  rw [V_succ, V_set_ge _ _ _ _ (Nat.le_refl _), nth_set_self _ _ _ hk, Int.add_mul, hv, Int.mul_assoc, Int.mul_comm (pw k), ← Int.mul_assoc, dwn_eq _ _ _ hn (nth_wf hw k), V_succ, pw_succ, Int.add_mul, Int.sub_mul, Int.mul_assoc (nth xs (k + 1) % 2 ^ n)]
  omega
theorem dwn_end (us : List Int) (m n L : Nat) (hn : n ≤ 31) (hm : (wd m).length = L) (hul : us.length = L) (hv : V us L * 2 ^ n = V (wd m) L + nth (wd m) L % 2 ^ n * pw L - nth (wd m) 0 % 2 ^ n) : val us = ((m / 2 ^ n : Nat) : Int) := by
  have e1 := val_wd m
  unfold val at e1
  rw [hm] at e1
  rw [nth_out (wd m) L (by omega), Int.zero_emod, Int.zero_mul, e1] at hv
  have h0 : nth (wd m) 0 = (m : Int) % 4294967296 := by
    by_cases h : m = 0
    · subst h; rw [wd_zero]; rfl
    · rw [wd_pos m h, nth_cons_zero]; omega
  have hs := two_pow_split n (by omega)
  have hp := two_pow_le n hn
  have h1 : (m : Int) % 4294967296 % 2 ^ n = m % 2 ^ n := Int.emod_emod_of_dvd _ ⟨_, hs.symm⟩
  rw [h0, h1, Int.add_zero] at hv
  have h2 := Int.mul_ediv_add_emod (m : Int) (2 ^ n)
  have h3 : V us L * 2 ^ n = (m : Int) / 2 ^ n * 2 ^ n := by rw [hv, Int.mul_comm ((m : Int) / 2 ^ n)]; omega
  have h4 := Int.eq_of_mul_eq_mul_right (by omega) h3
  unfold val
  rw [hul, h4, Int.natCast_ediv, Int.natCast_pow]
  rfl
set_option maxHeartbeats 1000000 in
theorem down_any (A : Option Addr) (m n : Nat) (c base : Nat) (w : World) (ho : Own w base A c (wd m)) (hn : n ≤ 31) (lm : (wd m).length ≤ 8193) :
    Calls Tryz.prog 269 #[.slice A (wd m).length c, .int .u64 n] w fun e w' => e = .returned (.slice A (wd (m / 2 ^ n)).length c) ∧ Own w' base A c (wd (m / 2 ^ n)) ∧ w.grownBy w' (A.map (·.block)) := by
  have HW := Lib.hid (wf_wd m)
  have HO := Lib.hid ho
  have HG := Lib.hid (World.grownBy.refl w (A.map (·.block)))
  have HF := Lib.hid ho.form
  have hc := ho.rd.capm
  have hn0 : (0 : Int) ≤ n := by omega
  clear ho
  go_enter Tryz.func269, Tryz.ntmps269
  go_wp2_with fail
  go_loopw [9] (fun i wr => ∃ (k : Nat) (us : List Int), k ≤ (wd m).length ∧ Hid (us.length = (wd m).length) ∧ Hid (Wf us) ∧ Hid (V us k * 2 ^ n = V (wd m) k + nth (wd m) k % 2 ^ n * pw k - nth (wd m) 0 % 2 ^ n) ∧ Hid (∀ j, k ≤ j → nth us j = nth (wd m) j) ∧ i = .int .i64 k ∧ Hid (Own wr base A c us) ∧ Hid (w.grownBy wr (A.map (·.block)))) (fun i _ => (wd m).length - (intOf i).toNat)
  case atStart => exact ⟨0, wd m, by omega, rfl, HW.out, by show _ = _; rw [V_zero, pw_zero]; omega, fun _ _ => rfl, rfl, HO, HG⟩
  case round =>
    clear HO HG
    obtain ⟨k, us, hk, HUL, HU, HV, HR, rfl, HO, HX⟩ := hrel
    by_cases hkm : k < (wd m).length
    · obtain ⟨g, rfl⟩ : ∃ g, A = some ⟨g, 0, none⟩ := by
        rcases HF.out with h | ⟨g, h, _⟩
        · obtain ⟨a, ha⟩ := HO.out.rd.some_ (by have := HUL.out; omega)
          rw [h] at ha; cases ha
        · exact ⟨g, h⟩
      have hco := HO.out.cell k (by have := HUL.out; omega)
      rw [HR.out k (Nat.le_refl _)] at hco
      have hfo := HO.out.free k
      have bx := nth_wf (wf_wd m) k
      have by_ := nth_wf (wf_wd m) (k + 1)
      have HD := Lib.hid (dwn_round us (wd m) n k _ hn (wf_wd m) (by have := HUL.out; omega) HV.out)
      have hb := dwn_bd (nth (wd m) k) (nth (wd m) (k + 1)) n
      have HRk : ∀ v, Hid (∀ j, k + 1 ≤ j → nth (us.set k v) j = nth (wd m) j) := fun v j hj => by rw [nth_set_ne _ _ _ _ (by omega)]; exact HR.out j (by omega)
      by_cases hk1 : k + 1 < (wd m).length
      · have hco1 := HO.out.cell (k + 1) (by have := HUL.out; omega)
        rw [HR.out (k + 1) (by omega)] at hco1
        have hor := or_high (nth (wd m) k) (nth (wd m) (k + 1)) bx by_
        have HE := Lib.hid (show (nth (wd m) k + nth (wd m) (k + 1) * 4294967296) / 2 ^ n % 4294967296 = dwn (nth (wd m) k) (nth (wd m) (k + 1)) n from rfl)
        go_wp2_with fail
        go_roundw
        case rel =>
          rw [HE.out]
          exact ⟨k + 1, _, by omega, by unfold Hid; rw [List.length_set]; exact HUL.out, wf_set HU.out _ _ hb.1 hb.2, HD.out, HRk _, by go_num, (HO.out.set k _).1, grown_trans HX.out (HO.out.set k _).2⟩
        case measure => simp [intOf]; omega
      · have HE := Lib.hid (show nth (wd m) k / 2 ^ n % 4294967296 = dwn (nth (wd m) k) (nth (wd m) (k + 1)) n by
          unfold dwn; rw [nth_out (wd m) (k + 1) (by omega), Int.zero_mul, Int.add_zero])
        go_wp2_with fail
        go_roundw
        case rel =>
          rw [HE.out]
          exact ⟨k + 1, _, by omega, by unfold Hid; rw [List.length_set]; exact HUL.out, wf_set HU.out _ _ hb.1 hb.2, HD.out, HRk _, by go_num, (HO.out.set k _).1, grown_trans HX.out (HO.out.set k _).2⟩
        case measure => simp [intOf]; omega
    · have hkl : k = (wd m).length := by omega
      subst hkl
      have HE := Lib.hid (dwn_end us m n _ hn rfl HUL.out HV.out)
      go_wp2_with fail
      refine (cut_own _ us _ _ _ _ HO.out HUL.out HU.out _ HE.out).mono ?_; rintro e w' ⟨rfl, HO2, rfl⟩
      have HO3 := Lib.hid HO2
      clear HO2
      go_wp2_with fail
      go_ret
      exact ⟨rfl, HO3.out, HX.out⟩
end Go.Proofs.YtemlaompalbgiaaGreatDoor
namespace Go.Proofs.YtemlaompalbgiaaGreatDoor
structure Guess (U D top u2 v1 v2 P Ul Dl : Int) : Prop where
  hU : U = (top * 4294967296 + u2) * P + Ul
  hD : D = (v1 * 4294967296 + v2) * P + Dl
  ul : 0 ≤ Ul ∧ Ul < P
  dl : 0 ≤ Dl ∧ Dl < P
  u2 : 0 ≤ u2 ∧ u2 < 4294967296
  v2 : 0 ≤ v2 ∧ v2 < 4294967296
  v1 : 2147483648 ≤ v1 ∧ v1 < 4294967296
  top : 0 ≤ top
  lt : U < D * 4294967296
section
variable {U D top u2 v1 v2 P Ul Dl : Int} (g : Guess U D top u2 v1 v2 P Ul Dl)
include g
theorem Guess.hP : 0 < P := by have := g.ul; omega
theorem Guess.topLt : top < (v1 + 1) * 4294967296 := by
  have hP := g.hP
  have h1 : U < (v1 + 1) * 4294967296 * (P * 4294967296) := by
    have h : D < (v1 * 4294967296 + 4294967296) * P := by
      have a : (v1 * 4294967296 + v2 + 1) * P ≤ (v1 * 4294967296 + 4294967296) * P := Int.mul_le_mul_of_nonneg_right (by have := g.v2; omega) (by omega)
      rw [Int.add_mul _ 1, Int.one_mul] at a
      have := g.hD; have := g.dl; omega
    have e : (v1 + 1) * 4294967296 * (P * 4294967296) = (v1 * 4294967296 + 4294967296) * P * 4294967296 := by
      rw [← Int.mul_assoc, Int.add_mul, Int.one_mul]
    rw [e]
    have := g.lt
    omega
  have h2 : top * (P * 4294967296) ≤ U := by
    have a : top * 4294967296 * P ≤ (top * 4294967296 + u2) * P := Int.mul_le_mul_of_nonneg_right (by have := g.u2; omega) (by omega)
    rw [show top * (P * 4294967296) = top * 4294967296 * P by rw [Int.mul_comm P, Int.mul_assoc]]
    have := g.hU; have := g.ul; omega
  exact Int.lt_of_mul_lt_mul_right (a := P * 4294967296) (by omega) (by omega)
theorem Guess.below (q : Int) (h : (top * 4294967296 + u2 + 1) ≤ q * (v1 * 4294967296 + v2)) (hq : 0 ≤ q) : U < q * D := by
  have hP := g.hP
  have h1 : (top * 4294967296 + u2 + 1) * P ≤ q * (v1 * 4294967296 + v2) * P := Int.mul_le_mul_of_nonneg_right h (by omega)
  rw [Int.add_mul _ 1, Int.one_mul, Int.mul_assoc q] at h1
  have h2 : q * D = q * ((v1 * 4294967296 + v2) * P) + q * Dl := by rw [g.hD, Int.mul_add]
  have h3 : 0 ≤ q * Dl := Int.mul_nonneg hq g.dl.1
  have := g.hU; have := g.ul; omega
theorem Guess.above (q : Int) (h : q * (v1 * 4294967296 + v2) ≤ top * 4294967296 + u2) (_ : 0 ≤ q) (hq1 : q ≤ 4294967296) : q * D ≤ U + D := by
  have hP := g.hP
  have h1 : q * (v1 * 4294967296 + v2) * P ≤ (top * 4294967296 + u2) * P := Int.mul_le_mul_of_nonneg_right h (by omega)
  rw [Int.mul_assoc q] at h1
  have h2 : q * D = q * ((v1 * 4294967296 + v2) * P) + q * Dl := by rw [g.hD, Int.mul_add]
  have h3 : q * Dl ≤ 4294967296 * P := Int.mul_le_mul hq1 (by have := g.dl; omega) g.dl.1 (by omega)
  have h4 : 4294967296 * P ≤ (v1 * 4294967296 + v2) * P := Int.mul_le_mul_of_nonneg_right (by have := g.v1; have := g.v2; omega) (by omega)
  have := g.hU; have := g.hD; have := g.ul; have := g.dl; omega
theorem Guess.begin : U < (top / v1 + 1) * D ∧ top / v1 ≤ 4294967297 ∧ 0 ≤ top / v1 ∧ top / v1 * v1 + top % v1 = top ∧ 0 ≤ top % v1 ∧ top % v1 < 4294967296 := by
  have hv := g.v1
  have e := Int.mul_ediv_add_emod top v1
  have m0 := Int.emod_nonneg top (show v1 ≠ 0 by omega)
  have m1 := Int.emod_lt_of_pos top (show 0 < v1 by omega)
  have q0 : 0 ≤ top / v1 := Int.ediv_nonneg g.top (by omega)
  refine ⟨g.below _ ?_ (by omega), ?_, q0, by rw [Int.mul_comm]; exact e, m0, by omega⟩
  · have h : (top + 1) * 4294967296 ≤ (top / v1 + 1) * v1 * 4294967296 := by
      apply Int.mul_le_mul_of_nonneg_right _ (by omega)
      rw [Int.add_mul, Int.one_mul, Int.mul_comm]
      omega
    have h2 : 0 ≤ (top / v1 + 1) * v2 := Int.mul_nonneg (by omega) g.v2.1
    rw [Int.mul_add, ← Int.mul_assoc]
    have := g.u2
    omega
  · have := g.topLt
    have h : top / v1 < 4294967298 := Int.ediv_lt_of_lt_mul (by omega) (by omega)
    omega
theorem Guess.less (q r : Int) (hq : 0 ≤ q) (he : q * v1 + r = top) (h : 4294967296 ≤ q ∨ r * 4294967296 + u2 < q * v2) : U < q * D := by
  rcases h with h | h
  · have hD : 0 ≤ D := by
      have := g.hD; have := g.dl
      have h : 0 ≤ (v1 * 4294967296 + v2) * P := Int.mul_nonneg (by have := g.v1; have := g.v2; omega) (by have := g.hP; omega)
      omega
    have h1 : 4294967296 * D ≤ q * D := Int.mul_le_mul_of_nonneg_right h hD
    have := g.lt
    omega
  · refine g.below q ?_ hq
    have e : q * (v1 * 4294967296 + v2) = q * v1 * 4294967296 + q * v2 := by rw [Int.mul_add, ← Int.mul_assoc]
    rw [e, show q * v1 = top - r by omega]
    omega
theorem Guess.good (q r : Int) (hq : 0 ≤ q) (hq1 : q < 4294967296) (he : q * v1 + r = top) (h : q * v2 ≤ r * 4294967296 + u2) : q * D ≤ U + D := by
  refine g.above q ?_ hq (by omega)
  have e : q * (v1 * 4294967296 + v2) = q * v1 * 4294967296 + q * v2 := by rw [Int.mul_add, ← Int.mul_assoc]
  rw [e, show q * v1 = top - r by omega]
  omega
theorem Guess.stop (q r : Int) (hq : 0 ≤ q) (hq1 : q ≤ 4294967296) (he : q * v1 + r = top) (h : 4294967296 ≤ r) : q < 4294967296 ∧ q * D ≤ U + D := by
  have hv2 := g.v2
  have h1 : q * v2 ≤ 4294967296 * 4294967296 := Int.mul_le_mul hq1 (by omega) hv2.1 (by omega)
  refine ⟨?_, g.above q ?_ hq (by omega)⟩
  · have := g.topLt
    have : q ≠ 4294967296 := by
      intro e
      subst e
      omega
    omega
  · have e : q * (v1 * 4294967296 + v2) = q * v1 * 4294967296 + q * v2 := by rw [Int.mul_add, ← Int.mul_assoc]
    rw [e, show q * v1 = top - r by omega]
    have := g.u2
    omega
end
theorem Guess.of_words (us vs : List Int) (n : Nat) (hu : Wf us) (hv : Wf vs) (htop : 2147483648 ≤ nth vs (n + 1)) (hlt : V us (n + 3) < V vs (n + 2) * 4294967296) :
    Guess (V us (n + 3)) (V vs (n + 2)) (nth us (n + 2) * 4294967296 + nth us (n + 1)) (nth us n) (nth vs (n + 1)) (nth vs n) (pw n) (V us n) (V vs n) where
  hU := by
    rw [V_succ, V_succ, V_succ, pw_succ (n + 1), pw_succ n]
    simp only [Int.add_mul, Int.mul_assoc]
    omega
  hD := by
    rw [V_succ, V_succ, pw_succ n]
    simp only [Int.add_mul, Int.mul_assoc]
    omega
  ul := ⟨V_nonneg hu n, V_lt hu n⟩
  dl := ⟨V_nonneg hv n, V_lt hv n⟩
  u2 := nth_wf hu n
  v2 := nth_wf hv n
  v1 := ⟨htop, (nth_wf hv (n + 1)).2⟩
  top := by have := nth_wf hu (n + 2); have := nth_wf hu (n + 1); omega
  lt := hlt
end Go.Proofs.YtemlaompalbgiaaGreatDoor
namespace Go.Proofs.YtemlaompalbgiaaGreatDoor
open Go Go.RowKit
set_option maxHeartbeats 2000000 in
theorem guess_any (A B : Option Addr) (us vs : List Int) (n c d : Nat) (w : World) (ha : Rd w A c us) (hb : Rd w B d vs) (hul : us.length = n + 3) (hvl : vs.length = n + 2) (hu : Wf us) (hv : Wf vs) (htop : 2147483648 ≤ nth vs (n + 1)) (hlt : V us (n + 3) < V vs (n + 2) * 4294967296) (hn : n ≤ 8192) (L : Nat) (hL : L = n + 2) :
    Calls Tryz.prog 266 #[.slice A (L + 1) c, .slice B L d] w fun e w' => ∃ q : Nat, q < 4294967296 ∧ e = .returned (.int .u64 q) ∧ V us (n + 3) < (q + 1) * V vs (n + 2) ∧ q * V vs (n + 2) ≤ V us (n + 3) + V vs (n + 2) ∧ Ext w w' := by
  have G := Lib.hid (Guess.of_words us vs n hu hv htop hlt)
  obtain ⟨a, rfl, ca2⟩ := ha.at_ (n + 2) (by omega)
  obtain ⟨b, rfl, cb1⟩ := hb.at_ (n + 1) (by omega)
  have ca1 := ha.cell (n + 1) (by omega)
  have ca0 := ha.cell n (by omega)
  have cb0 := hb.cell n (by omega)
  have ba2 := nth_wf hu (n + 2)
  have ba1 := nth_wf hu (n + 1)
  have ba0 := nth_wf hu n
  have bb1 := nth_wf hv (n + 1)
  have bb0 := nth_wf hv n
  obtain ⟨x0, hx0⟩ : ∃ x, x = nth us n := ⟨_, rfl⟩
  obtain ⟨x1, hx1⟩ : ∃ x, x = nth us (n + 1) := ⟨_, rfl⟩
  obtain ⟨x2, hx2⟩ : ∃ x, x = nth us (n + 2) := ⟨_, rfl⟩
  obtain ⟨v2, hv2⟩ : ∃ x, x = nth vs n := ⟨_, rfl⟩
  obtain ⟨v1, hv1⟩ : ∃ x, x = nth vs (n + 1) := ⟨_, rfl⟩
  rw [← hx0] at ca0 ba0
  rw [← hx1] at ca1 ba1
  rw [← hx2] at ca2 ba2
  rw [← hv2] at cb0 bb0
  rw [← hv1] at cb1 bb1 htop
  rw [← hx0, ← hx1, ← hx2, ← hv1, ← hv2] at G
  have HB := Lib.hid G.out.begin
  have ho1 := or_word x2 x1 ba2 ba1
  obtain ⟨top, ht⟩ : ∃ t, t = x2 * 4294967296 + x1 := ⟨_, rfl⟩
  have tb : 0 ≤ top ∧ top ≤ 18446744073709551615 := by omega
  have HT := Lib.hid ht
  rw [← ht] at G HB
  have hdz : (v1 == 0) = false := beq_eq_false_iff_ne.2 (by omega)
  clear ha hb hu hv hul hvl hx0 hx1 hx2 hv1 hv2 hlt
  rw [← ht] at ho1
  clear ht
  obtain ⟨K1, hK1⟩ : ∃ K, K = n + 1 := ⟨_, rfl⟩
  have w1 : IntKind.i64.wrap ((L : Int) - 1) = K1 := by rw [IntWalk.i64_in _ (by omega)]; omega
  have w2 : IntKind.i64.wrap ((L : Int) - 2) = n := by rw [IntWalk.i64_in _ (by omega)]; omega
  have b1 : (K1 : Int) < (L : Int) := by omega
  have b2 : (n : Int) < (L : Int) := by omega
  have b3 : (K1 : Int) < (L : Int) + 1 := by omega
  have b4 : (n : Int) < (L : Int) + 1 := by omega
  rw [← hL] at ca2
  rw [← hK1] at ca1 cb1
  have HL := Lib.hid hL
  clear hL hK1
  go_enter Tryz.func266, Tryz.ntmps266
  go_wp2_with fail
  go_quiet (fail)
  go_wp2_with fail
  go_quiet (fail)
  go_wp2_with fail
  go_loopw [7, 8] (fun qq rr wr => ∃ q r : Int, 0 ≤ q ∧ q ≤ 4294967297 ∧ 0 ≤ r ∧ r < 4294967296 ∧ Hid (q * v1 + r = top) ∧ Hid (V us (n + 3) < (q + 1) * V vs (n + 2)) ∧ qq = .int .u64 q ∧ rr = .int .u64 r ∧ Hid (Ext w wr)) (fun qq _ _ => (intOf qq).toNat)
  case atStart => exact ⟨_, _, HB.out.2.2.1, HB.out.2.1, HB.out.2.2.2.2.1, HB.out.2.2.2.2.2, HB.out.2.2.2.1, HB.out.1, rfl, rfl, ((Ext.refl w).drewN _).drewN _⟩
  case round =>
    obtain ⟨q, r, hq0, hq1, hr0, hr1, he, hlt, rfl, rfl, HX⟩ := hrel
    have ca0' := HX.out.cell ca0
    have cb0' := HX.out.cell cb0
    have cb1' := HX.out.cell cb1
    clear ca0 cb0 cb1 ca1 ca2
    have ho2 := or_word r x0 ⟨hr0, hr1⟩ ba0
    have pq0 : 0 ≤ q * v2 := Int.mul_nonneg hq0 bb0.1
    have pq1 : q * v2 ≤ 18446744073709551615 := by
      have : q * v2 ≤ 4294967297 * 4294967295 := Int.mul_le_mul hq1 (by omega) bb0.1 (by omega)
      omega
    by_cases hbig : 4294967296 ≤ q
    · have hg1 : (q / 4294967296 != 0) = true := by rw [bne_iff_ne]; omega
      have hls := Lib.hid (G.out.less q r hq0 he.out (.inl hbig))
      by_cases hr2 : 4294967296 ≤ r + v1
      · have hg2 : ((r + v1) / 4294967296 != 0) = true := by rw [bne_iff_ne]; omega
        have hst := Lib.hid (G.out.stop (q - 1) (r + v1) (by omega) (by omega) (by have := he.out; rw [Int.sub_mul, Int.one_mul]; omega) hr2)
        go_wp2_with fail
        go_quiet (fail)
        go_wp2_with fail
        go_ret
        exact ⟨(q - 1).toNat, by have := hst.out.1; omega, by rw [Int.toNat_of_nonneg (by omega)]; rfl, by rw [Int.toNat_of_nonneg (by omega), Int.sub_add_cancel]; exact hls.out, by rw [Int.toNat_of_nonneg (by omega)]; exact hst.out.2, HX.out.drewN _⟩
      · have hg2 : ((r + v1) / 4294967296 != 0) = false := by rw [bne_eq_false_iff_eq]; omega
        go_wp2_with fail
        go_quiet (fail)
        go_wp2_with fail
        exact ⟨⟨q - 1, r + v1, by omega, by omega, by omega, by omega, by show _ = _; have := he.out; rw [Int.sub_mul, Int.one_mul]; omega, by show _ < _; rw [Int.sub_add_cancel]; exact hls.out, rfl, rfl, HX.out.drewN _⟩, by simp [intOf]; omega⟩
    · have hg1 : (q / 4294967296 != 0) = false := by rw [bne_eq_false_iff_eq]; omega
      by_cases hbg : r * 4294967296 + x0 < q * v2
      · have hq2 : 1 ≤ q := by
          have : q ≠ 0 := fun e => by subst e; rw [Int.zero_mul] at hbg; omega
          omega
        have hls := Lib.hid (G.out.less q r hq0 he.out (.inr hbg))
        by_cases hr2 : 4294967296 ≤ r + v1
        · have hg2 : ((r + v1) / 4294967296 != 0) = true := by rw [bne_iff_ne]; omega
          have hst := Lib.hid (G.out.stop (q - 1) (r + v1) (by omega) (by omega) (by have := he.out; rw [Int.sub_mul, Int.one_mul]; omega) hr2)
          go_wp2_with fail
          go_quiet (fail)
          go_wp2_with fail
          go_ret
          exact ⟨(q - 1).toNat, by have := hst.out.1; omega, by rw [Int.toNat_of_nonneg (by omega)]; rfl, by rw [Int.toNat_of_nonneg (by omega), Int.sub_add_cancel]; exact hls.out, by rw [Int.toNat_of_nonneg (by omega)]; exact hst.out.2, HX.out.drewN _⟩
        · have hg2 : ((r + v1) / 4294967296 != 0) = false := by rw [bne_eq_false_iff_eq]; omega
          go_wp2_with fail
          go_quiet (fail)
          go_wp2_with fail
          exact ⟨⟨q - 1, r + v1, by omega, by omega, by omega, by omega, by show _ = _; have := he.out; rw [Int.sub_mul, Int.one_mul]; omega, by show _ < _; rw [Int.sub_add_cancel]; exact hls.out, rfl, rfl, HX.out.drewN _⟩, by simp [intOf]; omega⟩
      · have hgd := Lib.hid (G.out.good q r hq0 (by omega) he.out (by omega))
        go_wp2_with fail
        go_quiet (fail)
        go_wp2_with fail
        go_ret
        exact ⟨q.toNat, by omega, by rw [Int.toNat_of_nonneg hq0]; rfl, by rw [Int.toNat_of_nonneg hq0]; exact hlt.out, by rw [Int.toNat_of_nonneg hq0]; exact hgd.out, HX.out.drewN _⟩
end Go.Proofs.YtemlaompalbgiaaGreatDoor
namespace Go.Proofs.YtemlaompalbgiaaGreatDoor
def Vo (us : List Int) (o k : Nat) : Int := V (us.drop o) k
theorem Vo_zero (us : List Int) (o : Nat) : Vo us o 0 = 0 := rfl
theorem Vo_succ (us : List Int) (o k : Nat) : Vo us o (k + 1) = Vo us o k + nth us (o + k) * pw k := by unfold Vo; rw [V_succ, nth_drop]
theorem Vo_set (us : List Int) (o k : Nat) (v : Int) (hk : o + k < us.length) : Vo (us.set (o + k) v) o (k + 1) = Vo us o k + v * pw k := by
  rw [Vo_succ, nth_set_self _ _ _ hk]
  congr 1
  exact V_congr k fun j hj => by rw [nth_drop, nth_drop, nth_set_ne _ _ _ _ (by omega)]
theorem Vo_bd {us : List Int} (h : Wf us) (o k : Nat) : 0 ≤ Vo us o k ∧ Vo us o k < pw k := ⟨V_nonneg (wf_drop h o) k, V_lt (wf_drop h o) k⟩
theorem Vo_congr {us vs : List Int} {o k : Nat} (h : ∀ j, o ≤ j → j < o + k → nth us j = nth vs j) : Vo us o k = Vo vs o k := by
  unfold Vo
  exact V_congr k fun j hj => by rw [nth_drop, nth_drop]; exact h _ (by omega) (by omega)
theorem val_split (us : List Int) (i l : Nat) (h : i + l ≤ us.length) : val us = V us i + pw i * Vo us i l + pw (i + l) * Vo us (i + l) (us.length - (i + l)) := by
  have e : us.length = i + l + (us.length - (i + l)) := by omega
  unfold val
  conv => lhs; rw [e]
  rw [V_drop us (i + l), V_drop us i l]
  rfl
theorem Wf.val_nonneg {us : List Int} (h : Wf us) : 0 ≤ val us := V_nonneg h _
theorem part_lt (us : List Int) (i L : Nat) (D : Int) (h : Wf us) (hl : i + (L + 1) ≤ us.length) (hv : val us < D * pw (i + 1)) : Vo us i (L + 1) < D * 4294967296 := by
  have e := val_split us i (L + 1) hl
  have h1 := V_nonneg h i
  have h2 := Int.mul_nonneg (Int.le_of_lt (pw_pos (i + (L + 1)))) (Vo_bd h (i + (L + 1)) (us.length - (i + (L + 1)))).1
  rw [pw_succ, ← Int.mul_assoc, Int.mul_comm (D * 4294967296)] at hv
  have hp := pw_pos i
  exact Int.lt_of_mul_lt_mul_left (a := pw i) (by omega) (by omega)
theorem part_off (us us' : List Int) (i L : Nat) (D x : Int) (h : Wf us) (hl : i + (L + 1) ≤ us.length) (hul : us'.length = us.length) (hD : D < pw L) (hv : val us < D * pw (i + 1))
    (hsame : ∀ j, j < i ∨ i + (L + 1) ≤ j → nth us' j = nth us j) (hU : Vo us' i (L + 1) = Vo us i (L + 1) - x * D) (hU1 : Vo us' i (L + 1) < D) :
    val us' = val us - x * D * pw i ∧ val us' < D * pw i := by
  have e := val_split us i (L + 1) hl
  have e' := val_split us' i (L + 1) (by omega)
  have s1 : V us' i = V us i := V_congr i fun j hj => hsame j (.inl hj)
  have s2 : Vo us' (i + (L + 1)) (us'.length - (i + (L + 1))) = Vo us (i + (L + 1)) (us.length - (i + (L + 1))) := by
    rw [hul]; exact Vo_congr fun j h1 _ => hsame j (.inr h1)
  rw [s1, s2, hU, Int.mul_sub] at e'
  have e3 : pw i * (x * D) = x * D * pw i := Int.mul_comm _ _
  refine ⟨by omega, ?_⟩
  have hz : Vo us (i + (L + 1)) (us.length - (i + (L + 1))) = 0 := by
    have hr := (Vo_bd h (i + (L + 1)) (us.length - (i + (L + 1)))).1
    have h1 := V_nonneg h i
    have h2 := Int.mul_nonneg (Int.le_of_lt (pw_pos i)) (Vo_bd h i (L + 1)).1
    have h3 : D * pw (i + 1) < pw (i + (L + 1)) := by
      have : D * pw (i + 1) < pw L * pw (i + 1) := Int.mul_lt_mul_of_pos_right hD (pw_pos _)
      rw [← pw_add, show L + (i + 1) = i + (L + 1) by omega] at this
      exact this
    rcases Int.lt_or_le 0 (Vo us (i + (L + 1)) (us.length - (i + (L + 1)))) with h4 | h4
    · have h5 : pw (i + (L + 1)) * 1 ≤ pw (i + (L + 1)) * Vo us (i + (L + 1)) (us.length - (i + (L + 1))) := Int.mul_le_mul_of_nonneg_left (by omega) (Int.le_of_lt (pw_pos _))
      omega
    · omega
  rw [hz, Int.mul_zero, Int.add_zero] at e e'
  have h6 : pw i * Vo us' i (L + 1) ≤ pw i * (D - 1) := Int.mul_le_mul_of_nonneg_left (by omega) (Int.le_of_lt (pw_pos i))
  have h7 := V_lt h i
  rw [hU, Int.mul_sub, Int.mul_sub, Int.mul_one] at h6
  have e4 := Int.mul_comm (pw i) D
  omega
theorem off_good (U U1 D q P : Int) (hq : U < (q + 1) * D) (h1 : U1 + q * D = U + 0 * P) : U1 = U - q * D ∧ U1 < D := by
  rw [Int.add_mul, Int.one_mul] at hq
  omega
theorem off_back (U U1 U2 D q P cy : Int) (hq2 : q * D ≤ U + D) (h1 : U1 + q * D = U + 1 * P) (hU1 : 0 ≤ U1 ∧ U1 < P) (hU2 : 0 ≤ U2 ∧ U2 < P) (hcy : 0 ≤ cy ∧ cy ≤ 1) (h2 : U2 + cy * P = U1 + D) : U2 = U - (q - 1) * D ∧ U2 < D ∧ U < q * D := by
  rw [Int.sub_mul, Int.one_mul]
  have hc : cy = 0 ∨ cy = 1 := by omega
  rcases hc with rfl | rfl
  · omega
  · omega
theorem q_round (qs : List Int) (k : Nat) (x D M v v' : Int) (hk : k < qs.length) (hz : nth qs k = 0) (h : D * val qs + v = M) (hv : v' = v - x * D * pw k) : D * val (qs.set k x) + v' = M := by
  have e : val (qs.set k x) = val qs + x * pw k := by
    unfold val
    rw [List.length_set, V_set _ _ _ hk _ hk, hz, Int.sub_zero]
  rw [e, Int.mul_add, hv, ← h]
  have : D * (x * pw k) = x * D * pw k := by rw [← Int.mul_assoc, Int.mul_comm D x]
  omega
theorem div_end (m n s vq vu : Nat) (hn : 0 < n) (h : (((n * 2 ^ s : Nat) : Int) * (vq : Int) + (vu : Int)) = ((m * 2 ^ s : Nat) : Int)) (hl : vu < n * 2 ^ s) : vq = m / n ∧ vu / 2 ^ s = m % n := by
  have hp : 0 < 2 ^ s := Nat.pow_pos (by omega)
  have h' : n * 2 ^ s * vq + vu = m * 2 ^ s := by exact_mod_cast h
  have hd : 0 < n * 2 ^ s := Nat.mul_pos hn hp
  have hq : m * 2 ^ s / (n * 2 ^ s) = vq := by
    rw [← h', Nat.mul_add_div hd, Nat.div_eq_of_lt hl, Nat.add_zero]
  have hr : m * 2 ^ s % (n * 2 ^ s) = vu := by
    rw [← h', Nat.mul_add_mod, Nat.mod_eq_of_lt hl]
  rw [Nat.mul_div_mul_right _ _ hp] at hq
  rw [Nat.mul_mod_mul_right] at hr
  exact ⟨hq.symm, by rw [← hr, Nat.mul_div_cancel _ hp]⟩
theorem div_begin (m n s L : Nat) (la : Nat) (hla : (wd m).length = la) (hL1 : 1 ≤ L) (hle : L ≤ la + 1) (hs : s ≤ 31) (ht : 2147483648 * pw (L - 1) ≤ ((n * 2 ^ s : Nat) : Int)) : ((m * 2 ^ s : Nat) : Int) < ((n * 2 ^ s : Nat) : Int) * pw (la + 1 - L) := by
  have h1 := wd_lt_pw m
  rw [hla] at h1
  have h2 : 2147483648 * pw (L - 1) * pw (la + 1 - L) ≤ ((n * 2 ^ s : Nat) : Int) * pw (la + 1 - L) := Int.mul_le_mul_of_nonneg_right ht (Int.le_of_lt (pw_pos _))
  rw [Int.mul_assoc, ← pw_add, show L - 1 + (la + 1 - L) = la by omega] at h2
  have h3 : ((2 ^ s : Nat) : Int) ≤ 2147483648 := by
    have : 2 ^ s ≤ 2 ^ 31 := Nat.pow_le_pow_right (by omega) hs
    omega
  have h0 : 0 < ((2 ^ s : Nat) : Int) := by
    have : 0 < 2 ^ s := Nat.pow_pos (by omega)
    omega
  have h4 : (m : Int) * ((2 ^ s : Nat) : Int) < pw la * ((2 ^ s : Nat) : Int) := Int.mul_lt_mul_of_pos_right h1 h0
  have h5 : pw la * ((2 ^ s : Nat) : Int) ≤ pw la * 2147483648 := Int.mul_le_mul_of_nonneg_left h3 (Int.le_of_lt (pw_pos _))
  rw [Int.natCast_mul]
  omega
theorem norm_words (n s L : Nat) (hn : n ≠ 0) (hL : (wd n).length = L) (hw : 2147483648 ≤ (nth (wd n) (L - 1)).toNat * 2 ^ s) (hw1 : (nth (wd n) (L - 1)).toNat * 2 ^ s < 4294967296) :
    2147483648 * pw (L - 1) ≤ ((n * 2 ^ s : Nat) : Int) ∧ (wd (n * 2 ^ s)).length = L ∧ 2147483648 ≤ nth (wd (n * 2 ^ s)) (L - 1) := by
  have hl0 : L ≠ 0 := fun e => hn (wd_len_zero.1 (by omega))
  obtain ⟨k, rfl⟩ := Nat.exists_eq_succ_of_ne_zero hl0
  have e := val_wd n
  unfold val at e
  rw [hL] at e
  simp only [Nat.succ_eq_add_one, Nat.add_sub_cancel] at *
  rw [V_succ] at e
  have b := nth_wf (wf_wd n) k
  have a0 := V_nonneg (wf_wd n) k
  have a1 := V_lt (wf_wd n) k
  obtain ⟨t, ht⟩ := Int.eq_ofNat_of_zero_le b.1
  rw [ht] at e hw hw1
  simp only [Int.toNat_natCast] at hw hw1
  have hp0 : 0 < ((2 ^ s : Nat) : Int) := by have : 0 < 2 ^ s := Nat.pow_pos (by omega); omega
  have hpk := pw_pos k
  have hN : ((n * 2 ^ s : Nat) : Int) = V (wd n) k * ((2 ^ s : Nat) : Int) + ((t * 2 ^ s : Nat) : Int) * pw k := by
    rw [Int.natCast_mul, ← e, Int.add_mul, Int.natCast_mul, Int.mul_assoc, Int.mul_comm (pw k), ← Int.mul_assoc]
  have h1 : 0 ≤ V (wd n) k * ((2 ^ s : Nat) : Int) := Int.mul_nonneg a0 (by omega)
  have hlo : 2147483648 * pw k ≤ ((n * 2 ^ s : Nat) : Int) := by
    have : 2147483648 * pw k ≤ ((t * 2 ^ s : Nat) : Int) * pw k := Int.mul_le_mul_of_nonneg_right (by omega) (by omega)
    omega
  have hhi : ((n * 2 ^ s : Nat) : Int) < pw (k + 1) := by
    have h2 : V (wd n) k * ((2 ^ s : Nat) : Int) < pw k * ((2 ^ s : Nat) : Int) := Int.mul_lt_mul_of_pos_right a1 hp0
    have h3 : ((t * 2 ^ s : Nat) : Int) + ((2 ^ s : Nat) : Int) ≤ 4294967296 := by
      have hs32 : s < 32 := by
        rcases Nat.lt_or_ge s 32 with h | h
        · exact h
        · have h4 : 2 ^ 32 ≤ 2 ^ s := Nat.pow_le_pow_right (by omega) h
          have h5 : t ≠ 0 := fun e0 => by subst e0; omega
          have h6 : 1 * 2 ^ s ≤ t * 2 ^ s := Nat.mul_le_mul_right _ (by omega)
          omega
      have hd : 2 ^ 32 = 2 ^ (32 - s) * 2 ^ s := by rw [← Nat.pow_add, show 32 - s + s = 32 by omega]
      have h7 : t * 2 ^ s < 2 ^ (32 - s) * 2 ^ s := by omega
      have h8 := Nat.lt_of_mul_lt_mul_right h7
      have h9 : (t + 1) * 2 ^ s ≤ 2 ^ (32 - s) * 2 ^ s := Nat.mul_le_mul_right _ h8
      rw [Nat.add_mul, Nat.one_mul] at h9
      omega
    have h4 : (((t * 2 ^ s : Nat) : Int) + ((2 ^ s : Nat) : Int)) * pw k ≤ 4294967296 * pw k := Int.mul_le_mul_of_nonneg_right h3 (by omega)
    rw [Int.add_mul] at h4
    rw [pw_succ, hN]
    have : pw k * ((2 ^ s : Nat) : Int) = ((2 ^ s : Nat) : Int) * pw k := Int.mul_comm _ _
    omega
  have hlen : (wd (n * 2 ^ s)).length = k + 1 := by
    have h1 := wd_len_le _ _ hhi
    have h2 : k < (wd (n * 2 ^ s)).length := by
      have h3 := wd_lt_pw (n * 2 ^ s)
      exact pw_lt (by omega)
    omega
  refine ⟨hlo, hlen, ?_⟩
  have e2 := val_wd (n * 2 ^ s)
  unfold val at e2
  rw [hlen, V_succ] at e2
  have c1 := V_lt (wf_wd (n * 2 ^ s)) k
  have h10 : 2147483648 * pw k < (nth (wd (n * 2 ^ s)) k + 1) * pw k := by rw [Int.add_mul]; omega
  have := Int.lt_of_mul_lt_mul_right h10 (by omega)
  omega
end Go.Proofs.YtemlaompalbgiaaGreatDoor
namespace Go.Proofs.YtemlaompalbgiaaGreatDoor
open Go Go.RowKit
theorem off_word (x b y : Int) (hx : 0 ≤ x ∧ x < 4294967296) (hy : 0 ≤ y ∧ y < 4294967296) (hb : 0 ≤ b ∧ b ≤ 1) :
    IntKind.u64.wrap (IntKind.u64.wrap (x - y) - b) % 4294967296 = (x - y - b) % 4294967296 ∧ IntKind.u64.wrap (IntKind.u64.wrap (x - y) - b) / 9223372036854775808 = owed (x - y - b) := by
  rw [IntKind.wrap_u64, IntKind.wrap_u64]
  unfold owed
  split <;> constructor <;> omega
theorem off_round (us xs vs : List Int) (o k : Nat) (cy bo q t : Int) (ht : t = cy + q * nth vs k) (hk : o + k < us.length) (hx : 0 ≤ nth xs (o + k) ∧ nth xs (o + k) < 4294967296) (hb : 0 ≤ bo ∧ bo ≤ 1) (hv : Vo us o k + q * V vs k = Vo xs o k + (bo + cy) * pw k) :
    Vo (us.set (o + k) ((nth xs (o + k) - t % 4294967296 - bo) % 4294967296)) o (k + 1) + q * V vs (k + 1) = Vo xs o (k + 1) + (owed (nth xs (o + k) - t % 4294967296 - bo) + t / 4294967296) * pw (k + 1) := by
  rw [Vo_set _ _ _ _ hk, V_succ, Vo_succ xs, pw_succ, Int.mul_add]
  have e : (nth xs (o + k) - t % 4294967296 - bo) % 4294967296 = nth xs (o + k) - t % 4294967296 - bo + owed (nth xs (o + k) - t % 4294967296 - bo) * 4294967296 := by unfold owed; split <;> omega
  rw [e]
  generalize owed (nth xs (o + k) - t % 4294967296 - bo) = ow
  have e2 : q * (nth vs k * pw k) = (t - cy) * pw k := by rw [← Int.mul_assoc]; congr 1; omega
  have e3 : t % 4294967296 * pw k + t / 4294967296 * (4294967296 * pw k) = t * pw k := by
    rw [← Int.mul_assoc, ← Int.add_mul]; congr 1; omega
  rw [e2]
  simp only [Int.add_mul, Int.sub_mul, Int.mul_assoc] at hv e3 ⊢
  omega
set_option maxHeartbeats 2000000 in
theorem off_any (B : Option Addr) (xs vs : List Int) (g o C c d base q : Nat) (w : World) (ho : Own w base (some ⟨g, 0, none⟩) C xs) (hb : Rd w B d vs) (hne : ∀ b, B = some b → 0 < vs.length → b.block ≠ g) (hlen : o + (vs.length + 1) ≤ xs.length) (hx : Wf xs) (hv : Wf vs) (hq : q < 4294967296) (hvl : vs.length ≤ 8192) :
    Calls Tryz.prog 267 #[.slice (some ⟨g, o, none⟩) (vs.length + 1) c, .slice B vs.length d, .int .u64 q] w fun e w' => ∃ (us : List Int) (bo : Int), 0 ≤ bo ∧ bo ≤ 1 ∧ e = .returned (.bool (bo != 0)) ∧ us.length = xs.length ∧ Wf us ∧ Vo us o (vs.length + 1) + q * V vs vs.length = Vo xs o (vs.length + 1) + bo * pw (vs.length + 1) ∧ (∀ j, j < o ∨ o + (vs.length + 1) ≤ j → nth us j = nth xs j) ∧ Own w' base (some ⟨g, 0, none⟩) C us ∧ w.grownBy w' (some g) := by
  have HN := Lib.hid hne
  have HB := Lib.hid hb
  have HW := Lib.hid hx
  have HV := Lib.hid hv
  have HO := Lib.hid ho
  have hC := ho.rd.capm
  have hC2 := ho.rd.cap
  have HG := Lib.hid (World.grownBy.refl w (some g))
  have q0 : (0 : Int) ≤ q := by omega
  clear ho hb hne hx hv
  go_enter Tryz.func267, Tryz.ntmps267
  go_wp2_with fail
  go_loopw [7, 8, 13] (fun cc bb i wr => ∃ (k : Nat) (us : List Int) (cy bo : Int), k ≤ vs.length + 1 ∧ Hid (us.length = xs.length) ∧ Hid (Wf us) ∧ 0 ≤ cy ∧ cy ≤ 4294967295 ∧ 0 ≤ bo ∧ bo ≤ 1 ∧ Hid (k = vs.length + 1 → cy = 0) ∧ Hid (Vo us o k + q * V vs k = Vo xs o k + (bo + cy) * pw k) ∧ Hid (∀ j, j < o ∨ o + k ≤ j → nth us j = nth xs j) ∧ cc = .int .u64 cy ∧ bb = .int .u64 bo ∧ i = .int .i64 k ∧ Hid (Own wr base (some ⟨g, 0, none⟩) C us) ∧ Hid (w.grownBy wr (some g))) (fun _ _ i _ => vs.length + 1 - (intOf i).toNat)
  case atStart => exact ⟨0, xs, 0, 0, by omega, rfl, HW.out, by omega, by omega, by omega, by omega, fun _ => rfl, by show _ = _; rw [V_zero, Vo_zero]; omega, fun _ _ => rfl, rfl, rfl, rfl, HO, HG⟩
  case round =>
    clear HO HG
    obtain ⟨k, us, cy, bo, hk, HUL, HU, hc0, hc1, hb0, hb1, HZ, HE, HR, rfl, rfl, rfl, HO, HX⟩ := hrel
    by_cases hkm : k < vs.length + 1
    · have hco := HO.out.cell (o + k) (by have := HUL.out; omega)
      rw [HR.out (o + k) (by omega)] at hco
      have hfo := HO.out.free (o + k)
      have bx := nth_wf HW.out (o + k)
      have by_ := nth_wf HV.out k
      have HRk : ∀ v, Hid (∀ j, j < o ∨ o + (k + 1) ≤ j → nth (us.set (o + k) v) j = nth xs j) := fun v j hj => by rw [nth_set_ne _ _ _ _ (by omega)]; exact HR.out j (by omega)
      by_cases hkn : k < vs.length
      · obtain ⟨b, rfl, hcb⟩ := (HB.out.kept HX.out (fun b hb => by subst hb; intro e; injection e with e; exact HN.out _ rfl (by omega) e)).at_ k hkn
        have pxy := prod_bd (x := (q : Int)) ⟨q0, by omega⟩ by_
        obtain ⟨t, ht⟩ : ∃ t, t = cy + q * nth vs k := ⟨_, rfl⟩
        have tb : 0 ≤ t ∧ t ≤ 18446744069414584320 := by omega
        have hwt : IntKind.u64.wrap ((q : Int) * nth vs k) = (q : Int) * nth vs k := IntWalk.u64_in _ (by omega)
        have hwt2 : IntKind.u64.wrap (cy + (q : Int) * nth vs k) = t := by rw [IntWalk.u64_in _ (by omega), ht]
        have hs := off_word (nth xs (o + k)) bo (t % 4294967296) bx (by omega) ⟨hb0, hb1⟩
        have HS1 := Lib.hid hs.1
        have HS2 := Lib.hid hs.2
        have HF := Lib.hid (off_round us xs vs o k cy bo q t ht (by have := HUL.out; omega) bx ⟨hb0, hb1⟩ HE.out)
        have ow := owed_01 (nth xs (o + k) - t % 4294967296 - bo)
        clear hs ht pxy
        go_wp2_with fail
        go_roundw
        case rel =>
          rw [HS1.out, HS2.out]
          exact ⟨k + 1, _, _, _, by omega, by unfold Hid; rw [List.length_set]; exact HUL.out, wf_set HU.out _ _ (by omega) (by omega), by omega, by omega, ow.1, ow.2, fun e => by omega, HF.out, HRk _, rfl, rfl, by go_num, (HO.out.set (o + k) _).1, grown_trans HX.out (HO.out.set (o + k) _).2⟩
        case measure => simp [intOf]; omega
      · have hnk : nth vs k = 0 := nth_out vs k (by omega)
        have hs := off_word (nth xs (o + k)) bo cy bx (by omega) ⟨hb0, hb1⟩
        have hcm : cy % 4294967296 = cy := by omega
        have hf := off_round us xs vs o k cy bo q cy (by rw [hnk]; omega) (by have := HUL.out; omega) bx ⟨hb0, hb1⟩ HE.out
        rw [hcm] at hf
        have HF := Lib.hid hf
        have HS1 := Lib.hid hs.1
        have HS2 := Lib.hid hs.2
        have ow := owed_01 (nth xs (o + k) - cy - bo)
        clear hs hf hnk hcm
        go_wp2_with fail
        go_roundw
        case rel =>
          rw [HS1.out, HS2.out]
          exact ⟨k + 1, _, _, _, by omega, by unfold Hid; rw [List.length_set]; exact HUL.out, wf_set HU.out _ _ (by omega) (by omega), by omega, by omega, ow.1, ow.2, fun e => by omega, HF.out, HRk _, rfl, rfl, by go_num, (HO.out.set (o + k) _).1, grown_trans HX.out (HO.out.set (o + k) _).2⟩
        case measure => simp [intOf]; omega
    · have hkl : k = vs.length + 1 := by omega
      subst hkl
      have HF := Lib.hid (show Vo us o (vs.length + 1) + q * V vs vs.length = Vo xs o (vs.length + 1) + bo * pw (vs.length + 1) by
        have h := HE.out
        rw [HZ.out rfl, Int.add_zero, V_succ vs, nth_out vs vs.length (Nat.le_refl _), Int.zero_mul, Int.add_zero] at h
        exact h)
      go_wp2_with fail
      go_ret
      exact ⟨us, bo, hb0, hb1, rfl, HUL.out, HU.out, HF.out, HR.out, HO.out, HX.out⟩
theorem back_round (us xs vs : List Int) (o k : Nat) (cy : Int) (hk : o + k < us.length) (hv : Vo us o k + cy * pw k = Vo xs o k + V vs k) :
    Vo (us.set (o + k) ((cy + nth xs (o + k) + nth vs k) % 4294967296)) o (k + 1) + (cy + nth xs (o + k) + nth vs k) / 4294967296 * pw (k + 1) = Vo xs o (k + 1) + V vs (k + 1) := by
  rw [Vo_set _ _ _ _ hk, V_succ, Vo_succ xs, pw_succ]
  generalize hx : nth xs (o + k) = x
  generalize hy : nth vs k = y
  have e3 : (cy + x + y) % 4294967296 * pw k + (cy + x + y) / 4294967296 * (4294967296 * pw k) = (cy + x + y) * pw k := by
    rw [← Int.mul_assoc, ← Int.add_mul]; congr 1; omega
  simp only [Int.add_mul] at hv e3 ⊢
  omega
set_option maxHeartbeats 2000000 in
theorem back_any (B : Option Addr) (xs vs : List Int) (g o C c d base : Nat) (w : World) (ho : Own w base (some ⟨g, 0, none⟩) C xs) (hb : Rd w B d vs) (hne : ∀ b, B = some b → 0 < vs.length → b.block ≠ g) (hlen : o + (vs.length + 1) ≤ xs.length) (hx : Wf xs) (hv : Wf vs) (hvl : vs.length ≤ 8192) :
    Calls Tryz.prog 268 #[.slice (some ⟨g, o, none⟩) (vs.length + 1) c, .slice B vs.length d] w fun e w' => ∃ (us : List Int) (cy : Int), 0 ≤ cy ∧ cy ≤ 1 ∧ e = .returned (.tuple #[]) ∧ us.length = xs.length ∧ Wf us ∧ Vo us o (vs.length + 1) + cy * pw (vs.length + 1) = Vo xs o (vs.length + 1) + V vs vs.length ∧ (∀ j, j < o ∨ o + (vs.length + 1) ≤ j → nth us j = nth xs j) ∧ Own w' base (some ⟨g, 0, none⟩) C us ∧ w.grownBy w' (some g) := by
  have HN := Lib.hid hne
  have HB := Lib.hid hb
  have HW := Lib.hid hx
  have HV := Lib.hid hv
  have HO := Lib.hid ho
  have hC := ho.rd.capm
  have hC2 := ho.rd.cap
  have HG := Lib.hid (World.grownBy.refl w (some g))
  clear ho hb hne hx hv
  go_enter Tryz.func268, Tryz.ntmps268
  go_wp2_with fail
  go_loopw [4, 8] (fun cc i wr => ∃ (k : Nat) (us : List Int) (cy : Int), k ≤ vs.length + 1 ∧ Hid (us.length = xs.length) ∧ Hid (Wf us) ∧ 0 ≤ cy ∧ cy ≤ 1 ∧ Hid (Vo us o k + cy * pw k = Vo xs o k + V vs k) ∧ Hid (∀ j, j < o ∨ o + k ≤ j → nth us j = nth xs j) ∧ cc = .int .u64 cy ∧ i = .int .i64 k ∧ Hid (Own wr base (some ⟨g, 0, none⟩) C us) ∧ Hid (w.grownBy wr (some g))) (fun _ i _ => vs.length + 1 - (intOf i).toNat)
  case atStart => exact ⟨0, xs, 0, by omega, rfl, HW.out, by omega, by omega, by show _ = _; rw [V_zero, Vo_zero]; omega, fun _ _ => rfl, rfl, rfl, HO, HG⟩
  case round =>
    clear HO HG
    obtain ⟨k, us, cy, hk, HUL, HU, hc0, hc1, HE, HR, rfl, rfl, HO, HX⟩ := hrel
    by_cases hkm : k < vs.length + 1
    · have hco := HO.out.cell (o + k) (by have := HUL.out; omega)
      rw [HR.out (o + k) (by omega)] at hco
      have hfo := HO.out.free (o + k)
      have bx := nth_wf HW.out (o + k)
      have by_ := nth_wf HV.out k
      have HRk : ∀ v, Hid (∀ j, j < o ∨ o + (k + 1) ≤ j → nth (us.set (o + k) v) j = nth xs j) := fun v j hj => by rw [nth_set_ne _ _ _ _ (by omega)]; exact HR.out j (by omega)
      have HF := Lib.hid (back_round us xs vs o k cy (by have := HUL.out; omega) HE.out)
      by_cases hkn : k < vs.length
      · obtain ⟨b, rfl, hcb⟩ := (HB.out.kept HX.out (fun b hb => by subst hb; intro e; injection e with e; exact HN.out _ rfl (by omega) e)).at_ k hkn
        go_wp2_with fail
        go_roundw
        case rel =>
          exact ⟨k + 1, _, _, by omega, by unfold Hid; rw [List.length_set]; exact HUL.out, wf_set HU.out _ _ (by omega) (by omega), by omega, by omega, HF.out, HRk _, rfl, by go_num, (HO.out.set (o + k) _).1, grown_trans HX.out (HO.out.set (o + k) _).2⟩
        case measure => simp [intOf]; omega
      · rw [nth_out vs k (by omega), Int.add_zero] at HF
        clear by_
        go_wp2_with fail
        go_roundw
        case rel =>
          exact ⟨k + 1, _, _, by omega, by unfold Hid; rw [List.length_set]; exact HUL.out, wf_set HU.out _ _ (by omega) (by omega), by omega, by omega, HF.out, HRk _, rfl, by go_num, (HO.out.set (o + k) _).1, grown_trans HX.out (HO.out.set (o + k) _).2⟩
        case measure => simp [intOf]; omega
    · have hkl : k = vs.length + 1 := by omega
      subst hkl
      have HF := Lib.hid (show Vo us o (vs.length + 1) + cy * pw (vs.length + 1) = Vo xs o (vs.length + 1) + V vs vs.length by
        have h := HE.out
        rw [V_succ vs, nth_out vs vs.length (Nat.le_refl _), Int.zero_mul, Int.add_zero] at h
        exact h)
      go_wp2_with fail
      go_end0
      exact ⟨us, cy, hc0, hc1, rfl, HUL.out, HU.out, HF.out, HR.out, HO.out, HX.out⟩
theorem add0 (b : Addr) : b.add 0 = b := by obtain ⟨g, o, s⟩ := b; unfold Addr.add; split <;> simp_all
def Two (w : World) (x y : Nat) (e : Ending) (w' : World) : Prop := ∃ A c B d, e = .returned (.tuple #[.slice A (wd x).length c, .slice B (wd y).length d]) ∧ Own w' w.heap.size A c (wd x) ∧ Own w' w.heap.size B d (wd y) ∧ (∀ a b, A = some a → B = some b → a.block ≠ b.block) ∧ Ext w w'
set_option maxHeartbeats 1000000 in
theorem divide_less (A B : Option Addr) (m n c d : Nat) (w : World) (ha : Rd w A c (wd m)) (hb : Rd w B d (wd n)) (hlt : m < n) (lm : (wd m).length ≤ 8192) :
    Calls Tryz.prog 211 #[.slice A (wd m).length c, .slice B (wd n).length d] w (Two w (m / n) (m % n)) := by
  have hd : m / n = 0 := Nat.div_eq_of_lt hlt
  have hr : m % n = m := Nat.mod_eq_of_lt hlt
  rw [hd, hr]
  have HA := Lib.hid ha
  have HB := Lib.hid hb
  have hc : cmp m n < 0 := cmp_lt_iff.2 hlt
  clear ha hb hd hr
  go_enter Tryz.func211, Tryz.ntmps211
  go_wp2_with fail
  refine (compare_any _ _ _ _ _ _ _ HA.out HB.out).mono ?_; rintro e w1 ⟨rfl, hx1⟩
  have HX1 := Lib.hid hx1
  clear hx1
  go_wp2_with fail
  refine (clone_any _ _ _ _ (HA.out.ext HX1.out) (by omega)).mono ?_; rintro e w2 ⟨A2, c2, rfl, hO2, hx2⟩
  have HX2 := Lib.hid (HX1.out.trans hx2)
  have HO2 := Lib.hid (hO2.lower HX1.out.size)
  clear hx2 hO2
  go_wp2_with fail
  go_ret2
  exact ⟨none, 0, A2, c2, by rw [show (wd 0).length = 0 by rw [wd_zero]; rfl]; rfl, by rw [wd_zero]; exact Own.nil _ _, HO2.out, (fun _ _ h => by cases h), HX2.out⟩
set_option maxHeartbeats 1000000 in
theorem divide_one (A B : Option Addr) (m n c d : Nat) (w : World) (ha : Rd w A c (wd m)) (hb : Rd w B d (wd n)) (hge : n ≤ m) (hn : (wd n).length = 1) (lm : (wd m).length ≤ 8192) :
    Calls Tryz.prog 211 #[.slice A (wd m).length c, .slice B (wd n).length d] w (Two w (m / n) (m % n)) := by
  have HA := Lib.hid ha
  have HB := Lib.hid hb
  have hc : ¬ cmp m n < 0 := fun h => by have := cmp_lt_iff.1 h; omega
  have hn0 : n ≠ 0 := fun e => by have := wd_len_zero.2 e; omega
  have hn1 : n < 4294967296 := by have := nat_lt_of_len n 1 (by omega); rw [show pw 1 = 4294967296 from rfl] at this; omega
  have hword : nth (wd n) 0 = n := by rw [wd_pos n hn0, nth_cons_zero]; omega
  have hl1 : (((wd n).length : Int) == 1) = true := by rw [hn]; rfl
  have hp : 0 < (wd n).length := by omega
  obtain ⟨b, rfl, hcb⟩ := hb.at_ 0 hp
  obtain ⟨Q, hQ⟩ : ∃ Q, m / n = Q := ⟨_, rfl⟩
  obtain ⟨R, hR⟩ : ∃ R, m % n = R := ⟨_, rfl⟩
  have hRn : R < n := hR ▸ Nat.mod_lt m (by omega)
  have HQQ := Lib.hid hQ
  have HRR := Lib.hid hR
  rw [hQ, hR]
  clear hQ hR
  rw [hword, add0] at hcb
  clear ha hb hword
  have HN := Lib.hid hn
  clear hn
  go_enter Tryz.func211, Tryz.ntmps211
  go_wp2_with fail
  refine (compare_any _ _ _ _ _ _ _ HA.out HB.out).mono ?_; rintro e w1 ⟨rfl, hx1⟩
  have HX1 := Lib.hid hx1
  have hcb1 := hx1.cell hcb
  clear hx1 hcb
  go_wp2_with fail
  go_region_with (first | (go_at_call 196; refine (clone_any _ _ _ _ (HA.out.ext HX1.out.drew) (by omega)).mono ?_; rintro e w2 ⟨A2, c2, rfl, hO2, hx2⟩; have HX2 := Lib.hid (HX1.out.drew.trans hx2); have HO2 := Lib.hid hO2; have hcb2 := hx2.cell (show w1.drew.cell? _ = _ from hcb1); clear hx2 hO2) | (go_at_call 197; refine (small_any _ _ _ _ _ _ HO2.out (by omega) hn1 (by omega) Q R HQQ.out HRR.out).mono ?_; rintro e w3 ⟨rfl, hO3, hx3⟩; have HX3 := Lib.hid hx3; have HO3 := Lib.hid hO3; clear hx3 hO3))
  all_goals
    have hg : ∀ k, A2.map (·.block) = some k → w.heap.size ≤ k := fun k hk => by
      cases A2 with
      | none => cases hk
      | some a => cases hk; exact Nat.le_trans HX1.out.size HO2.out.block.1
    have HX4 := Lib.hid (HX2.out.grown HX3.out hg)
    clear hg
    go_wp2_with fail
    refine (of_any R _ (by omega)).mono ?_
    rintro e w5 ⟨A5, c5, rfl, hO5, hx5⟩
    have HA5 := Lib.hid (HO3.out.apart hO5 (Nat.le_refl _))
    have HX5 := Lib.hid (HX4.out.trans hx5)
    have HO3' := Lib.hid ((HO3.out.ext hx5).lower HX1.out.size)
    have HO5 := Lib.hid (hO5.lower HX4.out.size)
    clear hO5 hx5
    go_wp2_with fail
    go_ret2
    exact ⟨_, _, _, _, rfl, HO3'.out, HO5.out, HA5.out, HX5.out⟩
end Go.Proofs.YtemlaompalbgiaaGreatDoor
