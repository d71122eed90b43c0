/- nat.up, nat.down. -/
import Derived.Test.YtnhgagfkepmanaaN8
namespace Go.Proofs.Ytnhgagfkepmanaa
open Go Go.RowKit

theorem two_pow_split (n : Nat) (hn : n ≤ 32) : (2 : Int) ^ n * 2 ^ (32 - n) = 4294967296 := by
  rw [← Int.pow_add, show n + (32 - n) = 32 by omega]; rfl
theorem two_pow_le (n : Nat) (hn : n ≤ 31) : (1 : Int) ≤ 2 ^ n ∧ (2 : Int) ^ n ≤ 2147483648 := by
  have h := two_pow_split n (by omega)
  have h1 : (0 : Int) < 2 ^ n := Int.pow_pos (by omega)
  have h2 : (2 : Int) * 2 ^ (31 - n) = 2 ^ (32 - n) := by
    rw [show 32 - n = 31 - n + 1 by omega, Int.pow_succ, Int.mul_comm]
  have h3 : (0 : Int) < 2 ^ (31 - n) := Int.pow_pos (by omega)
  refine ⟨h1, ?_⟩
  have h4 : (2 : Int) ^ n * 2 ≤ 2 ^ n * 2 ^ (32 - n) := Int.mul_le_mul_of_nonneg_left (by omega) (by omega)
  omega
theorem up_low (x : Int) (n : Nat) (hn : n ≤ 31) : x * 2 ^ n % 4294967296 = 2 ^ n * (x % 2 ^ (32 - n)) := by
  rw [← two_pow_split n (by omega), Int.mul_comm x, Int.mul_emod_mul_of_pos _ _ (Int.pow_pos (by omega))]
theorem up_word (x z : Int) (n : Nat) (hn : n ≤ 31) (hx : 0 ≤ x ∧ x < 4294967296) (hz0 : 0 ≤ z) (hz : z < 2 ^ n) :
    bits .or .u32 z (IntKind.u64.wrap (x * 2 ^ n) % 4294967296) = z + x * 2 ^ n % 4294967296 ∧ IntKind.u64.wrap (x * 2 ^ n) / 4294967296 % 4294967296 = x * 2 ^ n / 4294967296 ∧
    0 ≤ x * 2 ^ n / 4294967296 ∧ x * 2 ^ n / 4294967296 < 2 ^ n ∧ z + x * 2 ^ n % 4294967296 < 4294967296 := by
  have hp := two_pow_le n hn
  have h0 : 0 ≤ x * 2 ^ n := Int.mul_nonneg hx.1 (by omega)
  have h1 : x * 2 ^ n < 4294967296 * 2 ^ n := Int.mul_lt_mul_of_pos_right hx.2 (by omega)
  have hw : IntKind.u64.wrap (x * 2 ^ n) = x * 2 ^ n := IntWalk.u64_in _ ⟨h0, by omega⟩
  have hq : x * 2 ^ n / 4294967296 < 2 ^ n := Int.ediv_lt_of_lt_mul (by omega) (by omega)
  have hlo := up_low x n hn
  have hq0 : (0 : Int) < 2 ^ (32 - n) := Int.pow_pos (by omega)
  have hr0 := Int.emod_nonneg x (show (2 : Int) ^ (32 - n) ≠ 0 by omega)
  have hr1 := Int.emod_lt_of_pos x hq0
  have hs := two_pow_split n (by omega)
  have hlo2 : x * 2 ^ n % 4294967296 ≤ 4294967296 - 2 ^ n := by
    rw [hlo]
    have : (2 : Int) ^ n * (x % 2 ^ (32 - n)) ≤ 2 ^ n * (2 ^ (32 - n) - 1) := Int.mul_le_mul_of_nonneg_left (by omega) (by omega)
    rw [Int.mul_sub, hs, Int.mul_one] at this
    exact this
  rw [hw]
  refine ⟨?_, by omega, by omega, hq, by omega⟩
  exact bits_join_low .u32 32 (by decide) (fun n h0 h1 => wraps_u32 n h0 h1) n z _ hz0 hz (by omega) (by omega) (by rw [hlo]; exact Int.mul_emod_right _ _) (by omega)
theorem up_round (us xs : List Int) (n k : Nat) (hk : k + 1 < us.length) (hv : V us (k + 1) = V xs k * 2 ^ n) :
    V ((us.set k (nth us k + nth xs k * 2 ^ n % 4294967296)).set (k + 1) (nth xs k * 2 ^ n / 4294967296)) (k + 1 + 1) = V xs (k + 1) * 2 ^ n := by
  rw [V_succ, nth_set_self _ _ _ (by rw [List.length_set]; exact hk), V_set_ge _ _ _ _ (Nat.le_refl _), V_set _ _ _ (by omega) _ (by omega), hv, V_succ, pw_succ, Int.add_mul]
  have e : nth xs k * 2 ^ n = nth xs k * 2 ^ n % 4294967296 + 4294967296 * (nth xs k * 2 ^ n / 4294967296) := by omega
  have e2 : nth xs k * pw k * 2 ^ n = (nth xs k * 2 ^ n) * pw k := by rw [Int.mul_assoc, Int.mul_comm (pw k), ← Int.mul_assoc]
  rw [e2]
  generalize nth xs k * 2 ^ n = t at *
  rw [show nth us k + t % 4294967296 - nth us k = t % 4294967296 by omega]
  have e3 : t * pw k = t % 4294967296 * pw k + t / 4294967296 * (4294967296 * pw k) := by
    rw [← Int.mul_assoc, ← Int.add_mul]; congr 1; omega
  omega

set_option maxHeartbeats 1000000 in
theorem up_any (A : Option Addr) (xs : List Int) (n : Nat) (c : Nat) (w : World) (ha : Rd w A c xs) (hw : Wf xs) (hn : n ≤ 31) (lm : xs.length ≤ 8193) :
    Calls Try.prog 73 #[.slice A xs.length c, .int .u64 n] w fun e w' => ∃ g us, e = .returned (.slice (some ⟨g, 0, none⟩) (xs.length + 1) (xs.length + 1)) ∧ us.length = xs.length + 1 ∧ Wf us ∧ val us = val xs * 2 ^ n ∧ Own w' w.heap.size (some ⟨g, 0, none⟩) (xs.length + 1) us ∧ Ext w w' := by
  have HA := Lib.hid ha
  have HW := Lib.hid hw
  have hn0 : (0 : Int) ≤ n := by omega
  clear ha hw
  go_enter Try.func73, Try.ntmps73
  go_wp2_with (at_make; refine wpList_mk rfl _ _ rfl (xs.length + 1) _ _ rfl rfl (by omega) (by omega) (by omega) ?_; intro w1 hO hG)
  have HO := Lib.hid hO
  have HG := Lib.hid hG
  clear hO hG
  go_loopw [15] (fun i wr => ∃ (k : Nat) (us : List Int), k ≤ xs.length ∧ Hid (us.length = xs.length + 1) ∧ Hid (Wf us) ∧ Hid (V us (k + 1) = V xs k * 2 ^ n) ∧ Hid (nth us k < 2 ^ n) ∧ Hid (∀ j, k + 1 ≤ j → nth us j = 0) ∧ i = .int .i64 k ∧ Hid (Own wr w.heap.size (some ⟨w.heap.size, 0, none⟩) (xs.length + 1) us) ∧ Hid (Ext w wr)) (fun i _ => xs.length - (intOf i).toNat)
  case atStart => exact ⟨0, _, by omega, List.length_replicate, wf_zeros _, by show _ = _; rw [V_zeros, V_zero, Int.zero_mul], by show _ < _; rw [nth_zeros]; exact Int.pow_pos (by omega), fun j _ => nth_zeros _ _, rfl, HO, HG⟩
  case round =>
    clear HO HG
    obtain ⟨k, us, hk, HUL, HU, HV, HT, HZ, rfl, HO, HX⟩ := hrel
    by_cases hkm : k < xs.length
    · obtain ⟨a, rfl, hca⟩ := (HA.out.ext HX.out).at_ k hkm
      have hco := HO.out.cell k (by have := HUL.out; omega)
      have hfo := HO.out.free k
      have hco1 := HO.out.cell (k + 1) (by have := HUL.out; omega)
      rw [HZ.out _ (Nat.le_refl _)] at hco1
      have hfo1 := HO.out.free (k + 1)
      have bx := nth_wf HW.out k
      have bz := nth_wf HU.out k
      obtain ⟨x, hx⟩ : ∃ x, x = nth xs k := ⟨_, rfl⟩
      obtain ⟨z, hz⟩ : ∃ z, z = nth us k := ⟨_, rfl⟩
      rw [← hx] at hca bx
      rw [← hz] at hco bz
      have Hx := Lib.hid hx
      have Hz := Lib.hid hz
      obtain ⟨hq1, hq2, hp1, hp2, hp3⟩ := up_word x z n hn bx bz.1 (by rw [hz]; exact HT.out)
      have HP1 := Lib.hid hq1
      have HP2 := Lib.hid hq2
      have HR := Lib.hid (up_round us xs n k (by have := HUL.out; omega) HV.out)
      rw [← hx, ← hz] at HR
      clear hx hz hq1 hq2
      go_wp2_with fail
      go_roundw
      case rel =>
        rw [HP1.out, HP2.out]
        refine ⟨k + 1, (us.set k (z + x * 2 ^ n % 4294967296)).set (k + 1) (x * 2 ^ n / 4294967296), by omega, by unfold Hid; rw [List.length_set, List.length_set]; exact HUL.out, wf_set (wf_set HU.out _ _ ?_ hp3) _ _ hp1 ?_, HR.out, ?_, fun j hj => ?_, by go_num, ((HO.out.set k _).1.set (k + 1) _).1, (HX.out.setCell (Nat.le_refl _) _).setCell (Nat.le_refl _) _⟩
        · have := Int.emod_nonneg (x * 2 ^ n) (show (4294967296 : Int) ≠ 0 by omega); omega
        · have := two_pow_le n hn; omega
        · unfold Hid; rw [nth_set_self _ _ _ (by rw [List.length_set]; have := HUL.out; omega)]; exact hp2
        · rw [nth_set_ne _ _ _ _ (by omega), nth_set_ne _ _ _ _ (by omega)]; exact HZ.out j (by omega)
      case measure => simp [intOf]; omega
    · have hkl : k = xs.length := by omega
      subst hkl
      have HE := Lib.hid (show val us = val xs * 2 ^ n by unfold val; rw [HUL.out]; exact HV.out)
      go_wp2_with fail
      go_ret
      exact ⟨_, us, rfl, HUL.out, HU.out, HE.out, HO.out, HX.out⟩

theorem or_high (x y : Int) (hx : 0 ≤ x ∧ x < 4294967296) (hy : 0 ≤ y ∧ y < 4294967296) : bits .or .u64 x (y * 4294967296) = x + y * 4294967296 :=
  bits_join_low .u64 64 (by decide) (fun n h0 h1 => wraps_u64 n h0 h1) 32 _ _ (by omega) (by omega) (by omega) (by omega) (by omega) (by omega)
/-- a word of what is shifted down -/
def dwn (x y : Int) (n : Nat) : Int := (x + y * 4294967296) / 2 ^ n % 4294967296
theorem dwn_eq (x y : Int) (n : Nat) (hn : n ≤ 31) (hx : 0 ≤ x ∧ x < 4294967296) : dwn x y n * 2 ^ n = x - x % 2 ^ n + y % 2 ^ n * 4294967296 := by
  unfold dwn
  have hs := two_pow_split n (by omega)
  have hp := two_pow_le n hn
  generalize (2 : Int) ^ n = p at *
  generalize (2 : Int) ^ (32 - n) = q at *
  have e1 : (x + y * 4294967296) / p = x / p + y * q := by
    rw [← hs, show y * (p * q) = (y * q) * p by rw [Int.mul_comm p q, Int.mul_assoc], Int.add_mul_ediv_right _ _ (by omega)]
  have hx2 := Int.mul_ediv_add_emod x p
  have hy2 := Int.mul_ediv_add_emod y p
  have hs0 := Int.emod_nonneg y (show p ≠ 0 by omega)
  have hs1 := Int.emod_lt_of_pos y (show 0 < p by omega)
  have hxs0 := Int.emod_nonneg x (show p ≠ 0 by omega)
  have hq : 0 < q := by
    apply Int.pos_of_mul_pos_right (a := p) <;> omega
  have ha0 : 0 ≤ x / p := Int.ediv_nonneg hx.1 (by omega)
  have ha1 : x / p < q := Int.ediv_lt_of_lt_mul (by omega) (by rw [Int.mul_comm]; omega)
  have e2 : x / p + y * q = x / p + y % p * q + y / p * 4294967296 := by
    rw [← hs, show y / p * (p * q) = p * (y / p) * q by rw [← Int.mul_assoc, Int.mul_comm (y / p) p], Int.add_assoc, ← Int.add_mul]
    congr 2
    omega
  have h3 : y % p * q ≤ (p - 1) * q := Int.mul_le_mul_of_nonneg_right (by omega) (by omega)
  rw [Int.sub_mul, hs, Int.one_mul] at h3
  have h4 : 0 ≤ y % p * q := Int.mul_nonneg hs0 (by omega)
  rw [e1, e2, Int.add_mul_emod_self_right, Int.emod_eq_of_lt (by omega) (by omega), Int.add_mul, Int.mul_assoc, Int.mul_comm q p, hs, Int.mul_comm (x / p) p]
  omega
theorem dwn_bd (x y : Int) (n : Nat) : 0 ≤ dwn x y n ∧ dwn x y n < 4294967296 := by unfold dwn; omega
theorem dwn_round (us xs : List Int) (n k : Nat) (S : Int) (hn : n ≤ 31) (hw : Wf xs) (hk : k < us.length) (hv : V us k * 2 ^ n = V xs k + nth xs k % 2 ^ n * pw k - S) :
    V (us.set k (dwn (nth xs k) (nth xs (k + 1)) n)) (k + 1) * 2 ^ n = V xs (k + 1) + nth xs (k + 1) % 2 ^ n * pw (k + 1) - S := by
  rw [V_succ, V_set_ge _ _ _ _ (Nat.le_refl _), nth_set_self _ _ _ hk, Int.add_mul, hv, Int.mul_assoc, Int.mul_comm (pw k), ← Int.mul_assoc, dwn_eq _ _ _ hn (nth_wf hw k), V_succ, pw_succ, Int.add_mul, Int.sub_mul, Int.mul_assoc (nth xs (k + 1) % 2 ^ n)]
  omega
theorem dwn_end (us : List Int) (m n L : Nat) (hn : n ≤ 31) (hm : (wd m).length = L) (hul : us.length = L) (hv : V us L * 2 ^ n = V (wd m) L + nth (wd m) L % 2 ^ n * pw L - nth (wd m) 0 % 2 ^ n) : val us = ((m / 2 ^ n : Nat) : Int) := by
  have e1 := val_wd m
  unfold val at e1
  rw [hm] at e1
  rw [nth_out (wd m) L (by omega), Int.zero_emod, Int.zero_mul, e1] at hv
  have h0 : nth (wd m) 0 = (m : Int) % 4294967296 := by
    by_cases h : m = 0
    · subst h; rw [wd_zero]; rfl
    · rw [wd_pos m h, nth_cons_zero]; omega
  have hs := two_pow_split n (by omega)
  have hp := two_pow_le n hn
  have h1 : (m : Int) % 4294967296 % 2 ^ n = m % 2 ^ n := Int.emod_emod_of_dvd _ ⟨_, hs.symm⟩
  rw [h0, h1, Int.add_zero] at hv
  have h2 := Int.mul_ediv_add_emod (m : Int) (2 ^ n)
  have h3 : V us L * 2 ^ n = (m : Int) / 2 ^ n * 2 ^ n := by rw [hv, Int.mul_comm ((m : Int) / 2 ^ n)]; omega
  have h4 := Int.eq_of_mul_eq_mul_right (by omega) h3
  unfold val
  rw [hul, h4, Int.natCast_ediv, Int.natCast_pow]
  rfl

set_option maxHeartbeats 1000000 in
theorem down_any (A : Option Addr) (m n : Nat) (c base : Nat) (w : World) (ho : Own w base A c (wd m)) (hn : n ≤ 31) (lm : (wd m).length ≤ 8193) :
    Calls Try.prog 77 #[.slice A (wd m).length c, .int .u64 n] w fun e w' => e = .returned (.slice A (wd (m / 2 ^ n)).length c) ∧ Own w' base A c (wd (m / 2 ^ n)) ∧ w.grownBy w' (A.map (·.block)) := by
  have HW := Lib.hid (wf_wd m)
  have HO := Lib.hid ho
  have HG := Lib.hid (World.grownBy.refl w (A.map (·.block)))
  have HF := Lib.hid ho.form
  have hc := ho.rd.capm
  have hn0 : (0 : Int) ≤ n := by omega
  clear ho
  go_enter Try.func77, Try.ntmps77
  go_wp2_with fail
  go_loopw [9] (fun i wr => ∃ (k : Nat) (us : List Int), k ≤ (wd m).length ∧ Hid (us.length = (wd m).length) ∧ Hid (Wf us) ∧ Hid (V us k * 2 ^ n = V (wd m) k + nth (wd m) k % 2 ^ n * pw k - nth (wd m) 0 % 2 ^ n) ∧ Hid (∀ j, k ≤ j → nth us j = nth (wd m) j) ∧ i = .int .i64 k ∧ Hid (Own wr base A c us) ∧ Hid (w.grownBy wr (A.map (·.block)))) (fun i _ => (wd m).length - (intOf i).toNat)
  case atStart => exact ⟨0, wd m, by omega, rfl, HW.out, by show _ = _; rw [V_zero, pw_zero]; omega, fun _ _ => rfl, rfl, HO, HG⟩
  case round =>
    clear HO HG
    obtain ⟨k, us, hk, HUL, HU, HV, HR, rfl, HO, HX⟩ := hrel
    by_cases hkm : k < (wd m).length
    · obtain ⟨g, rfl⟩ : ∃ g, A = some ⟨g, 0, none⟩ := by
        rcases HF.out with h | ⟨g, h, _⟩
        · obtain ⟨a, ha⟩ := HO.out.rd.some_ (by have := HUL.out; omega)
          rw [h] at ha; cases ha
        · exact ⟨g, h⟩
      have hco := HO.out.cell k (by have := HUL.out; omega)
      rw [HR.out k (Nat.le_refl _)] at hco
      have hfo := HO.out.free k
      have bx := nth_wf (wf_wd m) k
      have by_ := nth_wf (wf_wd m) (k + 1)
      have HD := Lib.hid (dwn_round us (wd m) n k _ hn (wf_wd m) (by have := HUL.out; omega) HV.out)
      have hb := dwn_bd (nth (wd m) k) (nth (wd m) (k + 1)) n
      have HRk : ∀ v, Hid (∀ j, k + 1 ≤ j → nth (us.set k v) j = nth (wd m) j) := fun v j hj => by rw [nth_set_ne _ _ _ _ (by omega)]; exact HR.out j (by omega)
      by_cases hk1 : k + 1 < (wd m).length
      · have hco1 := HO.out.cell (k + 1) (by have := HUL.out; omega)
        rw [HR.out (k + 1) (by omega)] at hco1
        have hor := or_high (nth (wd m) k) (nth (wd m) (k + 1)) bx by_
        have HE := Lib.hid (show (nth (wd m) k + nth (wd m) (k + 1) * 4294967296) / 2 ^ n % 4294967296 = dwn (nth (wd m) k) (nth (wd m) (k + 1)) n from rfl)
        go_wp2_with fail
        go_roundw
        case rel =>
          rw [HE.out]
          exact ⟨k + 1, _, by omega, by unfold Hid; rw [List.length_set]; exact HUL.out, wf_set HU.out _ _ hb.1 hb.2, HD.out, HRk _, by go_num, (HO.out.set k _).1, grown_trans HX.out (HO.out.set k _).2⟩
        case measure => simp [intOf]; omega
      · have HE := Lib.hid (show nth (wd m) k / 2 ^ n % 4294967296 = dwn (nth (wd m) k) (nth (wd m) (k + 1)) n by
          unfold dwn; rw [nth_out (wd m) (k + 1) (by omega), Int.zero_mul, Int.add_zero])
        go_wp2_with fail
        go_roundw
        case rel =>
          rw [HE.out]
          exact ⟨k + 1, _, by omega, by unfold Hid; rw [List.length_set]; exact HUL.out, wf_set HU.out _ _ hb.1 hb.2, HD.out, HRk _, by go_num, (HO.out.set k _).1, grown_trans HX.out (HO.out.set k _).2⟩
        case measure => simp [intOf]; omega
    · have hkl : k = (wd m).length := by omega
      subst hkl
      have HE := Lib.hid (dwn_end us m n _ hn rfl HUL.out HV.out)
      go_wp2_with fail
      refine (cut_own _ us _ _ _ _ HO.out HUL.out HU.out _ HE.out).mono ?_; rintro e w' ⟨rfl, HO2, rfl⟩
      have HO3 := Lib.hid HO2
      clear HO2
      go_wp2_with fail
      go_ret
      exact ⟨rfl, HO3.out, HX.out⟩

end Go.Proofs.Ytnhgagfkepmanaa
