/- The reference's Up, Down. -/
import Derived.Test.YtnhgagfkepmanaaG3
namespace Go.Proofs.Ytnhgagfkepmanaa
open Go Go.RowKit

set_option maxHeartbeats 1000000 in
theorem gup_any (A : Option Addr) (m n : Nat) (c : Nat) (w : World) (ha : Rd w A c (wd m)) (hm : 0 < (wd m).length) (hn : n ≤ 31) (lm : (wd m).length ≤ 8193) :
    Calls Try.prog 87 #[.slice A (wd m).length c, .int .i64 n] w fun e w' => ∃ A' c', e = .returned (.slice A' (wd (m * 2 ^ n)).length c') ∧ Own w' w.heap.size A' c' (wd (m * 2 ^ n)) ∧ Ext w w' := by
  have HA := Lib.hid ha
  have HW := Lib.hid (wf_wd m)
  have hn0 : (0 : Int) ≤ n := by omega
  have hn1 : (n : Int) ≤ 31 := by omega
  have hd1 : (n : Int) / 32 = 0 := by omega
  have hd3 : (n : Int) % 32 = n := by omega
  have hbe : (((wd m).length : Int) == 0) = false := beq_eq_false_iff_ne.2 (by omega)
  obtain ⟨xs, hxs⟩ : ∃ xs, xs = wd m := ⟨_, rfl⟩
  have HXS := Lib.hid hxs
  rw [← hxs] at HA HW lm hm hbe ⊢
  clear ha hxs
  go_enter Try.func87, Try.ntmps87
  go_wp2_with (at_make; refine wpList_mk rfl _ _ rfl (xs.length + 1) _ _ rfl rfl (by omega) (by omega) (by omega) ?_; intro w1 hO hG)
  have HO := Lib.hid hO
  have HG := Lib.hid hG
  clear hO hG
  go_wp2_with fail
  go_loopw [6] (fun i wr => ∃ (k : Nat) (us : List Int), k ≤ xs.length ∧ Hid (us.length = xs.length + 1) ∧ Hid (Wf us) ∧ Hid (V us (k + 1) = V xs k * 2 ^ n) ∧ Hid (nth us k < 2 ^ n) ∧ Hid (∀ j, k + 1 ≤ j → nth us j = 0) ∧ i = .int .i64 k ∧ Hid (Own wr w.heap.size (some ⟨w.heap.size, 0, none⟩) (xs.length + 1) us) ∧ Hid (Ext w wr)) (fun i _ => xs.length - (intOf i).toNat)
  case atStart => exact ⟨0, _, by omega, List.length_replicate, wf_zeros _, by show _ = _; rw [V_zeros, V_zero, Int.zero_mul], by show _ < _; rw [nth_zeros]; exact Int.pow_pos (by omega), fun j _ => nth_zeros _ _, rfl, HO, HG⟩
  case round =>
    clear HO HG
    obtain ⟨k, us, hk, HUL, HU, HV, HT, HZ, rfl, HO, HX⟩ := hrel
    by_cases hkm : k < xs.length
    · obtain ⟨a, rfl, hca⟩ := (HA.out.ext HX.out).at_ k hkm
      have hco := HO.out.cell k (by have := HUL.out; omega)
      have hfo := HO.out.free k
      have hco1 := HO.out.cell (k + 1) (by have := HUL.out; omega)
      rw [HZ.out _ (Nat.le_refl _)] at hco1
      have hfo1 := HO.out.free (k + 1)
      have bx := nth_wf HW.out k
      have bz := nth_wf HU.out k
      obtain ⟨x, hx⟩ : ∃ x, x = nth xs k := ⟨_, rfl⟩
      obtain ⟨z, hz⟩ : ∃ z, z = nth us k := ⟨_, rfl⟩
      rw [← hx] at hca bx
      rw [← hz] at hco bz
      obtain ⟨_, hq2, hp1, hp2, hp3⟩ := up_word x z n hn bx bz.1 (by rw [hz]; exact HT.out)
      have hww : IntKind.u64.wrap (x * 2 ^ n) = x * 2 ^ n := by
        have hp := two_pow_le n hn
        have h1 : x * 2 ^ n < 4294967296 * 2 ^ n := Int.mul_lt_mul_of_pos_right bx.2 (by omega)
        exact IntWalk.u64_in _ ⟨Int.mul_nonneg bx.1 (by omega), by omega⟩
      obtain ⟨lo, hlo⟩ : ∃ lo, lo = x * 2 ^ n % 4294967296 := ⟨_, rfl⟩
      obtain ⟨hi, hhi⟩ : ∃ hi, hi = x * 2 ^ n / 4294967296 := ⟨_, rfl⟩
      have hlb : 0 ≤ lo ∧ lo < 4294967296 := by omega
      rw [hww] at hq2
      rw [← hhi] at hp1 hp2 hq2
      rw [← hlo] at hp3
      have HR := Lib.hid (up_round us xs n k (by have := HUL.out; omega) HV.out)
      rw [← hx, ← hz, ← hlo, ← hhi] at HR
      have g1 : x * 2 ^ n % 4294967296 = lo := hlo.symm
      have g2 : x * 2 ^ n / 4294967296 = hi := hhi.symm
      have HP2 := Lib.hid hp2
      have hpp := (two_pow_le n hn).2
      have hi2 : hi < 4294967296 := by omega
      clear hx hz hlo hhi hp2 hpp hq2
      go_wp2_with fail
      go_roundw
      case rel =>
        refine ⟨k + 1, (us.set k (z + lo)).set (k + 1) hi, by omega, by unfold Hid; rw [List.length_set, List.length_set]; exact HUL.out, wf_set (wf_set HU.out _ _ (by omega) hp3) _ _ hp1 hi2, HR.out, ?_, fun j hj => ?_, by go_num, ((HO.out.set k _).1.set (k + 1) _).1, (HX.out.setCell (Nat.le_refl _) _).setCell (Nat.le_refl _) _⟩
        · unfold Hid; rw [nth_set_self _ _ _ (by rw [List.length_set]; have := HUL.out; omega)]; exact HP2.out
        · rw [nth_set_ne _ _ _ _ (by omega), nth_set_ne _ _ _ _ (by omega)]; exact HZ.out j (by omega)
      case measure => simp [intOf]; omega
    · have hkl : k = xs.length := by omega
      subst hkl
      have HE := Lib.hid (show val us = ((m * 2 ^ n : Nat) : Int) by
        have h1 := HV.out
        rw [show V xs xs.length = val xs from rfl, HXS.out, val_wd] at h1
        unfold val
        rw [HUL.out, HXS.out, h1, Int.natCast_mul, Int.natCast_pow]
        rfl)
      go_wp2_with fail
      refine (gtrim_any _ us _ _ _ _ HO.out.rd HUL.out HU.out HE.out (by omega)).mono ?_; rintro e w2 ⟨A2, c2, rfl, h2, hx2⟩
      have H2 := Lib.hid (h2.lower HX.out.size)
      have HX2 := Lib.hid (HX.out.trans hx2)
      clear h2 hx2
      go_wp2_with fail
      go_ret
      exact ⟨_, _, rfl, H2.out, HX2.out⟩

set_option maxHeartbeats 1000000 in
theorem gdown_any (A : Option Addr) (m n : Nat) (c : Nat) (w : World) (ha : Rd w A c (wd m)) (hn : n ≤ 31) (lm : (wd m).length ≤ 8193) (Q : Nat) (hQ : m / 2 ^ n = Q) :
    Calls Try.prog 89 #[.slice A (wd m).length c, .int .i64 n] w fun e w' => ∃ A' c', e = .returned (.slice A' (wd Q).length c') ∧ Own w' w.heap.size A' c' (wd Q) ∧ Ext w w' := by
  have HA := Lib.hid ha
  have HQ := Lib.hid hQ
  have hcap := ha.cap
  have hcapm := ha.capm
  have hn0 : (0 : Int) ≤ n := by omega
  have hn1 : (n : Int) ≤ 31 := by omega
  have hd1 : (n : Int) / 32 = 0 := by omega
  have hd3 : (n : Int) % 32 = n := by omega
  clear hQ
  by_cases hm : (wd m).length = 0
  · have hz : m = 0 := wd_len_zero.1 hm
    have HE := Lib.hid (show wd Q = [] by rw [← HQ.out, hz, Nat.zero_div, wd_zero])
    clear ha hz
    go_enter Try.func89, Try.ntmps89
    go_wp2_with fail
    go_ret
    exact ⟨none, 0, by rw [HE.out]; rfl, by rw [HE.out]; exact Own.nil _ _, Ext.refl _⟩
  · have hp : 0 < (wd m).length := by omega
    obtain ⟨a, rfl⟩ := ha.some_ hp
    have hne : ¬ wd m = [] := fun e => by rw [e] at hm; exact hm rfl
    clear ha hm
    go_enter Try.func89, Try.ntmps89
    go_wp2_with (at_make; refine wpList_mk rfl _ _ rfl (wd m).length _ _ rfl rfl (by omega) (by omega) (by omega) ?_; intro w1 hO hG)
    have HO := Lib.hid hO
    have HG := Lib.hid hG
    clear hO hG
    go_wp2_with fail
    go_loopw [7] (fun i wr => ∃ (k : Nat) (us : List Int), k ≤ (wd m).length ∧ Hid (us.length = (wd m).length) ∧ Hid (Wf us) ∧ Hid (V us k * 2 ^ n = V (wd m) k + nth (wd m) k % 2 ^ n * pw k - nth (wd m) 0 % 2 ^ n) ∧ i = .int .i64 k ∧ Hid (Own wr w.heap.size (some ⟨w.heap.size, 0, none⟩) (wd m).length us) ∧ Hid (Ext w wr)) (fun i _ => (wd m).length - (intOf i).toNat)
    case atStart => exact ⟨0, _, by omega, List.length_replicate, wf_zeros _, by show _ = _; rw [V_zero, V_zero, pw_zero]; omega, rfl, HO, HG⟩
    case round =>
      clear HO HG
      obtain ⟨k, us, hk, HUL, HU, HV, rfl, HO, HX⟩ := hrel
      by_cases hkm : k < (wd m).length
      · have hca := HX.out.cell (HA.out.cell k hkm)
        have hco := HO.out.cell k (by have := HUL.out; omega)
        have hfo := HO.out.free k
        have bx := nth_wf (wf_wd m) k
        have by_ := nth_wf (wf_wd m) (k + 1)
        have HD := Lib.hid (dwn_round us (wd m) n k _ hn (wf_wd m) (by have := HUL.out; omega) HV.out)
        have hb := dwn_bd (nth (wd m) k) (nth (wd m) (k + 1)) n
        obtain ⟨x, hx⟩ : ∃ x, x = nth (wd m) k := ⟨_, rfl⟩
        obtain ⟨y, hy⟩ : ∃ y, y = nth (wd m) (k + 1) := ⟨_, rfl⟩
        have HWD := fun q => Lib.hid (gword_q (some a) (wd m) c _ (k + 1) (wr.drewN q) ((HA.out.ext HX.out).ext ((Ext.refl wr).drewN q)) rfl)
        rw [← hx, ← hy] at HD hb
        rw [← hx] at hca bx
        rw [← hy] at by_ HWD
        have HWW := Lib.hid HWD
        have s1 : IntKind.u64.wrap (y * 4294967296 + x) = y * 4294967296 + x := IntWalk.u64_in _ (by omega)
        have s2 : IntKind.u64.wrap (y * 4294967296) = y * 4294967296 := IntWalk.u64_in _ (by omega)
        have s3 : IntKind.i64.wrap ((k : Int) + 1) = ((k + 1 : Nat) : Int) := by rw [IntWalk.i64_in _ (by omega)]; omega
        have HE := Lib.hid (show (y * 4294967296 + x) / 2 ^ n % 4294967296 = dwn x y n by unfold dwn; rw [Int.add_comm])
        have Hy := Lib.hid hy
        clear hx hy HWD
        go_wp2_with fail
        go_quiet ((go_at_call 81; exact Calls.quiet_of_same (HWW.out _).out))
        go_wp2_with fail
        go_roundw
        case rel =>
          rw [HE.out]
          exact ⟨k + 1, _, by omega, by unfold Hid; rw [List.length_set]; exact HUL.out, wf_set HU.out _ _ hb.1 hb.2, by unfold Hid; rw [← Hy.out]; exact HD.out, by go_num, ((HO.out.drewN _).set k _).1, (HX.out.drewN _).setCell (Nat.le_refl _) _⟩
        case measure => simp [intOf]; omega
      · have hkl : k = (wd m).length := by omega
        subst hkl
        have HE := Lib.hid (dwn_end us m n _ hn rfl HUL.out HV.out)
        rw [HQ.out] at HE
        go_wp2_with fail
        refine (gtrim_any _ us _ _ _ _ HO.out.rd HUL.out HU.out HE.out (by omega)).mono ?_; rintro e w2 ⟨A2, c2, rfl, h2, hx2⟩
        have H2 := Lib.hid (h2.lower HX.out.size)
        have HX2 := Lib.hid (HX.out.trans hx2)
        clear h2 hx2
        go_wp2_with fail
        go_ret
        exact ⟨_, _, rfl, H2.out, HX2.out⟩

end Go.Proofs.Ytnhgagfkepmanaa
