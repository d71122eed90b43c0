/- Texts of this claim, joined: G3 G4 G5 G6 G7. -/
import Derived.Test.YtifonmdcicegdaaGreatQo
set_option linter.unusedVariables false
set_option linter.unusedSimpArgs false
namespace Go.Proofs.YtifonmdcicegdaaGreat
open Go Go.RowKit

theorem gword_q (A : Option Addr) (xs : List Int) (c l k : Nat) (w : World) (h : Rd w A c xs) (hl : xs.length = l) :
    Calls Tryz.prog 282 #[.slice A l c, .int .i64 k] w fun e w' => e = .returned (.int .u32 (nth xs k)) ∧ w' = w :=
  (gword_any A xs c l k w h hl).mono fun _ _ ⟨h1, h2⟩ => ⟨h1, h2.symm⟩

set_option maxHeartbeats 1000000 in
theorem gless_any (A B : Option Addr) (xs : List Int) (n : Nat) (c d l m : Nat) (w : World) (ha : Rd w A c xs) (hb : Rd w B d (wd n)) (hl : xs.length = l) (hx : Wf xs) (hm : val xs = m) (hnm : n ≤ m) (lm : l ≤ 16384) :
    Calls Tryz.prog 285 #[.slice A l c, .slice B (wd n).length d] w fun e w' => ∃ A' c', e = .returned (.slice A' (wd (m - n)).length c') ∧ Own w' w.heap.size A' c' (wd (m - n)) ∧ Ext w w' := by
  subst hl
  have hnl : (wd n).length ≤ xs.length := wd_len_le n _ (by have := V_lt hx xs.length; unfold val at hm; omega)
  have HA := Lib.hid ha
  have HB := Lib.hid hb
  have HW := Lib.hid hx
  have HM := Lib.hid hm
  clear ha hb hx hm
  go_enter Tryz.func285, Tryz.ntmps285
  go_wp2_with (at_make; refine wpList_mk rfl _ _ rfl xs.length _ _ rfl rfl (by omega) (by omega) (by omega) ?_; intro w1 hO hG)
  have HO := Lib.hid hO
  have HG := Lib.hid hG
  clear hO hG
  go_wp2_with fail
  go_loopw [6, 7] (fun bo i wr => ∃ (k : Nat) (us : List Int) (b : Int), k ≤ xs.length ∧ Hid (us.length = xs.length) ∧ Hid (Wf us) ∧ 0 ≤ b ∧ b ≤ 1 ∧ Hid (V us k + V (wd n) k = V xs k + b * pw k) ∧ bo = .int .u64 b ∧ i = .int .i64 k ∧ Hid (Own wr w.heap.size (some ⟨w.heap.size, 0, none⟩) xs.length us) ∧ Hid (Ext w wr)) (fun _ i _ => xs.length - (intOf i).toNat)
  case atStart => exact ⟨0, _, 0, by omega, List.length_replicate, wf_zeros _, by omega, by omega, by show _ = _; simp [V_zero], rfl, rfl, HO, HG⟩
  case round =>
    clear HO HG
    obtain ⟨k, us, b, hk, HUL, HU, hb0, hb1, HV, rfl, rfl, HO, HX⟩ := hrel
    by_cases hkm : k < xs.length
    · obtain ⟨a, rfl, hca⟩ := (HA.out.ext HX.out).at_ k hkm
      have hco := HO.out.cell k (by have := HUL.out; omega)
      have hfo := HO.out.free k
      have bx := nth_wf HW.out k
      have by_ := nth_wf (wf_wd n) k
      have HWD := fun q => Lib.hid (gword_q B (wd n) d _ k (wr.drewN q) ((HB.out.ext HX.out).ext ((Ext.refl wr).drewN q)) rfl)
      have HV2 := sub_round us xs (wd n) k b (by have := HUL.out; omega) bx by_ ⟨hb0, hb1⟩ HV.out
      obtain ⟨x, hx⟩ : ∃ x, x = nth xs k := ⟨_, rfl⟩
      obtain ⟨y, hy⟩ : ∃ y, y = nth (wd n) k := ⟨_, rfl⟩
      rw [← hx] at hca bx HV2
      rw [← hy] at by_ HV2 HWD
      have HWW := Lib.hid HWD
      clear hx hy HWD
      have s1 : IntKind.u64.wrap (y + b) = y + b := IntWalk.u64_in _ (by omega)
      by_cases hlt : x < y + b
      · have HV3 := Lib.hid (show V (us.set k (x + 4294967296 - (y + b))) (k + 1) + V (wd n) (k + 1) = V xs (k + 1) + 1 * pw (k + 1) by
          rw [show (x - b - y) % 4294967296 = x + 4294967296 - (y + b) by omega, show owed (x - b - y) = 1 by unfold owed; rw [if_pos (by omega)]] at HV2
          exact HV2)
        clear HV2
        go_wp2_with fail
        go_quiet ((go_at_call 282; exact Calls.quiet_of_same (HWW.out _).out))
        go_wp2_with fail
        go_roundw
        case rel =>
          exact ⟨k + 1, _, _, by omega, by unfold Hid; rw [List.length_set]; exact HUL.out, wf_set HU.out _ _ (by omega) (by omega), by omega, by omega, HV3.out, rfl, by go_num, ((HO.out.drewN _).set k _).1, (HX.out.drewN _).setCell (Nat.le_refl _) _⟩
        case measure => simp [intOf]; omega
      · have HV3 := Lib.hid (show V (us.set k (x - (y + b))) (k + 1) + V (wd n) (k + 1) = V xs (k + 1) + 0 * pw (k + 1) by
          rw [show (x - b - y) % 4294967296 = x - (y + b) by omega, show owed (x - b - y) = 0 by unfold owed; rw [if_neg (by omega)]] at HV2
          exact HV2)
        clear HV2
        go_wp2_with fail
        go_quiet ((go_at_call 282; exact Calls.quiet_of_same (HWW.out _).out))
        go_wp2_with fail
        go_roundw
        case rel =>
          exact ⟨k + 1, _, _, by omega, by unfold Hid; rw [List.length_set]; exact HUL.out, wf_set HU.out _ _ (by omega) (by omega), by omega, by omega, HV3.out, rfl, by go_num, ((HO.out.drewN _).set k _).1, (HX.out.drewN _).setCell (Nat.le_refl _) _⟩
        case measure => simp [intOf]; omega
    · have hkl : k = xs.length := by omega
      subst hkl
      have HE := Lib.hid (show val us = ((m - n : Nat) : Int) by
        have h1 := HV.out
        rw [V_out (wd n) _ hnl, val_wd] at h1
        have h2 := HM.out
        have h3 := V_lt HU.out xs.length
        have h4 := V_nonneg HU.out xs.length
        have h5 := pw_pos xs.length
        unfold val at h2 ⊢
        rw [HUL.out]
        have hb : b = 0 ∨ b = 1 := by omega
        rcases hb with rfl | rfl <;> omega)
      go_wp2_with fail
      refine (gtrim_any _ us _ _ _ _ HO.out.rd HUL.out HU.out HE.out (by omega)).mono ?_; rintro e w2 ⟨A2, c2, rfl, h2, hx2⟩
      have H2 := Lib.hid (h2.lower HX.out.size)
      have HX2 := Lib.hid (HX.out.trans hx2)
      clear h2 hx2
      go_wp2_with fail
      go_ret
      exact ⟨_, _, rfl, H2.out, HX2.out⟩

set_option maxHeartbeats 1000000 in
theorem gsmall_any (A : Option Addr) (m : Nat) (D : Nat) (c : Nat) (w : World) (ha : Rd w A c (wd m)) (hd0 : 0 < D) (hd1 : D < 4294967296) (lm : (wd m).length ≤ 16384) (Q R : Nat) (hQ : m / D = Q) (hR : m % D = R) :
    Calls Tryz.prog 276 #[.slice A (wd m).length c, .int .u32 D] w fun e w' => ∃ A' c', e = .returned (.tuple #[.slice A' (wd Q).length c', .int .u32 R]) ∧ Own w' w.heap.size A' c' (wd Q) ∧ Ext w w' := by
  have HA := Lib.hid ha
  have HQQ := Lib.hid hQ
  have HRR := Lib.hid hR
  have hRd : R < D := hR ▸ Nat.mod_lt m hd0
  clear ha hQ hR
  go_enter Tryz.func276, Tryz.ntmps276
  go_wp2_with (at_make; refine wpList_mk rfl _ _ rfl (wd m).length _ _ rfl rfl (by omega) (by omega) (by omega) ?_; intro w1 hO hG)
  have HO := Lib.hid hO
  have HG := Lib.hid hG
  clear hO hG
  go_wp2_with fail
  go_loopw [7, 8] (fun ro i wr => ∃ (k : Nat) (us : List Int) (r : Int), k ≤ (wd m).length ∧ Hid (us.length = (wd m).length) ∧ Hid (Wf us) ∧ 0 ≤ r ∧ r < D ∧ Hid ((V us (wd m).length - V us k) * D + r * pw k + V (wd m) k = m) ∧ ro = .int .u64 r ∧ i = .int .i64 ((k : Int) - 1) ∧ Hid (Own wr w.heap.size (some ⟨w.heap.size, 0, none⟩) (wd m).length us) ∧ Hid (Ext w wr)) (fun _ i _ => (intOf i + 1).toNat)
  case atStart => exact ⟨(wd m).length, _, 0, by omega, List.length_replicate, wf_zeros _, by omega, by omega, by show _ = _; have := val_wd m; unfold val at this; rw [Int.sub_self, Int.zero_mul, Int.zero_mul]; omega, rfl, rfl, HO, HG⟩
  case round =>
    clear HO HG
    obtain ⟨k, us, r, hk, HUL, HU, hr0, hr1, HV, rfl, rfl, HO, HX⟩ := hrel
    cases k with
    | zero =>
      have he := small_end us m D _ r HUL.out HU.out hr0 hr1 HV.out
      rw [HQQ.out, HRR.out] at he
      have HE := Lib.hid he.1
      have HM := Lib.hid he.2
      clear he
      go_wp2_with fail
      refine (gtrim_any _ us _ _ _ _ HO.out.rd HUL.out HU.out HE.out (by omega)).mono ?_; rintro e w2 ⟨A2, c2, rfl, h2, hx2⟩
      have H2 := Lib.hid (h2.lower HX.out.size)
      have HX2 := Lib.hid (HX.out.trans hx2)
      clear h2 hx2
      go_wp2_with fail
      go_ret2
      exact ⟨_, _, by rw [HM.out]; rfl, H2.out, HX2.out⟩
    | succ k =>
      have e1 : (((k + 1 : Nat) : Int) - 1) = (k : Int) := by omega
      rw [e1]
      clear e1
      obtain ⟨a, rfl, hca⟩ := (HA.out.ext HX.out).at_ k (by omega)
      have hco := HO.out.cell k (by have := HUL.out; omega)
      have hfo := HO.out.free k
      have bx := nth_wf (wf_wd m) k
      obtain ⟨x, hx⟩ : ∃ x, x = nth (wd m) k := ⟨_, rfl⟩
      rw [← hx] at hca bx
      have Hx := Lib.hid hx
      clear hx
      have hq := quo_lt r x D hr0 hr1 bx
      have HV2 := Lib.hid (small_round us (wd m) k (wd m).length r D m (by have := HUL.out; omega) (by omega) HV.out)
      rw [← Hx.out] at HV2
      have hm0 := Int.emod_nonneg (r * 4294967296 + x) (show (D : Int) ≠ 0 by omega)
      have hm1 := Int.emod_lt_of_pos (r * 4294967296 + x) (show (0 : Int) < D by omega)
      have hdz : ((D : Int) == 0) = false := beq_eq_false_iff_ne.2 (by omega)
      go_wp2_with fail
      go_roundw
      case rel =>
        exact ⟨k, _, _, by omega, by unfold Hid; rw [List.length_set]; exact HUL.out, wf_set HU.out _ _ hq.1 hq.2, hm0, hm1, HV2.out, rfl, rfl, (HO.out.set k _).1, HX.out.setCell (Nat.le_refl _) _⟩
      case measure => simp [intOf]

set_option maxHeartbeats 1000000 in
theorem gbits_any (B : Option Addr) (n t K : Nat) (d : Nat) (w : World) (hb : Rd w B d (wd n)) (hK : (wd n).length = K + 1) (ht : nth (wd n) K = t) (lm : (wd n).length ≤ 16384) :
    Calls Tryz.prog 278 #[.slice B (wd n).length d] w fun e w' => ∃ j : Nat, 0 < j ∧ j ≤ 32 ∧ 2 ^ (j - 1) ≤ t ∧ t < 2 ^ j ∧ e = .returned (.int .i64 ((32 * K + j : Nat) : Int)) ∧ Ext w w' := by
  have hn0 : n ≠ 0 := fun e => by have := wd_len_zero.2 e; omega
  have hl := wd_last n hn0
  rw [show (wd n).length - 1 = K by omega, ht] at hl
  have bt := nth_wf (wf_wd n) K
  rw [ht] at bt
  have ht0 : 0 < t := by omega
  have ht1 : t < 4294967296 := by omega
  have hbe : (((wd n).length : Int) == 0) = false := beq_eq_false_iff_ne.2 (by omega)
  have hi : (((wd n).length : Int) - 1).toNat = K := by omega
  have hKI : ((wd n).length : Int) - 1 = K := by omega
  have HB := Lib.hid hb
  have HT := Lib.hid ht
  have HK := Lib.hid hK
  have HKI := Lib.hid hKI
  clear hb hl ht hK hKI
  go_enter Tryz.func278, Tryz.ntmps278
  go_wp2_with fail
  refine (gtrim_any _ _ _ _ n _ HB.out rfl (wf_wd n) (val_wd n) (by omega)).mono ?_; rintro e w1 ⟨A1, c1, rfl, h1, hx1⟩
  have H1 := Lib.hid h1
  have HX1 := Lib.hid hx1
  obtain ⟨a1, rfl, hc1⟩ := h1.rd.at_ K (by have := HK.out; omega)
  rw [HT.out] at hc1
  have hKl : (K : Int) < (wd n).length := by have := HK.out; omega
  clear h1 hx1
  go_wp2_with fail
  go_loop [4, 5] (fun nn x => ∃ j y : Nat, j ≤ 32 ∧ y < 4294967296 ∧ Hid (y = t / 2 ^ j) ∧ Hid (j = 0 ∨ 2 ^ (j - 1) ≤ t) ∧ nn = .int .i64 ((32 * K + j : Nat) : Int) ∧ x = .int .u32 y) (fun _ x => (intOf x).toNat)
  case atStart => exact ⟨0, t, by omega, ht1, by show _ = _; rw [Nat.pow_zero, Nat.div_one], .inl rfl, by rw [HKI.out]; go_num, rfl⟩
  case round =>
    obtain ⟨j, y, hj, hy, HY, HJ, rfl, rfl⟩ := hrel
    by_cases h0 : 0 < y
    · have hjt : 2 ^ j ≤ t := by
        have h1 := HY.out
        rcases Nat.lt_or_ge t (2 ^ j) with h | h
        · rw [Nat.div_eq_of_lt h] at h1; omega
        · exact h
      have hj2 : j < 32 := by
        rcases Nat.lt_or_ge j 32 with h | h
        · exact h
        · have : 2 ^ 32 ≤ 2 ^ j := Nat.pow_le_pow_right (by omega) h
          omega
      have HY2 := Lib.hid (show y / 2 = t / 2 ^ (j + 1) by rw [HY.out, Nat.div_div_eq_div_mul, Nat.pow_succ])
      have HJT := Lib.hid hjt
      have HC := Lib.hid (show ((32 * K + (j + 1) : Nat) : Int) = 32 * (K : Int) + j + 1 by omega)
      clear hjt
      go_wp2_with fail
      go_round
      case rel => exact ⟨j + 1, y / 2, by omega, by omega, HY2.out, .inr HJT.out, by rw [HC.out], by rw [Int.natCast_ediv]; rfl⟩
      case measure => simp [intOf]; omega
    · have hy0 : y = 0 := by omega
      have HLt := Lib.hid (show t < 2 ^ j by
        have h1 := HY.out
        rw [hy0] at h1
        rcases Nat.lt_or_ge t (2 ^ j) with h | h
        · exact h
        · have := Nat.div_pos h (Nat.pow_pos (n := j) (show 0 < 2 by omega)); omega)
      clear hy0
      go_wp2_with fail
      go_ret
      refine ⟨j, ?_, hj, ?_, HLt.out, rfl, HX1.out⟩
      · rcases Nat.eq_zero_or_pos j with h | h
        · have := HLt.out; rw [h] at this; omega
        · exact h
      · rcases HJ.out with h | h
        · have := HLt.out; rw [h] at this; omega
        · exact h

end Go.Proofs.YtifonmdcicegdaaGreat

namespace Go.Proofs.YtifonmdcicegdaaGreat
open Go Go.RowKit

set_option maxHeartbeats 1000000 in
theorem gup_any (A : Option Addr) (m n : Nat) (c : Nat) (w : World) (ha : Rd w A c (wd m)) (hm : 0 < (wd m).length) (hn : n ≤ 31) (lm : (wd m).length ≤ 8193) :
    Calls Tryz.prog 279 #[.slice A (wd m).length c, .int .i64 n] w fun e w' => ∃ A' c', e = .returned (.slice A' (wd (m * 2 ^ n)).length c') ∧ Own w' w.heap.size A' c' (wd (m * 2 ^ n)) ∧ Ext w w' := by
  have HA := Lib.hid ha
  have HW := Lib.hid (wf_wd m)
  have hn0 : (0 : Int) ≤ n := by omega
  have hn1 : (n : Int) ≤ 31 := by omega
  have hd1 : (n : Int) / 32 = 0 := by omega
  have hd3 : (n : Int) % 32 = n := by omega
  have hbe : (((wd m).length : Int) == 0) = false := beq_eq_false_iff_ne.2 (by omega)
  obtain ⟨xs, hxs⟩ : ∃ xs, xs = wd m := ⟨_, rfl⟩
  have HXS := Lib.hid hxs
  rw [← hxs] at HA HW lm hm hbe ⊢
  clear ha hxs
  go_enter Tryz.func279, Tryz.ntmps279
  go_wp2_with (at_make; refine wpList_mk rfl _ _ rfl (xs.length + 1) _ _ rfl rfl (by omega) (by omega) (by omega) ?_; intro w1 hO hG)
  have HO := Lib.hid hO
  have HG := Lib.hid hG
  clear hO hG
  go_wp2_with fail
  go_loopw [6] (fun i wr => ∃ (k : Nat) (us : List Int), k ≤ xs.length ∧ Hid (us.length = xs.length + 1) ∧ Hid (Wf us) ∧ Hid (V us (k + 1) = V xs k * 2 ^ n) ∧ Hid (nth us k < 2 ^ n) ∧ Hid (∀ j, k + 1 ≤ j → nth us j = 0) ∧ i = .int .i64 k ∧ Hid (Own wr w.heap.size (some ⟨w.heap.size, 0, none⟩) (xs.length + 1) us) ∧ Hid (Ext w wr)) (fun i _ => xs.length - (intOf i).toNat)
  case atStart => exact ⟨0, _, by omega, List.length_replicate, wf_zeros _, by show _ = _; rw [V_zeros, V_zero, Int.zero_mul], by show _ < _; rw [nth_zeros]; exact Int.pow_pos (by omega), fun j _ => nth_zeros _ _, rfl, HO, HG⟩
  case round =>
    clear HO HG
    obtain ⟨k, us, hk, HUL, HU, HV, HT, HZ, rfl, HO, HX⟩ := hrel
    by_cases hkm : k < xs.length
    · obtain ⟨a, rfl, hca⟩ := (HA.out.ext HX.out).at_ k hkm
      have hco := HO.out.cell k (by have := HUL.out; omega)
      have hfo := HO.out.free k
      have hco1 := HO.out.cell (k + 1) (by have := HUL.out; omega)
      rw [HZ.out _ (Nat.le_refl _)] at hco1
      have hfo1 := HO.out.free (k + 1)
      have bx := nth_wf HW.out k
      have bz := nth_wf HU.out k
      obtain ⟨x, hx⟩ : ∃ x, x = nth xs k := ⟨_, rfl⟩
      obtain ⟨z, hz⟩ : ∃ z, z = nth us k := ⟨_, rfl⟩
      rw [← hx] at hca bx
      rw [← hz] at hco bz
      obtain ⟨_, hq2, hp1, hp2, hp3⟩ := up_word x z n hn bx bz.1 (by rw [hz]; exact HT.out)
      have hww : IntKind.u64.wrap (x * 2 ^ n) = x * 2 ^ n := by
        have hp := two_pow_le n hn
        have h1 : x * 2 ^ n < 4294967296 * 2 ^ n := Int.mul_lt_mul_of_pos_right bx.2 (by omega)
        exact IntWalk.u64_in _ ⟨Int.mul_nonneg bx.1 (by omega), by omega⟩
      obtain ⟨lo, hlo⟩ : ∃ lo, lo = x * 2 ^ n % 4294967296 := ⟨_, rfl⟩
      obtain ⟨hi, hhi⟩ : ∃ hi, hi = x * 2 ^ n / 4294967296 := ⟨_, rfl⟩
      have hlb : 0 ≤ lo ∧ lo < 4294967296 := by omega
      rw [hww] at hq2
      rw [← hhi] at hp1 hp2 hq2
      rw [← hlo] at hp3
      have HR := Lib.hid (up_round us xs n k (by have := HUL.out; omega) HV.out)
      rw [← hx, ← hz, ← hlo, ← hhi] at HR
      have g1 : x * 2 ^ n % 4294967296 = lo := hlo.symm
      have g2 : x * 2 ^ n / 4294967296 = hi := hhi.symm
      have HP2 := Lib.hid hp2
      have hpp := (two_pow_le n hn).2
      have hi2 : hi < 4294967296 := by omega
      clear hx hz hlo hhi hp2 hpp hq2
      go_wp2_with fail
      go_roundw
      case rel =>
        refine ⟨k + 1, (us.set k (z + lo)).set (k + 1) hi, by omega, by unfold Hid; rw [List.length_set, List.length_set]; exact HUL.out, wf_set (wf_set HU.out _ _ (by omega) hp3) _ _ hp1 hi2, HR.out, ?_, fun j hj => ?_, by go_num, ((HO.out.set k _).1.set (k + 1) _).1, (HX.out.setCell (Nat.le_refl _) _).setCell (Nat.le_refl _) _⟩
        · unfold Hid; rw [nth_set_self _ _ _ (by rw [List.length_set]; have := HUL.out; omega)]; exact HP2.out
        · rw [nth_set_ne _ _ _ _ (by omega), nth_set_ne _ _ _ _ (by omega)]; exact HZ.out j (by omega)
      case measure => simp [intOf]; omega
    · have hkl : k = xs.length := by omega
      subst hkl
      have HE := Lib.hid (show val us = ((m * 2 ^ n : Nat) : Int) by
        have h1 := HV.out
        rw [show V xs xs.length = val xs from rfl, HXS.out, val_wd] at h1
        unfold val
        rw [HUL.out, HXS.out, h1, Int.natCast_mul, Int.natCast_pow]
        rfl)
      go_wp2_with fail
      refine (gtrim_any _ us _ _ _ _ HO.out.rd HUL.out HU.out HE.out (by omega)).mono ?_; rintro e w2 ⟨A2, c2, rfl, h2, hx2⟩
      have H2 := Lib.hid (h2.lower HX.out.size)
      have HX2 := Lib.hid (HX.out.trans hx2)
      clear h2 hx2
      go_wp2_with fail
      go_ret
      exact ⟨_, _, rfl, H2.out, HX2.out⟩

set_option maxHeartbeats 1000000 in
theorem gdown_any (A : Option Addr) (m n : Nat) (c : Nat) (w : World) (ha : Rd w A c (wd m)) (hn : n ≤ 31) (lm : (wd m).length ≤ 8193) (Q : Nat) (hQ : m / 2 ^ n = Q) :
    Calls Tryz.prog 281 #[.slice A (wd m).length c, .int .i64 n] w fun e w' => ∃ A' c', e = .returned (.slice A' (wd Q).length c') ∧ Own w' w.heap.size A' c' (wd Q) ∧ Ext w w' := by
  have HA := Lib.hid ha
  have HQ := Lib.hid hQ
  have hcap := ha.cap
  have hcapm := ha.capm
  have hn0 : (0 : Int) ≤ n := by omega
  have hn1 : (n : Int) ≤ 31 := by omega
  have hd1 : (n : Int) / 32 = 0 := by omega
  have hd3 : (n : Int) % 32 = n := by omega
  clear hQ
  by_cases hm : (wd m).length = 0
  · have hz : m = 0 := wd_len_zero.1 hm
    have HE := Lib.hid (show wd Q = [] by rw [← HQ.out, hz, Nat.zero_div, wd_zero])
    clear ha hz
    go_enter Tryz.func281, Tryz.ntmps281
    go_wp2_with fail
    go_ret
    exact ⟨none, 0, by rw [HE.out]; rfl, by rw [HE.out]; exact Own.nil _ _, Ext.refl _⟩
  · have hp : 0 < (wd m).length := by omega
    obtain ⟨a, rfl⟩ := ha.some_ hp
    have hne : ¬ wd m = [] := fun e => by rw [e] at hm; exact hm rfl
    clear ha hm
    go_enter Tryz.func281, Tryz.ntmps281
    go_wp2_with (at_make; refine wpList_mk rfl _ _ rfl (wd m).length _ _ rfl rfl (by omega) (by omega) (by omega) ?_; intro w1 hO hG)
    have HO := Lib.hid hO
    have HG := Lib.hid hG
    clear hO hG
    go_wp2_with fail
    go_loopw [7] (fun i wr => ∃ (k : Nat) (us : List Int), k ≤ (wd m).length ∧ Hid (us.length = (wd m).length) ∧ Hid (Wf us) ∧ Hid (V us k * 2 ^ n = V (wd m) k + nth (wd m) k % 2 ^ n * pw k - nth (wd m) 0 % 2 ^ n) ∧ i = .int .i64 k ∧ Hid (Own wr w.heap.size (some ⟨w.heap.size, 0, none⟩) (wd m).length us) ∧ Hid (Ext w wr)) (fun i _ => (wd m).length - (intOf i).toNat)
    case atStart => exact ⟨0, _, by omega, List.length_replicate, wf_zeros _, by show _ = _; rw [V_zero, V_zero, pw_zero]; omega, rfl, HO, HG⟩
    case round =>
      clear HO HG
      obtain ⟨k, us, hk, HUL, HU, HV, rfl, HO, HX⟩ := hrel
      by_cases hkm : k < (wd m).length
      · have hca := HX.out.cell (HA.out.cell k hkm)
        have hco := HO.out.cell k (by have := HUL.out; omega)
        have hfo := HO.out.free k
        have bx := nth_wf (wf_wd m) k
        have by_ := nth_wf (wf_wd m) (k + 1)
        have HD := Lib.hid (dwn_round us (wd m) n k _ hn (wf_wd m) (by have := HUL.out; omega) HV.out)
        have hb := dwn_bd (nth (wd m) k) (nth (wd m) (k + 1)) n
        obtain ⟨x, hx⟩ : ∃ x, x = nth (wd m) k := ⟨_, rfl⟩
        obtain ⟨y, hy⟩ : ∃ y, y = nth (wd m) (k + 1) := ⟨_, rfl⟩
        have HWD := fun q => Lib.hid (gword_q (some a) (wd m) c _ (k + 1) (wr.drewN q) ((HA.out.ext HX.out).ext ((Ext.refl wr).drewN q)) rfl)
        rw [← hx, ← hy] at HD hb
        rw [← hx] at hca bx
        rw [← hy] at by_ HWD
        have HWW := Lib.hid HWD
        have s1 : IntKind.u64.wrap (y * 4294967296 + x) = y * 4294967296 + x := IntWalk.u64_in _ (by omega)
        have s2 : IntKind.u64.wrap (y * 4294967296) = y * 4294967296 := IntWalk.u64_in _ (by omega)
        have s3 : IntKind.i64.wrap ((k : Int) + 1) = ((k + 1 : Nat) : Int) := by rw [IntWalk.i64_in _ (by omega)]; omega
        have HE := Lib.hid (show (y * 4294967296 + x) / 2 ^ n % 4294967296 = dwn x y n by unfold dwn; rw [Int.add_comm])
        have Hy := Lib.hid hy
        clear hx hy HWD
        go_wp2_with fail
        go_quiet ((go_at_call 282; exact Calls.quiet_of_same (HWW.out _).out))
        go_wp2_with fail
        go_roundw
        case rel =>
          rw [HE.out]
          exact ⟨k + 1, _, by omega, by unfold Hid; rw [List.length_set]; exact HUL.out, wf_set HU.out _ _ hb.1 hb.2, by unfold Hid; rw [← Hy.out]; exact HD.out, by go_num, ((HO.out.drewN _).set k _).1, (HX.out.drewN _).setCell (Nat.le_refl _) _⟩
        case measure => simp [intOf]; omega
      · have hkl : k = (wd m).length := by omega
        subst hkl
        have HE := Lib.hid (dwn_end us m n _ hn rfl HUL.out HV.out)
        rw [HQ.out] at HE
        go_wp2_with fail
        refine (gtrim_any _ us _ _ _ _ HO.out.rd HUL.out HU.out HE.out (by omega)).mono ?_; rintro e w2 ⟨A2, c2, rfl, h2, hx2⟩
        have H2 := Lib.hid (h2.lower HX.out.size)
        have HX2 := Lib.hid (HX.out.trans hx2)
        clear h2 hx2
        go_wp2_with fail
        go_ret
        exact ⟨_, _, rfl, H2.out, HX2.out⟩

end Go.Proofs.YtifonmdcicegdaaGreat

namespace Go.Proofs.YtifonmdcicegdaaGreat
open Go Go.RowKit

set_option maxHeartbeats 1000000 in
theorem gbelow_any (A B : Option Addr) (xs : List Int) (c d l m D x : Nat) (w : World) (ha : Rd w A c xs) (hb : Rd w B d (wd D)) (hl : xs.length = l) (hx : Wf xs) (hm : val xs = m) (hlx : x < 18446744073709551616) (lD : (wd D).length ≤ 8192) :
    Calls Tryz.prog 287 #[.slice A l c, .slice B (wd D).length d, .int .u64 x] w fun e w' => e = .returned (.bool (decide (m < D * x))) ∧ Ext w w' := by
  have HA := Lib.hid ha
  have HB := Lib.hid hb
  have HL := Lib.hid hl
  have HW := Lib.hid hx
  have HM := Lib.hid hm
  have HE := Lib.hid (show decide (cmp m (D * x) < 0) = decide (m < D * x) from decide_eq_decide.2 cmp_lt_iff)
  have hx2 := wd_two' x hlx
  obtain ⟨P, hP⟩ : ∃ P, P = D * x := ⟨_, rfl⟩
  rw [← hP] at HE ⊢
  have HP := Lib.hid hP
  clear ha hb hl hx hm hP
  go_enter Tryz.func287, Tryz.ntmps287
  go_wp2_with fail
  refine (gof_any x _ hlx).mono ?_; rintro e w1 ⟨A1, c1, rfl, h1, hx1⟩
  have H1 := Lib.hid h1
  have HX1 := Lib.hid hx1
  clear h1 hx1
  go_wp2_with fail
  refine (gtimes_any _ _ D x _ _ _ (HB.out.ext HX1.out) H1.out.rd (by omega)).mono ?_
  rw [← HP.out]
  rintro e w2 ⟨A2, c2, rfl, h2, hx2⟩
  have H2 := Lib.hid h2
  have HX2 := Lib.hid (HX1.out.trans hx2)
  clear h2 hx2
  go_wp2_with fail
  refine (gcompare_any _ _ xs (wd P) _ _ _ _ m P _ (HA.out.ext HX2.out) H2.out.rd HL.out rfl HW.out (wf_wd P) HM.out (val_wd P)).mono ?_
  rintro e w3 ⟨rfl, rfl⟩
  go_wp2_with fail
  go_ret
  exact ⟨by rw [← HE.out]; rfl, HX2.out⟩

set_option maxHeartbeats 1000000 in
theorem goff_any (B : Option Addr) (xs : List Int) (g o C c d l base m D x : Nat) (w : World) (ho : Own w base (some ⟨g, 0, none⟩) C xs) (hb : Rd w B d (wd D)) (hlen : o + l ≤ xs.length) (hx : Wf xs) (hm : Vo xs o l = m) (hDx : D * x ≤ m) (hlx : x < 18446744073709551616) (lD : (wd D).length ≤ 8192) (ll : l ≤ 8193) (hc : l ≤ c) (hcm : c ≤ 9223372036854775807) :
    Calls Tryz.prog 288 #[.slice (some ⟨g, o, none⟩) l c, .slice B (wd D).length d, .int .u64 x] w fun e w' => ∃ us : List Int, e = .returned (.tuple #[]) ∧ us.length = xs.length ∧ Wf us ∧ Vo us o l = ((m - D * x : Nat) : Int) ∧ (∀ j, j < o ∨ o + l ≤ j → nth us j = nth xs j) ∧ Own w' base (some ⟨g, 0, none⟩) C us ∧ w.grownBy w' (some g) := by
  have HO := Lib.hid ho
  have HB := Lib.hid hb
  have HW := Lib.hid hx
  have HM := Lib.hid hm
  have hx2 := wd_two' x hlx
  have hzl : (wd (m - D * x)).length ≤ l := wd_len_le _ _ (by have := (Vo_bd hx o l).2; omega)
  have HOl := Lib.hid ho.rd.cap
  have HOm := Lib.hid ho.rd.capm
  obtain ⟨P, hP⟩ : ∃ P, P = D * x := ⟨_, rfl⟩
  rw [← hP] at hzl hDx ⊢
  have HP := Lib.hid hP
  clear ho hb hx hm hP
  go_enter Tryz.func288, Tryz.ntmps288
  go_wp2_with fail
  refine (gof_any x _ hlx).mono ?_; rintro e w1 ⟨A1, c1, rfl, h1, hx1⟩
  have H1 := Lib.hid h1
  have HX1 := Lib.hid hx1
  clear h1 hx1
  go_wp2_with fail
  refine (gtimes_any _ _ D x _ _ _ (HB.out.ext HX1.out) H1.out.rd (by omega)).mono ?_
  rw [← HP.out]
  rintro e w2 ⟨A2, c2, rfl, h2, hx2⟩
  have H2 := Lib.hid h2
  have HX2 := Lib.hid (HX1.out.trans hx2)
  clear h2 hx2
  go_wp2_with fail
  refine (gless_any _ _ ((xs.drop o).take l) P c _ l m _ (((HO.out.ext HX2.out).sub o l c hlen hc hcm)) H2.out.rd (sub_len _ _ _ hlen) (wf_take (wf_drop HW.out o) l) (by unfold val; rw [sub_len _ _ _ hlen, V_sub]; exact HM.out) hDx (by omega)).mono ?_
  rintro e w3 ⟨A3, c3, rfl, h3, hx3⟩
  have HOb := Lib.hid (show g < w.heap.size from HO.out.block.2)
  have HAp : Hid (∀ a, A3 = some a → a.block ≠ g) := fun a ha e => by
    subst ha
    have h4 := h3.block.1
    have h5 := HX2.out.size
    have h6 := HOb.out
    omega
  have HZ := Lib.hid h3.rd
  have HX3 := Lib.hid (HX2.out.trans hx3)
  have HO3 := Lib.hid (HO.out.ext HX3.out)
  obtain ⟨Z, hZ⟩ : ∃ Z, Z = wd (m - P) := ⟨_, rfl⟩
  rw [← hZ] at HZ hzl ⊢
  have HZZ := Lib.hid hZ
  have HG3 := Lib.hid (HX3.out.by_ (some g))
  clear h3 hx3 hZ H1 H2 HX1 HX2
  go_wp2_with fail
  go_loopw [7] (fun i wr => ∃ (k : Nat) (us : List Int), k ≤ l ∧ Hid (us.length = xs.length) ∧ Hid (Wf us) ∧ Hid (∀ j, j < k → nth us (o + j) = nth Z j) ∧ Hid (∀ j, j < o ∨ o + k ≤ j → nth us j = nth xs j) ∧ i = .int .i64 k ∧ Hid (Own wr base (some ⟨g, 0, none⟩) C us) ∧ Hid (w3.grownBy wr (some g))) (fun i _ => l - (intOf i).toNat)
  case atStart => exact ⟨0, xs, by omega, rfl, HW.out, fun j hj => by omega, fun _ _ => rfl, rfl, HO3.out, World.grownBy.refl _ _⟩
  case round =>
    obtain ⟨k, us, hk, HUL, HU, HA, HR, rfl, HOu, HG⟩ := hrel
    by_cases hkl : k < l
    · have hco := HOu.out.cell (o + k) (by have := HUL.out; omega)
      have hfo := HOu.out.free (o + k)
      have bz := nth_wf (show Wf Z by rw [HZZ.out]; exact wf_wd _) k
      have HWd := Lib.hid (gword_any A3 Z c3 Z.length k wr (HZ.out.kept HG.out (fun a ha e => by injection e with e; exact HAp.out a ha e)) rfl)
      go_wp2_with fail
      refine HWd.out.mono ?_; rintro e w' ⟨rfl, rfl⟩
      go_wp2_with fail
      go_roundw
      case rel => exact ⟨k + 1, _, by omega, by unfold Hid; rw [List.length_set]; exact HUL.out, wf_set HU.out _ _ bz.1 bz.2, fun j hj => by
          by_cases e : j = k
          · rw [e, nth_set_self _ _ _ (by have := HUL.out; omega)]
          · rw [nth_set_ne _ _ _ _ (by omega)]; exact HA.out j (by omega), fun j hj => by rw [nth_set_ne _ _ _ _ (by omega)]; exact HR.out j (by omega), by go_num, (HOu.out.set (o + k) _).1, grown_trans HG.out (HOu.out.set (o + k) _).2⟩
      case measure => simp [intOf]; omega
    · have hkk : k = l := by omega
      subst hkk
      have HV := Lib.hid (show Vo us o k = ((m - P : Nat) : Int) by
        have h1 : Vo us o k = V Z k := by
          unfold Vo
          exact V_congr k fun j hj => by rw [nth_drop]; exact HA.out j hj
        rw [h1, V_out _ _ hzl, HZZ.out, val_wd])
      go_wp2_with fail
      go_end0
      exact ⟨us, rfl, HUL.out, HU.out, HV.out, HR.out, HOu.out, grown_trans HG3.out HG.out⟩

/-- the first words tell a number that is not less than the quotient -/
theorem first_ge (us vs : List Int) (n : Nat) (hu : Wf us) (hv : Wf vs) (h1 : 0 < nth vs n) (m D : Nat) (hm : V us (n + 2) = m) (hD : V vs (n + 1) = D) : (m / D : Nat) ≤ (nth us (n + 1) * 4294967296 + nth us n) / nth vs n := by
  have hd0 : 0 < D := by
    have a := V_nonneg hv n
    have b := Int.mul_pos h1 (pw_pos n)
    rw [V_succ] at hD
    omega
  rw [V_succ, V_succ] at hm
  rw [V_succ] at hD
  generalize ht : nth us (n + 1) * 4294967296 + nth us n = top
  have hq : (0 : Int) ≤ ((m / D : Nat) : Int) := Int.natCast_nonneg _
  apply Int.le_ediv_of_mul_le h1
  rcases Int.lt_or_le top ((m / D : Nat) * nth vs n) with hlt | hle
  · exfalso
    have e := Nat.div_mul_le_self m D
    have a := V_lt hu n
    have b := V_nonneg hv n
    have e1 : (top + 1) * pw n ≤ ((m / D : Nat) : Int) * nth vs n * pw n := Int.mul_le_mul_of_nonneg_right (by omega) (Int.le_of_lt (pw_pos n))
    have e2 : ((m / D : Nat) : Int) * (nth vs n * pw n) ≤ ((m / D : Nat) : Int) * D := Int.mul_le_mul_of_nonneg_left (by omega) hq
    have e3 : ((m / D : Nat) : Int) * D ≤ m := by rw [← Int.natCast_mul]; omega
    rw [pw_succ] at hm
    rw [Int.add_mul, Int.one_mul] at e1
    rw [Int.mul_assoc] at e1
    have e4 : top * pw n = nth us (n + 1) * (4294967296 * pw n) + nth us n * pw n := by rw [← ht, Int.add_mul, Int.mul_assoc]
    omega
  · exact hle

set_option maxHeartbeats 1000000 in
theorem gdigit_any (B : Option Addr) (xs : List Int) (g o C c d n base m D : Nat) (w : World) (ho : Own w base (some ⟨g, 0, none⟩) C xs) (hb : Rd w B d (wd D)) (hlen : o + (n + 2) ≤ xs.length) (hx : Wf xs) (hm : Vo xs o (n + 2) = m) (hD : (wd D).length = n + 1) (hlt : m < D * 4294967296) (lD : (wd D).length ≤ 8192) (hc : n + 2 ≤ c) (hcm : c ≤ 9223372036854775807) (hne : ∀ b, B = some b → b.block ≠ g) (L : Nat) (hL : L = n + 1) :
    Calls Tryz.prog 280 #[.slice (some ⟨g, o, none⟩) (L + 1) c, .slice B L d] w fun e w' => ∃ (us : List Int) (x : Nat), x = m / D ∧ x < 4294967296 ∧ e = .returned (.int .u32 x) ∧ us.length = xs.length ∧ Wf us ∧ Vo us o (n + 2) = ((m % D : Nat) : Int) ∧ (∀ j, j < o ∨ o + (n + 2) ≤ j → nth us j = nth xs j) ∧ Own w' base (some ⟨g, 0, none⟩) C us ∧ w.grownBy w' (some g) := by
  have hD0 : D ≠ 0 := fun e => by have := wd_len_zero.2 e; omega
  have htop := wd_last D hD0
  rw [hD, Nat.add_sub_cancel] at htop
  have bv := nth_wf (wf_wd D) n
  have hxq : m / D < 4294967296 := Nat.div_lt_of_lt_mul hlt
  have hge := first_ge (xs.drop o) (wd D) n (wf_drop hx o) (wf_wd D) (by omega) m D hm (by have := val_wd D; unfold val at this; rw [hD] at this; exact this)
  rw [nth_drop, nth_drop] at hge
  obtain ⟨b, rfl, hcb⟩ := hb.at_ n (by omega)
  have hc1 := ho.cell (o + (n + 1)) (by omega)
  have hc0 := ho.cell (o + n) (by omega)
  have b1 := nth_wf hx (o + (n + 1))
  have b0 := nth_wf hx (o + n)
  obtain ⟨x1, hx1⟩ : ∃ x, x = nth xs (o + (n + 1)) := ⟨_, rfl⟩
  obtain ⟨x0, hx0⟩ : ∃ x, x = nth xs (o + n) := ⟨_, rfl⟩
  obtain ⟨v, hv⟩ : ∃ x, x = nth (wd D) n := ⟨_, rfl⟩
  rw [← hx1] at hc1 b1 hge
  rw [← hx0] at hc0 b0 hge
  rw [← hv] at hcb bv htop hge
  obtain ⟨top, ht⟩ : ∃ t, t = x1 * 4294967296 + x0 := ⟨_, rfl⟩
  rw [← ht] at hge
  have hq0 : 0 ≤ top / v := Int.ediv_nonneg (by omega) (by omega)
  obtain ⟨q, hq⟩ : ∃ q : Nat, (q : Int) = min (top / v) 4294967295 := ⟨(min (top / v) 4294967295).toNat, by omega⟩
  have hqge : m / D ≤ q := by omega
  have hqlt : q < 4294967296 := by omega
  have hmin : Min.min (top / v) 4294967295 = (q : Int) := hq.symm
  have HDm := Lib.hid (show m - D * (m / D) = m % D from by have := Nat.div_add_mod m D; omega)
  have HDl := Lib.hid (show D * (m / D) ≤ m from by have := Nat.div_add_mod m D; omega)
  have HXQ := Lib.hid hxq
  have HG := Lib.hid hqge
  have HO := Lib.hid ho
  have HB := Lib.hid hb
  have HW := Lib.hid hx
  have HM := Lib.hid hm
  have HN := Lib.hid hne
  have HLL := Lib.hid hL
  have HDL := Lib.hid (show (wd D).length = L by omega)
  have w1 : IntKind.i64.wrap ((L : Int) - 1) = (n : Int) := by rw [IntWalk.i64_in _ (by omega)]; omega
  have i1 : (n : Int) < (L : Int) := by omega
  have i2 : (n : Int) < (L : Int) + 1 := by omega
  rw [← hL] at hc1
  have hLc : L + 1 ≤ c := by omega
  have s1 : IntKind.u64.wrap (x1 * 4294967296) = x1 * 4294967296 := IntWalk.u64_in _ (by omega)
  have s2 : IntKind.u64.wrap (x1 * 4294967296 + x0) = top := by rw [IntWalk.u64_in _ (by omega), ht]
  have hdz : (v == 0) = false := beq_eq_false_iff_ne.2 htop
  have tb : 0 ≤ top ∧ top ≤ 18446744073709551615 := by omega
  have HTOP := Lib.hid ht
  clear ho hb hx hm hD hxq hge hqge hq hL hx1 hx0 hv ht hne hlt
  go_enter Tryz.func280, Tryz.ntmps280
  go_wp2_with fail
  go_quiet (fail)
  go_wp2_with fail
  have HSUB : Hid (∀ wx, Ext w wx → Rd wx (some ⟨g, o, none⟩) c ((xs.drop o).take (L + 1)) ∧ ((xs.drop o).take (L + 1)).length = L + 1 ∧ Wf ((xs.drop o).take (L + 1)) ∧ val ((xs.drop o).take (L + 1)) = m) := fun wx hx => by
    have hl2 : o + (L + 1) ≤ xs.length := by have := HLL.out; omega
    refine ⟨(HO.out.ext hx).sub o (L + 1) c hl2 (by omega) hcm, sub_len _ _ _ hl2, wf_take (wf_drop HW.out o) _, ?_⟩
    unfold val
    rw [sub_len _ _ _ hl2, V_sub, HLL.out]
    exact HM.out
  go_wp2_with fail
  go_loopw [7] (fun xx wr => ∃ x : Nat, m / D ≤ x ∧ x < 4294967296 ∧ xx = .int .u64 x ∧ Hid (Ext w wr)) (fun xx _ => (intOf xx).toNat)
  case atStart => exact ⟨q, HG.out, hqlt, rfl, (Ext.refl w).drewN _⟩
  case round =>
    obtain ⟨x, hgx, hxlt, rfl, HX⟩ := hrel
    obtain ⟨hs1, hs2, hs3, hs4⟩ := HSUB.out wr HX.out
    have HBW := gbelow_any (some ⟨g, o, none⟩) (some b) _ c d (L + 1) m D x wr hs1 (HB.out.ext HX.out) hs2 hs3 hs4 (by omega) lD
    rw [HDL.out] at HBW
    have HBE := Lib.hid HBW
    have HGX := Lib.hid hgx
    clear hs1 hs2 hs3 hs4 HBW hgx
    by_cases hbl : m < D * x
    · have hbd : decide (m < D * x) = true := decide_eq_true hbl
      rw [hbd] at HBE
      have hx1 : m / D + 1 ≤ x := by
        have := HGX.out
        rcases Nat.lt_or_ge (m / D) x with h | h
        · exact h
        · have e : x = m / D := Nat.le_antisymm h this
          rw [e] at hbl
          have := HDl.out
          omega
      have HX1 := Lib.hid hx1
      have hx1' : 1 ≤ x := Nat.lt_of_lt_of_le (Nat.succ_pos _) hx1
      clear hx1 hbd hbl
      go_wp2_with fail
      refine HBE.out.mono ?_; rintro e w4 ⟨rfl, hx4⟩
      have HX4 := Lib.hid (HX.out.trans hx4)
      clear hx4
      go_wp2_with fail
      go_roundw
      case rel => exact ⟨x - 1, Nat.le_sub_of_add_le HX1.out, by omega, by rw [Int.natCast_sub hx1']; rfl, HX4.out⟩
      case measure => simp [intOf]; omega
    · have hbd : decide (m < D * x) = false := decide_eq_false hbl
      rw [hbd] at HBE
      have HXE := Lib.hid (show x = m / D by
        have h1 := HGX.out
        have h2 : x ≤ m / D := (Nat.le_div_iff_mul_le (by omega)).2 (by rw [Nat.mul_comm x D]; exact Nat.le_of_not_lt hbl)
        exact Nat.le_antisymm h2 h1)
      clear hbd hbl
      go_wp2_with fail
      refine HBE.out.mono ?_; rintro e w4 ⟨rfl, hx4⟩
      have HX4 := Lib.hid (HX.out.trans hx4)
      clear hx4
      go_wp2_with fail
      have HOF := goff_any (some b) xs g o C c d (n + 2) base m D x w4 (HO.out.ext HX4.out) (HB.out.ext HX4.out) hlen HW.out HM.out (by rw [HXE.out]; exact HDl.out) (by omega) lD (by have := HDL.out; have := HLL.out; omega) hc hcm
      rw [show n + 2 = L + 1 by have := HLL.out; omega, HDL.out] at HOF
      refine HOF.mono ?_
      clear HOF
      rintro e w5 ⟨us, rfl, h1, h2, h3, h4, h5, h6⟩
      rw [show L + 1 = n + 2 by have := HLL.out; omega] at h3 h4
      have K1 := Lib.hid h1
      have K2 := Lib.hid h2
      have K3 := Lib.hid (show Vo us o (n + 2) = ((m % D : Nat) : Int) by rw [h3, HXE.out, HDm.out])
      have K4 := Lib.hid h4
      have K5 := Lib.hid h5
      have K6 := Lib.hid (grown_trans (HX4.out.by_ (some g)) h6)
      clear h1 h2 h3 h4 h5 h6
      go_wp2_with fail
      go_ret
      exact ⟨us, x, HXE.out, hxlt, rfl, K1.out, K2.out, K3.out, K4.out, K5.out, K6.out⟩

end Go.Proofs.YtifonmdcicegdaaGreat

namespace Go.Proofs.YtifonmdcicegdaaGreat
open Go Go.RowKit

/-- what Over leaves: two rows that are new -/
def Pair (w : World) (x y : Nat) (e : Ending) (w' : World) : Prop := ∃ A c B d, e = .returned (.tuple #[.slice A (wd x).length c, .slice B (wd y).length d]) ∧ Own w' w.heap.size A c (wd x) ∧ Own w' w.heap.size B d (wd y) ∧ Ext w w'

set_option maxHeartbeats 1000000 in
theorem gover_less (A B : Option Addr) (m n c d : Nat) (w : World) (ha : Rd w A c (wd m)) (hb : Rd w B d (wd n)) (hlt : m < n) (lm : (wd m).length ≤ 8192) (Q R : Nat) (hQ : m / n = Q) (hR : m % n = R) :
    Calls Tryz.prog 238 #[.slice A (wd m).length c, .slice B (wd n).length d] w (Pair w Q R) := by
  have hd : 0 = Q := by rw [← hQ, Nat.div_eq_of_lt hlt]
  have hr : m = R := by rw [← hR, Nat.mod_eq_of_lt hlt]
  subst hd
  subst hr
  have HA := Lib.hid ha
  have HB := Lib.hid hb
  have hc : cmp m n < 0 := cmp_lt_iff.2 hlt
  clear ha hb hQ hR
  go_enter Tryz.func238, Tryz.ntmps238
  go_wp2_with fail
  refine (gcompare_any _ _ (wd m) (wd n) _ _ _ _ m n _ HA.out HB.out rfl rfl (wf_wd m) (wf_wd n) (val_wd m) (val_wd n)).mono ?_; rintro e w1 ⟨rfl, rfl⟩
  go_wp2_with fail
  refine (gtrim_any _ _ _ _ m _ HA.out rfl (wf_wd m) (val_wd m) (by omega)).mono ?_; rintro e w2 ⟨A2, c2, rfl, hO2, hx2⟩
  have HX2 := Lib.hid hx2
  have HO2 := Lib.hid hO2
  clear hx2 hO2
  go_wp2_with fail
  go_ret2
  exact ⟨none, 0, A2, c2, by rw [show (wd 0).length = 0 by rw [wd_zero]; rfl]; rfl, by rw [wd_zero]; exact Own.nil _ _, HO2.out, HX2.out⟩

set_option maxHeartbeats 1000000 in
theorem gover_one (A B : Option Addr) (m n c d : Nat) (w : World) (ha : Rd w A c (wd m)) (hb : Rd w B d (wd n)) (hge : n ≤ m) (hn : (wd n).length = 1) (lm : (wd m).length ≤ 8192) (Q R : Nat) (hQ : m / n = Q) (hR : m % n = R) :
    Calls Tryz.prog 238 #[.slice A (wd m).length c, .slice B (wd n).length d] w (Pair w Q R) := by
  have HA := Lib.hid ha
  have HB := Lib.hid hb
  have hc : ¬ cmp m n < 0 := fun h => by have := cmp_lt_iff.1 h; omega
  have hn0 : n ≠ 0 := fun e => by have := wd_len_zero.2 e; omega
  have hn1 : n < 4294967296 := by have := nat_lt_of_len n 1 (by omega); rw [show pw 1 = 4294967296 from rfl] at this; omega
  have hword : nth (wd n) 0 = n := by rw [wd_pos n hn0, nth_cons_zero]; omega
  have hl1 : (((wd n).length : Int) == 1) = true := by rw [hn]; rfl
  have hp : 0 < (wd n).length := by omega
  obtain ⟨b, rfl, hcb⟩ := hb.at_ 0 hp
  rw [hword, add0] at hcb
  have hRl : R < 4294967296 := by rw [← hR]; exact Nat.lt_trans (Nat.mod_lt _ (by omega)) hn1
  have HN := Lib.hid hn
  have HQ := Lib.hid hQ
  have HR := Lib.hid hR
  clear ha hb hword hn hQ hR
  go_enter Tryz.func238, Tryz.ntmps238
  go_wp2_with fail
  refine (gcompare_any _ _ (wd m) (wd n) _ _ _ _ m n _ HA.out HB.out rfl rfl (wf_wd m) (wf_wd n) (val_wd m) (val_wd n)).mono ?_; rintro e w1 ⟨rfl, rfl⟩
  go_wp2_with fail
  refine (gsmall_any _ m n _ _ HA.out (by omega) hn1 (by omega) Q R HQ.out HR.out).mono ?_; rintro e w2 ⟨A2, c2, rfl, hO2, hx2⟩
  have HX2 := Lib.hid hx2
  have HO2 := Lib.hid hO2
  clear hx2 hO2
  go_wp2_with fail
  refine (gof_any R _ (by omega)).mono ?_; rintro e w3 ⟨A3, c3, rfl, hO3, hx3⟩
  have HX3 := Lib.hid hx3
  have HO3 := Lib.hid hO3
  clear hx3 hO3
  go_wp2_with fail
  go_ret2
  exact ⟨A2, c2, A3, c3, rfl, HO2.out.ext HX3.out, HO3.out.lower HX2.out.size, HX2.out.trans HX3.out⟩

theorem Own.some_ {w : World} {base : Nat} {A : Option Addr} {c : Nat} {xs : List Int} (h : Own w base A c xs) (hp : 0 < xs.length) : ∃ g, A = some ⟨g, 0, none⟩ ∧ base ≤ g ∧ g < w.heap.size := by
  rcases h.cases with ⟨_, _, rfl⟩ | ⟨g, cur, h1, h2, h3, _⟩
  · exact absurd hp (Nat.lt_irrefl 0)
  · exact ⟨g, h1, h2, (Array.getElem?_eq_some_iff.1 h3).1⟩
theorem val_append0 (xs : List Int) : val (xs ++ [0]) = val xs := by
  unfold val
  rw [List.length_append, List.length_singleton, V_succ]
  have h1 : nth (xs ++ [0]) xs.length = 0 := by simp [nth]
  rw [h1, Int.zero_mul, Int.add_zero]
  exact V_congr _ fun j hj => by simp [nth, List.getElem?_append_left hj]

theorem over_begin (M D P L Lq : Nat) (hP : (wd M).length = P) (hL : 1 ≤ L) (hLP : L ≤ P + 1) (hLq : P + 1 - L = Lq) (ht : 2147483648 * pw (L - 1) ≤ (D : Int)) : (M : Int) < (D : Int) * pw Lq := by
  have h1 := wd_lt_pw M
  rw [hP] at h1
  have h2 : pw P = pw (L - 1) * pw Lq := by rw [← pw_add]; congr 1; omega
  have h3 : pw (L - 1) * pw Lq ≤ (D : Int) * pw Lq := Int.mul_le_mul_of_nonneg_right (by have := pw_pos (L - 1); omega) (Int.le_of_lt (pw_pos _))
  omega

theorem bits_norm (t j : Nat) (h0 : 0 < j) (h1 : j ≤ 32) (h2 : 2 ^ (j - 1) ≤ t) (h3 : t < 2 ^ j) : 2147483648 ≤ t * 2 ^ (32 - j) ∧ t * 2 ^ (32 - j) < 4294967296 := by
  have e1 : 2 ^ (j - 1) * 2 ^ (32 - j) = 2147483648 := by rw [← Nat.pow_add, show j - 1 + (32 - j) = 31 by omega]
  have e2 : 2 ^ j * 2 ^ (32 - j) = 4294967296 := by rw [← Nat.pow_add, show j + (32 - j) = 32 by omega]
  constructor
  · rw [← e1]; exact Nat.mul_le_mul_right _ h2
  · rw [← e2]; exact Nat.mul_lt_mul_of_pos_right h3 (Nat.pow_pos (by omega))

set_option maxHeartbeats 4000000 in
theorem gover_long (A B : Option Addr) (m n c d : Nat) (w : World) (ha : Rd w A c (wd m)) (hb : Rd w B d (wd n)) (hge : n ≤ m) (hn : 2 ≤ (wd n).length) (lm : (wd m).length ≤ 8192) (Q R : Nat) (hQ : m / n = Q) (hR : m % n = R) :
    Calls Tryz.prog 238 #[.slice A (wd m).length c, .slice B (wd n).length d] w (Pair w Q R) := by
  have HA := Lib.hid ha
  have HB := Lib.hid hb
  have hc : ¬ cmp m n < 0 := fun h => by have := cmp_lt_iff.1 h; omega
  have hn0 : n ≠ 0 := fun e => by have := wd_len_zero.2 e; omega
  have hl1 : (((wd n).length : Int) == 1) = false := beq_eq_false_iff_ne.2 (by omega)
  have hlm := wd_len_mono hge
  obtain ⟨K, hK⟩ : ∃ K, (wd n).length = K + 1 := ⟨(wd n).length - 1, by omega⟩
  obtain ⟨t, ht⟩ := Int.eq_ofNat_of_zero_le (nth_wf (wf_wd n) K).1
  have HT := Lib.hid ht
  have HK := Lib.hid hK
  have HQ := Lib.hid hQ
  have HR := Lib.hid hR
  clear ha hb hK ht hQ hR
  go_enter Tryz.func238, Tryz.ntmps238
  go_wp2_with fail
  refine (gcompare_any _ _ (wd m) (wd n) _ _ _ _ m n _ HA.out HB.out rfl rfl (wf_wd m) (wf_wd n) (val_wd m) (val_wd n)).mono ?_; rintro e w1 ⟨rfl, rfl⟩
  go_wp2_with fail
  refine (gbits_any _ n t K _ _ HB.out HK.out HT.out (by omega)).mono ?_; rintro e w2 ⟨j, hj0, hj1, hj2, hj3, rfl, hx2⟩
  have hbn := bits_norm t j hj0 hj1 hj2 hj3
  obtain ⟨s, hs⟩ : ∃ s, s = 32 - j := ⟨_, rfl⟩
  rw [← hs] at hbn
  have hnw := norm_words n s (K + 1) hn0 HK.out (by rw [show K + 1 - 1 = K from rfl, HT.out]; exact hbn.1) (by rw [show K + 1 - 1 = K from rfl, HT.out]; exact hbn.2)
  have hs31 : s ≤ 31 := by omega
  have es : (32 : Int) * ((wd n).length : Int) - ((32 * K + j : Nat) : Int) = (s : Int) := by have := HK.out; omega
  obtain ⟨D, hD⟩ : ∃ D, D = n * 2 ^ s := ⟨_, rfl⟩
  rw [← hD] at hnw
  have HD := Lib.hid hD
  have HNW := Lib.hid hnw
  have HX2 := Lib.hid hx2
  obtain ⟨bb, hbb⟩ : ∃ bb : Nat, bb = 32 * K + j := ⟨_, rfl⟩
  rw [← hbb] at es ⊢
  have hbb1 : bb ≤ 32 * 8192 := by have := HK.out; omega
  clear hnw hD hx2 hj2 hj3 hbn hs hbb hj0 hj1
  go_wp2_with fail
  try rw [es]
  refine (gup_any _ n s _ _ (HB.out.ext HX2.out) (by omega) hs31 (by omega)).mono ?_
  rw [← HD.out]
  rintro e w3 ⟨g1, cv, rfl, hO3, hx3⟩
  have HX3 := Lib.hid (HX2.out.trans hx3)
  have HOv := Lib.hid (hO3.lower HX2.out.size)
  have HOv' := Lib.hid hO3
  clear hx3 hO3
  go_wp2_with fail
  refine (gup_any _ m s _ _ (HA.out.ext HX3.out) (by omega) hs31 (by omega)).mono ?_
  obtain ⟨M, hM⟩ : ∃ M, M = m * 2 ^ s := ⟨_, rfl⟩
  rw [← hM]
  have HMM := Lib.hid hM
  clear hM
  rintro e w4 ⟨A4, c4, rfl, hO4, hx4⟩
  have HX4 := Lib.hid (HX3.out.trans hx4)
  have HO4 := Lib.hid hO4
  have HOv := Lib.hid (HOv.out.ext hx4)
  have HVB := Lib.hid (show ∀ a, g1 = some a → a.block < w3.heap.size from fun a e => by subst e; exact HOv'.out.block.2)
  have hx34 := hx4.size
  clear hx4 hO4
  have hMl : (wd M).length ≤ 8193 := by
    have h1 := wd_len_mul m (2 ^ s)
    have h2 : (wd (2 ^ s)).length ≤ 1 := wd_len_le _ 1 (by
      have : 2 ^ s < 2 ^ 32 := Nat.pow_lt_pow_right (by omega) (by omega)
      rw [show pw 1 = 4294967296 from rfl]
      omega)
    rw [← HMM.out] at h1
    omega
  have hml : (wd n).length ≤ (wd M).length := by
    have h1 : n ≤ M := by
      rw [HMM.out]
      exact Nat.le_trans hge (Nat.le_mul_of_pos_right _ (Nat.pow_pos (by omega)))
    exact wd_len_mono h1
  obtain ⟨P, hP⟩ : ∃ P, (wd M).length = P := ⟨_, rfl⟩
  rw [hP] at hMl hml ⊢
  have HP := Lib.hid hP
  clear hP
  have hdl : (wd D).length = K + 1 := HNW.out.2.1
  have hKP : K + 1 ≤ P := by have := HK.out; omega
  have hK1 : 1 ≤ K := by have := HK.out; omega
  obtain ⟨L, hL⟩ : ∃ L, L = K + 1 := ⟨_, rfl⟩
  rw [← hL] at hdl hKP
  rw [hdl]
  have HL := Lib.hid hL
  have HDL := Lib.hid hdl
  have hL2 : 2 ≤ L := by omega
  clear hL hdl
  obtain ⟨Lq, hLq⟩ : ∃ Lq, P + 1 - L = Lq := ⟨_, rfl⟩
  have hle : L ≤ P + 1 := by omega
  go_wp2_with (first | (at_make; refine wpList_mk rfl _ _ rfl Lq _ _ rfl rfl (by rw [← hLq]; omega) (by rw [← hLq]; omega) (by omega) ?_; intro w6 hO6 hG6) | (at_builtin; refine wpList_app rfl _ _ rfl w3.heap.size A4 c4 (wd M) P HP.out rfl (HO4.out.ext ((Ext.refl w4).alloc _)) _ _ [0] 1 rfl rfl (Own.lit w4 _ [0] rfl (by decide)).rd (by omega) (by have := HX4.out.size; have := hx34; simp; omega) ?_; intro A5 c5 w5 hO5 hg5))
  obtain ⟨g2, rfl, hg2, hg2'⟩ := hO5.some_ (by simp)
  have HX5 := Lib.hid (show Ext w w5 from ((HX4.out.alloc _).grown hg5 (fun k hk => by
    cases A4 with
    | none => cases hk
    | some a => cases hk; exact Nat.le_trans HX3.out.size HO4.out.block.1)))
  have HOv := Lib.hid (show Own w5 w.heap.size g1 cv (wd D) from (HOv.out.ext ((Ext.refl w4).alloc _)).kept hg5 (fun a ha e => by
    have h1 := HVB.out a ha
    cases A4 with
    | none => cases e
    | some a4 => injection e with e; have e' : a.block = a4.block := e; have h2 := HO4.out.block.1; omega))
  have HAp : Hid (∀ b, g1 = some b → b.block ≠ g2) := fun b hb e => by have := HVB.out b hb; omega
  have HOu := Lib.hid (hO5.lower HX3.out.size)
  have HB2 := Lib.hid (show w.heap.size ≤ g2 from Nat.le_trans HX3.out.size hg2)
  have HUL := Lib.hid (show (wd M ++ [0]).length = P + 1 by rw [List.length_append, HP.out]; rfl)
  have HUW := Lib.hid (show Wf (wd M ++ [0]) from fun x hx => by
    rcases List.mem_append.1 hx with h | h
    · exact wf_wd M x h
    · rw [List.mem_singleton.1 h]; omega)
  have HUV := Lib.hid (show val (wd M ++ [0]) = (M : Int) by rw [val_append0, val_wd])
  obtain ⟨us0, hus⟩ : ∃ us0, us0 = wd M ++ [0] := ⟨_, rfl⟩
  rw [← hus] at HOu HUL HUW HUV
  clear hus hO5 hg5 hg2 hg2' HO4 HVB HOv' hx34
  have HOq := Lib.hid hO6
  have HAq := Lib.hid (show g2 ≠ w5.heap.size from fun e => by have := HOu.out.block.2; simp only at this; omega)
  have HAr : Hid (∀ b, g1 = some b → b.block ≠ w5.heap.size) := fun b hb e => by subst hb; have := HOv.out.block.2; omega
  have HX6 := Lib.hid (HX5.out.trans hG6)
  have HQB := Lib.hid HX5.out.size
  have HOu := Lib.hid (HOu.out.ext hG6)
  have HOv := Lib.hid (HOv.out.ext hG6)
  have HBeg := Lib.hid (over_begin M D P L Lq HP.out (by omega) hle hLq (by have := HNW.out.1; rw [HL.out]; exact this))
  have HLQ := Lib.hid hLq
  clear hO6 hG6 hLq HX5
  generalize hgq : w5.heap.size = gq at *
  clear hgq HX3 HX4 HT
  have HM := Lib.hid (show (D : Int) < pw L from by have := wd_lt_pw D; rw [HDL.out] at this; exact this)
  have hc5 : P + 1 ≤ c5 := by have := HOu.out.rd.cap; rw [HUL.out] at this; exact this
  have hc5m : c5 ≤ 9223372036854775807 := HOu.out.rd.capm
  have hB0 : 0 < L := by omega
  go_wp2_with fail
  go_loopw [12] (fun i wr => ∃ (k : Nat) (us qs : List Int), k ≤ Lq ∧ Hid (us.length = P + 1) ∧ Hid (qs.length = Lq) ∧ Hid (Wf us) ∧ Hid (Wf qs) ∧ Hid ((D : Int) * val qs + val us = (M : Int)) ∧ Hid (val us < (D : Int) * pw k) ∧ Hid (∀ j, j < k → nth qs j = 0) ∧ i = .int .i64 ((k : Int) - 1) ∧ Hid (Own wr w.heap.size (some ⟨g2, 0, none⟩) c5 us) ∧ Hid (Own wr w.heap.size (some ⟨gq, 0, none⟩) Lq qs) ∧ Hid (Own wr w.heap.size g1 cv (wd D)) ∧ Hid (Ext w wr)) (fun i _ => (intOf i + 1).toNat)
  case atStart => exact ⟨Lq, us0, List.replicate Lq 0, by omega, HUL.out, List.length_replicate, HUW.out, wf_zeros _, by show _ = _; rw [show val (List.replicate Lq 0) = 0 from V_zeros _ _, Int.mul_zero, Int.zero_add]; exact HUV.out, by show _ < _; rw [HUV.out]; exact HBeg.out, fun j _ => nth_zeros _ _, rfl, HOu.out, HOq.out.lower HQB.out, HOv.out, HX6.out⟩
  case round =>
    clear HOu HOq HOv HX6 HUL HUW HUV HBeg
    obtain ⟨k, us, qs, hk, HUL, HQL, HW, HQW, HE, HB', HZ, rfl, HOu, HOq, HOv, HX⟩ := hrel
    cases k with
    | zero =>
      obtain ⟨vq, hvq⟩ := Int.eq_ofNat_of_zero_le HQW.out.val_nonneg
      obtain ⟨vu, hvu⟩ := Int.eq_ofNat_of_zero_le HW.out.val_nonneg
      have hend := div_end m n s vq vu (by omega) (by have := HE.out; rw [hvq, hvu, HD.out, HMM.out] at this; exact this) (by have := HB'.out; rw [hvu, pw_zero, HD.out] at this; omega)
      have hll : (wd vu).length ≤ 8193 := by
        have h1 : vu ≤ D := by have := HB'.out; rw [hvu, pw_zero] at this; omega
        have h2 := wd_len_mono h1
        rw [HDL.out] at h2
        omega
      have HVQ := Lib.hid hvq
      have HVU := Lib.hid hvu
      obtain rfl : vq = Q := hend.1.trans HQ.out
      have HRR := Lib.hid (hend.2.trans HR.out)
      clear hvq hvu hend
      go_wp2_with fail
      refine (gtrim_any (some ⟨gq, 0, none⟩) qs Lq Lq vq _ HOq.out.rd HQL.out HQW.out HVQ.out (by have := HLQ.out; omega)).mono ?_; rintro e w7 ⟨A7, c7, rfl, h7, hx7⟩
      have HO7 := Lib.hid h7
      have HX7 := Lib.hid hx7
      clear h7 hx7
      go_wp2_with fail
      refine (gtrim_any (some ⟨g2, 0, none⟩) us c5 (P + 1) vu _ (HOu.out.ext HX7.out).rd HUL.out HW.out HVU.out (by omega)).mono ?_; rintro e w8 ⟨A8, c8, rfl, h8, hx8⟩
      have HO8 := Lib.hid h8
      have HX8 := Lib.hid hx8
      clear h8 hx8
      go_wp2_with fail
      refine (gdown_any _ vu s _ _ HO8.out.rd hs31 hll R HRR.out).mono ?_; rintro e w9 ⟨A9, c9, rfl, h9, hx9⟩
      have HO9 := Lib.hid h9
      have HX9 := Lib.hid hx9
      clear h9 hx9
      go_wp2_with fail
      go_ret2
      exact ⟨A7, c7, A9, c9, rfl, (HO7.out.ext (HX8.out.trans HX9.out)).lower HX.out.size, HO9.out.lower (HX.out.trans (HX7.out.trans HX8.out)).size, HX.out.trans (HX7.out.trans (HX8.out.trans HX9.out))⟩
    | succ k =>
      have e1 : (((k + 1 : Nat) : Int) - 1) = (k : Int) := by omega
      rw [e1]
      clear e1
      have hkL : k + (L + 1) ≤ P + 1 := by have := HLQ.out; omega
      have hgu := part_lt us k L D HW.out (by rw [HUL.out]; exact hkL) HB'.out
      obtain ⟨mm, hmm⟩ := Int.eq_ofNat_of_zero_le (Vo_bd HW.out k (L + 1)).1
      rw [hmm] at hgu
      have HMV := Lib.hid hmm
      have HGU := Lib.hid (show mm < D * 4294967296 by omega)
      clear hgu hmm
      go_wp2_with fail
      rw [show k + L + 1 - k = L + 1 by omega]
      have hdg := gdigit_any g1 us g2 k c5 (c5 - k) cv K w.heap.size mm D wr HOu.out HOv.out.rd (by rw [HUL.out]; have := HL.out; omega) HW.out (by rw [show K + 2 = L + 1 by have := HL.out; omega]; exact HMV.out) (by rw [HDL.out]; exact HL.out) HGU.out (by rw [HDL.out]; have := HL.out; have := HK.out; omega) (by have := HL.out; omega) (by omega) HAp.out L HL.out
      refine hdg.mono ?_
      clear hdg
      rintro e wo ⟨us1, x, rfl, hx1, rfl, hul1, hw1, hv1, hs1, ho1, hg1⟩
      have HOq2 := Lib.hid (HOq.out.kept hg1 (fun a ha e => by cases ha; injection e with e; exact HAq.out e.symm))
      have HOv2 := Lib.hid (HOv.out.kept hg1 (fun a ha e => by injection e with e; exact HAp.out a ha e))
      have HX2 := Lib.hid (HX.out.grown hg1 (fun k hk => by cases hk; exact HB2.out))
      have HOu2 := Lib.hid ho1
      clear hg1 ho1 HOu HOq HOv HX
      have hco := HOq2.out.cell k (by rw [HQL.out]; omega)
      have hfo := HOq2.out.free k
      rw [HZ.out k (by omega)] at hco
      rw [show K + 2 = L + 1 by have := HL.out; omega] at hv1 hs1
      have hpo := part_off us us1 k L D ((mm / D : Nat) : Int) HW.out (by rw [HUL.out]; exact hkL) hul1 HM.out HB'.out hs1 (by rw [hv1, HMV.out]; have := Nat.div_add_mod mm D; rw [← Int.natCast_mul, Nat.mul_comm]; omega) (by rw [hv1]; have := Nat.mod_lt mm (show 0 < D by have := HGU.out; omega); omega)
      obtain ⟨x, hx⟩ : ∃ x, mm / D = x := ⟨_, rfl⟩
      rw [hx] at hpo hx1 ⊢
      have HUL2 := Lib.hid (hul1.trans HUL.out)
      have HW2 := Lib.hid hw1
      have HB2' := Lib.hid hpo.2
      have HE2 := Lib.hid (q_round qs k x D _ _ _ (by rw [HQL.out]; omega) (HZ.out k (by omega)) HE.out hpo.1)
      clear hpo hul1 hw1 hv1 hs1 hx
      go_wp2_with fail
      go_roundw
      case rel => exact ⟨k, us1, qs.set k (x : Int), by omega, HUL2.out, by unfold Hid; rw [List.length_set]; exact HQL.out, HW2.out, wf_set HQW.out _ _ (by omega) (by omega), HE2.out, HB2'.out, fun j hj => by rw [nth_set_ne _ _ _ _ (by omega)]; exact HZ.out j (by omega), rfl, (HOu2.out.kept (HOq2.out.set k _).2 (fun a ha e => by cases ha; injection e with e; exact HAq.out e)), (HOq2.out.set k _).1, (HOv2.out.kept (HOq2.out.set k _).2 (fun a ha e => by injection e with e; exact HAr.out a ha e)), HX2.out.setCell HQB.out _⟩
      case measure => simp [intOf]

theorem gover_any (A B : Option Addr) (m n c d : Nat) (w : World) (ha : Rd w A c (wd m)) (hb : Rd w B d (wd n)) (hn : n ≠ 0) (lm : (wd m).length ≤ 8192) (Q R : Nat) (hQ : m / n = Q) (hR : m % n = R) :
    Calls Tryz.prog 238 #[.slice A (wd m).length c, .slice B (wd n).length d] w (Pair w Q R) := by
  rcases Nat.lt_or_ge m n with h | h
  · exact gover_less A B m n c d w ha hb h lm Q R hQ hR
  · have h0 : (wd n).length ≠ 0 := fun e => hn (wd_len_zero.1 e)
    rcases Nat.lt_or_ge 1 (wd n).length with h1 | h1
    · exact gover_long A B m n c d w ha hb h h1 lm Q R hQ hR
    · exact gover_one A B m n c d w ha hb h (by omega) lm Q R hQ hR

end Go.Proofs.YtifonmdcicegdaaGreat

namespace Go.Proofs.YtifonmdcicegdaaGreat
open Go Go.RowKit

set_option maxHeartbeats 2000000 in
theorem gcommon_any (A B : Option Addr) (m n c d : Nat) (w : World) (ha : Rd w A c (wd m)) (hb : Rd w B d (wd n)) (lm : (wd m).length ≤ 8192) (ln : (wd n).length ≤ 8192) :
    Calls Tryz.prog 244 #[.slice A (wd m).length c, .slice B (wd n).length d] w fun e w' => ∃ A c, e = .returned (.slice A (wd (Nat.gcd m n)).length c) ∧ Own w' w.heap.size A c (wd (Nat.gcd m n)) ∧ Ext w w' := by
  have HA := Lib.hid ha
  have HB := Lib.hid hb
  clear ha hb
  go_enter Tryz.func244, Tryz.ntmps244
  go_wp2_with fail
  go_loopg [0, 1] n (fun q x y wr => ∃ (p : Nat) (P Q : Option Addr) (cp cq : Nat), x = .slice P (wd p).length cp ∧ y = .slice Q (wd q).length cq ∧ Hid (Nat.gcd p q = Nat.gcd m n) ∧ (wd p).length ≤ 8192 ∧ (wd q).length ≤ 8192 ∧ Hid (Rd wr P cp (wd p)) ∧ Hid (Rd wr Q cq (wd q)) ∧ Hid (Ext w wr))
  case atStart => exact ⟨m, A, B, c, d, rfl, rfl, rfl, lm, ln, HA.out, HB.out, Ext.refl _⟩
  case round =>
    clear HA HB
    obtain ⟨p, P, Q, cp, cq, rfl, rfl, hg, lp, lq, HP, HQ, HX⟩ := hrel
    obtain ⟨q, rfl⟩ : ∃ q, q = gk := ⟨_, rfl⟩
    have hgc := Lib.hid (gcd_step p q)
    by_cases h0 : (wd q).length = 0
    · have hq0 : q = 0 := wd_len_zero.1 h0
      have HE := Lib.hid (show p = Nat.gcd m n by rw [← hg.out, hq0, Nat.gcd_zero_right])
      have hbe : ¬ (0 : Int) < ((wd q).length : Int) := by omega
      clear hq0 h0
      go_wp2_with fail
      refine (gtrim_any _ _ _ _ p _ HP.out rfl (wf_wd p) (val_wd p) (by omega)).mono ?_; rintro e w5 ⟨A5, c5, rfl, h5, hx5⟩
      have H5 := Lib.hid (h5.lower HX.out.size)
      have HX5 := Lib.hid (HX.out.trans hx5)
      clear h5 hx5
      go_wp2_with fail
      go_ret
      exact ⟨A5, c5, by rw [← HE.out]; rfl, by rw [← HE.out]; exact H5.out, HX5.out⟩
    · have hq0 : q ≠ 0 := fun e => h0 (wd_len_zero.2 e)
      have hbe : (0 : Int) < ((wd q).length : Int) := by omega
      have hml : p % q < q := Nat.mod_lt p (by omega)
      have hml2 := wd_len_mono (show p % q ≤ q by omega)
      obtain ⟨s, hs⟩ : ∃ s, p / q = s := ⟨_, rfl⟩
      obtain ⟨r, hr⟩ : ∃ r, p % q = r := ⟨_, rfl⟩
      have HV := Lib.hid (gover_any P Q p q cp cq wr HP.out HQ.out hq0 lp s r hs hr)
      rw [hr] at hml hml2 hgc
      clear hs hr h0
      go_wp2_with fail
      refine HV.out.mono ?_; rintro e w3 ⟨A3, c3, B3, d3, rfl, h1, h2, h4⟩
      have HQ3 := Lib.hid (HQ.out.ext h4)
      have HR3 := Lib.hid h2.rd
      have HX3 := Lib.hid (HX.out.trans h4)
      clear h1 h2 h4
      go_wp2_with fail
      go_roundg r
      case measure => exact hml
      case rel => exact ⟨q, Q, B3, cq, d3, rfl, rfl, hgc.out.trans hg.out, lq, by omega, HQ3.out, HR3.out, HX3.out⟩

set_option maxHeartbeats 1000000 in
theorem gdivMod_any (A B : Option Addr) (m n c d : Nat) (w : World) (ha : Rd w A c (wd m)) (hb : Rd w B d (wd n)) (hn : n ≠ 0) (lm : (wd m).length ≤ 8192) (ln : (wd n).length ≤ 8192) (Q R : Nat) (hQ : m / n = Q) (hR : m % n = R) :
    Calls Tryz.prog 150 #[.slice A (wd m).length c, .slice B (wd n).length d] w fun e w' => ∃ A c B d, e = .returned (.tuple #[.slice A (wd Q).length c, .slice B (wd R).length d, .int .i64 0]) ∧ Own w' w.heap.size A c (wd Q) ∧ Own w' w.heap.size B d (wd R) ∧ Ext w w' := by
  have HA := Lib.hid ha
  have HB := Lib.hid hb
  have h0 : (((wd n).length : Int) == 0) = false := beq_eq_false_iff_ne.2 (fun e => hn (wd_len_zero.1 (by omega)))
  have HV := Lib.hid (gover_any A B m n c d w ha hb hn lm Q R hQ hR)
  clear ha hb hQ hR
  go_enter Tryz.func150, Tryz.ntmps150
  go_wp2_with fail
  refine (gboth_ok _ _ m n _ _ _ HA.out HB.out lm ln).mono ?_; rintro e w1 ⟨rfl, rfl⟩
  go_wp2_with fail
  refine HV.out.mono ?_; rintro e w3 ⟨A3, c3, B3, d3, rfl, h1, h2, h4⟩
  have H1 := Lib.hid h1
  have H2 := Lib.hid h2
  have H4 := Lib.hid h4
  clear h1 h2 h4
  go_wp2_with fail
  go_ret3
  exact ⟨A3, c3, B3, d3, rfl, H1.out, H2.out, H4.out⟩

set_option maxHeartbeats 1000000 in
theorem ggcd_any (A B : Option Addr) (m n c d : Nat) (w : World) (ha : Rd w A c (wd m)) (hb : Rd w B d (wd n)) (lm : (wd m).length ≤ 8192) (ln : (wd n).length ≤ 8192) (lg : (wd (Nat.gcd m n)).length ≤ 8192) :
    Calls Tryz.prog 157 #[.slice A (wd m).length c, .slice B (wd n).length d] w (One w (Nat.gcd m n)) := by
  have HA := Lib.hid ha
  have HB := Lib.hid hb
  clear ha hb
  go_enter Tryz.func157, Tryz.ntmps157
  go_wp2_with fail
  refine (gboth_ok _ _ m n _ _ _ HA.out HB.out lm ln).mono ?_; rintro e w1 ⟨rfl, rfl⟩
  go_wp2_with fail
  refine (gcommon_any _ _ m n _ _ _ HA.out HB.out lm ln).mono ?_; rintro e w1 ⟨A1, c1, rfl, h1, hx1⟩
  have H1 := Lib.hid h1
  have HX1 := Lib.hid hx1
  clear h1 hx1
  go_wp2_with fail
  refine (gtold_ok _ _ _ _ lg).mono ?_; rintro e w2 ⟨rfl, rfl⟩
  go_wp2_with fail
  go_ret2
  exact ⟨A1, c1, rfl, H1.out, HX1.out⟩

end Go.Proofs.YtifonmdcicegdaaGreat

