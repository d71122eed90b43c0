/- The reference's Less, small, Bits. -/
import Derived.Test.YtnhgagfkepmanaaG2
namespace Go.Proofs.Ytnhgagfkepmanaa
open Go Go.RowKit

theorem gword_q (A : Option Addr) (xs : List Int) (c l k : Nat) (w : World) (h : Rd w A c xs) (hl : xs.length = l) :
    Calls Try.prog 81 #[.slice A l c, .int .i64 k] w fun e w' => e = .returned (.int .u32 (nth xs k)) ∧ w' = w :=
  (gword_any A xs c l k w h hl).mono fun _ _ ⟨h1, h2⟩ => ⟨h1, h2.symm⟩

set_option maxHeartbeats 1000000 in
theorem gless_any (A B : Option Addr) (xs : List Int) (n : Nat) (c d l m : Nat) (w : World) (ha : Rd w A c xs) (hb : Rd w B d (wd n)) (hl : xs.length = l) (hx : Wf xs) (hm : val xs = m) (hnm : n ≤ m) (lm : l ≤ 16384) :
    Calls Try.prog 82 #[.slice A l c, .slice B (wd n).length d] w fun e w' => ∃ A' c', e = .returned (.slice A' (wd (m - n)).length c') ∧ Own w' w.heap.size A' c' (wd (m - n)) ∧ Ext w w' := by
  subst hl
  have hnl : (wd n).length ≤ xs.length := wd_len_le n _ (by have := V_lt hx xs.length; unfold val at hm; omega)
  have HA := Lib.hid ha
  have HB := Lib.hid hb
  have HW := Lib.hid hx
  have HM := Lib.hid hm
  clear ha hb hx hm
  go_enter Try.func82, Try.ntmps82
  go_wp2_with (at_make; refine wpList_mk rfl _ _ rfl xs.length _ _ rfl rfl (by omega) (by omega) (by omega) ?_; intro w1 hO hG)
  have HO := Lib.hid hO
  have HG := Lib.hid hG
  clear hO hG
  go_wp2_with fail
  go_loopw [6, 7] (fun bo i wr => ∃ (k : Nat) (us : List Int) (b : Int), k ≤ xs.length ∧ Hid (us.length = xs.length) ∧ Hid (Wf us) ∧ 0 ≤ b ∧ b ≤ 1 ∧ Hid (V us k + V (wd n) k = V xs k + b * pw k) ∧ bo = .int .u64 b ∧ i = .int .i64 k ∧ Hid (Own wr w.heap.size (some ⟨w.heap.size, 0, none⟩) xs.length us) ∧ Hid (Ext w wr)) (fun _ i _ => xs.length - (intOf i).toNat)
  case atStart => exact ⟨0, _, 0, by omega, List.length_replicate, wf_zeros _, by omega, by omega, by show _ = _; simp [V_zero], rfl, rfl, HO, HG⟩
  case round =>
    clear HO HG
    obtain ⟨k, us, b, hk, HUL, HU, hb0, hb1, HV, rfl, rfl, HO, HX⟩ := hrel
    by_cases hkm : k < xs.length
    · obtain ⟨a, rfl, hca⟩ := (HA.out.ext HX.out).at_ k hkm
      have hco := HO.out.cell k (by have := HUL.out; omega)
      have hfo := HO.out.free k
      have bx := nth_wf HW.out k
      have by_ := nth_wf (wf_wd n) k
      have HWD := fun q => Lib.hid (gword_q B (wd n) d _ k (wr.drewN q) ((HB.out.ext HX.out).ext ((Ext.refl wr).drewN q)) rfl)
      have HV2 := sub_round us xs (wd n) k b (by have := HUL.out; omega) bx by_ ⟨hb0, hb1⟩ HV.out
      obtain ⟨x, hx⟩ : ∃ x, x = nth xs k := ⟨_, rfl⟩
      obtain ⟨y, hy⟩ : ∃ y, y = nth (wd n) k := ⟨_, rfl⟩
      rw [← hx] at hca bx HV2
      rw [← hy] at by_ HV2 HWD
      have HWW := Lib.hid HWD
      clear hx hy HWD
      have s1 : IntKind.u64.wrap (y + b) = y + b := IntWalk.u64_in _ (by omega)
      by_cases hlt : x < y + b
      · have HV3 := Lib.hid (show V (us.set k (x + 4294967296 - (y + b))) (k + 1) + V (wd n) (k + 1) = V xs (k + 1) + 1 * pw (k + 1) by
          rw [show (x - b - y) % 4294967296 = x + 4294967296 - (y + b) by omega, show owed (x - b - y) = 1 by unfold owed; rw [if_pos (by omega)]] at HV2
          exact HV2)
        clear HV2
        go_wp2_with fail
        go_quiet ((go_at_call 81; exact Calls.quiet_of_same (HWW.out _).out))
        go_wp2_with fail
        go_roundw
        case rel =>
          exact ⟨k + 1, _, _, by omega, by unfold Hid; rw [List.length_set]; exact HUL.out, wf_set HU.out _ _ (by omega) (by omega), by omega, by omega, HV3.out, rfl, by go_num, ((HO.out.drewN _).set k _).1, (HX.out.drewN _).setCell (Nat.le_refl _) _⟩
        case measure => simp [intOf]; omega
      · have HV3 := Lib.hid (show V (us.set k (x - (y + b))) (k + 1) + V (wd n) (k + 1) = V xs (k + 1) + 0 * pw (k + 1) by
          rw [show (x - b - y) % 4294967296 = x - (y + b) by omega, show owed (x - b - y) = 0 by unfold owed; rw [if_neg (by omega)]] at HV2
          exact HV2)
        clear HV2
        go_wp2_with fail
        go_quiet ((go_at_call 81; exact Calls.quiet_of_same (HWW.out _).out))
        go_wp2_with fail
        go_roundw
        case rel =>
          exact ⟨k + 1, _, _, by omega, by unfold Hid; rw [List.length_set]; exact HUL.out, wf_set HU.out _ _ (by omega) (by omega), by omega, by omega, HV3.out, rfl, by go_num, ((HO.out.drewN _).set k _).1, (HX.out.drewN _).setCell (Nat.le_refl _) _⟩
        case measure => simp [intOf]; omega
    · have hkl : k = xs.length := by omega
      subst hkl
      have HE := Lib.hid (show val us = ((m - n : Nat) : Int) by
        have h1 := HV.out
        rw [V_out (wd n) _ hnl, val_wd] at h1
        have h2 := HM.out
        have h3 := V_lt HU.out xs.length
        have h4 := V_nonneg HU.out xs.length
        have h5 := pw_pos xs.length
        unfold val at h2 ⊢
        rw [HUL.out]
        have hb : b = 0 ∨ b = 1 := by omega
        rcases hb with rfl | rfl <;> omega)
      go_wp2_with fail
      refine (gtrim_any _ us _ _ _ _ HO.out.rd HUL.out HU.out HE.out (by omega)).mono ?_; rintro e w2 ⟨A2, c2, rfl, h2, hx2⟩
      have H2 := Lib.hid (h2.lower HX.out.size)
      have HX2 := Lib.hid (HX.out.trans hx2)
      clear h2 hx2
      go_wp2_with fail
      go_ret
      exact ⟨_, _, rfl, H2.out, HX2.out⟩

set_option maxHeartbeats 1000000 in
theorem gsmall_any (A : Option Addr) (m : Nat) (D : Nat) (c : Nat) (w : World) (ha : Rd w A c (wd m)) (hd0 : 0 < D) (hd1 : D < 4294967296) (lm : (wd m).length ≤ 16384) (Q R : Nat) (hQ : m / D = Q) (hR : m % D = R) :
    Calls Try.prog 85 #[.slice A (wd m).length c, .int .u32 D] w fun e w' => ∃ A' c', e = .returned (.tuple #[.slice A' (wd Q).length c', .int .u32 R]) ∧ Own w' w.heap.size A' c' (wd Q) ∧ Ext w w' := by
  have HA := Lib.hid ha
  have HQQ := Lib.hid hQ
  have HRR := Lib.hid hR
  have hRd : R < D := hR ▸ Nat.mod_lt m hd0
  clear ha hQ hR
  go_enter Try.func85, Try.ntmps85
  go_wp2_with (at_make; refine wpList_mk rfl _ _ rfl (wd m).length _ _ rfl rfl (by omega) (by omega) (by omega) ?_; intro w1 hO hG)
  have HO := Lib.hid hO
  have HG := Lib.hid hG
  clear hO hG
  go_wp2_with fail
  go_loopw [7, 8] (fun ro i wr => ∃ (k : Nat) (us : List Int) (r : Int), k ≤ (wd m).length ∧ Hid (us.length = (wd m).length) ∧ Hid (Wf us) ∧ 0 ≤ r ∧ r < D ∧ Hid ((V us (wd m).length - V us k) * D + r * pw k + V (wd m) k = m) ∧ ro = .int .u64 r ∧ i = .int .i64 ((k : Int) - 1) ∧ Hid (Own wr w.heap.size (some ⟨w.heap.size, 0, none⟩) (wd m).length us) ∧ Hid (Ext w wr)) (fun _ i _ => (intOf i + 1).toNat)
  case atStart => exact ⟨(wd m).length, _, 0, by omega, List.length_replicate, wf_zeros _, by omega, by omega, by show _ = _; have := val_wd m; unfold val at this; rw [Int.sub_self, Int.zero_mul, Int.zero_mul]; omega, rfl, rfl, HO, HG⟩
  case round =>
    clear HO HG
    obtain ⟨k, us, r, hk, HUL, HU, hr0, hr1, HV, rfl, rfl, HO, HX⟩ := hrel
    cases k with
    | zero =>
      have he := small_end us m D _ r HUL.out HU.out hr0 hr1 HV.out
      rw [HQQ.out, HRR.out] at he
      have HE := Lib.hid he.1
      have HM := Lib.hid he.2
      clear he
      go_wp2_with fail
      refine (gtrim_any _ us _ _ _ _ HO.out.rd HUL.out HU.out HE.out (by omega)).mono ?_; rintro e w2 ⟨A2, c2, rfl, h2, hx2⟩
      have H2 := Lib.hid (h2.lower HX.out.size)
      have HX2 := Lib.hid (HX.out.trans hx2)
      clear h2 hx2
      go_wp2_with fail
      go_ret2
      exact ⟨_, _, by rw [HM.out]; rfl, H2.out, HX2.out⟩
    | succ k =>
      have e1 : (((k + 1 : Nat) : Int) - 1) = (k : Int) := by omega
      rw [e1]
      clear e1
      obtain ⟨a, rfl, hca⟩ := (HA.out.ext HX.out).at_ k (by omega)
      have hco := HO.out.cell k (by have := HUL.out; omega)
      have hfo := HO.out.free k
      have bx := nth_wf (wf_wd m) k
      obtain ⟨x, hx⟩ : ∃ x, x = nth (wd m) k := ⟨_, rfl⟩
      rw [← hx] at hca bx
      have Hx := Lib.hid hx
      clear hx
      have hq := quo_lt r x D hr0 hr1 bx
      have HV2 := Lib.hid (small_round us (wd m) k (wd m).length r D m (by have := HUL.out; omega) (by omega) HV.out)
      rw [← Hx.out] at HV2
      have hm0 := Int.emod_nonneg (r * 4294967296 + x) (show (D : Int) ≠ 0 by omega)
      have hm1 := Int.emod_lt_of_pos (r * 4294967296 + x) (show (0 : Int) < D by omega)
      have hdz : ((D : Int) == 0) = false := beq_eq_false_iff_ne.2 (by omega)
      go_wp2_with fail
      go_roundw
      case rel =>
        exact ⟨k, _, _, by omega, by unfold Hid; rw [List.length_set]; exact HUL.out, wf_set HU.out _ _ hq.1 hq.2, hm0, hm1, HV2.out, rfl, rfl, (HO.out.set k _).1, HX.out.setCell (Nat.le_refl _) _⟩
      case measure => simp [intOf]

set_option maxHeartbeats 1000000 in
theorem gbits_any (B : Option Addr) (n t K : Nat) (d : Nat) (w : World) (hb : Rd w B d (wd n)) (hK : (wd n).length = K + 1) (ht : nth (wd n) K = t) (lm : (wd n).length ≤ 16384) :
    Calls Try.prog 86 #[.slice B (wd n).length d] w fun e w' => ∃ j : Nat, 0 < j ∧ j ≤ 32 ∧ 2 ^ (j - 1) ≤ t ∧ t < 2 ^ j ∧ e = .returned (.int .i64 ((32 * K + j : Nat) : Int)) ∧ Ext w w' := by
  have hn0 : n ≠ 0 := fun e => by have := wd_len_zero.2 e; omega
  have hl := wd_last n hn0
  rw [show (wd n).length - 1 = K by omega, ht] at hl
  have bt := nth_wf (wf_wd n) K
  rw [ht] at bt
  have ht0 : 0 < t := by omega
  have ht1 : t < 4294967296 := by omega
  have hbe : (((wd n).length : Int) == 0) = false := beq_eq_false_iff_ne.2 (by omega)
  have hi : (((wd n).length : Int) - 1).toNat = K := by omega
  have hKI : ((wd n).length : Int) - 1 = K := by omega
  have HB := Lib.hid hb
  have HT := Lib.hid ht
  have HK := Lib.hid hK
  have HKI := Lib.hid hKI
  clear hb hl ht hK hKI
  go_enter Try.func86, Try.ntmps86
  go_wp2_with fail
  refine (gtrim_any _ _ _ _ n _ HB.out rfl (wf_wd n) (val_wd n) (by omega)).mono ?_; rintro e w1 ⟨A1, c1, rfl, h1, hx1⟩
  have H1 := Lib.hid h1
  have HX1 := Lib.hid hx1
  obtain ⟨a1, rfl, hc1⟩ := h1.rd.at_ K (by have := HK.out; omega)
  rw [HT.out] at hc1
  have hKl : (K : Int) < (wd n).length := by have := HK.out; omega
  clear h1 hx1
  go_wp2_with fail
  go_loop [4, 5] (fun nn x => ∃ j y : Nat, j ≤ 32 ∧ y < 4294967296 ∧ Hid (y = t / 2 ^ j) ∧ Hid (j = 0 ∨ 2 ^ (j - 1) ≤ t) ∧ nn = .int .i64 ((32 * K + j : Nat) : Int) ∧ x = .int .u32 y) (fun _ x => (intOf x).toNat)
  case atStart => exact ⟨0, t, by omega, ht1, by show _ = _; rw [Nat.pow_zero, Nat.div_one], .inl rfl, by rw [HKI.out]; go_num, rfl⟩
  case round =>
    obtain ⟨j, y, hj, hy, HY, HJ, rfl, rfl⟩ := hrel
    by_cases h0 : 0 < y
    · have hjt : 2 ^ j ≤ t := by
        have h1 := HY.out
        rcases Nat.lt_or_ge t (2 ^ j) with h | h
        · rw [Nat.div_eq_of_lt h] at h1; omega
        · exact h
      have hj2 : j < 32 := by
        rcases Nat.lt_or_ge j 32 with h | h
        · exact h
        · have : 2 ^ 32 ≤ 2 ^ j := Nat.pow_le_pow_right (by omega) h
          omega
      have HY2 := Lib.hid (show y / 2 = t / 2 ^ (j + 1) by rw [HY.out, Nat.div_div_eq_div_mul, Nat.pow_succ])
      have HJT := Lib.hid hjt
      have HC := Lib.hid (show ((32 * K + (j + 1) : Nat) : Int) = 32 * (K : Int) + j + 1 by omega)
      clear hjt
      go_wp2_with fail
      go_round
      case rel => exact ⟨j + 1, y / 2, by omega, by omega, HY2.out, .inr HJT.out, by rw [HC.out], by rw [Int.natCast_ediv]; rfl⟩
      case measure => simp [intOf]; omega
    · have hy0 : y = 0 := by omega
      have HLt := Lib.hid (show t < 2 ^ j by
        have h1 := HY.out
        rw [hy0] at h1
        rcases Nat.lt_or_ge t (2 ^ j) with h | h
        · exact h
        · have := Nat.div_pos h (Nat.pow_pos (n := j) (show 0 < 2 by omega)); omega)
      clear hy0
      go_wp2_with fail
      go_ret
      refine ⟨j, ?_, hj, ?_, HLt.out, rfl, HX1.out⟩
      · rcases Nat.eq_zero_or_pos j with h | h
        · have := HLt.out; rw [h] at this; omega
        · exact h
      · rcases HJ.out with h | h
        · have := HLt.out; rw [h] at this; omega
        · exact h

end Go.Proofs.Ytnhgagfkepmanaa
