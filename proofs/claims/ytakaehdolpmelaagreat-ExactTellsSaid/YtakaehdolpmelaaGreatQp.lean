/- Texts of this claim, joined: G2 G3 G4 G5. -/
import Derived.Test.YtakaehdolpmelaaGreatQo
set_option linter.unusedVariables false
set_option linter.unusedSimpArgs false
set_option maxRecDepth 100000
namespace Go.Proofs.YtakaehdolpmelaaGreat
open Go Go.RowKit
set_option maxHeartbeats 1000000 in
theorem gcompare_any (A B : Option Addr) (xs ys : List Int) (c d la lb m n : Nat) (w : World) (ha : Rd w A c xs) (hb : Rd w B d ys) (hla : xs.length = la) (hlb : ys.length = lb) (hx : Wf xs) (hy : Wf ys) (hm : val xs = m) (hn : val ys = n) :
    Calls Tryz.prog 182 #[.slice A la c, .slice B lb d] w fun e w' => e = .returned (.int .i64 (cmp m n)) ∧ w = w' := by
  have l1 := ha.lim
  have l2 := hb.lim
  have H1 := fun k => Lib.hid (gword_any A xs c la k w ha hla)
  have H2 := fun k => Lib.hid (gword_any B ys d lb k w hb hlb)
  have HH1 := Lib.hid H1
  have HH2 := Lib.hid H2
  rw [hla] at l1
  rw [hlb] at l2
  obtain ⟨N, hN⟩ : ∃ N, N = max la lb := ⟨_, rfl⟩
  have hNb : la ≤ N ∧ lb ≤ N ∧ N ≤ 9223372036854775807 := by omega
  have HM := Lib.hid (show V xs N = m by rw [V_out _ _ (by omega), hm])
  have HN := Lib.hid (show V ys N = n by rw [V_out _ _ (by omega), hn])
  have HX := Lib.hid hx
  have HY := Lib.hid hy
  have hmax : Max.max (la : Int) (lb : Int) = (N : Int) := by omega
  clear H1 H2 ha hb hla hlb hx hy hm hn hN
  go_enter Tryz.func182, Tryz.ntmps182
  go_wp2_with fail
  go_loop [6] (fun i => ∃ k : Nat, k ≤ N ∧ Hid (V xs k + V ys N = V ys k + V xs N) ∧ i = .int .i64 ((k : Int) - 1)) (fun i => (intOf i + 1).toNat)
  case atStart => exact ⟨N, by omega, by show _ = _; omega, rfl⟩
  case round =>
    obtain ⟨k, hk, hv, rfl⟩ := hrel
    cases k with
    | zero =>
      have HE := Lib.hid (show cmp m n = 0 by
        apply cmp_eq
        have h1 := HM.out
        have h2 := HN.out
        have h3 := hv.out
        rw [V_zero, V_zero] at h3
        omega)
      go_wp2_with fail
      go_ret
      exact ⟨by rw [HE.out]; rfl, rfl⟩
    | succ k =>
      have e1 : (((k + 1 : Nat) : Int) - 1) = (k : Int) := by omega
      rw [e1]
      clear e1
      go_wp2_with fail
      refine (HH1.out k).out.mono ?_; rintro e w' ⟨rfl, rfl⟩
      go_wp2_with fail
      refine (HH2.out k).out.mono ?_; rintro e w' ⟨rfl, rfl⟩
      by_cases h1 : nth xs k < nth ys k
      · have HE := Lib.hid (show cmp m n = -1 by
          apply cmp_lt
          have h2 := V_below HX.out HY.out k h1
          have h3 := hv.out
          have h4 := HM.out
          have h5 := HN.out
          omega)
        go_wp2_with fail
        go_ret
        exact ⟨by rw [HE.out]; rfl, rfl⟩
      · by_cases h2 : nth ys k < nth xs k
        · have HE := Lib.hid (show cmp m n = 1 by
            apply cmp_gt
            have h2 := V_below HY.out HX.out k h2
            have h3 := hv.out
            have h4 := HM.out
            have h5 := HN.out
            omega)
          go_wp2_with fail
          go_ret
          exact ⟨by rw [HE.out]; rfl, rfl⟩
        · have HV := Lib.hid (show V xs k + V ys N = V ys k + V xs N by
            have h3 := hv.out
            rw [V_succ, V_succ, show nth xs k = nth ys k by omega] at h3
            omega)
          go_wp2_with fail
          go_round
          case rel => exact ⟨k, by omega, HV.out, by go_num⟩
          case measure => simp [intOf]
set_option maxHeartbeats 400000 in
theorem gof_any (x : Nat) (w : World) (hx : x < 18446744073709551616) :
    Calls Tryz.prog 174 #[.int .u64 x] w fun e w' => ∃ A' c', e = .returned (.slice A' (wd x).length c') ∧ Own w' w.heap.size A' c' (wd x) ∧ Ext w w' := by
  have ho := Own.lit w #[.int .u32 ((x : Int) % 4294967296), .int .u32 ((x : Int) / 4294967296)] [(x : Int) % 4294967296, (x : Int) / 4294967296] rfl (by simp)
  have HT := Lib.hid (gtrim_any _ _ _ 2 x _ ho.rd rfl (wf_of x hx) (of_words x) (by omega))
  have h1 : (x : Int) ≤ 18446744073709551615 := by omega
  clear ho
  go_enter Tryz.func174, Tryz.ntmps174
  go_wp2_with fail
  refine HT.out.mono ?_; rintro e w1 ⟨A1, c1, rfl, h1, hx1⟩
  have H1 := Lib.hid (h1.lower (show w.heap.size ≤ (w.alloc _).heap.size by simp))
  have HX1 := Lib.hid (((Ext.refl w).alloc _).trans hx1)
  clear h1 hx1
  go_wp2_with fail
  go_ret
  exact ⟨_, _, rfl, H1.out, HX1.out⟩
set_option maxHeartbeats 2000000 in
theorem gtimes_any (A B : Option Addr) (m n : Nat) (c d : Nat) (w : World) (ha : Rd w A c (wd m)) (hb : Rd w B d (wd n)) (ls : (wd m).length + (wd n).length ≤ 16384) :
    Calls Tryz.prog 184 #[.slice A (wd m).length c, .slice B (wd n).length d] w fun e w' => ∃ A' c', e = .returned (.slice A' (wd (m * n)).length c') ∧ Own w' w.heap.size A' c' (wd (m * n)) ∧ Ext w w' := by
  have HA := Lib.hid ha
  have HB := Lib.hid hb
  clear ha hb
  go_enter Tryz.func184, Tryz.ntmps184
  go_wp2_with (at_make; refine wpList_mk rfl _ _ rfl ((wd m).length + (wd n).length) _ _ rfl rfl (by omega) (by omega) (by omega) ?_; intro w1 hO hG)
  have HO := Lib.hid hO
  have HG := Lib.hid hG
  clear hO hG
  go_wp2_with fail
  go_loopw [6] (fun i wr => ∃ (k : Nat) (us : List Int), k ≤ (wd m).length ∧ Hid (us.length = (wd m).length + (wd n).length) ∧ Hid (Wf us) ∧ Hid (V us ((wd m).length + (wd n).length) = V (wd m) k * val (wd n)) ∧ Hid (∀ j, k + (wd n).length ≤ j → nth us j = 0) ∧ i = .int .i64 k ∧ Hid (Own wr w.heap.size (some ⟨w.heap.size, 0, none⟩) ((wd m).length + (wd n).length) us) ∧ Hid (Ext w wr)) (fun i _ => (wd m).length - (intOf i).toNat)
  case atStart => exact ⟨0, _, by omega, List.length_replicate, wf_zeros _, by show _ = _; rw [V_zeros, V_zero, Int.zero_mul], fun j _ => nth_zeros _ _, rfl, HO, HG⟩
  case round =>
    clear HO HG
    obtain ⟨i, us0, hi, HUL0, HW0, HV0, HZ0, rfl, HO0, HX0⟩ := hrel
    obtain ⟨wo, rfl⟩ : ∃ wo, wo = wr := ⟨_, rfl⟩
    by_cases him : i < (wd m).length
    · have bx := nth_wf (wf_wd m) i
      obtain ⟨a, rfl, hca⟩ := HA.out.at_ i him
      have HCA := Lib.hid hca
      have HVs := Lib.hid (V_succ (wd m) i)
      obtain ⟨x, hx⟩ : ∃ x, x = nth (wd m) i := ⟨_, rfl⟩
      rw [← hx] at HCA bx HVs
      clear hx hca
      go_wp2_with fail
      go_loopw [7, 8] (fun cy kk wr => ∃ (k : Nat) (us : List Int) (t : Int), k ≤ (wd n).length ∧ Hid (us.length = (wd m).length + (wd n).length) ∧ Hid (Wf us) ∧ 0 ≤ t ∧ t ≤ 4294967295 ∧ Hid (V us ((wd m).length + (wd n).length) + t * pw (i + k) = V (wd m) i * val (wd n) + x * V (wd n) k * pw i) ∧ Hid (∀ j, i + (wd n).length ≤ j → nth us j = 0) ∧ cy = .int .u64 t ∧ kk = .int .i64 k ∧ Hid (Own wr w.heap.size (some ⟨w.heap.size, 0, none⟩) ((wd m).length + (wd n).length) us) ∧ Hid (Ext w wr)) (fun _ kk _ => (wd n).length - (intOf kk).toNat)
      case atStart => exact ⟨0, us0, 0, by omega, HUL0.out, HW0.out, by omega, by omega, by show _ = _; rw [HV0.out, V_zero]; simp, HZ0.out, rfl, rfl, HO0, HX0⟩
      case round =>
        clear HO0 HX0
        obtain ⟨k, us, t, hk, HUL, HW, ht0, ht1, HV, HZ, rfl, rfl, HO, HX⟩ := hrel
        by_cases hkn : k < (wd n).length
        · obtain ⟨b, rfl, hcb⟩ := (HB.out.ext HX.out).at_ k hkn
          have hca := HX.out.cell HCA.out
          obtain ⟨ik, hik⟩ : ∃ ik, ik = i + k := ⟨_, rfl⟩
          have hw : IntKind.i64.wrap ((i : Int) + (k : Int)) = (ik : Int) := by rw [IntWalk.i64_in _ (by omega)]; omega
          have hco := HO.out.cell ik (by have := HUL.out; omega)
          have hfo := HO.out.free ik
          have by_ := nth_wf (wf_wd n) k
          have bz := nth_wf HW.out ik
          have pxy := prod_bd bx by_
          have HR := Lib.hid (mul_round us (wd n) i k _ t x _ (by have := HUL.out; omega) (by omega) HV.out)
          rw [← hik] at HR
          have hikb : (ik : Int) < ((wd m).length : Int) + ((wd n).length : Int) := by omega
          have HIK := Lib.hid hik
          obtain ⟨y, hy⟩ : ∃ y, y = nth (wd n) k := ⟨_, rfl⟩
          obtain ⟨z, hz⟩ : ∃ z, z = nth us ik := ⟨_, rfl⟩
          rw [← hy] at hcb by_ pxy HR
          rw [← hz] at hco bz HR
          have s1 : IntKind.u64.wrap (x * y) = x * y := IntWalk.u64_in _ (by omega)
          have s2 : IntKind.u64.wrap (x * y + z) = x * y + z := IntWalk.u64_in _ (by omega)
          obtain ⟨T, hT⟩ : ∃ T, T = t + (x * y + z) := ⟨_, rfl⟩
          have s3 : IntKind.u64.wrap (x * y + z + t) = T := by rw [IntWalk.u64_in _ (by omega)]; omega
          have tb : 0 ≤ T ∧ T ≤ 18446744073709551615 := by omega
          rw [← hT] at HR
          clear hy hz pxy hik hT
          go_wp2_with fail
          go_quiet (fail)
          go_wp2_with fail
          go_roundw
          case rel =>
            exact ⟨k + 1, _, _, by omega, by unfold Hid; rw [List.length_set]; exact HUL.out, wf_set HW.out _ _ (by omega) (by omega), by omega, by omega, HR.out, fun j hj => by rw [nth_set_ne _ _ _ _ (by have := HIK.out; omega)]; exact HZ.out j hj, rfl, by go_num, (HO.out.drewN _).set ik _ |>.1, (HX.out.drewN _).setCell (Nat.le_refl _) _⟩
          case measure => simp [intOf]; omega
        · have hkl : k = (wd n).length := by omega
          subst hkl
          have hco := HO.out.cell (i + (wd n).length) (by have := HUL.out; omega)
          rw [HZ.out _ (Nat.le_refl _)] at hco
          have hfo := HO.out.free (i + (wd n).length)
          have HE := Lib.hid (mul_out us (wd n) i ((wd m).length + (wd n).length) t x _ (by have := HUL.out; omega) (by omega) (HZ.out _ (Nat.le_refl _)) HV.out)
          go_wp2_with fail
          go_roundw
          case rel =>
            exact ⟨i + 1, _, by omega, by unfold Hid; rw [List.length_set]; exact HUL.out, wf_set HW.out _ t ht0 (by omega), by unfold Hid; rw [HVs.out]; exact HE.out, fun j hj => by rw [nth_set_ne _ _ _ _ (by omega)]; exact HZ.out j (by omega), by go_num, (HO.out.set (i + (wd n).length) _).1, HX.out.setCell (Nat.le_refl _) _⟩
          case measure => simp [intOf]; omega
    · have hil : i = (wd m).length := by omega
      subst hil
      have HE := Lib.hid (show val us0 = ((m * n : Nat) : Int) by
        have e := HV0.out
        rw [show V (wd m) (wd m).length = val (wd m) from rfl, val_wd, val_wd] at e
        unfold val
        rw [HUL0.out, e, Int.natCast_mul])
      go_wp2_with fail
      refine (gtrim_any _ us0 _ _ _ _ HO0.out.rd HUL0.out HW0.out HE.out (by omega)).mono ?_; rintro e w2 ⟨A2, c2, rfl, h2, hx2⟩
      have H2 := Lib.hid (h2.lower HX0.out.size)
      have HX2 := Lib.hid (HX0.out.trans hx2)
      clear h2 hx2
      go_wp2_with fail
      go_ret
      exact ⟨_, _, rfl, H2.out, HX2.out⟩
theorem gword_q (A : Option Addr) (xs : List Int) (c l k : Nat) (w : World) (h : Rd w A c xs) (hl : xs.length = l) :
    Calls Tryz.prog 207 #[.slice A l c, .int .i64 k] w fun e w' => e = .returned (.int .u32 (nth xs k)) ∧ w' = w :=
  (gword_any A xs c l k w h hl).mono fun _ _ ⟨h1, h2⟩ => ⟨h1, h2.symm⟩
set_option maxHeartbeats 1000000 in
theorem gless_any (A B : Option Addr) (xs : List Int) (n : Nat) (c d l m : Nat) (w : World) (ha : Rd w A c xs) (hb : Rd w B d (wd n)) (hl : xs.length = l) (hx : Wf xs) (hm : val xs = m) (hnm : n ≤ m) (lm : l ≤ 16384) :
    Calls Tryz.prog 183 #[.slice A l c, .slice B (wd n).length d] w fun e w' => ∃ A' c', e = .returned (.slice A' (wd (m - n)).length c') ∧ Own w' w.heap.size A' c' (wd (m - n)) ∧ Ext w w' := by
  subst hl
  have hnl : (wd n).length ≤ xs.length := wd_len_le n _ (by have := V_lt hx xs.length; unfold val at hm; omega)
  have HA := Lib.hid ha
  have HB := Lib.hid hb
  have HW := Lib.hid hx
  have HM := Lib.hid hm
  clear ha hb hx hm
  go_enter Tryz.func183, Tryz.ntmps183
  go_wp2_with (at_make; refine wpList_mk rfl _ _ rfl xs.length _ _ rfl rfl (by omega) (by omega) (by omega) ?_; intro w1 hO hG)
  have HO := Lib.hid hO
  have HG := Lib.hid hG
  clear hO hG
  go_wp2_with fail
  go_loopw [6, 7] (fun bo i wr => ∃ (k : Nat) (us : List Int) (b : Int), k ≤ xs.length ∧ Hid (us.length = xs.length) ∧ Hid (Wf us) ∧ 0 ≤ b ∧ b ≤ 1 ∧ Hid (V us k + V (wd n) k = V xs k + b * pw k) ∧ bo = .int .u64 b ∧ i = .int .i64 k ∧ Hid (Own wr w.heap.size (some ⟨w.heap.size, 0, none⟩) xs.length us) ∧ Hid (Ext w wr)) (fun _ i _ => xs.length - (intOf i).toNat)
  case atStart => exact ⟨0, _, 0, by omega, List.length_replicate, wf_zeros _, by omega, by omega, by show _ = _; simp [V_zero], rfl, rfl, HO, HG⟩
  case round =>
    clear HO HG
    obtain ⟨k, us, b, hk, HUL, HU, hb0, hb1, HV, rfl, rfl, HO, HX⟩ := hrel
    by_cases hkm : k < xs.length
    · obtain ⟨a, rfl, hca⟩ := (HA.out.ext HX.out).at_ k hkm
      have hco := HO.out.cell k (by have := HUL.out; omega)
      have hfo := HO.out.free k
      have bx := nth_wf HW.out k
      have by_ := nth_wf (wf_wd n) k
      have HWD := fun q => Lib.hid (gword_q B (wd n) d _ k (wr.drewN q) ((HB.out.ext HX.out).ext ((Ext.refl wr).drewN q)) rfl)
      have HV2 := sub_round us xs (wd n) k b (by have := HUL.out; omega) bx by_ ⟨hb0, hb1⟩ HV.out
      obtain ⟨x, hx⟩ : ∃ x, x = nth xs k := ⟨_, rfl⟩
      obtain ⟨y, hy⟩ : ∃ y, y = nth (wd n) k := ⟨_, rfl⟩
      rw [← hx] at hca bx HV2
      rw [← hy] at by_ HV2 HWD
      have HWW := Lib.hid HWD
      clear hx hy HWD
      have s1 : IntKind.u64.wrap (y + b) = y + b := IntWalk.u64_in _ (by omega)
      by_cases hlt : x < y + b
      · have HV3 := Lib.hid (show V (us.set k (x + 4294967296 - (y + b))) (k + 1) + V (wd n) (k + 1) = V xs (k + 1) + 1 * pw (k + 1) by
          rw [show (x - b - y) % 4294967296 = x + 4294967296 - (y + b) by omega, show owed (x - b - y) = 1 by unfold owed; rw [if_pos (by omega)]] at HV2
          exact HV2)
        clear HV2
        go_wp2_with fail
        go_quiet ((go_at_call 207; exact Calls.quiet_of_same (HWW.out _).out))
        go_wp2_with fail
        go_roundw
        case rel =>
          exact ⟨k + 1, _, _, by omega, by unfold Hid; rw [List.length_set]; exact HUL.out, wf_set HU.out _ _ (by omega) (by omega), by omega, by omega, HV3.out, rfl, by go_num, ((HO.out.drewN _).set k _).1, (HX.out.drewN _).setCell (Nat.le_refl _) _⟩
        case measure => simp [intOf]; omega
      · have HV3 := Lib.hid (show V (us.set k (x - (y + b))) (k + 1) + V (wd n) (k + 1) = V xs (k + 1) + 0 * pw (k + 1) by
          rw [show (x - b - y) % 4294967296 = x - (y + b) by omega, show owed (x - b - y) = 0 by unfold owed; rw [if_neg (by omega)]] at HV2
          exact HV2)
        clear HV2
        go_wp2_with fail
        go_quiet ((go_at_call 207; exact Calls.quiet_of_same (HWW.out _).out))
        go_wp2_with fail
        go_roundw
        case rel =>
          exact ⟨k + 1, _, _, by omega, by unfold Hid; rw [List.length_set]; exact HUL.out, wf_set HU.out _ _ (by omega) (by omega), by omega, by omega, HV3.out, rfl, by go_num, ((HO.out.drewN _).set k _).1, (HX.out.drewN _).setCell (Nat.le_refl _) _⟩
        case measure => simp [intOf]; omega
    · have hkl : k = xs.length := by omega
      subst hkl
      have HE := Lib.hid (show val us = ((m - n : Nat) : Int) by
        have h1 := HV.out
        rw [V_out (wd n) _ hnl, val_wd] at h1
        have h2 := HM.out
        have h3 := V_lt HU.out xs.length
        have h4 := V_nonneg HU.out xs.length
        have h5 := pw_pos xs.length
        unfold val at h2 ⊢
        rw [HUL.out]
        have hb : b = 0 ∨ b = 1 := by omega
        rcases hb with rfl | rfl <;> omega)
      go_wp2_with fail
      refine (gtrim_any _ us _ _ _ _ HO.out.rd HUL.out HU.out HE.out (by omega)).mono ?_; rintro e w2 ⟨A2, c2, rfl, h2, hx2⟩
      have H2 := Lib.hid (h2.lower HX.out.size)
      have HX2 := Lib.hid (HX.out.trans hx2)
      clear h2 hx2
      go_wp2_with fail
      go_ret
      exact ⟨_, _, rfl, H2.out, HX2.out⟩
set_option maxHeartbeats 1000000 in
theorem gsmall_any (A : Option Addr) (m : Nat) (D : Nat) (c : Nat) (w : World) (ha : Rd w A c (wd m)) (hd0 : 0 < D) (hd1 : D < 4294967296) (lm : (wd m).length ≤ 16384) (Q R : Nat) (hQ : m / D = Q) (hR : m % D = R) :
    Calls Tryz.prog 208 #[.slice A (wd m).length c, .int .u32 D] w fun e w' => ∃ A' c', e = .returned (.tuple #[.slice A' (wd Q).length c', .int .u32 R]) ∧ Own w' w.heap.size A' c' (wd Q) ∧ Ext w w' := by
  have HA := Lib.hid ha
  have HQQ := Lib.hid hQ
  have HRR := Lib.hid hR
  have hRd : R < D := hR ▸ Nat.mod_lt m hd0
  clear ha hQ hR
  go_enter Tryz.func208, Tryz.ntmps208
  go_wp2_with (at_make; refine wpList_mk rfl _ _ rfl (wd m).length _ _ rfl rfl (by omega) (by omega) (by omega) ?_; intro w1 hO hG)
  have HO := Lib.hid hO
  have HG := Lib.hid hG
  clear hO hG
  go_wp2_with fail
  go_loopw [7, 8] (fun ro i wr => ∃ (k : Nat) (us : List Int) (r : Int), k ≤ (wd m).length ∧ Hid (us.length = (wd m).length) ∧ Hid (Wf us) ∧ 0 ≤ r ∧ r < D ∧ Hid ((V us (wd m).length - V us k) * D + r * pw k + V (wd m) k = m) ∧ ro = .int .u64 r ∧ i = .int .i64 ((k : Int) - 1) ∧ Hid (Own wr w.heap.size (some ⟨w.heap.size, 0, none⟩) (wd m).length us) ∧ Hid (Ext w wr)) (fun _ i _ => (intOf i + 1).toNat)
  case atStart => exact ⟨(wd m).length, _, 0, by omega, List.length_replicate, wf_zeros _, by omega, by omega, by show _ = _; have := val_wd m; unfold val at this; rw [Int.sub_self, Int.zero_mul, Int.zero_mul]; omega, rfl, rfl, HO, HG⟩
  case round =>
    clear HO HG
    obtain ⟨k, us, r, hk, HUL, HU, hr0, hr1, HV, rfl, rfl, HO, HX⟩ := hrel
    cases k with
    | zero =>
      have he := small_end us m D _ r HUL.out HU.out hr0 hr1 HV.out
      rw [HQQ.out, HRR.out] at he
      have HE := Lib.hid he.1
      have HM := Lib.hid he.2
      clear he
      go_wp2_with fail
      refine (gtrim_any _ us _ _ _ _ HO.out.rd HUL.out HU.out HE.out (by omega)).mono ?_; rintro e w2 ⟨A2, c2, rfl, h2, hx2⟩
      have H2 := Lib.hid (h2.lower HX.out.size)
      have HX2 := Lib.hid (HX.out.trans hx2)
      clear h2 hx2
      go_wp2_with fail
      go_ret2
      exact ⟨_, _, by rw [HM.out]; rfl, H2.out, HX2.out⟩
    | succ k =>
      have e1 : (((k + 1 : Nat) : Int) - 1) = (k : Int) := by omega
      rw [e1]
      clear e1
      obtain ⟨a, rfl, hca⟩ := (HA.out.ext HX.out).at_ k (by omega)
      have hco := HO.out.cell k (by have := HUL.out; omega)
      have hfo := HO.out.free k
      have bx := nth_wf (wf_wd m) k
      obtain ⟨x, hx⟩ : ∃ x, x = nth (wd m) k := ⟨_, rfl⟩
      rw [← hx] at hca bx
      have Hx := Lib.hid hx
      clear hx
      have hq := quo_lt r x D hr0 hr1 bx
      have HV2 := Lib.hid (small_round us (wd m) k (wd m).length r D m (by have := HUL.out; omega) (by omega) HV.out)
      rw [← Hx.out] at HV2
      have hm0 := Int.emod_nonneg (r * 4294967296 + x) (show (D : Int) ≠ 0 by omega)
      have hm1 := Int.emod_lt_of_pos (r * 4294967296 + x) (show (0 : Int) < D by omega)
      have hdz : ((D : Int) == 0) = false := beq_eq_false_iff_ne.2 (by omega)
      go_wp2_with fail
      go_roundw
      case rel =>
        exact ⟨k, _, _, by omega, by unfold Hid; rw [List.length_set]; exact HUL.out, wf_set HU.out _ _ hq.1 hq.2, hm0, hm1, HV2.out, rfl, rfl, (HO.out.set k _).1, HX.out.setCell (Nat.le_refl _) _⟩
      case measure => simp [intOf]
set_option maxHeartbeats 1000000 in
theorem gbits_any (B : Option Addr) (n t K : Nat) (d : Nat) (w : World) (hb : Rd w B d (wd n)) (hK : (wd n).length = K + 1) (ht : nth (wd n) K = t) (lm : (wd n).length ≤ 16384) :
    Calls Tryz.prog 209 #[.slice B (wd n).length d] w fun e w' => ∃ j : Nat, 0 < j ∧ j ≤ 32 ∧ 2 ^ (j - 1) ≤ t ∧ t < 2 ^ j ∧ e = .returned (.int .i64 ((32 * K + j : Nat) : Int)) ∧ Ext w w' := by
  have hn0 : n ≠ 0 := fun e => by have := wd_len_zero.2 e; omega
  have hl := wd_last n hn0
  rw [show (wd n).length - 1 = K by omega, ht] at hl
  have bt := nth_wf (wf_wd n) K
  rw [ht] at bt
  have ht0 : 0 < t := by omega
  have ht1 : t < 4294967296 := by omega
  have hbe : (((wd n).length : Int) == 0) = false := beq_eq_false_iff_ne.2 (by omega)
  have hi : (((wd n).length : Int) - 1).toNat = K := by omega
  have hKI : ((wd n).length : Int) - 1 = K := by omega
  have HB := Lib.hid hb
  have HT := Lib.hid ht
  have HK := Lib.hid hK
  have HKI := Lib.hid hKI
  clear hb hl ht hK hKI
  go_enter Tryz.func209, Tryz.ntmps209
  go_wp2_with fail
  refine (gtrim_any _ _ _ _ n _ HB.out rfl (wf_wd n) (val_wd n) (by omega)).mono ?_; rintro e w1 ⟨A1, c1, rfl, h1, hx1⟩
  have H1 := Lib.hid h1
  have HX1 := Lib.hid hx1
  obtain ⟨a1, rfl, hc1⟩ := h1.rd.at_ K (by have := HK.out; omega)
  rw [HT.out] at hc1
  have hKl : (K : Int) < (wd n).length := by have := HK.out; omega
  clear h1 hx1
  go_wp2_with fail
  go_loop [4, 5] (fun nn x => ∃ j y : Nat, j ≤ 32 ∧ y < 4294967296 ∧ Hid (y = t / 2 ^ j) ∧ Hid (j = 0 ∨ 2 ^ (j - 1) ≤ t) ∧ nn = .int .i64 ((32 * K + j : Nat) : Int) ∧ x = .int .u32 y) (fun _ x => (intOf x).toNat)
  case atStart => exact ⟨0, t, by omega, ht1, by show _ = _; rw [Nat.pow_zero, Nat.div_one], .inl rfl, by rw [HKI.out]; go_num, rfl⟩
  case round =>
    obtain ⟨j, y, hj, hy, HY, HJ, rfl, rfl⟩ := hrel
    by_cases h0 : 0 < y
    · have hjt : 2 ^ j ≤ t := by
        have h1 := HY.out
        rcases Nat.lt_or_ge t (2 ^ j) with h | h
        · rw [Nat.div_eq_of_lt h] at h1; omega
        · exact h
      have hj2 : j < 32 := by
        rcases Nat.lt_or_ge j 32 with h | h
        · exact h
        · have : 2 ^ 32 ≤ 2 ^ j := Nat.pow_le_pow_right (by omega) h
          omega
      have HY2 := Lib.hid (show y / 2 = t / 2 ^ (j + 1) by rw [HY.out, Nat.div_div_eq_div_mul, Nat.pow_succ])
      have HJT := Lib.hid hjt
      have HC := Lib.hid (show ((32 * K + (j + 1) : Nat) : Int) = 32 * (K : Int) + j + 1 by omega)
      clear hjt
      go_wp2_with fail
      go_round
      case rel => exact ⟨j + 1, y / 2, by omega, by omega, HY2.out, .inr HJT.out, by rw [HC.out], by rw [Int.natCast_ediv]; rfl⟩
      case measure => simp [intOf]; omega
    · have hy0 : y = 0 := by omega
      have HLt := Lib.hid (show t < 2 ^ j by
        have h1 := HY.out
        rw [hy0] at h1
        rcases Nat.lt_or_ge t (2 ^ j) with h | h
        · exact h
        · have := Nat.div_pos h (Nat.pow_pos (n := j) (show 0 < 2 by omega)); omega)
      clear hy0
      go_wp2_with fail
      go_ret
      refine ⟨j, ?_, hj, ?_, HLt.out, rfl, HX1.out⟩
      · rcases Nat.eq_zero_or_pos j with h | h
        · have := HLt.out; rw [h] at this; omega
        · exact h
      · rcases HJ.out with h | h
        · have := HLt.out; rw [h] at this; omega
        · exact h
set_option maxHeartbeats 1000000 in
theorem gup_any (A : Option Addr) (m n : Nat) (c : Nat) (w : World) (ha : Rd w A c (wd m)) (hm : 0 < (wd m).length) (hn : n ≤ 31) (lm : (wd m).length ≤ 8193) :
    Calls Tryz.prog 210 #[.slice A (wd m).length c, .int .i64 n] w fun e w' => ∃ A' c', e = .returned (.slice A' (wd (m * 2 ^ n)).length c') ∧ Own w' w.heap.size A' c' (wd (m * 2 ^ n)) ∧ Ext w w' := by
  have HA := Lib.hid ha
  have HW := Lib.hid (wf_wd m)
  have hn0 : (0 : Int) ≤ n := by omega
  have hn1 : (n : Int) ≤ 31 := by omega
  have hd1 : (n : Int) / 32 = 0 := by omega
  have hd3 : (n : Int) % 32 = n := by omega
  have hbe : (((wd m).length : Int) == 0) = false := beq_eq_false_iff_ne.2 (by omega)
  obtain ⟨xs, hxs⟩ : ∃ xs, xs = wd m := ⟨_, rfl⟩
  have HXS := Lib.hid hxs
  rw [← hxs] at HA HW lm hm hbe ⊢
  clear ha hxs
  go_enter Tryz.func210, Tryz.ntmps210
  go_wp2_with (at_make; refine wpList_mk rfl _ _ rfl (xs.length + 1) _ _ rfl rfl (by omega) (by omega) (by omega) ?_; intro w1 hO hG)
  have HO := Lib.hid hO
  have HG := Lib.hid hG
  clear hO hG
  go_wp2_with fail
  go_loopw [6] (fun i wr => ∃ (k : Nat) (us : List Int), k ≤ xs.length ∧ Hid (us.length = xs.length + 1) ∧ Hid (Wf us) ∧ Hid (V us (k + 1) = V xs k * 2 ^ n) ∧ Hid (nth us k < 2 ^ n) ∧ Hid (∀ j, k + 1 ≤ j → nth us j = 0) ∧ i = .int .i64 k ∧ Hid (Own wr w.heap.size (some ⟨w.heap.size, 0, none⟩) (xs.length + 1) us) ∧ Hid (Ext w wr)) (fun i _ => xs.length - (intOf i).toNat)
  case atStart => exact ⟨0, _, by omega, List.length_replicate, wf_zeros _, by show _ = _; rw [V_zeros, V_zero, Int.zero_mul], by show _ < _; rw [nth_zeros]; exact Int.pow_pos (by omega), fun j _ => nth_zeros _ _, rfl, HO, HG⟩
  case round =>
    clear HO HG
    obtain ⟨k, us, hk, HUL, HU, HV, HT, HZ, rfl, HO, HX⟩ := hrel
    by_cases hkm : k < xs.length
    · obtain ⟨a, rfl, hca⟩ := (HA.out.ext HX.out).at_ k hkm
      have hco := HO.out.cell k (by have := HUL.out; omega)
      have hfo := HO.out.free k
      have hco1 := HO.out.cell (k + 1) (by have := HUL.out; omega)
      rw [HZ.out _ (Nat.le_refl _)] at hco1
      have hfo1 := HO.out.free (k + 1)
      have bx := nth_wf HW.out k
      have bz := nth_wf HU.out k
      obtain ⟨x, hx⟩ : ∃ x, x = nth xs k := ⟨_, rfl⟩
      obtain ⟨z, hz⟩ : ∃ z, z = nth us k := ⟨_, rfl⟩
      rw [← hx] at hca bx
      rw [← hz] at hco bz
      obtain ⟨_, hq2, hp1, hp2, hp3⟩ := up_word x z n hn bx bz.1 (by rw [hz]; exact HT.out)
      have hww : IntKind.u64.wrap (x * 2 ^ n) = x * 2 ^ n := by
        have hp := two_pow_le n hn
        have h1 : x * 2 ^ n < 4294967296 * 2 ^ n := Int.mul_lt_mul_of_pos_right bx.2 (by omega)
        exact IntWalk.u64_in _ ⟨Int.mul_nonneg bx.1 (by omega), by omega⟩
      obtain ⟨lo, hlo⟩ : ∃ lo, lo = x * 2 ^ n % 4294967296 := ⟨_, rfl⟩
      obtain ⟨hi, hhi⟩ : ∃ hi, hi = x * 2 ^ n / 4294967296 := ⟨_, rfl⟩
      have hlb : 0 ≤ lo ∧ lo < 4294967296 := by omega
      rw [hww] at hq2
      rw [← hhi] at hp1 hp2 hq2
      rw [← hlo] at hp3
      have HR := Lib.hid (up_round us xs n k (by have := HUL.out; omega) HV.out)
      rw [← hx, ← hz, ← hlo, ← hhi] at HR
      have g1 : x * 2 ^ n % 4294967296 = lo := hlo.symm
      have g2 : x * 2 ^ n / 4294967296 = hi := hhi.symm
      have HP2 := Lib.hid hp2
      have hpp := (two_pow_le n hn).2
      have hi2 : hi < 4294967296 := by omega
      clear hx hz hlo hhi hp2 hpp hq2
      go_wp2_with fail
      go_roundw
      case rel =>
        refine ⟨k + 1, (us.set k (z + lo)).set (k + 1) hi, by omega, by unfold Hid; rw [List.length_set, List.length_set]; exact HUL.out, wf_set (wf_set HU.out _ _ (by omega) hp3) _ _ hp1 hi2, HR.out, ?_, fun j hj => ?_, by go_num, ((HO.out.set k _).1.set (k + 1) _).1, (HX.out.setCell (Nat.le_refl _) _).setCell (Nat.le_refl _) _⟩
        · unfold Hid; rw [nth_set_self _ _ _ (by rw [List.length_set]; have := HUL.out; omega)]; exact HP2.out
        · rw [nth_set_ne _ _ _ _ (by omega), nth_set_ne _ _ _ _ (by omega)]; exact HZ.out j (by omega)
      case measure => simp [intOf]; omega
    · have hkl : k = xs.length := by omega
      subst hkl
      have HE := Lib.hid (show val us = ((m * 2 ^ n : Nat) : Int) by
        have h1 := HV.out
        rw [show V xs xs.length = val xs from rfl, HXS.out, val_wd] at h1
        unfold val
        rw [HUL.out, HXS.out, h1, Int.natCast_mul, Int.natCast_pow]
        rfl)
      go_wp2_with fail
      refine (gtrim_any _ us _ _ _ _ HO.out.rd HUL.out HU.out HE.out (by omega)).mono ?_; rintro e w2 ⟨A2, c2, rfl, h2, hx2⟩
      have H2 := Lib.hid (h2.lower HX.out.size)
      have HX2 := Lib.hid (HX.out.trans hx2)
      clear h2 hx2
      go_wp2_with fail
      go_ret
      exact ⟨_, _, rfl, H2.out, HX2.out⟩
set_option maxHeartbeats 1000000 in
theorem gdown_any (A : Option Addr) (m n : Nat) (c : Nat) (w : World) (ha : Rd w A c (wd m)) (hn : n ≤ 31) (lm : (wd m).length ≤ 8193) (Q : Nat) (hQ : m / 2 ^ n = Q) :
    Calls Tryz.prog 212 #[.slice A (wd m).length c, .int .i64 n] w fun e w' => ∃ A' c', e = .returned (.slice A' (wd Q).length c') ∧ Own w' w.heap.size A' c' (wd Q) ∧ Ext w w' := by
  have HA := Lib.hid ha
  have HQ := Lib.hid hQ
  have hcap := ha.cap
  have hcapm := ha.capm
  have hn0 : (0 : Int) ≤ n := by omega
  have hn1 : (n : Int) ≤ 31 := by omega
  have hd1 : (n : Int) / 32 = 0 := by omega
  have hd3 : (n : Int) % 32 = n := by omega
  clear hQ
  by_cases hm : (wd m).length = 0
  · have hz : m = 0 := wd_len_zero.1 hm
    have HE := Lib.hid (show wd Q = [] by rw [← HQ.out, hz, Nat.zero_div, wd_zero])
    clear ha hz
    go_enter Tryz.func212, Tryz.ntmps212
    go_wp2_with fail
    go_ret
    exact ⟨none, 0, by rw [HE.out]; rfl, by rw [HE.out]; exact Own.nil _ _, Ext.refl _⟩
  · have hp : 0 < (wd m).length := by omega
    obtain ⟨a, rfl⟩ := ha.some_ hp
    have hne : ¬ wd m = [] := fun e => by rw [e] at hm; exact hm rfl
    clear ha hm
    go_enter Tryz.func212, Tryz.ntmps212
    go_wp2_with (at_make; refine wpList_mk rfl _ _ rfl (wd m).length _ _ rfl rfl (by omega) (by omega) (by omega) ?_; intro w1 hO hG)
    have HO := Lib.hid hO
    have HG := Lib.hid hG
    clear hO hG
    go_wp2_with fail
    go_loopw [7] (fun i wr => ∃ (k : Nat) (us : List Int), k ≤ (wd m).length ∧ Hid (us.length = (wd m).length) ∧ Hid (Wf us) ∧ Hid (V us k * 2 ^ n = V (wd m) k + nth (wd m) k % 2 ^ n * pw k - nth (wd m) 0 % 2 ^ n) ∧ i = .int .i64 k ∧ Hid (Own wr w.heap.size (some ⟨w.heap.size, 0, none⟩) (wd m).length us) ∧ Hid (Ext w wr)) (fun i _ => (wd m).length - (intOf i).toNat)
    case atStart => exact ⟨0, _, by omega, List.length_replicate, wf_zeros _, by show _ = _; rw [V_zero, V_zero, pw_zero]; omega, rfl, HO, HG⟩
    case round =>
      clear HO HG
      obtain ⟨k, us, hk, HUL, HU, HV, rfl, HO, HX⟩ := hrel
      by_cases hkm : k < (wd m).length
      · have hca := HX.out.cell (HA.out.cell k hkm)
        have hco := HO.out.cell k (by have := HUL.out; omega)
        have hfo := HO.out.free k
        have bx := nth_wf (wf_wd m) k
        have by_ := nth_wf (wf_wd m) (k + 1)
        have HD := Lib.hid (dwn_round us (wd m) n k _ hn (wf_wd m) (by have := HUL.out; omega) HV.out)
        have hb := dwn_bd (nth (wd m) k) (nth (wd m) (k + 1)) n
        obtain ⟨x, hx⟩ : ∃ x, x = nth (wd m) k := ⟨_, rfl⟩
        obtain ⟨y, hy⟩ : ∃ y, y = nth (wd m) (k + 1) := ⟨_, rfl⟩
        have HWD := fun q => Lib.hid (gword_q (some a) (wd m) c _ (k + 1) (wr.drewN q) ((HA.out.ext HX.out).ext ((Ext.refl wr).drewN q)) rfl)
        rw [← hx, ← hy] at HD hb
        rw [← hx] at hca bx
        rw [← hy] at by_ HWD
        have HWW := Lib.hid HWD
        have s1 : IntKind.u64.wrap (y * 4294967296 + x) = y * 4294967296 + x := IntWalk.u64_in _ (by omega)
        have s2 : IntKind.u64.wrap (y * 4294967296) = y * 4294967296 := IntWalk.u64_in _ (by omega)
        have s3 : IntKind.i64.wrap ((k : Int) + 1) = ((k + 1 : Nat) : Int) := by rw [IntWalk.i64_in _ (by omega)]; omega
        have HE := Lib.hid (show (y * 4294967296 + x) / 2 ^ n % 4294967296 = dwn x y n by unfold dwn; rw [Int.add_comm])
        have Hy := Lib.hid hy
        clear hx hy HWD
        go_wp2_with fail
        go_quiet ((go_at_call 207; exact Calls.quiet_of_same (HWW.out _).out))
        go_wp2_with fail
        go_roundw
        case rel =>
          rw [HE.out]
          exact ⟨k + 1, _, by omega, by unfold Hid; rw [List.length_set]; exact HUL.out, wf_set HU.out _ _ hb.1 hb.2, by unfold Hid; rw [← Hy.out]; exact HD.out, by go_num, ((HO.out.drewN _).set k _).1, (HX.out.drewN _).setCell (Nat.le_refl _) _⟩
        case measure => simp [intOf]; omega
      · have hkl : k = (wd m).length := by omega
        subst hkl
        have HE := Lib.hid (dwn_end us m n _ hn rfl HUL.out HV.out)
        rw [HQ.out] at HE
        go_wp2_with fail
        refine (gtrim_any _ us _ _ _ _ HO.out.rd HUL.out HU.out HE.out (by omega)).mono ?_; rintro e w2 ⟨A2, c2, rfl, h2, hx2⟩
        have H2 := Lib.hid (h2.lower HX.out.size)
        have HX2 := Lib.hid (HX.out.trans hx2)
        clear h2 hx2
        go_wp2_with fail
        go_ret
        exact ⟨_, _, rfl, H2.out, HX2.out⟩
set_option maxHeartbeats 1000000 in
theorem gbelow_any (A B : Option Addr) (xs : List Int) (c d l m D x : Nat) (w : World) (ha : Rd w A c xs) (hb : Rd w B d (wd D)) (hl : xs.length = l) (hx : Wf xs) (hm : val xs = m) (hlx : x < 18446744073709551616) (lD : (wd D).length ≤ 8192) :
    Calls Tryz.prog 223 #[.slice A l c, .slice B (wd D).length d, .int .u64 x] w fun e w' => e = .returned (.bool (decide (m < D * x))) ∧ Ext w w' := by
  have HA := Lib.hid ha
  have HB := Lib.hid hb
  have HL := Lib.hid hl
  have HW := Lib.hid hx
  have HM := Lib.hid hm
  have HE := Lib.hid (show decide (cmp m (D * x) < 0) = decide (m < D * x) from decide_eq_decide.2 cmp_lt_iff)
  have hx2 := wd_two' x hlx
  obtain ⟨P, hP⟩ : ∃ P, P = D * x := ⟨_, rfl⟩
  rw [← hP] at HE ⊢
  have HP := Lib.hid hP
  clear ha hb hl hx hm hP
  go_enter Tryz.func223, Tryz.ntmps223
  go_wp2_with fail
  refine (gof_any x _ hlx).mono ?_; rintro e w1 ⟨A1, c1, rfl, h1, hx1⟩
  have H1 := Lib.hid h1
  have HX1 := Lib.hid hx1
  clear h1 hx1
  go_wp2_with fail
  refine (gtimes_any _ _ D x _ _ _ (HB.out.ext HX1.out) H1.out.rd (by omega)).mono ?_
  rw [← HP.out]
  rintro e w2 ⟨A2, c2, rfl, h2, hx2⟩
  have H2 := Lib.hid h2
  have HX2 := Lib.hid (HX1.out.trans hx2)
  clear h2 hx2
  go_wp2_with fail
  refine (gcompare_any _ _ xs (wd P) _ _ _ _ m P _ (HA.out.ext HX2.out) H2.out.rd HL.out rfl HW.out (wf_wd P) HM.out (val_wd P)).mono ?_
  rintro e w3 ⟨rfl, rfl⟩
  go_wp2_with fail
  go_ret
  exact ⟨by rw [← HE.out]; rfl, HX2.out⟩
set_option maxHeartbeats 1000000 in
theorem goff_any (B : Option Addr) (xs : List Int) (g o C c d l base m D x : Nat) (w : World) (ho : Own w base (some ⟨g, 0, none⟩) C xs) (hb : Rd w B d (wd D)) (hlen : o + l ≤ xs.length) (hx : Wf xs) (hm : Vo xs o l = m) (hDx : D * x ≤ m) (hlx : x < 18446744073709551616) (lD : (wd D).length ≤ 8192) (ll : l ≤ 8193) (hc : l ≤ c) (hcm : c ≤ 9223372036854775807) :
    Calls Tryz.prog 224 #[.slice (some ⟨g, o, none⟩) l c, .slice B (wd D).length d, .int .u64 x] w fun e w' => ∃ us : List Int, e = .returned (.tuple #[]) ∧ us.length = xs.length ∧ Wf us ∧ Vo us o l = ((m - D * x : Nat) : Int) ∧ (∀ j, j < o ∨ o + l ≤ j → nth us j = nth xs j) ∧ Own w' base (some ⟨g, 0, none⟩) C us ∧ w.grownBy w' (some g) := by
  have HO := Lib.hid ho
  have HB := Lib.hid hb
  have HW := Lib.hid hx
  have HM := Lib.hid hm
  have hx2 := wd_two' x hlx
  have hzl : (wd (m - D * x)).length ≤ l := wd_len_le _ _ (by have := (Vo_bd hx o l).2; omega)
  have HOl := Lib.hid ho.rd.cap
  have HOm := Lib.hid ho.rd.capm
  obtain ⟨P, hP⟩ : ∃ P, P = D * x := ⟨_, rfl⟩
  rw [← hP] at hzl hDx ⊢
  have HP := Lib.hid hP
  clear ho hb hx hm hP
  go_enter Tryz.func224, Tryz.ntmps224
  go_wp2_with fail
  refine (gof_any x _ hlx).mono ?_; rintro e w1 ⟨A1, c1, rfl, h1, hx1⟩
  have H1 := Lib.hid h1
  have HX1 := Lib.hid hx1
  clear h1 hx1
  go_wp2_with fail
  refine (gtimes_any _ _ D x _ _ _ (HB.out.ext HX1.out) H1.out.rd (by omega)).mono ?_
  rw [← HP.out]
  rintro e w2 ⟨A2, c2, rfl, h2, hx2⟩
  have H2 := Lib.hid h2
  have HX2 := Lib.hid (HX1.out.trans hx2)
  clear h2 hx2
  go_wp2_with fail
  refine (gless_any _ _ ((xs.drop o).take l) P c _ l m _ (((HO.out.ext HX2.out).sub o l c hlen hc hcm)) H2.out.rd (sub_len _ _ _ hlen) (wf_take (wf_drop HW.out o) l) (by unfold val; rw [sub_len _ _ _ hlen, V_sub]; exact HM.out) hDx (by omega)).mono ?_
  rintro e w3 ⟨A3, c3, rfl, h3, hx3⟩
  have HOb := Lib.hid (show g < w.heap.size from HO.out.block.2)
  have HAp : Hid (∀ a, A3 = some a → a.block ≠ g) := fun a ha e => by
    subst ha
    have h4 := h3.block.1
    have h5 := HX2.out.size
    have h6 := HOb.out
    omega
  have HZ := Lib.hid h3.rd
  have HX3 := Lib.hid (HX2.out.trans hx3)
  have HO3 := Lib.hid (HO.out.ext HX3.out)
  obtain ⟨Z, hZ⟩ : ∃ Z, Z = wd (m - P) := ⟨_, rfl⟩
  rw [← hZ] at HZ hzl ⊢
  have HZZ := Lib.hid hZ
  have HG3 := Lib.hid (HX3.out.by_ (some g))
  clear h3 hx3 hZ H1 H2 HX1 HX2
  go_wp2_with fail
  go_loopw [7] (fun i wr => ∃ (k : Nat) (us : List Int), k ≤ l ∧ Hid (us.length = xs.length) ∧ Hid (Wf us) ∧ Hid (∀ j, j < k → nth us (o + j) = nth Z j) ∧ Hid (∀ j, j < o ∨ o + k ≤ j → nth us j = nth xs j) ∧ i = .int .i64 k ∧ Hid (Own wr base (some ⟨g, 0, none⟩) C us) ∧ Hid (w3.grownBy wr (some g))) (fun i _ => l - (intOf i).toNat)
  case atStart => exact ⟨0, xs, by omega, rfl, HW.out, fun j hj => by omega, fun _ _ => rfl, rfl, HO3.out, World.grownBy.refl _ _⟩
  case round =>
    obtain ⟨k, us, hk, HUL, HU, HA, HR, rfl, HOu, HG⟩ := hrel
    by_cases hkl : k < l
    · have hco := HOu.out.cell (o + k) (by have := HUL.out; omega)
      have hfo := HOu.out.free (o + k)
      have bz := nth_wf (show Wf Z by rw [HZZ.out]; exact wf_wd _) k
      have HWd := Lib.hid (gword_any A3 Z c3 Z.length k wr (HZ.out.kept HG.out (fun a ha e => by injection e with e; exact HAp.out a ha e)) rfl)
      go_wp2_with fail
      refine HWd.out.mono ?_; rintro e w' ⟨rfl, rfl⟩
      go_wp2_with fail
      go_roundw
      case rel => exact ⟨k + 1, _, by omega, by unfold Hid; rw [List.length_set]; exact HUL.out, wf_set HU.out _ _ bz.1 bz.2, fun j hj => by
          by_cases e : j = k
          · rw [e, nth_set_self _ _ _ (by have := HUL.out; omega)]
          · rw [nth_set_ne _ _ _ _ (by omega)]; exact HA.out j (by omega), fun j hj => by rw [nth_set_ne _ _ _ _ (by omega)]; exact HR.out j (by omega), by go_num, (HOu.out.set (o + k) _).1, grown_trans HG.out (HOu.out.set (o + k) _).2⟩
      case measure => simp [intOf]; omega
    · have hkk : k = l := by omega
      subst hkk
      have HV := Lib.hid (show Vo us o k = ((m - P : Nat) : Int) by
        have h1 : Vo us o k = V Z k := by
          unfold Vo
          exact V_congr k fun j hj => by rw [nth_drop]; exact HA.out j hj
        rw [h1, V_out _ _ hzl, HZZ.out, val_wd])
      go_wp2_with fail
      go_end0
      exact ⟨us, rfl, HUL.out, HU.out, HV.out, HR.out, HOu.out, grown_trans HG3.out HG.out⟩
theorem first_ge (us vs : List Int) (n : Nat) (hu : Wf us) (hv : Wf vs) (h1 : 0 < nth vs n) (m D : Nat) (hm : V us (n + 2) = m) (hD : V vs (n + 1) = D) : (m / D : Nat) ≤ (nth us (n + 1) * 4294967296 + nth us n) / nth vs n := by
  have hd0 : 0 < D := by
    have a := V_nonneg hv n
    have b := Int.mul_pos h1 (pw_pos n)
    rw [V_succ] at hD
    omega
  rw [V_succ, V_succ] at hm
  rw [V_succ] at hD
  generalize ht : nth us (n + 1) * 4294967296 + nth us n = top
  have hq : (0 : Int) ≤ ((m / D : Nat) : Int) := Int.natCast_nonneg _
  apply Int.le_ediv_of_mul_le h1
  rcases Int.lt_or_le top ((m / D : Nat) * nth vs n) with hlt | hle
  · exfalso
    have e := Nat.div_mul_le_self m D
    have a := V_lt hu n
    have b := V_nonneg hv n
    have e1 : (top + 1) * pw n ≤ ((m / D : Nat) : Int) * nth vs n * pw n := Int.mul_le_mul_of_nonneg_right (by omega) (Int.le_of_lt (pw_pos n))
    have e2 : ((m / D : Nat) : Int) * (nth vs n * pw n) ≤ ((m / D : Nat) : Int) * D := Int.mul_le_mul_of_nonneg_left (by omega) hq
    have e3 : ((m / D : Nat) : Int) * D ≤ m := by rw [← Int.natCast_mul]; omega
    rw [pw_succ] at hm
    rw [Int.add_mul, Int.one_mul] at e1
    rw [Int.mul_assoc] at e1
    have e4 : top * pw n = nth us (n + 1) * (4294967296 * pw n) + nth us n * pw n := by rw [← ht, Int.add_mul, Int.mul_assoc]
    omega
  · exact hle
set_option maxHeartbeats 1000000 in
theorem gdigit_any (B : Option Addr) (xs : List Int) (g o C c d n base m D : Nat) (w : World) (ho : Own w base (some ⟨g, 0, none⟩) C xs) (hb : Rd w B d (wd D)) (hlen : o + (n + 2) ≤ xs.length) (hx : Wf xs) (hm : Vo xs o (n + 2) = m) (hD : (wd D).length = n + 1) (hlt : m < D * 4294967296) (lD : (wd D).length ≤ 8192) (hc : n + 2 ≤ c) (hcm : c ≤ 9223372036854775807) (hne : ∀ b, B = some b → b.block ≠ g) (L : Nat) (hL : L = n + 1) :
    Calls Tryz.prog 211 #[.slice (some ⟨g, o, none⟩) (L + 1) c, .slice B L d] w fun e w' => ∃ (us : List Int) (x : Nat), x = m / D ∧ x < 4294967296 ∧ e = .returned (.int .u32 x) ∧ us.length = xs.length ∧ Wf us ∧ Vo us o (n + 2) = ((m % D : Nat) : Int) ∧ (∀ j, j < o ∨ o + (n + 2) ≤ j → nth us j = nth xs j) ∧ Own w' base (some ⟨g, 0, none⟩) C us ∧ w.grownBy w' (some g) := by
  have hD0 : D ≠ 0 := fun e => by have := wd_len_zero.2 e; omega
  have htop := wd_last D hD0
  rw [hD, Nat.add_sub_cancel] at htop
  have bv := nth_wf (wf_wd D) n
  have hxq : m / D < 4294967296 := Nat.div_lt_of_lt_mul hlt
  have hge := first_ge (xs.drop o) (wd D) n (wf_drop hx o) (wf_wd D) (by omega) m D hm (by have := val_wd D; unfold val at this; rw [hD] at this; exact this)
  rw [nth_drop, nth_drop] at hge
  obtain ⟨b, rfl, hcb⟩ := hb.at_ n (by omega)
  have hc1 := ho.cell (o + (n + 1)) (by omega)
  have hc0 := ho.cell (o + n) (by omega)
  have b1 := nth_wf hx (o + (n + 1))
  have b0 := nth_wf hx (o + n)
  obtain ⟨x1, hx1⟩ : ∃ x, x = nth xs (o + (n + 1)) := ⟨_, rfl⟩
  obtain ⟨x0, hx0⟩ : ∃ x, x = nth xs (o + n) := ⟨_, rfl⟩
  obtain ⟨v, hv⟩ : ∃ x, x = nth (wd D) n := ⟨_, rfl⟩
  rw [← hx1] at hc1 b1 hge
  rw [← hx0] at hc0 b0 hge
  rw [← hv] at hcb bv htop hge
  obtain ⟨top, ht⟩ : ∃ t, t = x1 * 4294967296 + x0 := ⟨_, rfl⟩
  rw [← ht] at hge
  have hq0 : 0 ≤ top / v := Int.ediv_nonneg (by omega) (by omega)
  obtain ⟨q, hq⟩ : ∃ q : Nat, (q : Int) = min (top / v) 4294967295 := ⟨(min (top / v) 4294967295).toNat, by omega⟩
  have hqge : m / D ≤ q := by omega
  have hqlt : q < 4294967296 := by omega
  have hmin : Min.min (top / v) 4294967295 = (q : Int) := hq.symm
  have HDm := Lib.hid (show m - D * (m / D) = m % D from by have := Nat.div_add_mod m D; omega)
  have HDl := Lib.hid (show D * (m / D) ≤ m from by have := Nat.div_add_mod m D; omega)
  have HXQ := Lib.hid hxq
  have HG := Lib.hid hqge
  have HO := Lib.hid ho
  have HB := Lib.hid hb
  have HW := Lib.hid hx
  have HM := Lib.hid hm
  have HN := Lib.hid hne
  have HLL := Lib.hid hL
  have HDL := Lib.hid (show (wd D).length = L by omega)
  have w1 : IntKind.i64.wrap ((L : Int) - 1) = (n : Int) := by rw [IntWalk.i64_in _ (by omega)]; omega
  have i1 : (n : Int) < (L : Int) := by omega
  have i2 : (n : Int) < (L : Int) + 1 := by omega
  rw [← hL] at hc1
  have hLc : L + 1 ≤ c := by omega
  have s1 : IntKind.u64.wrap (x1 * 4294967296) = x1 * 4294967296 := IntWalk.u64_in _ (by omega)
  have s2 : IntKind.u64.wrap (x1 * 4294967296 + x0) = top := by rw [IntWalk.u64_in _ (by omega), ht]
  have hdz : (v == 0) = false := beq_eq_false_iff_ne.2 htop
  have tb : 0 ≤ top ∧ top ≤ 18446744073709551615 := by omega
  have HTOP := Lib.hid ht
  clear ho hb hx hm hD hxq hge hqge hq hL hx1 hx0 hv ht hne hlt
  go_enter Tryz.func211, Tryz.ntmps211
  go_wp2_with fail
  go_quiet (fail)
  go_wp2_with fail
  have HSUB : Hid (∀ wx, Ext w wx → Rd wx (some ⟨g, o, none⟩) c ((xs.drop o).take (L + 1)) ∧ ((xs.drop o).take (L + 1)).length = L + 1 ∧ Wf ((xs.drop o).take (L + 1)) ∧ val ((xs.drop o).take (L + 1)) = m) := fun wx hx => by
    have hl2 : o + (L + 1) ≤ xs.length := by have := HLL.out; omega
    refine ⟨(HO.out.ext hx).sub o (L + 1) c hl2 (by omega) hcm, sub_len _ _ _ hl2, wf_take (wf_drop HW.out o) _, ?_⟩
    unfold val
    rw [sub_len _ _ _ hl2, V_sub, HLL.out]
    exact HM.out
  go_wp2_with fail
  go_loopw [7] (fun xx wr => ∃ x : Nat, m / D ≤ x ∧ x < 4294967296 ∧ xx = .int .u64 x ∧ Hid (Ext w wr)) (fun xx _ => (intOf xx).toNat)
  case atStart => exact ⟨q, HG.out, hqlt, rfl, (Ext.refl w).drewN _⟩
  case round =>
    obtain ⟨x, hgx, hxlt, rfl, HX⟩ := hrel
    obtain ⟨hs1, hs2, hs3, hs4⟩ := HSUB.out wr HX.out
    have HBW := gbelow_any (some ⟨g, o, none⟩) (some b) _ c d (L + 1) m D x wr hs1 (HB.out.ext HX.out) hs2 hs3 hs4 (by omega) lD
    rw [HDL.out] at HBW
    have HBE := Lib.hid HBW
    have HGX := Lib.hid hgx
    clear hs1 hs2 hs3 hs4 HBW hgx
    by_cases hbl : m < D * x
    · have hbd : decide (m < D * x) = true := decide_eq_true hbl
      rw [hbd] at HBE
      have hx1 : m / D + 1 ≤ x := by
        have := HGX.out
        rcases Nat.lt_or_ge (m / D) x with h | h
        · exact h
        · have e : x = m / D := Nat.le_antisymm h this
          rw [e] at hbl
          have := HDl.out
          omega
      have HX1 := Lib.hid hx1
      have hx1' : 1 ≤ x := Nat.lt_of_lt_of_le (Nat.succ_pos _) hx1
      clear hx1 hbd hbl
      go_wp2_with fail
      refine HBE.out.mono ?_; rintro e w4 ⟨rfl, hx4⟩
      have HX4 := Lib.hid (HX.out.trans hx4)
      clear hx4
      go_wp2_with fail
      go_roundw
      case rel => exact ⟨x - 1, Nat.le_sub_of_add_le HX1.out, by omega, by rw [Int.natCast_sub hx1']; rfl, HX4.out⟩
      case measure => simp [intOf]; omega
    · have hbd : decide (m < D * x) = false := decide_eq_false hbl
      rw [hbd] at HBE
      have HXE := Lib.hid (show x = m / D by
        have h1 := HGX.out
        have h2 : x ≤ m / D := (Nat.le_div_iff_mul_le (by omega)).2 (by rw [Nat.mul_comm x D]; exact Nat.le_of_not_lt hbl)
        exact Nat.le_antisymm h2 h1)
      clear hbd hbl
      go_wp2_with fail
      refine HBE.out.mono ?_; rintro e w4 ⟨rfl, hx4⟩
      have HX4 := Lib.hid (HX.out.trans hx4)
      clear hx4
      go_wp2_with fail
      have HOF := goff_any (some b) xs g o C c d (n + 2) base m D x w4 (HO.out.ext HX4.out) (HB.out.ext HX4.out) hlen HW.out HM.out (by rw [HXE.out]; exact HDl.out) (by omega) lD (by have := HDL.out; have := HLL.out; omega) hc hcm
      rw [show n + 2 = L + 1 by have := HLL.out; omega, HDL.out] at HOF
      refine HOF.mono ?_
      clear HOF
      rintro e w5 ⟨us, rfl, h1, h2, h3, h4, h5, h6⟩
      rw [show L + 1 = n + 2 by have := HLL.out; omega] at h3 h4
      have K1 := Lib.hid h1
      have K2 := Lib.hid h2
      have K3 := Lib.hid (show Vo us o (n + 2) = ((m % D : Nat) : Int) by rw [h3, HXE.out, HDm.out])
      have K4 := Lib.hid h4
      have K5 := Lib.hid h5
      have K6 := Lib.hid (grown_trans (HX4.out.by_ (some g)) h6)
      clear h1 h2 h3 h4 h5 h6
      go_wp2_with fail
      go_ret
      exact ⟨us, x, HXE.out, hxlt, rfl, K1.out, K2.out, K3.out, K4.out, K5.out, K6.out⟩
end Go.Proofs.YtakaehdolpmelaaGreat
