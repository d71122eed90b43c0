/- The reference's Compare, Of, Times. -/
import Derived.Test.YtnhgagfkepmanaaG1
namespace Go.Proofs.Ytnhgagfkepmanaa
open Go Go.RowKit

set_option maxHeartbeats 1000000 in
theorem gcompare_any (A B : Option Addr) (xs ys : List Int) (c d la lb m n : Nat) (w : World) (ha : Rd w A c xs) (hb : Rd w B d ys) (hla : xs.length = la) (hlb : ys.length = lb) (hx : Wf xs) (hy : Wf ys) (hm : val xs = m) (hn : val ys = n) :
    Calls Try.prog 68 #[.slice A la c, .slice B lb d] w fun e w' => e = .returned (.int .i64 (cmp m n)) ∧ w = w' := by
  have l1 := ha.lim
  have l2 := hb.lim
  have H1 := fun k => Lib.hid (gword_any A xs c la k w ha hla)
  have H2 := fun k => Lib.hid (gword_any B ys d lb k w hb hlb)
  have HH1 := Lib.hid H1
  have HH2 := Lib.hid H2
  rw [hla] at l1
  rw [hlb] at l2
  obtain ⟨N, hN⟩ : ∃ N, N = max la lb := ⟨_, rfl⟩
  have hNb : la ≤ N ∧ lb ≤ N ∧ N ≤ 9223372036854775807 := by omega
  have HM := Lib.hid (show V xs N = m by rw [V_out _ _ (by omega), hm])
  have HN := Lib.hid (show V ys N = n by rw [V_out _ _ (by omega), hn])
  have HX := Lib.hid hx
  have HY := Lib.hid hy
  have hmax : Max.max (la : Int) (lb : Int) = (N : Int) := by omega
  clear H1 H2 ha hb hla hlb hx hy hm hn hN
  go_enter Try.func68, Try.ntmps68
  go_wp2_with fail
  go_loop [6] (fun i => ∃ k : Nat, k ≤ N ∧ Hid (V xs k + V ys N = V ys k + V xs N) ∧ i = .int .i64 ((k : Int) - 1)) (fun i => (intOf i + 1).toNat)
  case atStart => exact ⟨N, by omega, by show _ = _; omega, rfl⟩
  case round =>
    obtain ⟨k, hk, hv, rfl⟩ := hrel
    cases k with
    | zero =>
      have HE := Lib.hid (show cmp m n = 0 by
        apply cmp_eq
        have h1 := HM.out
        have h2 := HN.out
        have h3 := hv.out
        rw [V_zero, V_zero] at h3
        omega)
      go_wp2_with fail
      go_ret
      exact ⟨by rw [HE.out]; rfl, rfl⟩
    | succ k =>
      have e1 : (((k + 1 : Nat) : Int) - 1) = (k : Int) := by omega
      rw [e1]
      clear e1
      go_wp2_with fail
      refine (HH1.out k).out.mono ?_; rintro e w' ⟨rfl, rfl⟩
      go_wp2_with fail
      refine (HH2.out k).out.mono ?_; rintro e w' ⟨rfl, rfl⟩
      by_cases h1 : nth xs k < nth ys k
      · have HE := Lib.hid (show cmp m n = -1 by
          apply cmp_lt
          have h2 := V_below HX.out HY.out k h1
          have h3 := hv.out
          have h4 := HM.out
          have h5 := HN.out
          omega)
        go_wp2_with fail
        go_ret
        exact ⟨by rw [HE.out]; rfl, rfl⟩
      · by_cases h2 : nth ys k < nth xs k
        · have HE := Lib.hid (show cmp m n = 1 by
            apply cmp_gt
            have h2 := V_below HY.out HX.out k h2
            have h3 := hv.out
            have h4 := HM.out
            have h5 := HN.out
            omega)
          go_wp2_with fail
          go_ret
          exact ⟨by rw [HE.out]; rfl, rfl⟩
        · have HV := Lib.hid (show V xs k + V ys N = V ys k + V xs N by
            have h3 := hv.out
            rw [V_succ, V_succ, show nth xs k = nth ys k by omega] at h3
            omega)
          go_wp2_with fail
          go_round
          case rel => exact ⟨k, by omega, HV.out, by go_num⟩
          case measure => simp [intOf]

set_option maxHeartbeats 400000 in
theorem gof_any (x : Nat) (w : World) (hx : x < 18446744073709551616) :
    Calls Try.prog 44 #[.int .u64 x] w fun e w' => ∃ A' c', e = .returned (.slice A' (wd x).length c') ∧ Own w' w.heap.size A' c' (wd x) ∧ Ext w w' := by
  have ho := Own.lit w #[.int .u32 ((x : Int) % 4294967296), .int .u32 ((x : Int) / 4294967296)] [(x : Int) % 4294967296, (x : Int) / 4294967296] rfl (by simp)
  have HT := Lib.hid (gtrim_any _ _ _ 2 x _ ho.rd rfl (wf_of x hx) (of_words x) (by omega))
  have h1 : (x : Int) ≤ 18446744073709551615 := by omega
  clear ho
  go_enter Try.func44, Try.ntmps44
  go_wp2_with fail
  refine HT.out.mono ?_; rintro e w1 ⟨A1, c1, rfl, h1, hx1⟩
  have H1 := Lib.hid (h1.lower (show w.heap.size ≤ (w.alloc _).heap.size by simp))
  have HX1 := Lib.hid (((Ext.refl w).alloc _).trans hx1)
  clear h1 hx1
  go_wp2_with fail
  go_ret
  exact ⟨_, _, rfl, H1.out, HX1.out⟩

set_option maxHeartbeats 2000000 in
theorem gtimes_any (A B : Option Addr) (m n : Nat) (c d : Nat) (w : World) (ha : Rd w A c (wd m)) (hb : Rd w B d (wd n)) (ls : (wd m).length + (wd n).length ≤ 16384) :
    Calls Try.prog 83 #[.slice A (wd m).length c, .slice B (wd n).length d] w fun e w' => ∃ A' c', e = .returned (.slice A' (wd (m * n)).length c') ∧ Own w' w.heap.size A' c' (wd (m * n)) ∧ Ext w w' := by
  have HA := Lib.hid ha
  have HB := Lib.hid hb
  clear ha hb
  go_enter Try.func83, Try.ntmps83
  go_wp2_with (at_make; refine wpList_mk rfl _ _ rfl ((wd m).length + (wd n).length) _ _ rfl rfl (by omega) (by omega) (by omega) ?_; intro w1 hO hG)
  have HO := Lib.hid hO
  have HG := Lib.hid hG
  clear hO hG
  go_wp2_with fail
  go_loopw [6] (fun i wr => ∃ (k : Nat) (us : List Int), k ≤ (wd m).length ∧ Hid (us.length = (wd m).length + (wd n).length) ∧ Hid (Wf us) ∧ Hid (V us ((wd m).length + (wd n).length) = V (wd m) k * val (wd n)) ∧ Hid (∀ j, k + (wd n).length ≤ j → nth us j = 0) ∧ i = .int .i64 k ∧ Hid (Own wr w.heap.size (some ⟨w.heap.size, 0, none⟩) ((wd m).length + (wd n).length) us) ∧ Hid (Ext w wr)) (fun i _ => (wd m).length - (intOf i).toNat)
  case atStart => exact ⟨0, _, by omega, List.length_replicate, wf_zeros _, by show _ = _; rw [V_zeros, V_zero, Int.zero_mul], fun j _ => nth_zeros _ _, rfl, HO, HG⟩
  case round =>
    clear HO HG
    obtain ⟨i, us0, hi, HUL0, HW0, HV0, HZ0, rfl, HO0, HX0⟩ := hrel
    obtain ⟨wo, rfl⟩ : ∃ wo, wo = wr := ⟨_, rfl⟩
    by_cases him : i < (wd m).length
    · have bx := nth_wf (wf_wd m) i
      obtain ⟨a, rfl, hca⟩ := HA.out.at_ i him
      have HCA := Lib.hid hca
      have HVs := Lib.hid (V_succ (wd m) i)
      obtain ⟨x, hx⟩ : ∃ x, x = nth (wd m) i := ⟨_, rfl⟩
      rw [← hx] at HCA bx HVs
      clear hx hca
      go_wp2_with fail
      go_loopw [7, 8] (fun cy kk wr => ∃ (k : Nat) (us : List Int) (t : Int), k ≤ (wd n).length ∧ Hid (us.length = (wd m).length + (wd n).length) ∧ Hid (Wf us) ∧ 0 ≤ t ∧ t ≤ 4294967295 ∧ Hid (V us ((wd m).length + (wd n).length) + t * pw (i + k) = V (wd m) i * val (wd n) + x * V (wd n) k * pw i) ∧ Hid (∀ j, i + (wd n).length ≤ j → nth us j = 0) ∧ cy = .int .u64 t ∧ kk = .int .i64 k ∧ Hid (Own wr w.heap.size (some ⟨w.heap.size, 0, none⟩) ((wd m).length + (wd n).length) us) ∧ Hid (Ext w wr)) (fun _ kk _ => (wd n).length - (intOf kk).toNat)
      case atStart => exact ⟨0, us0, 0, by omega, HUL0.out, HW0.out, by omega, by omega, by show _ = _; rw [HV0.out, V_zero]; simp, HZ0.out, rfl, rfl, HO0, HX0⟩
      case round =>
        clear HO0 HX0
        obtain ⟨k, us, t, hk, HUL, HW, ht0, ht1, HV, HZ, rfl, rfl, HO, HX⟩ := hrel
        by_cases hkn : k < (wd n).length
        · obtain ⟨b, rfl, hcb⟩ := (HB.out.ext HX.out).at_ k hkn
          have hca := HX.out.cell HCA.out
          obtain ⟨ik, hik⟩ : ∃ ik, ik = i + k := ⟨_, rfl⟩
          have hw : IntKind.i64.wrap ((i : Int) + (k : Int)) = (ik : Int) := by rw [IntWalk.i64_in _ (by omega)]; omega
          have hco := HO.out.cell ik (by have := HUL.out; omega)
          have hfo := HO.out.free ik
          have by_ := nth_wf (wf_wd n) k
          have bz := nth_wf HW.out ik
          have pxy := prod_bd bx by_
          have HR := Lib.hid (mul_round us (wd n) i k _ t x _ (by have := HUL.out; omega) (by omega) HV.out)
          rw [← hik] at HR
          have hikb : (ik : Int) < ((wd m).length : Int) + ((wd n).length : Int) := by omega
          have HIK := Lib.hid hik
          obtain ⟨y, hy⟩ : ∃ y, y = nth (wd n) k := ⟨_, rfl⟩
          obtain ⟨z, hz⟩ : ∃ z, z = nth us ik := ⟨_, rfl⟩
          rw [← hy] at hcb by_ pxy HR
          rw [← hz] at hco bz HR
          have s1 : IntKind.u64.wrap (x * y) = x * y := IntWalk.u64_in _ (by omega)
          have s2 : IntKind.u64.wrap (x * y + z) = x * y + z := IntWalk.u64_in _ (by omega)
          obtain ⟨T, hT⟩ : ∃ T, T = t + (x * y + z) := ⟨_, rfl⟩
          have s3 : IntKind.u64.wrap (x * y + z + t) = T := by rw [IntWalk.u64_in _ (by omega)]; omega
          have tb : 0 ≤ T ∧ T ≤ 18446744073709551615 := by omega
          rw [← hT] at HR
          clear hy hz pxy hik hT
          go_wp2_with fail
          go_quiet (fail)
          go_wp2_with fail
          go_roundw
          case rel =>
            exact ⟨k + 1, _, _, by omega, by unfold Hid; rw [List.length_set]; exact HUL.out, wf_set HW.out _ _ (by omega) (by omega), by omega, by omega, HR.out, fun j hj => by rw [nth_set_ne _ _ _ _ (by have := HIK.out; omega)]; exact HZ.out j hj, rfl, by go_num, (HO.out.drewN _).set ik _ |>.1, (HX.out.drewN _).setCell (Nat.le_refl _) _⟩
          case measure => simp [intOf]; omega
        · have hkl : k = (wd n).length := by omega
          subst hkl
          have hco := HO.out.cell (i + (wd n).length) (by have := HUL.out; omega)
          rw [HZ.out _ (Nat.le_refl _)] at hco
          have hfo := HO.out.free (i + (wd n).length)
          have HE := Lib.hid (mul_out us (wd n) i ((wd m).length + (wd n).length) t x _ (by have := HUL.out; omega) (by omega) (HZ.out _ (Nat.le_refl _)) HV.out)
          go_wp2_with fail
          go_roundw
          case rel =>
            exact ⟨i + 1, _, by omega, by unfold Hid; rw [List.length_set]; exact HUL.out, wf_set HW.out _ t ht0 (by omega), by unfold Hid; rw [HVs.out]; exact HE.out, fun j hj => by rw [nth_set_ne _ _ _ _ (by omega)]; exact HZ.out j (by omega), by go_num, (HO.out.set (i + (wd n).length) _).1, HX.out.setCell (Nat.le_refl _) _⟩
          case measure => simp [intOf]; omega
    · have hil : i = (wd m).length := by omega
      subst hil
      have HE := Lib.hid (show val us0 = ((m * n : Nat) : Int) by
        have e := HV0.out
        rw [show V (wd m) (wd m).length = val (wd m) from rfl, val_wd, val_wd] at e
        unfold val
        rw [HUL0.out, e, Int.natCast_mul])
      go_wp2_with fail
      refine (gtrim_any _ us0 _ _ _ _ HO0.out.rd HUL0.out HW0.out HE.out (by omega)).mono ?_; rintro e w2 ⟨A2, c2, rfl, h2, hx2⟩
      have H2 := Lib.hid (h2.lower HX0.out.size)
      have HX2 := Lib.hid (HX0.out.trans hx2)
      clear h2 hx2
      go_wp2_with fail
      go_ret
      exact ⟨_, _, rfl, H2.out, HX2.out⟩

end Go.Proofs.Ytnhgagfkepmanaa
