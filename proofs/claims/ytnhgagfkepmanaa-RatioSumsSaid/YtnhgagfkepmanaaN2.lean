/- nat.Compare, nat.Add. -/
import Derived.Test.YtnhgagfkepmanaaN1
namespace Go.Proofs.Ytnhgagfkepmanaa
open Go Go.RowKit

theorem V_below {xs ys : List Int} (hx : Wf xs) (hy : Wf ys) (k : Nat) (h : nth xs k < nth ys k) : V xs (k + 1) < V ys (k + 1) := by
  rw [V_succ, V_succ]
  have a := V_lt hx k
  have b := V_nonneg hy k
  have c : (nth xs k + 1) * pw k ≤ nth ys k * pw k := Int.mul_le_mul_of_nonneg_right (by omega) (Int.le_of_lt (pw_pos k))
  rw [Int.add_mul] at c
  omega

set_option maxHeartbeats 1000000 in
theorem compare_any (A B : Option Addr) (m n : Nat) (c d : Nat) (w : World) (ha : Rd w A c (wd m)) (hb : Rd w B d (wd n)) :
    Calls Try.prog 47 #[.slice A (wd m).length c, .slice B (wd n).length d] w fun e w' => e = .returned (.int .i64 (cmp m n)) ∧ Ext w w' := by
  have la := ha.lim
  have lb := hb.lim
  have HA := Lib.hid ha
  have HB := Lib.hid hb
  have Hm := Lib.hid (tl_wd m)
  have Hn := Lib.hid (tl_wd n)
  clear ha hb
  by_cases hne : (wd m).length = (wd n).length
  · have HNE := Lib.hid hne
    have hbe : (((wd m).length : Int) != ((wd n).length : Int)) = false := by simp [hne]
    clear hne
    go_enter Try.func47, Try.ntmps47
    go_wp2_with fail
    refine (cut_any _ _ _ _ HA.out).mono ?_; rintro e w' ⟨rfl, rfl⟩
    rw [Hm.out]
    go_wp2_with fail
    refine (cut_any _ _ _ _ HB.out).mono ?_; rintro e w' ⟨rfl, rfl⟩
    rw [Hn.out]
    go_wp2_with fail
    go_loopw [5] (fun i wr => ∃ k : Nat, k ≤ (wd m).length ∧ Hid (V (wd m) k + V (wd n) (wd m).length = V (wd n) k + V (wd m) (wd m).length) ∧ i = .int .i64 ((k : Int) - 1) ∧ Hid (Ext w wr)) (fun i _ => (intOf i + 1).toNat)
    case atStart => exact ⟨(wd m).length, by omega, by show _ = _; omega, rfl, Ext.refl _⟩
    case round =>
      obtain ⟨k, hk, hv, rfl, HX⟩ := hrel
      cases k with
      | zero =>
        have HE := Lib.hid (show cmp m n = 0 by
          apply cmp_eq
          have h1 := val_wd m
          have h2 := val_wd n
          have h3 := hv.out
          unfold val at h1 h2
          rw [← HNE.out] at h2
          rw [V_zero, V_zero] at h3
          omega)
        go_wp2_with fail
        go_ret
        exact ⟨by rw [HE.out]; rfl, HX.out⟩
      | succ k =>
        have e1 : (((k + 1 : Nat) : Int) - 1) = (k : Int) := by omega
        rw [e1]
        clear e1
        obtain ⟨a, rfl, hca⟩ := (HA.out.ext HX.out).at_ k (by omega)
        obtain ⟨b, rfl, hcb⟩ := (HB.out.ext HX.out).at_ k (by have := HNE.out; omega)
        have hkn : k < (wd n).length := by have := HNE.out; omega
        by_cases h1 : nth (wd m) k < nth (wd n) k
        · have HE := Lib.hid (show cmp m n = -1 by
            apply cmp_lt
            have h2 := V_below (wf_wd m) (wf_wd n) k h1
            have h3 := hv.out
            have h4 := val_wd m
            have h5 := val_wd n
            unfold val at h4 h5
            rw [← HNE.out] at h5
            omega)
          go_wp2_with fail
          go_quiet (fail)
          go_wp2_with fail
          go_ret
          exact ⟨by rw [HE.out]; rfl, HX.out.drewN _⟩
        · by_cases h2 : nth (wd n) k < nth (wd m) k
          · have HE := Lib.hid (show cmp m n = 1 by
              apply cmp_gt
              have h2 := V_below (wf_wd n) (wf_wd m) k h2
              have h3 := hv.out
              have h4 := val_wd m
              have h5 := val_wd n
              unfold val at h4 h5
              rw [← HNE.out] at h5
              omega)
            go_wp2_with fail
            go_quiet (fail)
            go_wp2_with fail
            go_quiet (fail)
            go_wp2_with fail
            go_ret
            exact ⟨by rw [HE.out]; rfl, (HX.out.drewN _).drewN _⟩
          · have HV := Lib.hid (show V (wd m) k + V (wd n) (wd m).length = V (wd n) k + V (wd m) (wd m).length by
              have h3 := hv.out
              rw [V_succ, V_succ, show nth (wd m) k = nth (wd n) k by omega] at h3
              omega)
            go_wp2_with fail
            go_quiet (fail)
            go_wp2_with fail
            go_quiet (fail)
            go_wp2_with fail
            go_roundw
            case rel => exact ⟨k, by omega, HV.out, by go_num, HX.out.drewN _⟩
            case measure => simp [intOf]
  · have hbe : (((wd m).length : Int) != ((wd n).length : Int)) = true := by simp; omega
    by_cases hlt : (wd m).length < (wd n).length
    · have HE := Lib.hid (cmp_lt (wd_len_lt hlt))
      clear hne
      go_enter Try.func47, Try.ntmps47
      go_wp2_with fail
      refine (cut_any _ _ _ _ HA.out).mono ?_; rintro e w' ⟨rfl, rfl⟩
      rw [Hm.out]
      go_wp2_with fail
      refine (cut_any _ _ _ _ HB.out).mono ?_; rintro e w' ⟨rfl, rfl⟩
      rw [Hn.out]
      go_wp2_with fail
      go_ret
      exact ⟨by rw [HE.out]; rfl, Ext.refl _⟩
    · have HE := Lib.hid (cmp_gt (wd_len_lt (show (wd n).length < (wd m).length by omega)))
      clear hne
      go_enter Try.func47, Try.ntmps47
      go_wp2_with fail
      refine (cut_any _ _ _ _ HA.out).mono ?_; rintro e w' ⟨rfl, rfl⟩
      rw [Hm.out]
      go_wp2_with fail
      refine (cut_any _ _ _ _ HB.out).mono ?_; rintro e w' ⟨rfl, rfl⟩
      rw [Hn.out]
      go_wp2_with fail
      go_ret
      exact ⟨by rw [HE.out]; rfl, Ext.refl _⟩

end Go.Proofs.Ytnhgagfkepmanaa
