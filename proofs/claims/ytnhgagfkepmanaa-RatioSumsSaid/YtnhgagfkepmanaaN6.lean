/- nat.Mul. -/
import Derived.Test.YtnhgagfkepmanaaN5
namespace Go.Proofs.Ytnhgagfkepmanaa
open Go Go.RowKit

theorem prod_bd {x y : Int} (hx : 0 ≤ x ∧ x < 4294967296) (hy : 0 ≤ y ∧ y < 4294967296) : 0 ≤ x * y ∧ x * y ≤ 18446744065119617025 := by
  refine ⟨Int.mul_nonneg hx.1 hy.1, ?_⟩
  have h : x * y ≤ 4294967295 * 4294967295 := Int.mul_le_mul (by omega) (by omega) hy.1 (by omega)
  omega
theorem mul_round (us ys : List Int) (i k L : Nat) (cy x S : Int) (hk : i + k < us.length) (hL : i + k < L) (hv : V us L + cy * pw (i + k) = S + x * V ys k * pw i) :
    V (us.set (i + k) ((cy + (x * nth ys k + nth us (i + k))) % 4294967296)) L + (cy + (x * nth ys k + nth us (i + k))) / 4294967296 * pw (i + (k + 1)) = S + x * V ys (k + 1) * pw i := by
  rw [V_set _ _ _ hk _ hL, show i + (k + 1) = i + k + 1 from rfl, pw_succ, V_succ]
  have e : (cy + (x * nth ys k + nth us (i + k))) % 4294967296 = cy + (x * nth ys k + nth us (i + k)) - (cy + (x * nth ys k + nth us (i + k))) / 4294967296 * 4294967296 := by omega
  rw [e]
  generalize (cy + (x * nth ys k + nth us (i + k))) / 4294967296 = q
  have e2 : x * (V ys k + nth ys k * pw k) * pw i = x * V ys k * pw i + x * nth ys k * pw (i + k) := by
    rw [pw_add, Int.mul_add, Int.add_mul, Int.mul_comm (pw i) (pw k), ← Int.mul_assoc x (nth ys k) (pw k), Int.mul_assoc (x * nth ys k)]
  rw [e2]
  simp only [Int.add_mul, Int.sub_mul, Int.mul_assoc] at hv ⊢
  omega
theorem mul_out (us ys : List Int) (i L : Nat) (cy x S : Int) (hk : i + ys.length < us.length) (hL : i + ys.length < L) (hz : nth us (i + ys.length) = 0) (hv : V us L + cy * pw (i + ys.length) = S * val ys + x * V ys ys.length * pw i) :
    V (us.set (i + ys.length) cy) L = (S + x * pw i) * val ys := by
  rw [V_set _ _ _ hk _ hL, hz, Int.sub_zero, hv]
  show S * val ys + x * val ys * pw i = _
  rw [Int.add_mul, Int.mul_assoc x (val ys), Int.mul_comm (val ys), ← Int.mul_assoc]

set_option maxHeartbeats 2000000 in
theorem mul_pos (A B : Option Addr) (m n : Nat) (c d : Nat) (w : World) (ha : Rd w A c (wd m)) (hb : Rd w B d (wd n)) (hm : 0 < (wd m).length) (hn : 0 < (wd n).length) (ls : (wd m).length + (wd n).length ≤ 8192) :
    Calls Try.prog 64 #[.slice A (wd m).length c, .slice B (wd n).length d] w fun e w' => ∃ A' c', e = .returned (.tuple #[.slice A' (wd (m * n)).length c', .int .i64 0]) ∧ Own w' w.heap.size A' c' (wd (m * n)) ∧ Ext w w' := by
  have HA := Lib.hid ha
  have HB := Lib.hid hb
  clear ha hb
  have hls : (wd (m * n)).length ≤ 8192 := by have := wd_len_mul m n; omega
  have hm0 : (((wd m).length : Int) == 0) = false := beq_eq_false_iff_ne.2 (by omega)
  have hn0 : (((wd n).length : Int) == 0) = false := beq_eq_false_iff_ne.2 (by omega)
  go_enter Try.func64, Try.ntmps64
  go_wp2_with fail
  refine (checked_ok _ _ _ _ _ _ _ HA.out HB.out (by omega) (by omega)).mono ?_; rintro e w' ⟨rfl, rfl⟩
  go_wp2_with (at_make; refine wpList_mk rfl _ _ rfl ((wd m).length + (wd n).length) _ _ rfl rfl (by omega) (by omega) (by omega) ?_; intro w1 hO hG)
  have HO := Lib.hid hO
  have HG := Lib.hid hG
  clear hO hG hm0 hn0
  go_loopw [41] (fun i wr => ∃ (k : Nat) (us : List Int), k ≤ (wd m).length ∧ Hid (us.length = (wd m).length + (wd n).length) ∧ Hid (Wf us) ∧ Hid (V us ((wd m).length + (wd n).length) = V (wd m) k * val (wd n)) ∧ Hid (∀ j, k + (wd n).length ≤ j → nth us j = 0) ∧ i = .int .i64 k ∧ Hid (Own wr w.heap.size (some ⟨w.heap.size, 0, none⟩) ((wd m).length + (wd n).length) us) ∧ Hid (Ext w wr)) (fun i _ => (wd m).length - (intOf i).toNat)
  case atStart => exact ⟨0, _, by omega, List.length_replicate, wf_zeros _, by show _ = _; rw [V_zeros, V_zero, Int.zero_mul], fun j _ => nth_zeros _ _, rfl, HO, HG⟩
  case round =>
    clear HO HG
    obtain ⟨i, us0, hi, HUL0, HW0, HV0, HZ0, rfl, HO0, HX0⟩ := hrel
    obtain ⟨wo, rfl⟩ : ∃ wo, wo = wr := ⟨_, rfl⟩
    by_cases him : i < (wd m).length
    · obtain ⟨a, rfl, hca⟩ := (HA.out.ext HX0.out).at_ i him
      have bx := nth_wf (wf_wd m) i
      have HVs := Lib.hid (V_succ (wd m) i)
      obtain ⟨x, hx⟩ : ∃ x, x = nth (wd m) i := ⟨_, rfl⟩
      rw [← hx] at hca bx HVs
      clear hx
      go_wp2_with fail
      go_loopw [10, 48] (fun cy kk wr => ∃ (k : Nat) (us : List Int) (t : Int), k ≤ (wd n).length ∧ Hid (us.length = (wd m).length + (wd n).length) ∧ Hid (Wf us) ∧ 0 ≤ t ∧ t ≤ 4294967295 ∧ Hid (V us ((wd m).length + (wd n).length) + t * pw (i + k) = V (wd m) i * val (wd n) + x * V (wd n) k * pw i) ∧ Hid (∀ j, i + (wd n).length ≤ j → nth us j = 0) ∧ cy = .int .u64 t ∧ kk = .int .i64 k ∧ Hid (Own wr w.heap.size (some ⟨w.heap.size, 0, none⟩) ((wd m).length + (wd n).length) us) ∧ Hid (Ext w wr)) (fun _ kk _ => (wd n).length - (intOf kk).toNat)
      case atStart => exact ⟨0, us0, 0, by omega, HUL0.out, HW0.out, by omega, by omega, by show _ = _; rw [HV0.out, V_zero]; simp, HZ0.out, rfl, rfl, HO0, HX0⟩
      case round =>
        clear hca HO0 HX0
        obtain ⟨k, us, t, hk, HUL, HW, ht0, ht1, HV, HZ, rfl, rfl, HO, HX⟩ := hrel
        by_cases hkn : k < (wd n).length
        · obtain ⟨b, rfl, hcb⟩ := (HB.out.ext HX.out).at_ k hkn
          have hco := HO.out.cell (i + k) (by have := HUL.out; omega)
          have hfo := HO.out.free (i + k)
          have by_ := nth_wf (wf_wd n) k
          have bz := nth_wf HW.out (i + k)
          have pxy := prod_bd bx by_
          have HR := Lib.hid (mul_round us (wd n) i k _ t x _ (by have := HUL.out; omega) (by omega) HV.out)
          obtain ⟨y, hy⟩ : ∃ y, y = nth (wd n) k := ⟨_, rfl⟩
          obtain ⟨z, hz⟩ : ∃ z, z = nth us (i + k) := ⟨_, rfl⟩
          rw [← hy] at hcb by_ pxy HR
          rw [← hz] at hco bz HR
          obtain ⟨pxy0, pxy1⟩ := pxy
          clear hy hz
          go_wp2_with fail
          go_roundw
          case rel =>
            exact ⟨k + 1, _, _, by omega, by unfold Hid; rw [List.length_set]; exact HUL.out, wf_set HW.out _ _ (by omega) (by omega), by omega, by omega, HR.out, fun j hj => by rw [nth_set_ne _ _ _ _ (by omega)]; exact HZ.out j hj, rfl, by go_num, (HO.out.set (i + k) _).1, HX.out.setCell (Nat.le_refl _) _⟩
          case measure => simp [intOf]; omega
        · have hkl : k = (wd n).length := by omega
          subst hkl
          have hco := HO.out.cell (i + (wd n).length) (by have := HUL.out; omega)
          rw [HZ.out _ (Nat.le_refl _)] at hco
          have hfo := HO.out.free (i + (wd n).length)
          have HE := Lib.hid (mul_out us (wd n) i ((wd m).length + (wd n).length) t x _ (by have := HUL.out; omega) (by omega) (HZ.out _ (Nat.le_refl _)) HV.out)
          go_wp2_with fail
          go_roundw
          case rel =>
            exact ⟨i + 1, _, by omega, by unfold Hid; rw [List.length_set]; exact HUL.out, wf_set HW.out _ t ht0 (by omega), by unfold Hid; rw [HVs.out]; exact HE.out, fun j hj => by rw [nth_set_ne _ _ _ _ (by omega)]; exact HZ.out j (by omega), by go_num, (HO.out.set (i + (wd n).length) _).1, HX.out.setCell (Nat.le_refl _) _⟩
          case measure => simp [intOf]; omega
    · have hil : i = (wd m).length := by omega
      subst hil
      have HE := Lib.hid (show val us0 = ((m * n : Nat) : Int) by
        have e := HV0.out
        rw [show V (wd m) (wd m).length = val (wd m) from rfl, val_wd, val_wd] at e
        unfold val
        rw [HUL0.out, e, Int.natCast_mul])
      go_wp2_with fail
      refine (told_ok _ _ _ _ _ _ HO0.out HUL0.out HW0.out _ HE.out hls).mono ?_; rintro e w' ⟨rfl, HO3, rfl⟩
      have HO4 := Lib.hid HO3
      clear HO3
      go_wp2_with fail
      go_ret2
      exact ⟨_, _, rfl, HO4.out, HX0.out⟩

set_option maxHeartbeats 1000000 in
theorem mul_any (A B : Option Addr) (m n : Nat) (c d : Nat) (w : World) (ha : Rd w A c (wd m)) (hb : Rd w B d (wd n)) (ls : (wd m).length + (wd n).length ≤ 8192) :
    Calls Try.prog 64 #[.slice A (wd m).length c, .slice B (wd n).length d] w fun e w' => ∃ A' c', e = .returned (.tuple #[.slice A' (wd (m * n)).length c', .int .i64 0]) ∧ Own w' w.heap.size A' c' (wd (m * n)) ∧ Ext w w' := by
  by_cases hm : 0 < (wd m).length
  · by_cases hn : 0 < (wd n).length
    · exact mul_pos A B m n c d w ha hb hm hn ls
    · have hz : n = 0 := wd_len_zero.1 (by omega)
      have HE := Lib.hid (show wd (m * n) = [] by rw [hz, Nat.mul_zero]; exact wd_zero)
      have HA := Lib.hid ha
      have HB := Lib.hid hb
      have hm0 : (((wd m).length : Int) == 0) = false := beq_eq_false_iff_ne.2 (by omega)
      have hn0 : (((wd n).length : Int) == 0) = true := beq_iff_eq.2 (by omega)
      clear ha hb hz
      go_enter Try.func64, Try.ntmps64
      go_wp2_with fail
      refine (checked_ok _ _ _ _ _ _ _ HA.out HB.out (by omega) (by omega)).mono ?_; rintro e w' ⟨rfl, rfl⟩
      go_wp2_with fail
      go_ret2
      exact ⟨none, 0, by rw [HE.out]; rfl, by rw [HE.out]; exact Own.nil _ _, Ext.refl _⟩
  · have hz : m = 0 := wd_len_zero.1 (by omega)
    have HE := Lib.hid (show wd (m * n) = [] by rw [hz, Nat.zero_mul]; exact wd_zero)
    have HA := Lib.hid ha
    have HB := Lib.hid hb
    have hm0 : (((wd m).length : Int) == 0) = true := beq_iff_eq.2 (by omega)
    clear ha hb hz
    go_enter Try.func64, Try.ntmps64
    go_wp2_with fail
    refine (checked_ok _ _ _ _ _ _ _ HA.out HB.out (by omega) (by omega)).mono ?_; rintro e w' ⟨rfl, rfl⟩
    go_wp2_with fail
    go_ret2
    exact ⟨none, 0, by rw [HE.out]; rfl, by rw [HE.out]; exact Own.nil _ _, Ext.refl _⟩

end Go.Proofs.Ytnhgagfkepmanaa
