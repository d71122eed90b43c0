/- nat.Add -/
import Derived.Test.YtnhgagfkepmanaaN2
namespace Go.Proofs.Ytnhgagfkepmanaa
open Go Go.RowKit

/-- a round of a sum: the word and the carry -/
theorem add_step (us : List Int) (k : Nat) (t : Int) (hk : k < us.length) :
    V (us.set k (t % 4294967296)) (k + 1) + t / 4294967296 * pw (k + 1) = V us k + t * pw k := by
  rw [V_succ, V_set_ge _ _ _ _ (Nat.le_refl _), nth_set_self _ _ _ hk, pw_succ]
  have h : t * pw k = (t % 4294967296) * pw k + (t / 4294967296) * (4294967296 * pw k) := by
    rw [← Int.mul_assoc, ← Int.add_mul]
    congr 1
    omega
  omega
theorem add_round (us xs ys : List Int) (k : Nat) (t : Int) (hk : k < us.length) (hv : V us k + t * pw k = V xs k + V ys k) :
    V (us.set k ((t + nth xs k + nth ys k) % 4294967296)) (k + 1) + (t + nth xs k + nth ys k) / 4294967296 * pw (k + 1) = V xs (k + 1) + V ys (k + 1) := by
  rw [add_step us k _ hk, V_succ, V_succ, Int.add_mul, Int.add_mul]
  omega
theorem add_end (us : List Int) (p q l : Nat) (t : Int) (hp : (wd p).length = l) (hq : (wd q).length ≤ l) (hul : us.length = l + 1) (hv : V us l + t * pw l = V (wd p) l + V (wd q) l) :
    val (us.set l t) = ((p + q : Nat) : Int) := by
  have e1 := val_wd p
  have e2 := val_wd q
  rw [← V_out _ l (by omega)] at e1 e2
  unfold val
  rw [List.length_set, hul, V_succ, V_set_ge _ _ _ _ (Nat.le_refl _), nth_set_self _ _ _ (by omega)]
  omega

set_option maxHeartbeats 1000000 in
theorem add_any (A B : Option Addr) (m n : Nat) (c d : Nat) (w : World) (ha : Rd w A c (wd m)) (hb : Rd w B d (wd n)) (lm : (wd m).length ≤ 8191) (ln : (wd n).length ≤ 8191) :
    Calls Try.prog 49 #[.slice A (wd m).length c, .slice B (wd n).length d] w fun e w' => ∃ A' c', e = .returned (.tuple #[.slice A' (wd (m + n)).length c', .int .i64 0]) ∧ Own w' w.heap.size A' c' (wd (m + n)) ∧ Ext w w' := by
  have HA := Lib.hid ha
  have HB := Lib.hid hb
  clear ha hb
  have hls : (wd (m + n)).length ≤ 8192 := by have := wd_len_add m n; omega
  by_cases hlt : (wd m).length < (wd n).length
  case' pos =>
    rw [Nat.add_comm] at hls ⊢
    obtain ⟨p, rfl⟩ : ∃ p, p = n := ⟨_, rfl⟩
    obtain ⟨q, rfl⟩ : ∃ q, q = m := ⟨_, rfl⟩
    have HP := HB
    have HQ := HA
    have hqp : (wd q).length ≤ (wd p).length := by omega
    have lp : (wd p).length ≤ 8191 := ln
  case' neg =>
    obtain ⟨p, rfl⟩ : ∃ p, p = m := ⟨_, rfl⟩
    obtain ⟨q, rfl⟩ : ∃ q, q = n := ⟨_, rfl⟩
    have HP := HA
    have HQ := HB
    have hqp : (wd q).length ≤ (wd p).length := by omega
    have lp : (wd p).length ≤ 8191 := lm
  all_goals
    go_enter Try.func49, Try.ntmps49
    go_wp2_with fail
    refine (checked_ok _ _ _ _ _ _ _ HA.out HB.out (by omega) (by omega)).mono ?_; rintro e w' ⟨rfl, rfl⟩
    clear HA HB
    go_wp2_with (at_make; refine wpList_mk rfl _ _ rfl ((wd p).length + 1) _ _ rfl rfl (by omega) (by omega) (by omega) ?_; intro w1 hO hG)
    have HO := Lib.hid hO
    have HG := Lib.hid hG
    clear hO hG hlt
    go_loopw [8, 30] (fun cy i wr => ∃ (k : Nat) (us : List Int) (t : Int), k ≤ (wd p).length ∧ us.length = (wd p).length + 1 ∧ Hid (Wf us) ∧ 0 ≤ t ∧ t ≤ 1 ∧ Hid (V us k + t * pw k = V (wd p) k + V (wd q) k) ∧ cy = .int .u64 t ∧ i = .int .i64 k ∧ Hid (Own wr w.heap.size (some ⟨w.heap.size, 0, none⟩) ((wd p).length + 1) us) ∧ Hid (Ext w wr)) (fun _ i _ => (wd p).length - (intOf i).toNat)
    case atStart => exact ⟨0, _, 0, by omega, List.length_replicate, wf_zeros _, by omega, by omega, by show _ = _; simp [V_zero], rfl, rfl, HO, HG⟩
    case round =>
      clear HO HG
      obtain ⟨k, us, t, hk, hul, hw, ht0, ht1, hv, rfl, rfl, HO, HX⟩ := hrel
      have HUL := Lib.hid hul
      clear hul
      by_cases hkm : k < (wd p).length
      · obtain ⟨a, rfl, hca⟩ := (HP.out.ext HX.out).at_ k hkm
        have hco := HO.out.cell k (by have := HUL.out; omega)
        have hfo := HO.out.free k
        have ba := nth_wf (wf_wd p) k
        have bb := nth_wf (wf_wd q) k
        have HV := Lib.hid (add_round us (wd p) (wd q) k t (by have := HUL.out; omega) hv.out)
        by_cases hkn : k < (wd q).length
        · obtain ⟨b, rfl, hcb⟩ := (HQ.out.ext HX.out).at_ k hkn
          obtain ⟨x, hx⟩ : ∃ x, x = nth (wd p) k := ⟨_, rfl⟩
          obtain ⟨y, hy⟩ : ∃ y, y = nth (wd q) k := ⟨_, rfl⟩
          rw [← hx] at hca ba HV
          rw [← hy] at bb hcb HV
          clear hx hy
          go_wp2_with fail
          go_roundw
          case rel => exact ⟨k + 1, _, _, by omega, by rw [List.length_set]; exact HUL.out, wf_set hw.out _ _ (by omega) (by omega), by omega, by omega, HV.out, rfl, by go_num, (HO.out.set k _).1, HX.out.setCell (Nat.le_refl _) _⟩
          case measure => simp [intOf]; omega
        · rw [nth_out (wd q) k (by omega), Int.add_zero] at HV
          obtain ⟨x, hx⟩ : ∃ x, x = nth (wd p) k := ⟨_, rfl⟩
          rw [← hx] at hca ba HV
          clear hx bb
          go_wp2_with fail
          go_roundw
          case rel => exact ⟨k + 1, _, _, by omega, by rw [List.length_set]; exact HUL.out, wf_set hw.out _ _ (by omega) (by omega), by omega, by omega, HV.out, rfl, by go_num, (HO.out.set k _).1, HX.out.setCell (Nat.le_refl _) _⟩
          case measure => simp [intOf]; omega
      · have hkl : k = (wd p).length := by omega
        have HE := Lib.hid (add_end us p q (wd p).length t rfl hqp HUL.out (by rw [← hkl]; exact hv.out))
        have hco := HO.out.cell (wd p).length (by have := HUL.out; omega)
        have hfo := HO.out.free (wd p).length
        have HO2 := Lib.hid (HO.out.set (wd p).length t).1
        have HX2 := Lib.hid (HX.out.setCell (p := ⟨w.heap.size, (wd p).length, none⟩) (Nat.le_refl _) (.int .u32 t))
        have hlen : (us.set (wd p).length t).length = (wd p).length + 1 := by rw [List.length_set]; exact HUL.out
        have HL := Lib.hid hlen
        clear hkl hlen
        go_wp2_with fail
        refine (told_ok _ _ _ _ _ _ HO2.out HL.out (wf_set hw.out _ _ (by omega) (by omega)) _ HE.out hls).mono ?_; rintro e w' ⟨rfl, HO3, rfl⟩
        have HO4 := Lib.hid HO3
        clear HO3
        go_wp2_with fail
        go_ret2
        exact ⟨_, _, rfl, HO4.out, HX2.out⟩

end Go.Proofs.Ytnhgagfkepmanaa
