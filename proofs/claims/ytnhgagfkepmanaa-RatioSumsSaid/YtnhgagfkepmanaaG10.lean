/- The reference's Plus, Add, Sub, Mul; times. -/
import Derived.Test.YtnhgagfkepmanaaG9
namespace Go.Proofs.Ytnhgagfkepmanaa
open Go Go.RowKit

theorem gadd_round (us xs ys : List Int) (k : Nat) (t : Int) (hk : k < us.length) (hv : V us k + t * pw k = V xs k + V ys k) :
    V (us.set k ((nth xs k + nth ys k + t) % 4294967296)) (k + 1) + (nth xs k + nth ys k + t) / 4294967296 * pw (k + 1) = V xs (k + 1) + V ys (k + 1) := by
  have h := add_round us xs ys k t hk hv
  rw [show t + nth xs k + nth ys k = nth xs k + nth ys k + t by omega] at h
  exact h
theorem gadd_end (us : List Int) (p q L : Nat) (t : Int) (hp : (wd p).length ≤ L) (hq : (wd q).length ≤ L) (hul : us.length = L + 1) (hw : Wf us) (ht : 0 ≤ t) (hv : V us (L + 1) + t * pw (L + 1) = V (wd p) (L + 1) + V (wd q) (L + 1)) :
    val us = ((p + q : Nat) : Int) := by
  have e1 := val_wd p
  have e2 := val_wd q
  rw [← V_out _ (L + 1) (by omega)] at e1 e2
  have b1 := wd_lt_pw (p + q)
  have h1 : pw (wd (p + q)).length ≤ pw (L + 1) := pw_mono (by have := wd_len_add p q; omega)
  have h2 := V_nonneg hw (L + 1)
  have h3 := pw_pos (L + 1)
  have ht0 : t = 0 := by
    rcases Int.lt_or_le 0 t with h | h
    · exfalso
      have h4 : 1 * pw (L + 1) ≤ t * pw (L + 1) := Int.mul_le_mul_of_nonneg_right (by omega) (Int.le_of_lt h3)
      omega
    · omega
  unfold val
  rw [hul]
  rw [ht0, Int.zero_mul] at hv
  omega

set_option maxHeartbeats 1000000 in
theorem gplus_any (A B : Option Addr) (m n : Nat) (c d : Nat) (w : World) (ha : Rd w A c (wd m)) (hb : Rd w B d (wd n)) (lm : (wd m).length ≤ 8192) (ln : (wd n).length ≤ 8192) :
    Calls Try.prog 80 #[.slice A (wd m).length c, .slice B (wd n).length d] w fun e w' => ∃ A' c', e = .returned (.slice A' (wd (m + n)).length c') ∧ Own w' w.heap.size A' c' (wd (m + n)) ∧ Ext w w' := by
  have HA := Lib.hid ha
  have HB := Lib.hid hb
  clear ha hb
  obtain ⟨L, hL⟩ : ∃ L : Nat, L = max (wd m).length (wd n).length := ⟨_, rfl⟩
  have hmax : Max.max ((wd m).length : Int) ((wd n).length : Int) = (L : Int) := by omega
  have l1 : (wd m).length ≤ L := by omega
  have l2 : (wd n).length ≤ L := by omega
  have l3 : L ≤ 8192 := by omega
  clear hL
  go_enter Try.func80, Try.ntmps80
  go_wp2_with (at_make; refine wpList_mk rfl _ _ rfl (L + 1) _ _ rfl rfl (by omega) (by omega) (by omega) ?_; intro w1 hO hG)
  have HO := Lib.hid hO
  have HG := Lib.hid hG
  clear hO hG
  go_loopw [7, 8] (fun cy i wr => ∃ (k : Nat) (us : List Int) (t : Int), k ≤ L + 1 ∧ us.length = L + 1 ∧ Hid (Wf us) ∧ 0 ≤ t ∧ t ≤ 1 ∧ Hid (V us k + t * pw k = V (wd m) k + V (wd n) k) ∧ cy = .int .u64 t ∧ i = .int .i64 k ∧ Hid (Own wr w.heap.size (some ⟨w.heap.size, 0, none⟩) (L + 1) us) ∧ Hid (Ext w wr)) (fun _ i _ => L + 1 - (intOf i).toNat)
  case atStart => exact ⟨0, _, 0, by omega, List.length_replicate, wf_zeros _, by omega, by omega, by show _ = _; simp [V_zero], rfl, rfl, HO.out, HG.out⟩
  case round =>
    clear HO HG
    obtain ⟨k, us, t, hk, hul, hw, ht0, ht1, hv, rfl, rfl, HO, HX⟩ := hrel
    have HUL := Lib.hid hul
    clear hul
    by_cases hkm : k ≤ L
    · have HW1 := Lib.hid (gword_q A (wd m) c (wd m).length k wr (HA.out.ext HX.out) rfl)
      have HW2 := Lib.hid (gword_q B (wd n) d (wd n).length k wr (HB.out.ext HX.out) rfl)
      have hco := HO.out.cell k (by have := HUL.out; omega)
      have hfo := HO.out.free k
      have ba := nth_wf (wf_wd m) k
      have bb := nth_wf (wf_wd n) k
      have HV := Lib.hid (gadd_round us (wd m) (wd n) k t (by have := HUL.out; omega) hv.out)
      obtain ⟨x, hx⟩ : ∃ x, x = nth (wd m) k := ⟨_, rfl⟩
      obtain ⟨y, hy⟩ : ∃ y, y = nth (wd n) k := ⟨_, rfl⟩
      rw [← hx] at ba HV HW1
      rw [← hy] at bb HV HW2
      clear hx hy
      go_wp2_with fail
      refine HW1.out.mono ?_; rintro e w' ⟨rfl, rfl⟩
      go_wp2_with fail
      refine HW2.out.mono ?_; rintro e w' ⟨rfl, rfl⟩
      go_wp2_with fail
      go_roundw
      case rel => exact ⟨k + 1, _, _, by omega, by rw [List.length_set]; exact HUL.out, wf_set hw.out _ _ (by omega) (by omega), by omega, by omega, HV.out, rfl, by go_num, (HO.out.set k _).1, HX.out.setCell (Nat.le_refl _) _⟩
      case measure => simp [intOf]; omega
    · obtain rfl : k = L + 1 := by omega
      have HE := Lib.hid (gadd_end us m n L t l1 l2 HUL.out hw.out ht0 hv.out)
      go_wp2_with fail
      refine (gtrim_any _ us _ (L + 1) (m + n) _ HO.out.rd HUL.out hw.out HE.out (by omega)).mono ?_; rintro e w5 ⟨A5, c5, rfl, h5, hx5⟩
      have H5 := Lib.hid (h5.lower HX.out.size)
      have HX5 := Lib.hid (HX.out.trans hx5)
      clear h5 hx5
      go_wp2_with fail
      go_ret
      exact ⟨A5, c5, rfl, H5.out, HX5.out⟩

set_option maxHeartbeats 1000000 in
theorem gadd_any (A B : Option Addr) (m n : Nat) (c d : Nat) (w : World) (ha : Rd w A c (wd m)) (hb : Rd w B d (wd n)) (lm : (wd m).length ≤ 8191) (ln : (wd n).length ≤ 8191) :
    Calls Try.prog 67 #[.slice A (wd m).length c, .slice B (wd n).length d] w (One w (m + n)) := by
  have HA := Lib.hid ha
  have HB := Lib.hid hb
  have hls : (wd (m + n)).length ≤ 8192 := by have := wd_len_add m n; omega
  clear ha hb
  obtain ⟨p, hp⟩ : ∃ p, p = m + n := ⟨_, rfl⟩
  have HPL := Lib.hid (gplus_any A B m n c d w HA.out HB.out (by omega) (by omega))
  rw [← hp] at hls HPL ⊢
  clear hp
  go_enter Try.func67, Try.ntmps67
  go_wp2_with fail
  refine (gboth_ok _ _ m n _ _ _ HA.out HB.out (by omega) (by omega)).mono ?_; rintro e w1 ⟨rfl, rfl⟩
  go_wp2_with fail
  refine HPL.out.mono ?_; rintro e w1 ⟨A1, c1, rfl, h1, hx1⟩
  have H1 := Lib.hid h1
  have HX1 := Lib.hid hx1
  clear h1 hx1
  go_wp2_with fail
  refine (gtold_ok _ _ _ _ hls).mono ?_; rintro e w2 ⟨rfl, rfl⟩
  go_wp2_with fail
  go_ret2
  exact ⟨A1, c1, rfl, H1.out, HX1.out⟩

set_option maxHeartbeats 1000000 in
theorem gsub_any (A B : Option Addr) (m n : Nat) (c d : Nat) (w : World) (ha : Rd w A c (wd m)) (hb : Rd w B d (wd n)) (hnm : n ≤ m) (lm : (wd m).length ≤ 8192) :
    Calls Try.prog 69 #[.slice A (wd m).length c, .slice B (wd n).length d] w (One w (m - n)) := by
  have HA := Lib.hid ha
  have HB := Lib.hid hb
  have ln := wd_len_mono hnm
  have hls := wd_len_mono (Nat.sub_le m n)
  have hc : ¬ cmp m n < 0 := fun h => by have := cmp_lt_iff.1 h; omega
  clear ha hb
  obtain ⟨p, hp⟩ : ∃ p, p = m - n := ⟨_, rfl⟩
  have HPL := Lib.hid (gless_any A B (wd m) n c d (wd m).length m w HA.out HB.out rfl (wf_wd m) (val_wd m) hnm (by omega))
  rw [← hp] at hls HPL ⊢
  clear hp
  go_enter Try.func69, Try.ntmps69
  go_wp2_with fail
  refine (gboth_ok _ _ m n _ _ _ HA.out HB.out (by omega) (by omega)).mono ?_; rintro e w1 ⟨rfl, rfl⟩
  go_wp2_with fail
  refine (gcompare_any _ _ (wd m) (wd n) _ _ _ _ m n _ HA.out HB.out rfl rfl (wf_wd m) (wf_wd n) (val_wd m) (val_wd n)).mono ?_; rintro e w1 ⟨rfl, rfl⟩
  go_wp2_with fail
  refine HPL.out.mono ?_; rintro e w1 ⟨A1, c1, rfl, h1, hx1⟩
  have H1 := Lib.hid h1
  have HX1 := Lib.hid hx1
  clear h1 hx1
  go_wp2_with fail
  refine (gtold_ok _ _ _ _ (by omega)).mono ?_; rintro e w2 ⟨rfl, rfl⟩
  go_wp2_with fail
  go_ret2
  exact ⟨A1, c1, rfl, H1.out, HX1.out⟩

set_option maxHeartbeats 1000000 in
theorem gmul_any (A B : Option Addr) (m n : Nat) (c d : Nat) (w : World) (ha : Rd w A c (wd m)) (hb : Rd w B d (wd n)) (ls : (wd m).length + (wd n).length ≤ 8192) :
    Calls Try.prog 70 #[.slice A (wd m).length c, .slice B (wd n).length d] w (One w (m * n)) := by
  have HA := Lib.hid ha
  have HB := Lib.hid hb
  have hls := wd_len_mul m n
  clear ha hb
  obtain ⟨p, hp⟩ : ∃ p, p = m * n := ⟨_, rfl⟩
  have HPL := Lib.hid (gtimes_any A B m n c d w HA.out HB.out (by omega))
  rw [← hp] at hls HPL ⊢
  clear hp
  go_enter Try.func70, Try.ntmps70
  go_wp2_with fail
  refine (gboth_ok _ _ m n _ _ _ HA.out HB.out (by omega) (by omega)).mono ?_; rintro e w1 ⟨rfl, rfl⟩
  go_wp2_with fail
  all_goals
    refine HPL.out.mono ?_; rintro e w1 ⟨A1, c1, rfl, h1, hx1⟩
    have H1 := Lib.hid h1
    have HX1 := Lib.hid hx1
    clear h1 hx1
    go_wp2_with fail
    refine (gtold_ok _ _ _ _ (by omega)).mono ?_; rintro e w2 ⟨rfl, rfl⟩
    go_wp2_with fail
    go_ret2
    exact ⟨A1, c1, rfl, H1.out, HX1.out⟩

set_option maxHeartbeats 400000 in
theorem gtimes3_any (A B : Option Addr) (m n : Nat) (c d : Nat) (w : World) (ha : Rd w A c (wd m)) (hb : Rd w B d (wd n)) (ls : (wd m).length + (wd n).length ≤ 8192) :
    Calls Try.prog 53 #[.slice A (wd m).length c, .slice B (wd n).length d] w fun e w' => ∃ A' c', e = .returned (.slice A' (wd (m * n)).length c') ∧ Own w' w.heap.size A' c' (wd (m * n)) ∧ Ext w w' := by
  have H := Lib.hid (gmul_any A B m n c d w ha hb ls)
  clear ha hb
  go_enter Try.func53, Try.ntmps53
  go_wp2_with fail
  refine H.out.mono ?_; rintro e w1 ⟨A1, c1, rfl, h1, hx1⟩
  have H1 := Lib.hid h1
  have HX1 := Lib.hid hx1
  clear h1 hx1
  go_wp2_with fail
  go_ret
  exact ⟨_, _, rfl, H1.out, HX1.out⟩

end Go.Proofs.Ytnhgagfkepmanaa
